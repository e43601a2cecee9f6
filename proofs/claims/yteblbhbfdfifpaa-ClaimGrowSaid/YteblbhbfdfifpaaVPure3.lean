/- The walk by verification conditions: an operation that leaves the world alone answers what the conditions say. -/
import Derived.Test.YteblbhbfdfifpaaVPure2
namespace Go.Proofs.Yteblbhbfdfifpaa.V
open Go Go.RowKit
set_option linter.unusedVariables false
set_option linter.unusedSimpArgs false

theorem fnd_ty {P : Program} {T : TT} (hT : TTok P T) {t : Nat} {K : Ty → Prop} (h : fndK T t K) : ∃ ty i d z, tyOf P t = some ty ∧ P.info? t = some i ∧ P.underlying t = some d ∧ i.zero = some z ∧ ty = ⟨shOf P d, i.size, i.bytes, z.cells.toList, eqOf P t⟩ ∧ K ty := by
  obtain ⟨ty, e, hK⟩ := fndK_spec h
  have h1 := hT.get e
  obtain ⟨i, d, z, a, b, c, e2⟩ := tyOf_spec h1
  exact ⟨ty, i, d, z, h1, a, b, c, e2, hK⟩
theorem run_fieldAt {P : Program} {t : Nat} {fields : Array Field} {fd : Field} {f : Nat} (hu : P.underlying t = some (.struct fields)) (hf : fields[f]? = some fd) (hz : sizeT P fd.type ≠ 0) (a : Addr) (w : World) :
    (Instr.fieldAt t (.pointer (some a)) f).run P w = .ok (.pointer (some (a.add fd.offset))) w := by
  unfold sizeT at hz
  cases hi : P.info? fd.type with
  | none => rw [hi] at hz; exact absurd rfl hz
  | some i =>
    rw [hi] at hz
    simp only at hz
    simp [Instr.fieldAt, run_underlying hu, hf, Instr.sureAddr, fieldPlace, run_size hi, hz]
theorem run_part {P : Program} {t : Nat} {w : World} {cs : Array Value} {off : Nat} :
    (aggT P t = 2 → (part t cs off).run P w = .ok (.agg (cs.extract off (off + sizeT P t))) w) ∧ (aggT P t = 1 → ∀ v, cs[off]? = some v → (part t cs off).run P w = .ok v w) := by
  constructor
  · intro h
    unfold aggT at h
    split at h <;> first | cases h | skip
    all_goals
      rename_i hu
      unfold sizeT
      cases hi : P.info? t with
      | none => unfold Program.underlying at hu; rw [hi] at hu; cases hu
      | some i => simp [part, run_isAgg hu, TypeDesc.isRow, run_size hi]
  · intro h v hv
    unfold aggT at h
    split at h <;> first | cases h | skip
    rename_i d h1 h2 hd
    have hr : d.isRow = false := by
      cases d <;> first | rfl | exact absurd rfl (h1 _) | exact absurd rfl (h2 _ _)
    simp [part, run_isAgg hd, hr, hv]
theorem mapM_places {P : Program} : ∀ {fs : List Field}, (fs.all fun f => (P.info? f.type).isSome) = true → fs.mapM (fun f => (P.info? f.type).map fun i => (f.offset, i.size)) = some (fs.map fun f => (f.offset, sizeT P f.type))
  | [], _ => rfl
  | f :: r, h => by
    simp only [List.all_cons, Bool.and_eq_true] at h
    obtain ⟨i, hi⟩ := Option.isSome_iff_exists.1 h.1
    simp [List.mapM_cons, hi, mapM_places h.2, sizeT]

/-- the elements of an object, whichever it is -/
theorem load_spec {P : Program} {ρ : Rho} {B nx : Nat} {obs : Obs} {w0 : World} (hC : Cls B ρ obs nx w0) {i k j s : Nat} {ob : Ob} (ho : fnd obs i = some ob) {t : Nat} {ty : Ty} (ht : tyOf P t = some ty) {K : SV → Prop}
    (h : elemK ty k j s K ob) :
    ∃ v x, v.is ρ x ∧ K v ∧ ∀ w, Cls B ρ obs nx w → ∀ a, base ρ i = some a → (loadVar t (a.add (k * s + j))).run P w = .ok x w := by
  have hs0 := hC.sat i ob ho
  cases ob with
  | box t' l =>
    cases k with
    | succ k => exact h.elim
    | zero =>
      obtain ⟨a0, cs, hb, hl, _⟩ := sat_box hs0
      obtain ⟨v, x, h1, h2, h3⟩ := loadK_spec ht hl h
      refine ⟨v, x, h1, h2, fun w hw a ha => ?_⟩
      obtain ⟨a1, cs1, hb1, hl1, hw1⟩ := sat_box (hw.sat i _ ho)
      rw [ha] at hb1; injection hb1 with hb1; subst hb1
      rw [Ats.fun_ hl1 hl] at hw1
      have := h3 w a hw1
      simpa using this
  | cel l =>
    cases k with
    | succ k => exact h.elim
    | zero =>
      obtain ⟨v, x, h1, h2, h3⟩ := loadK_spec ht (Ats.vals ρ l) h
      refine ⟨v, x, h1, h2, fun w hw a ha => ?_⟩
      obtain ⟨a1, hb1, hw1⟩ := sat_cel (hw.sat i _ ho)
      rw [ha] at hb1; injection hb1 with hb1; subst hb1
      have := h3 w a hw1
      simpa using this
  | lit t' s' rows =>
    simp only [elemK] at h
    cases hb : Nat.beq s s' <;> simp only [hb] at h
    have e : s = s' := Nat.eq_of_beq_eq_true hb
    subst e
    obtain ⟨r, hr, h⟩ := nthK_spec h
    obtain ⟨a0, cs, hb0, hl, _⟩ := sat_lit hs0 hr
    obtain ⟨v, x, h1, h2, h3⟩ := loadK_spec ht hl h
    refine ⟨v, x, h1, h2, fun w hw a ha => ?_⟩
    obtain ⟨a1, cs1, hb1, hl1, hw1⟩ := sat_lit (hw.sat i _ ho) hr
    rw [ha] at hb1; injection hb1 with hb1; subst hb1
    rw [Ats.fun_ hl1 hl] at hw1
    rw [← add_of_add]
    exact h3 w _ hw1
  | arr s' n get =>
    simp only [elemK] at h
    cases hb : Nat.beq s s' <;> simp only [hb] at h
    have e : s = s' := Nat.eq_of_beq_eq_true hb
    subst e
    obtain ⟨v, x, h1, h2, h3⟩ := loadK_spec ht (Ats.vals ρ (get k)) h.h
    refine ⟨v, x, h1, h2, fun w hw a ha => ?_⟩
    obtain ⟨a1, hb1, hw1⟩ := sat_arr (hw.sat i _ ho) h.lt
    rw [ha] at hb1; injection hb1 with hb1; subst hb1
    rw [← add_of_add]
    exact h3 w _ hw1
  | row t' s' n get =>
    simp only [elemK] at h
    cases hb : Nat.beq s s' <;> simp only [hb] at h
    have e : s = s' := Nat.eq_of_beq_eq_true hb
    subst e
    obtain ⟨v, x, h1, h2, h3⟩ := loadK_spec ht (Ats.vals ρ (get k)) h.h
    refine ⟨v, x, h1, h2, fun w hw a ha => ?_⟩
    obtain ⟨a1, hb1, hw1⟩ := sat_row (hw.sat i _ ho) h.lt
    rw [ha] at hb1; injection hb1 with hb1; subst hb1
    rw [← add_of_add]
    exact h3 w _ hw1
  | gone => exact h.elim
  | lp _ _ _ => exact h.elim

def Pures (P : Program) (ρ : Rho) (a : Act) (B nx : Nat) (obs : Obs) (op : Op) (K : SV → Prop) : Prop :=
  ∃ v x, v.is ρ x ∧ K v ∧ ∀ (o : Oper), o.op = op → ∀ w, Cls B ρ obs nx w → (execOp a.eval o).run P w = .ok (.value x) w

section
variable {P : Program} {T : TT} {sz : Nat} {ρ : Rho} {env : Env} {a : Act} {B nx : Nat} {obs : Obs} {w0 : World} (hT : TTok P T) (hE : EnvR sz ρ env a) (hC : Cls B ρ obs nx w0) {K : SV → Prop}
include hE
theorem pure_ev {x : Operand} {op : Op} (h : evK env x K) (hop : ∀ (o : Oper), o.op = op → execOp a.eval o = pure (.value (a.eval x))) : Pures P ρ a B nx obs op K := by
  obtain ⟨v, hv, hK⟩ := evK_spec hE h
  exact ⟨v, _, hv, hK, fun o ho w _ => by rw [hop o ho]; rfl⟩
theorem pure_pick {c x y : Operand} (h : pureK T env obs (.pick c x y) K) : Pures P ρ a B nx obs (.pick c x y) K := by
  simp only [pureK] at h
  obtain ⟨v, hv, h⟩ := evK_spec hE h
  have run : ∀ b, a.eval c = .bool b → ∀ (o : Oper), o.op = .pick c x y → ∀ w, (execOp a.eval o).run P w = .ok (.value (if b then a.eval x else a.eval y)) w := by
    intro b hb o ho w
    simp [execOp, ho, hb, asBool]
  have done : ∀ b, a.eval c = .bool b → (b = true → evK env x K) → (b = false → evK env y K) → Pures P ρ a B nx obs (.pick c x y) K := by
    intro b hb h1 h2
    cases b with
    | true =>
      obtain ⟨u, hu, hK⟩ := evK_spec hE (h1 rfl)
      exact ⟨u, _, hu, hK, fun o ho w _ => by rw [run true hb o ho w]; rfl⟩
    | false =>
      obtain ⟨u, hu, hK⟩ := evK_spec hE (h2 rfl)
      exact ⟨u, _, hu, hK, fun o ho w _ => by rw [run false hb o ho w]; rfl⟩
  split at h
  · exact done true hv (fun _ => h) (fun e => by cases e)
  · exact done false hv (fun e => by cases e) (fun _ => h)
  · obtain ⟨b, hb, hp⟩ := hv
    exact done b hb (fun e => h.t (hp.1 e)) (fun e => h.f (fun q => by have := hp.2 q; rw [e] at this; cases this))
  · rename_i b
    exact done b hv (fun e => h.t e) (fun e => h.f (by rw [e]; decide))
  · exact h.elim
include hT
theorem pure_fieldAddr {t : TypeId} {x : Operand} {f : Nat} (h : pureK T env obs (.fieldAddr t x f) K) : Pures P ρ a B nx obs (.fieldAddr t x f) K := by
  simp only [pureK] at h
  obtain ⟨ty, i, d, z, ht, hi, hd, hz, rfl, h⟩ := fnd_ty hT h
  simp only at h
  split at h
  · rename_i fs hs
    obtain ⟨fields, rfl, hfs, rfl⟩ := sh_st hs
    obtain ⟨q, hq, h⟩ := nthK_spec h
    rw [List.getElem?_map] at hq
    obtain ⟨fd, hfd, rfl⟩ := Option.map_eq_some_iff.1 hq
    have hfd' : fields[f]? = some fd := by simpa using hfd
    split at h
    · exact h.elim
    · rename_i hne
      have hsz : sizeT P fd.type ≠ 0 := fun e => hne e
      obtain ⟨v, hv, h⟩ := evK_spec hE h
      split at h
      · rename_i io k j s
        obtain ⟨a0, hb, hx⟩ := hv
        refine ⟨.one (.ptr io k (j + fd.offset) s), _, ⟨a0, hb, rfl⟩, h, fun o ho w _ => ?_⟩
        simp only [execOp, ho]
        refine run_val ?_
        rw [hx, run_fieldAt hd hfd' hsz, add_of_add, Nat.add_assoc]
      · exact h.elim
  · exact h.elim
theorem pure_field {t : TypeId} {x : Operand} {f : Nat} (h : pureK T env obs (.field t x f) K) : Pures P ρ a B nx obs (.field t x f) K := by
  simp only [pureK] at h
  obtain ⟨ty, i, d, z, ht, hi, hd, hz, rfl, h⟩ := fnd_ty hT h
  simp only at h
  split at h
  · rename_i fs hs
    obtain ⟨fields, rfl, hfs, rfl⟩ := sh_st hs
    obtain ⟨q, hq, h⟩ := nthK_spec h
    rw [List.getElem?_map] at hq
    obtain ⟨fd, hfd, rfl⟩ := Option.map_eq_some_iff.1 hq
    have hfd' : fields[f]? = some fd := by simpa using hfd
    obtain ⟨v, hv, h⟩ := evK_spec hE h
    split at h
    · rename_i l
      obtain ⟨cs, hcs, hx⟩ := hv
      split at h
      · rename_i hagg
        obtain ⟨_, h2, hK⟩ := cutK_spec h
        refine ⟨.agg _, .agg ((cs.drop fd.offset).take (sizeT P fd.type)).toArray, ⟨_, (hcs.drop _).take _, rfl⟩, hK, fun o ho w _ => ?_⟩
        simp only [execOp, ho]
        refine run_val ?_
        simp only [Instr.field, Sem.run_bind, run_underlying hd, Result.andThen_ok, hfd', hx, asAgg, Sem.run_pure]
        have := (run_part (P := P) (t := fd.type) (w := w) (cs := cs.toArray) (off := fd.offset)).1 hagg
        rw [this]
        congr 2
        simp [List.extract_eq_take_drop]
      · rename_i hagg
        obtain ⟨b, e, hK⟩ := nthK_spec h
        obtain ⟨u, eu, hu⟩ := hcs.nth e
        refine ⟨.one b, u, hu, hK, fun o ho w _ => ?_⟩
        simp only [execOp, ho]
        refine run_val ?_
        simp only [Instr.field, Sem.run_bind, run_underlying hd, Result.andThen_ok, hfd', hx, asAgg, Sem.run_pure]
        exact (run_part (P := P) (t := fd.type) (w := w) (cs := cs.toArray) (off := fd.offset)).2 hagg u (by simpa using eu)
      · exact h.elim
    · exact h.elim
  · exact h.elim
theorem pure_convert {t u : TypeId} {x : Operand} (h : pureK T env obs (.convert t u x) K) : Pures P ρ a B nx obs (.convert t u x) K := by
  simp only [pureK] at h
  obtain ⟨ty0, i0, d0, z0, ht0, hi0, hd0, hz0, e0, h⟩ := fnd_ty hT h
  obtain ⟨ty, i, d, z, ht, hi, hd, hz, rfl, h⟩ := fnd_ty hT h
  simp only at h
  split at h
  · rename_i k hs
    have e := sh_int hs
    subst e
    obtain ⟨v, hv, h⟩ := evK_spec hE h
    split at h
    · rename_i k' n
      have e : a.eval x = .int k' n := hv
      refine ⟨.one (.val _), _, rfl, h.h, fun o ho w _ => ?_⟩
      simp only [execOp, ho]
      refine run_val ?_
      rw [e]
      simp [convert, run_underlying hd0, run_underlying hd, Conv.intToInt]
    · exact h.elim
  · exact h.elim
theorem pure_build {t : TypeId} {parts : Array (Nat × Operand)} (h : pureK T env obs (.build t parts) K) : Pures P ρ a B nx obs (.build t parts) K := by
  simp only [pureK] at h
  obtain ⟨ty, i, d, z, ht, hi, hd, hz, rfl, h⟩ := fnd_ty hT h
  simp only at h
  split at h
  · rename_i fs hs
    obtain ⟨fields, rfl, hfs, rfl⟩ := sh_st hs
    obtain ⟨l', cs', hK, hl', hf⟩ := fillK_spec (P := P) hE (Ats.vals ρ z.cells.toList) h
    refine ⟨.agg l', .agg cs'.toArray, ⟨cs', hl', rfl⟩, hK, fun o ho w _ => ?_⟩
    simp only [execOp, ho]
    refine run_val (run_build w t _ _ ?_)
    have hp := mapM_places hfs
    unfold Program.built
    rw [hi, hd]
    simp only [hz, hp]
    have e : (parts.map fun p => match p with | (i, x) => (i, a.eval x)).toList = parts.toList.map fun p => (p.1, a.eval p.2) := by simp
    rw [e, ← hf]
    congr 1
    · funext i
      simp
  · exact h.elim
include hC
theorem pure_load {t : TypeId} {x : Operand} (h : pureK T env obs (.load t x) K) : Pures P ρ a B nx obs (.load t x) K := by
  simp only [pureK] at h
  obtain ⟨ty, i, d, z, ht, hi, hd, hz, e, h⟩ := fnd_ty hT h
  obtain ⟨v, hv, h⟩ := evK_spec hE h
  split at h
  · rename_i io k j s
    obtain ⟨a0, hb, hx⟩ := hv
    obtain ⟨ob, ho, h⟩ := fndK_spec h
    obtain ⟨r, y, h1, h2, h3⟩ := load_spec hC ho ht h
    refine ⟨r, y, h1, h2, fun o ho w hw => ?_⟩
    simp only [execOp, ho]
    refine run_val ?_
    rw [hx]
    simp only [Instr.loadAt, Instr.sureAddr, Sem.run_bind, Sem.run_pure, Result.andThen_ok]
    exact h3 w hw a0 hb
  · exact h.elim
theorem pure_indexAddr {t : TypeId} {x y : Operand} (h : pureK T env obs (.indexAddr t x y) K) : Pures P ρ a B nx obs (.indexAddr t x y) K := by
  simp only [pureK] at h
  obtain ⟨ty, i, d, z, ht, hi, hd, hz, rfl, h⟩ := fnd_ty hT h
  simp only at h
  split at h
  · rename_i e hs
    have e0 := sh_sl hs
    subst e0
    obtain ⟨te, i2, d2, z2, ht2, hi2, hd2, hz2, rfl, h⟩ := fnd_ty hT h
    obtain ⟨v, hv, h⟩ := evK_spec hE h
    split at h
    · rename_i io
      obtain ⟨u, hu, h⟩ := evK_spec hE h
      split at h
      · rename_i kd q
        have eq_ : a.eval y = .int kd q := hu
        obtain ⟨ob, ho, h⟩ := fndK_spec h
        have main : ∀ (s n : Nat) (A : Option Addr) (c : Nat), s = i2.size → a.eval x = .slice A n c → (∀ k, k < n → ∃ a1, A = some a1 ∧ base ρ io = some a1) → NIdx q n (fun k => K (.one (.ptr io k 0 s))) → Pures P ρ a B nx obs (.indexAddr t x y) K := by
          intro s n A c es ex hA hN
          obtain ⟨k, hk, hlt, hK⟩ := hN.h
          obtain ⟨a1, rfl, hb⟩ := hA k hlt
          refine ⟨.one (.ptr io k 0 s), _, ⟨a1, hb, rfl⟩, hK, fun o ho w hw => ?_⟩
          simp only [execOp, ho]
          refine run_val ?_
          rw [ex, eq_]
          simp [Instr.indexAt, asIntOf, run_underlying hd, run_size hi2, hk, hlt, es]
        have hsat := hC.sat io ob ho
        split at h
        · rename_i s n get
          cases hb : Nat.beq s i2.size <;> simp only [hb] at h
          obtain ⟨A, c, ex⟩ := sat_len hsat hv.1
          exact main s n A c (Nat.eq_of_beq_eq_true hb) ex (fun k hk => by
            obtain ⟨a1, hb1, _⟩ := sat_arr hsat hk
            obtain ⟨v, ev, A', c', rfl, _, _, hh⟩ := hsat
            obtain ⟨a2, e2, _⟩ := hh k hk
            rw [hv.1, ex] at ev
            injection ev with ev; injection ev with ev
            subst ev e2
            exact ⟨a2, rfl, by rw [base_sl (by rw [hv.1, ex])]⟩) h
        · rename_i t' s n get
          cases hb : Nat.beq s i2.size <;> simp only [hb] at h
          obtain ⟨A, c, ex⟩ := sat_len_row hsat hv.1
          exact main s n A c (Nat.eq_of_beq_eq_true hb) ex (fun k hk => by
            obtain ⟨a1, hb1, _⟩ := sat_row hsat hk
            cases A with
            | none =>
              unfold base at hb1
              rw [hv.1, ex] at hb1
              cases hb1
            | some a2 => exact ⟨a2, rfl, by rw [base_sl (by rw [hv.1, ex])]⟩) h
        · rename_i t' s rows
          cases hb : Nat.beq s i2.size <;> simp only [hb] at h
          obtain ⟨A, c, ex⟩ := sat_len_lit hsat hv.1
          obtain ⟨b, cs, ev, _⟩ := hsat
          rw [hv.1, ex] at ev
          injection ev with ev; injection ev with ev
          subst ev
          exact main s rows.length _ c (Nat.eq_of_beq_eq_true hb) ex (fun k hk => ⟨_, rfl, by rw [base_sl (by rw [hv.1, ex])]⟩) h
        · exact h.elim
      · exact h.elim
    · exact h.elim
  · exact h.elim
end
end Go.Proofs.Yteblbhbfdfifpaa.V
