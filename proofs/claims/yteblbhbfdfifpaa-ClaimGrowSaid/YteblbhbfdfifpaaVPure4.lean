/- The walk by verification conditions: all operations that leave the world alone. -/
import Derived.Test.YteblbhbfdfifpaaVPure3
namespace Go.Proofs.Yteblbhbfdfifpaa.V
open Go Go.RowKit
set_option linter.unusedVariables false
set_option linter.unusedSimpArgs false
theorem Svs.nth {ρ : Rho} : ∀ {l : List SV} {x : List Value} {j : Nat} {a : SV}, Svs ρ l x → l[j]? = some a → ∃ u, x[j]? = some u ∧ a.is1 ρ u
  | [], _, _, _, _, h => by simp at h
  | b :: _, _, 0, a, ⟨u, r, hx, ha, hr⟩, h => by
    have e : b = a := by simpa using h
    subst e
    exact ⟨u, by rw [hx]; rfl, ha⟩
  | b :: l, _, j + 1, a, ⟨u, r, hx, ha, hr⟩, h => by
    obtain ⟨v, e, hv⟩ := Svs.nth (j := j) hr (by simpa using h)
    exact ⟨v, by rw [hx]; simpa using e, hv⟩
/-- the cells of two structs of integers, one by one -/
theorem eq_spec {P : Program} {ρ : Rho} {d : Nat} {xs ys : Array Value} : ∀ (fs : List Field) (j : Nat) {l m : List At} {K : Prop → Prop}, Ats ρ l (xs.toList.drop j) → Ats ρ m (ys.toList.drop j) → (fs.zipIdx j).all (okF P) = true → l.length = fs.length → eqK l m K →
    ∃ p b, K p ∧ (b = true ↔ p) ∧ ∀ w, (Op.eqFields (d + 1) xs ys fs).run P w = .ok b w
  | [], j, l, m, K, _, _, _, hl, h => by
    have : l = [] := List.eq_nil_of_length_eq_zero (by simpa using hl)
    subst this
    cases m with
    | nil => exact ⟨True, true, h, by simp, fun w => rfl⟩
    | cons b m => unfold eqK at h; exact h.elim
  | f :: fs, j, [], _, K, _, _, _, hl, _ => by simp at hl
  | f :: fs, j, a :: l, [], K, _, _, _, _, h => by
    unfold eqK at h
    split at h
    · rename_i e _; cases e
    · rename_i _ e; cases e
    · exact h.elim
  | f :: fs, j, a :: l, b :: m, K, ⟨x, r, hx, ha, hr⟩, ⟨y, s, hy, hb, hs⟩, ho, hl, h => by
    unfold eqK at h
    split at h
    · rename_i e _; cases e
    · rename_i k p l' k' q m' e1 e2
      injection e1 with e1 e1'
      injection e2 with e2 e2'
      subst e1 e1' e2 e2'
      cases hk : kEq k k' <;> simp only [hk] at h
      have := kEq_eq hk
      subst this
      have hx' : x = .int k p := ha
      have hy' : y = .int k q := hb
      subst hx' hy'
      rw [List.zipIdx_cons, List.all_cons, Bool.and_eq_true] at ho
      obtain ⟨ho1, ho2⟩ := ho
      simp only [okF, Bool.and_eq_true, bne_iff_ne, beq_iff_eq] at ho1
      obtain ⟨⟨o1, o2⟩, o3⟩ := ho1
      have dx : xs.toList.drop (j + 1) = r := by rw [← List.drop_drop, hx]; rfl
      have dy : ys.toList.drop (j + 1) = s := by rw [← List.drop_drop, hy]; rfl
      obtain ⟨p', b', h1, h2, h3⟩ := eq_spec (P := P) (xs := xs) (ys := ys) fs (j + 1) (dx ▸ hr) (dy ▸ hs) ho2 (by simpa using hl) h
      have gx : xs[j]? = some (.int k p) := by
        have : xs.toList[j]? = (xs.toList.drop j)[0]? := by simp
        rw [hx] at this
        simpa using this
      have gy : ys[j]? = some (.int k q) := by
        have : ys.toList[j]? = (ys.toList.drop j)[0]? := by simp
        rw [hy] at this
        simpa using this
      unfold intT at o3
      split at o3
      rotate_left
      · cases o3
      rename_i kk hki
      have hag : aggT P f.type = 1 := by unfold aggT; rw [hki]
      refine ⟨p = q ∧ p', (p == q) && b', h1, by simp [h2], fun w => ?_⟩
      have g1 := (run_part (P := P) (t := f.type) (w := w) (cs := xs) (off := f.offset)).2 hag (.int k p) (by rw [o2]; exact gx)
      have g2 := (run_part (P := P) (t := f.type) (w := w) (cs := ys) (off := f.offset)).2 hag (.int k q) (by rw [o2]; exact gy)
      have g3 := run_equalIn_int (P := P) w d f.type k kk p q hki
      unfold Op.eqFields
      rw [if_pos o1]
      simp only [Sem.run_bind, g1, g2, g3, Result.andThen_ok]
      cases hpq : p == q
      · simp
      · simp
        exact h3 w
    · exact h.elim
section
variable {P : Program} {T : TT} {sz : Nat} {ρ : Rho} {env : Env} {a : Act} {B nx : Nat} {obs : Obs} {w0 : World} (hT : TTok P T) (hE : EnvR sz ρ env a) (hC : Cls B ρ obs nx w0) {K : SV → Prop}
include hE
theorem pure_un {op : UnOp} {t : TypeId} {x : Operand} (h : pureK T env obs (.unOp op t x) K) : Pures P ρ a B nx obs (.unOp op t x) K := by
  simp only [pureK] at h
  obtain ⟨v, hv, h⟩ := evK_spec hE h
  obtain ⟨r, z, h1, h2, h3⟩ := unK_spec (P := P) hv h
  refine ⟨r, z, h1, h2, fun o ho w _ => ?_⟩
  simp only [execOp, ho]
  exact run_val (h3 w)
theorem pure_nilCheck {x : Operand} (h : pureK T env obs (.nilCheck x) K) : Pures P ρ a B nx obs (.nilCheck x) K := by
  simp only [pureK] at h
  obtain ⟨v, hv, h⟩ := evK_spec hE h
  split at h
  · rename_i i k j s
    obtain ⟨b, hb, e⟩ := hv
    refine ⟨.one (.ptr i k j s), a.eval x, ⟨b, hb, e⟩, h, fun o ho w _ => ?_⟩
    simp only [execOp, ho, e]
    rfl
  · exact h.elim
theorem pure_extract {x : Operand} {i : Nat} (h : pureK T env obs (.extract x i) K) : Pures P ρ a B nx obs (.extract x i) K := by
  simp only [pureK] at h
  obtain ⟨v, hv, h⟩ := evK_spec hE h
  split at h
  · rename_i l
    obtain ⟨cs, hcs, e⟩ := hv
    obtain ⟨b, eb, hK⟩ := nthK_spec h
    obtain ⟨u, eu, hu⟩ := Svs.nth hcs eb
    refine ⟨b, u, SV.is_of1 hu, hK, fun o ho w _ => ?_⟩
    simp only [execOp, ho]
    refine run_val ?_
    rw [e]
    simp [Instr.extract, eu]
  · exact h.elim
theorem pure_makeFunc {fn : Fn} {first caps : Array Operand} (h : pureK T env obs (.makeFunc fn first caps) K) : Pures P ρ a B nx obs (.makeFunc fn first caps) K := by
  simp only [pureK] at h
  split at h
  · rename_i f
    obtain ⟨is_, hK, hc⟩ := capsK_spec hE h
    refine ⟨.one (.clo f is_), _, ⟨_, hc, rfl⟩, hK, fun o ho w _ => ?_⟩
    simp only [execOp, ho]
    refine run_val ?_
    cases caps
    simp [Instr.makeFunc]
  · exact h.elim
omit hE in
theorem run_bounds {w : World} {s : Bool} {n c : Nat} {l h : Option Int} {lo hi : Option Value} {a b : Nat} (hl : (lo = none ∧ l = none) ∨ ∃ k q, lo = some (.int k q) ∧ l = some q) (hh : (hi = none ∧ h = none) ∨ ∃ k q, hi = some (.int k q) ∧ h = some q)
    (h1 : loIs l a) (h2 : hiIs h n b) (h3 : a ≤ b) (h4 : b ≤ n) (h5 : n ≤ c) : (Instr.sliceBounds s n c lo hi none).run P w = .ok (a, b, c) w := by
  rcases hl with ⟨rfl, rfl⟩ | ⟨k, q, rfl, rfl⟩ <;> rcases hh with ⟨rfl, rfl⟩ | ⟨k2, q2, rfl, rfl⟩ <;> simp only [loIs, hiIs] at h1 h2
  · subst h1 h2
    simp [Instr.sliceBounds, Sem.run_bind]
  · subst h1 h2
    simp [Instr.sliceBounds, Sem.run_bind, run_sliceBound (P := P) (w := w) k2 (b : Int) c _ (by omega) (by omega)]
  · subst h1 h2
    simp [Instr.sliceBounds, Sem.run_bind, run_sliceBound (P := P) (w := w) k (a : Int) b _ (by omega) (by omega)]
  · subst h1 h2
    simp [Instr.sliceBounds, Sem.run_bind, run_sliceBound (P := P) (w := w) k (a : Int) b _ (by omega) (by omega), run_sliceBound (P := P) (w := w) k2 (b : Int) c _ (by omega) (by omega)]
theorem optK_spec {x : Option Operand} {K : Option Int → Prop} (h : optK env x K) :
    ∃ q, K q ∧ ((x.map a.eval = none ∧ q = none) ∨ ∃ k n, x.map a.eval = some (.int k n) ∧ q = some n) := by
  cases x with
  | none => exact ⟨none, h, .inl ⟨rfl, rfl⟩⟩
  | some x =>
    obtain ⟨v, hv, h⟩ := evK_spec hE h
    split at h
    · rename_i k n
      exact ⟨some n, h, .inr ⟨k, n, congrArg some hv, rfl⟩⟩
    · exact h.elim
include hT
theorem pure_slice {t : TypeId} {x : Operand} {lo hi mx : Option Operand} (h : pureK T env obs (.slice t x lo hi mx) K) : Pures P ρ a B nx obs (.slice t x lo hi mx) K := by
  simp only [pureK] at h
  split at h
  rotate_left
  · exact h.elim
  obtain ⟨ty, i, d, z, ht, hi1, hd, hz, rfl, h⟩ := fnd_ty hT h
  simp only at h
  split at h
  · rename_i hs
    have e0 := sh_str hs
    subst e0
    obtain ⟨v, hv, h⟩ := evK_spec hE h
    split at h
    · rename_i s
      have ex : a.eval x = .string s := hv
      obtain ⟨l, h, hl⟩ := optK_spec hE h
      obtain ⟨h', h, hh⟩ := optK_spec hE h
      obtain ⟨p, q, h1, h2, h3, h4, h⟩ := h.h
      refine ⟨.one (.val (.string (s.extract p q))), _, rfl, h, fun o ho w _ => ?_⟩
      have hr := run_bounds (P := P) (w := w) (s := false) (n := s.size) (c := s.size) hl hh h1 h2 h3 h4 (Nat.le_refl _)
      simp only [execOp, ho, Option.map_none]
      refine run_val ?_
      rw [ex]
      simp [Instr.sliceAt, run_underlying hd, Instr.slice, Sem.run_bind, hr]
    · exact h.elim
  · exact h.elim
theorem pure_index {t : TypeId} {x y : Operand} (h : pureK T env obs (.index t x y) K) : Pures P ρ a B nx obs (.index t x y) K := by
  simp only [pureK] at h
  obtain ⟨ty, i, d, z, ht, hi, hd, hz, rfl, h⟩ := fnd_ty hT h
  simp only at h
  split at h
  · rename_i hs
    have e0 := sh_str hs
    subst e0
    obtain ⟨v, hv, h⟩ := evK_spec hE h
    split at h
    · rename_i s
      have ex : a.eval x = .string s := hv
      obtain ⟨u, hu, h⟩ := evK_spec hE h
      split at h
      · rename_i kd q
        have ey : a.eval y = .int kd q := hu
        obtain ⟨k, hq, hlt, hK⟩ := h.h
        refine ⟨.one (.val _), _, rfl, hK, fun o ho w _ => ?_⟩
        simp only [execOp, ho]
        refine run_val ?_
        rw [ex, ey]
        have hg : s[k]? = some (s.data.getD k 0) := by
          rw [getElem?_pos s k hlt]
          congr 1
          show s.data[k]'hlt = _
          rw [Array.getD_eq_getD_getElem?, Array.getElem?_eq_getElem hlt]; rfl
        simp [Instr.index, asIntOf, run_underlying hd, hq, hg]
      · exact h.elim
    · exact h.elim
  · exact h.elim
include hC
theorem pure_bin {op : BinOp} {t t' : TypeId} {x y : Operand} (h : pureK T env obs (.binOp op t x y t') K) : Pures P ρ a B nx obs (.binOp op t x y t') K := by
  simp only [pureK] at h
  obtain ⟨v, hv, h⟩ := evK_spec hE h
  obtain ⟨u, hu, h⟩ := evK_spec hE h
  split at h
  · rename_i l m _
    obtain ⟨ty, i, d, z, ht, hi, hd, hz, rfl, h⟩ := fnd_ty hT h
    simp only at h
    split at h
    rotate_left
    · exact h.elim
    rename_i fs0 hs
    obtain ⟨fields, rfl, _, rfl⟩ := sh_st hs
    split at h
    rotate_left
    · exact h.elim
    rename_i q1 q2
    have q2 := Nat.eq_of_beq_eq_true q2
    rw [List.length_map] at q2
    obtain ⟨cs, hcs, ex⟩ := hv
    obtain ⟨ds, hds, ey⟩ := hu
    simp only [eqOf, hd] at q1
    simp only [Bool.and_eq_true, Bool.not_eq_true'] at q1
    obtain ⟨⟨c1, c2⟩, c3⟩ := q1
    have hu' : P.underlying t = some (.struct (P.fieldsOf t)) := by unfold Program.fieldsOf; rw [hd]
    have hff : P.fieldsOf t = fields := by unfold Program.fieldsOf; rw [hd]
    have both : ∀ {K' : Prop → Prop}, eqK l m K' → ∃ p b, K' p ∧ (b = true ↔ p) ∧ ∀ w, (Op.equalIn 10000 t (a.eval x) (a.eval y)).run P w = .ok b w := by
      intro K' h
      obtain ⟨p, b, h1, h2, h3⟩ := eq_spec (P := P) (xs := cs.toArray) (ys := ds.toArray) fields.toList 0 (by simpa using hcs) (by simpa using hds) c3 q2 h
      refine ⟨p, b, h1, h2, fun w => ?_⟩
      rw [ex, ey, run_equalIn_agg w 9999 t _ _ hu' c1, hff]
      exact h3 w
    split at h
    · obtain ⟨p, b, h1, h2, h3⟩ := both h
      refine ⟨.one (.prop p), .bool b, ⟨b, rfl, h2⟩, h1, fun o ho w _ => ?_⟩
      simp only [execOp, ho]
      refine run_val ?_
      have h4 := h3 w
      rw [ex, ey] at h4 ⊢
      simp only [Sem.run_bind, run_eqGuard_agg w _ t x y _ _ c2, Result.andThen_ok, run_eql_struct, h4]
    · obtain ⟨p, b, h1, h2, h3⟩ := both h
      refine ⟨.one (.prop (¬ p)), .bool (!b), ⟨!b, rfl, by rw [← h2]; simp⟩, h1, fun o ho w _ => ?_⟩
      simp only [execOp, ho]
      refine run_val ?_
      have h4 := h3 w
      rw [ex, ey] at h4 ⊢
      simp only [Sem.run_bind, run_eqGuard_agg w _ t x y _ _ c2, Result.andThen_ok, run_neq_struct, h4]
    · exact h.elim
  · split at h
    · rename_i p q hp hq
      obtain ⟨ty, i, d, z, ht, hi, hd, hz, rfl, h⟩ := fnd_ty hT h
      simp only at h
      split at h
      rotate_left
      · exact h.elim
      rename_i hs
      obtain ⟨c, ec, hc⟩ := boolP_spec hp hv
      obtain ⟨e, ee, he⟩ := boolP_spec hq hu
      have hu' : P.underlying t = some .bool := by rw [hd, sh_bool hs]
      have heq : ∀ w, (Op.equalIn 10000 t (.bool c) (.bool e)).run P w = .ok (c == e) w := fun w => by
        show (Op.equalIn (9999 + 1) t (.bool c) (.bool e)).run P w = .ok (c == e) w
        unfold Op.equalIn
        rw [Sem.run_bind, run_underlying hu' w]
        rfl
      have hg : ∀ w, (eqGuard op t x y (.bool c) (.bool e)).run P w = .ok () w := fun w => by unfold eqGuard; split <;> rfl
      split at h
      · refine ⟨.one (.prop _), .bool (c == e), ⟨c == e, rfl, by rw [← hc, ← he]; cases c <;> cases e <;> simp⟩, h, fun o ho w _ => ?_⟩
        simp only [execOp, ho]
        refine run_val ?_
        rw [ec, ee]
        simp [Sem.run_bind, hg, binOp, Op.equal, Op.maxDepth, heq]
      · refine ⟨.one (.prop _), .bool (!(c == e)), ⟨!(c == e), rfl, by rw [← hc, ← he]; cases c <;> cases e <;> simp⟩, h, fun o ho w _ => ?_⟩
        simp only [execOp, ho]
        refine run_val ?_
        rw [ec, ee]
        simp [Sem.run_bind, hg, binOp, Op.equal, Op.maxDepth, heq]
      · exact h.elim
    · split at h
      · rename_i io _ _
        obtain ⟨ty, i, d, z, ht, hi, hd, hz, rfl, h⟩ := fnd_ty hT h
        simp only at h
        split at h
        rotate_left
        · exact h.elim
        rename_i e hs
        have hu' : P.underlying t = some (.slice e) := by rw [hd, sh_sl hs]
        obtain ⟨ob, hob, h⟩ := fndK_spec h
        have ev : ρ io = some (a.eval x) := hv.1
        have ey : a.eval y = .slice none 0 0 := hu
        have fin : ∀ n A c, a.eval x = .slice A n c → (A = none → n = 0) → (NNil n fun p => nilP op p K) → Pures P ρ a B nx obs (.binOp op t x y t') K := fun n A c ex hn h => by
          have h := h.h (A = none) hn
          have heq : ∀ w, (Op.equalIn 10000 t (.slice A n c) (.slice none 0 0)).run P w = .ok A.isNone w := fun w => by
            show (Op.equalIn (9999 + 1) t (.slice A n c) (.slice none 0 0)).run P w = .ok A.isNone w
            unfold Op.equalIn
            rw [Sem.run_bind, run_underlying hu' w]
            cases A <;> rfl
          have hg : ∀ w, (eqGuard op t x y (.slice A n c) (.slice none 0 0)).run P w = .ok () w := fun w => by unfold eqGuard; split <;> rfl
          unfold nilP at h
          split at h
          · refine ⟨.one (.prop _), .bool A.isNone, ⟨A.isNone, rfl, by simp⟩, h, fun o ho w _ => ?_⟩
            simp only [execOp, ho]
            refine run_val ?_
            rw [ex, ey]
            simp [Sem.run_bind, hg, binOp, Op.equal, Op.maxDepth, heq]
          · refine ⟨.one (.prop _), .bool (!A.isNone), ⟨!A.isNone, rfl, by cases A <;> simp⟩, h, fun o ho w _ => ?_⟩
            simp only [execOp, ho]
            refine run_val ?_
            rw [ex, ey]
            simp [Sem.run_bind, hg, binOp, Op.equal, Op.maxDepth, heq]
          · exact h.elim
        split at h
        · rename_i s n get
          obtain ⟨v, e, A, c, ev', hn, _, hh⟩ := hC.sat io _ hob
          rw [ev] at e
          injection e with e
          refine fin n A c (e.trans ev') (fun hA => ?_) h
          rcases Nat.eq_zero_or_pos n with q | q
          · exact q
          · obtain ⟨b, hb, _⟩ := hh 0 q; rw [hA] at hb; cases hb
        · rename_i tt s n get
          obtain ⟨v, e, A, c, ev', hn, _, hh⟩ := hC.sat io _ hob
          rw [ev] at e
          injection e with e
          refine fin n A c (e.trans ev') (fun hA => ?_) h
          rcases hh with ⟨q, _⟩ | ⟨g, cur, q, _⟩
          · exact q
          · rw [hA] at q; cases q
        · exact h.elim
      · obtain ⟨r, z, h1, h2, h3⟩ := binK_spec (P := P) hv hu h
        refine ⟨r, z, h1, h2, fun o ho w _ => ?_⟩
        obtain ⟨h4, h5⟩ := h3 t x y w
        simp only [execOp, ho]
        refine run_val ?_
        simp [Sem.run_bind, h4, h5]
  · obtain ⟨r, z, h1, h2, h3⟩ := binK_spec (P := P) hv hu h
    refine ⟨r, z, h1, h2, fun o ho w _ => ?_⟩
    obtain ⟨h4, h5⟩ := h3 t x y w
    simp only [execOp, ho]
    refine run_val ?_
    simp [Sem.run_bind, h4, h5]
theorem pure_call {c : Call} (h : pureK T env obs (.call c) K) : Pures P ρ a B nx obs (.call c) K := by
  simp only [pureK] at h
  split at h
  · rename_i x t
    obtain ⟨ty, i, d, z, ht, hi, hd, hz, rfl, h⟩ := fnd_ty hT h
    simp only at h
    split at h
    · rename_i e hs
      have e0 := sh_sl hs
      subst e0
      have main : ∀ (A : Option Addr) (n cap : Nat), a.eval x = .slice A n cap → K (.one (.val (.int .i64 n))) → Pures P ρ a B nx obs (.call ⟨.builtin .len, #[x], #[t]⟩) K := by
        intro A n cap ex hK
        refine ⟨.one (.val _), _, rfl, hK, fun o ho w _ => ?_⟩
        simp [execOp, ho, resolve, invoke, builtin, Builtin.len_, run_underlying hd, ex, goInt, Sem.run_bind]
      obtain ⟨v, hv, h⟩ := evK_spec hE h
      split at h
      · rename_i io
        obtain ⟨ob, ho, h⟩ := fndK_spec h
        have hsat := hC.sat io ob ho
        split at h
        · obtain ⟨A, c, ex⟩ := sat_len hsat hv.1
          exact main A _ c ex h
        · obtain ⟨A, c, ex⟩ := sat_len_row hsat hv.1
          exact main A _ c ex h
        · obtain ⟨A, c, ex⟩ := sat_len_lit hsat hv.1
          exact main A _ c ex h
        · exact h.elim
      · exact main _ _ _ hv h
      · exact h.elim
    · rename_i hs
      have e0 := sh_str hs
      subst e0
      obtain ⟨v, hv, h⟩ := evK_spec hE h
      split at h
      · rename_i s
        have ex : a.eval x = .string s := hv
        refine ⟨.one (.val _), _, rfl, h, fun o ho w _ => ?_⟩
        simp [execOp, ho, resolve, invoke, builtin, Builtin.len_, run_underlying hd, ex, goInt, Sem.run_bind]
      · exact h.elim
    · exact h.elim
  · rename_i x y ts
    obtain ⟨v, hv, h⟩ := evK_spec hE h
    obtain ⟨u, hu, h⟩ := evK_spec hE h
    split at h
    · rename_i k p k' q _
      have ex : a.eval x = .int k p := hv
      have ey : a.eval y = .int k' q := hu
      refine ⟨.one (.val _), _, rfl, h, fun o ho w _ => ?_⟩
      simp [execOp, ho, resolve, invoke, builtin, Builtin.min_, Builtin.min2, ex, ey, Sem.run_bind]
    · exact h.elim
  · rename_i x y ts
    obtain ⟨v, hv, h⟩ := evK_spec hE h
    obtain ⟨u, hu, h⟩ := evK_spec hE h
    split at h
    · rename_i k p k' q _
      have ex : a.eval x = .int k p := hv
      have ey : a.eval y = .int k' q := hu
      refine ⟨.one (.val _), _, rfl, h, fun o ho w _ => ?_⟩
      simp [execOp, ho, resolve, invoke, builtin, Builtin.max_, Builtin.max2, ex, ey, Sem.run_bind]
    · exact h.elim
  · exact h.elim
theorem pure_sound {op : Op} (h : pureK T env obs op K) : Pures P ρ a B nx obs op K := by
  cases op
  case move x => exact pure_ev hE h (fun o ho => by simp [execOp, ho])
  case assign x => exact pure_ev hE h (fun o ho => by simp [execOp, ho])
  case pick c x y => exact pure_pick hE h
  case load t x => exact pure_load hT hE hC h
  case fieldAddr t x f => exact pure_fieldAddr hT hE h
  case field t x f => exact pure_field hT hE h
  case indexAddr t x y => exact pure_indexAddr hT hE hC h
  case slice t x lo hi mx => exact pure_slice hT hE h
  case index t x y => exact pure_index hT hE h
  case binOp op t x y t' => exact pure_bin hT hE hC h
  case unOp op t x => exact pure_un hE h
  case convert s t x => exact pure_convert hT hE h
  case extract x i => exact pure_extract hE h
  case nilCheck x => exact pure_nilCheck hE h
  case build t ps => exact pure_build hT hE h
  case makeFunc fn fi ca => exact pure_makeFunc hE h
  case call c => exact pure_call hT hE hC h
  all_goals exact (h : False).elim
end
end Go.Proofs.Yteblbhbfdfifpaa.V
