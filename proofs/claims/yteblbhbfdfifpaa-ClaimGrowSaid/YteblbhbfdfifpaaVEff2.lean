/- The walk by verification conditions is sound: slices that are cut, or appended to. -/
import Derived.Test.YteblbhbfdfifpaaVEff
namespace Go.Proofs.Yteblbhbfdfifpaa.V
open Go Go.RowKit
set_option linter.unusedVariables false
set_option linter.unusedSimpArgs false
set_option linter.unusedSectionVars false

theorem ArrIs.cut {w : World} {A : Option Addr} {s n c a b : Nat} {get : Nat → List Value} (h : ArrIs w (.slice A n c) s n get) (hab : a ≤ b) (hb : b ≤ n) : ArrIs w (.slice (if c = a then A else A.map (·.add (a * s))) (b - a) (c - a)) s (b - a) (fun k => get (a + k)) := by
  obtain ⟨A', c', e, hn, hc, hh⟩ := h
  injection e with e1 e2 e3
  subst e1 e3
  refine ⟨_, _, rfl, by omega, by omega, fun k hk => ?_⟩
  obtain ⟨ad, rfl, hlt, hs, hl⟩ := hh (a + k) (by omega)
  rw [if_neg (by omega)]
  refine ⟨ad.add (a * s), rfl, by rw [block_of_add]; exact hlt, hs, fun j u hu => ?_⟩
  rw [add_of_add]
  have := hl j u hu
  rw [Nat.add_mul] at this
  rw [← Nat.add_assoc]
  exact this
theorem RowIs.arr {B : Nat} {w : World} {v : Value} {t s n : Nat} {get : Nat → List Value} (h : RowIs B w v t s n get) : ArrIs w v s n get := by
  have h0 := h
  obtain ⟨A, c, rfl, hn, hs, hh⟩ := h
  refine ⟨A, c, rfl, hn, ?_, fun k hk => ?_⟩
  · rcases hh with ⟨a, b⟩ | ⟨g, cur, _, _, _, hnc, _⟩ <;> omega
  · obtain ⟨g, c', e, hlt, _, hl⟩ := h0.lies hk
    injection e with e1 e2 e3
    subst e1
    refine ⟨_, rfl, hlt, hs k hk, fun j u hu => ?_⟩
    have := hl j u hu
    rwa [add_of_add] at this
theorem RowIs.cap {B : Nat} {w : World} {A : Option Addr} {c t s n : Nat} {get : Nat → List Value} (h : RowIs B w (.slice A n c) t s n get) : n ≤ c := by
  obtain ⟨A', c', e, hn, hs, hh⟩ := h
  injection e with e1 e2 e3
  subst e3
  rcases hh with ⟨a, b⟩ | ⟨g, cur, _, _, _, hnc, _⟩ <;> omega
/-- a row, from here on read alone -/
theorem Cls.freeze {B nx : Nat} {ρ : Rho} {obs : Obs} {w : World} {i t s n : Nat} {get : Nat → List Value} (h : Cls B ρ obs nx w) (ho : fnd obs i = some (.row t s n get)) : Cls B ρ ((i, .arr s n get) :: obs) nx w := by
  obtain ⟨v, e, hr⟩ := h.sat i _ ho
  have hs : Sat B ρ w i (.arr s n get) := ⟨v, e, hr.arr⟩
  have ff : ∀ b, foot ρ i (.arr s n get) = some b → foot ρ i (.row t s n get) = some b := by
    intro b hb
    obtain ⟨A, c, rfl, hn, hss, hh⟩ := hr
    rw [foot_row e]
    cases n with
    | zero => simp [foot] at hb
    | succ n =>
      rcases hh with ⟨a, b⟩ | ⟨g, cur, rfl, _, _, hnc, hc, _⟩
      · omega
      · rw [if_neg (by omega)]
        simpa [foot, base_sl e] using hb
  refine ⟨h.le, fun j u hu => ?_, fun j k o1 o2 c h1 h2 hne hmu hf1 => ?_, h.new⟩
  · rcases fnd_cons hu with ⟨rfl, rfl⟩ | ⟨hn, hu⟩
    · exact hs
    · exact h.sat j u hu
  · rcases fnd_cons h1 with ⟨rfl, rfl⟩ | ⟨hn1, h1⟩
    · cases hmu
    · rcases fnd_cons h2 with ⟨rfl, rfl⟩ | ⟨hn2, h2⟩
      · exact fun q => h.apart j i o1 _ c h1 ho hne hmu hf1 (ff c q)
      · exact h.apart j k o1 o2 c h1 h2 hne hmu hf1
/-- another name for what is only read -/
theorem Cls.view {B nx : Nat} {ρ : Rho} {obs : Obs} {w : World} {i s n s' n' : Nat} {get get' : Nat → List Value} {v : Value} (h : Cls B ρ obs nx w) (ho : fnd obs i = some (.arr s n get)) (hv : ArrIs w v s' n' get')
    (hb : ∀ b, foot (upd ρ nx v) nx (.arr s' n' get') = some b → foot ρ i (.arr s n get) = some b) : Cls B (upd ρ nx v) ((nx, .arr s' n' get') :: obs) (nx + 1) w := by
  have hx : Ext ρ (upd ρ nx v) := ext_upd (h.new nx (Nat.le_refl _))
  have old : ∀ i o', nx ≠ i → foot (upd ρ nx v) i o' = foot ρ i o' := fun i o' hn => foot_eq (upd_ne v (Ne.symm hn))
  refine ⟨h.le, fun j u hu => ?_, fun j k o1 o2 c h1 h2 hne hmu hf1 => ?_, fun j hj => ?_⟩
  · rcases fnd_cons hu with ⟨rfl, rfl⟩ | ⟨hn, hu⟩
    · exact ⟨v, upd_same _ _ _, hv⟩
    · exact (h.sat j u hu).ext hx
  · rcases fnd_cons h1 with ⟨rfl, rfl⟩ | ⟨hn1, h1⟩
    · cases hmu
    · rw [old _ _ hn1] at hf1
      rcases fnd_cons h2 with ⟨rfl, rfl⟩ | ⟨hn2, h2⟩
      · intro q
        have q2 := hb c q
        by_cases e : j = i
        · subst e
          rw [ho] at h1; injection h1 with h1; subst h1; cases hmu
        · exact h.apart j i o1 _ c h1 ho e hmu hf1 q2
      · rw [old _ _ hn2]
        exact h.apart j k o1 o2 c h1 h2 hne hmu hf1
  · rw [upd_ne v (by omega)]; exact h.new j (by omega)

section
variable {P : Program} {T : TT} {sz : Nat} {ρ : Rho} {env : Env} {a : Act} {B nx : Nat} {obs : Obs} {w0 : St} {w : World} (hT : TTok P T) (hE : EnvR sz ρ env a) (hC : Cls B ρ obs nx w) (hW : Wy B w0 ρ a.defers w) {K : Env → Obs → Nat → Prop} {Q : Exit → Act → World → Prop}
include hE hC hW
theorem cut_arr {t e i s n : Nat} {x : Operand} {lo hi : Option Operand} {get : Nat → List Value} {te : TypeInfo} {dst : Option Tmp} {o : Oper} (ho : o.op = .slice t x lo hi none) (hod : o.dst = dst) (hd : P.underlying t = some (.slice e)) (hi2 : P.info? e = some te) (hs : s = te.size)
    (hob : fnd obs i = some (.arr s n get)) (hv : ρ i = some (a.eval x))
    (h : optK env lo fun l => optK env hi fun h => NCut l h n fun a b => putK sz dst (.one (.ref nx)) env fun env' => K env' ((nx, .arr s (b - a) fun k => get (a + k)) :: obs) (nx + 1)) : o.wp P a w (NxA B w0 sz K w) Q := by
  subst hod
  obtain ⟨l, h, hl⟩ := optK_spec hE h
  obtain ⟨h', h, hh⟩ := optK_spec hE h
  obtain ⟨p, q, h1, h2, h3, h4, h⟩ := h.h
  obtain ⟨v, e1, hA⟩ := hC.sat i _ hob
  rw [hv] at e1
  injection e1 with e1
  obtain ⟨A, c, ev, hn, hc, hcell⟩ := hA
  subst ev
  have hA : ArrIs w (.slice A n c) s n get := ⟨A, c, rfl, hn, hc, hcell⟩
  have hr := run_bounds (P := P) (w := w) (s := true) (n := n) (c := c) hl hh h1 h2 h3 h4 hc
  have er : (Instr.sliceAt t (a.eval x) (lo.map a.eval) (hi.map a.eval) none).run P w = .ok (.slice (if c = p then A else A.map (·.add (p * s))) (q - p) (c - p)) w := by
    rw [e1]
    simp [Instr.sliceAt, run_underlying hd, Instr.slice, Sem.run_bind, hr, run_size hi2, hs]
  unfold Oper.wp
  simp only [execOp, ho, Option.map_none]
  rw [run_val' er]
  have hx : Ext ρ (upd ρ nx (.slice (if c = p then A else A.map (·.add (p * s))) (q - p) (c - p))) := ext_upd (hC.new nx (Nat.le_refl _))
  obtain ⟨env', hK, hE'⟩ := putK_spec (hE.ext hx) (v := .one (.ref nx)) ⟨upd_same _ _ _, rfl⟩ h
  refine ⟨_, env', _, _, hK, hE', hC.view hob (hA.cut h3 h4) (fun b hb => ?_), (hW.ext hx).put, Below.refl _ _⟩
  have hnz : q - p ≠ 0 := fun e0 => by rw [e0] at hb; simp [foot] at hb
  obtain ⟨ad, eA, _⟩ := hcell p (by omega)
  subst eA
  rw [if_neg (by omega)] at hb
  have e2 : foot (upd ρ nx (.slice ((some ad).map (·.add (p * s))) (q - p) (c - p))) nx (.arr s (q - p) fun k => get (p + k)) = some ad.block := by
    obtain ⟨m, hm⟩ : ∃ m, q - p = m + 1 := ⟨q - p - 1, by omega⟩
    rw [hm]
    simp [foot, base, upd_same, block_of_add]
  rw [e2] at hb
  obtain ⟨m, hm⟩ : ∃ m, n = m + 1 := ⟨n - 1, by omega⟩
  subst hm
  rw [← hb]
  rw [e1] at hv
  simp [foot, base_sl hv]
include hT
theorem op_slice {o : Oper} {t : TypeId} {x : Operand} {lo hi : Option Operand} (ho : o.op = .slice t x lo hi none) (h : opK P T sz false o env obs nx K) : o.wp P a w (NxA B w0 sz K w) Q := by
  simp only [opK, ho] at h
  obtain ⟨ty, i, d, z, ht, hi1, hd, hz, rfl, h⟩ := fnd_ty hT h
  simp only at h
  split at h
  · rename_i e hs
    have e0 := sh_sl hs
    subst e0
    obtain ⟨te, i2, d2, z2, ht2, hi2, hd2, hz2, rfl, h⟩ := fnd_ty hT h
    obtain ⟨v, hv, h⟩ := evK_spec hE h
    split at h
    · rename_i io
      obtain ⟨ob, hob, h⟩ := fndK_spec h
      split at h
      · rename_i s n get
        cases hb : Nat.beq s i2.size <;> simp only [hb] at h
        exact cut_arr hE hC hW ho rfl hd hi2 (Nat.eq_of_beq_eq_true hb) hob hv.1 h
      · rename_i t' s n get
        cases hb : Nat.beq s i2.size <;> simp only [hb] at h
        have hob' : fnd ((io, Ob.arr s n get) :: obs) io = some (.arr s n get) := by
          unfold fnd; rw [Nat.beq_refl]
        exact cut_arr hE (hC.freeze hob) hW ho rfl hd hi2 (Nat.eq_of_beq_eq_true hb) hob' hv.1 h
      · exact h.elim
    · exact h.elim
  · exact op_pure hT hE hC hW (by rw [ho]; exact h)
end

/-! append -/
theorem arr_news {w : World} {v : Value} {s m : Nat} {get : Nat → List Value} {K : Nat → (Nat → List Value) → Prop} (hA : ArrIs w v s m get) (h1 : ∀ k, k < m → (get k).all Value.oneCell' = true) (hK : K m get) :
    ∃ m get A c, K m get ∧ v = .slice A m c ∧ (∀ k, k < m → (get k).length = s) ∧ (∀ k, k < m → ∀ u ∈ get k, u.oneCell' = true) ∧ (0 < m → ∃ ad, A = some ad ∧ Lies w ad (flat get m)) := by
  obtain ⟨A, c, rfl, hn, hc, hh⟩ := hA
  have hl : ∀ k, k < m → (get k).length = s := fun k hk => by obtain ⟨_, _, _, q, _⟩ := hh k hk; exact q
  refine ⟨m, get, A, c, hK, rfl, hl, fun k hk u hu => List.all_eq_true.1 (h1 k hk) u hu, fun hm => ?_⟩
  obtain ⟨ad, rfl, _, _, _⟩ := hh 0 hm
  refine ⟨ad, rfl, fun p u hu => ?_⟩
  have hp : p < m * s := by
    have := (List.getElem?_eq_some_iff.1 hu).1
    rwa [flat_length hl] at this
  have hs0 : 0 < s := by
    rcases Nat.eq_zero_or_pos s with e | e
    · rw [e, Nat.mul_zero] at hp; omega
    · exact e
  obtain ⟨q, r, hr, rfl⟩ : ∃ q r, r < s ∧ p = q * s + r := ⟨p / s, p % s, Nat.mod_lt _ hs0, by rw [Nat.mul_comm]; exact (Nat.div_add_mod p s).symm⟩
  have hq : q < m := by
    rcases Nat.lt_or_ge q m with c | c
    · exact c
    · have : m * s ≤ q * s := Nat.mul_le_mul_right _ c
      omega
  obtain ⟨ad', e, _, _, hcell⟩ := hh q hq
  injection e with e
  subst e
  have e1 : (get q)[r]? = some ((get q)[r]'(by rw [hl _ hq]; exact hr)) := List.getElem?_eq_getElem _
  have e2 := flat_get hl hq e1
  rw [hu] at e2
  injection e2 with e2
  exact hcell r u (by rw [e1, e2])
theorem news_spec {B nx : Nat} {ρ : Rho} {obs : Obs} {w : World} (hC : Cls B ρ obs nx w) {s j : Nat} {v : Value} (hv : ρ j = some v) {K : Nat → (Nat → List Value) → Prop} (h : newsK obs s j K) :
    ∃ m get A c, K m get ∧ v = .slice A m c ∧ (∀ k, k < m → (get k).length = s) ∧ (∀ k, k < m → ∀ u ∈ get k, u.oneCell' = true) ∧ (0 < m → ∃ ad, A = some ad ∧ Lies w ad (flat get m)) := by
  obtain ⟨o, ho, h⟩ := fndK_spec h
  have hs := hC.sat j o ho
  split at h
  · rename_i t s' rows
    cases hb : Nat.beq s s' <;> simp only [hb] at h
    have es : s = s' := Nat.eq_of_beq_eq_true hb
    subst es
    obtain ⟨ll, hK, hl, hat, h1, h2⟩ := closesK_spec (ρ := ρ) h
    obtain ⟨b, cs, e, _, hrs, hn, hcs, hh⟩ := hs
    have ec : cs = ll.flatten := Ats.fun_ hcs hat
    rw [hv] at e
    injection e with e
    subst e
    have get_ : ∀ k, k < ll.length → (listG ll k).length = s ∧ ∀ u ∈ listG ll k, u.oneCell' = true := by
      intro k hk
      have e1 : listG ll k = ll[k] := by simp [listG, List.getD, List.getElem?_eq_getElem hk]
      obtain ⟨l, e2, e3⟩ := h2 k (rows[k]'(by omega)) (List.getElem?_eq_getElem _)
      rw [List.getElem?_eq_getElem hk] at e2
      injection e2 with e2
      rw [e1]
      exact ⟨by rw [e2, e3]; exact hrs _ (List.getElem_mem _), fun u hu => h1 _ (List.getElem_mem hk) u hu⟩
    refine ⟨ll.length, listG ll, _, _, hK, by rw [hl], fun k hk => (get_ k hk).1, fun k hk => (get_ k hk).2, fun _ => ⟨⟨b, 0, none⟩, rfl, fun p u hu => ?_⟩⟩
    rw [flat_listG, ← ec] at hu
    rw [show (⟨b, 0, none⟩ : Addr).add p = ⟨b, p, none⟩ by unfold Addr.add; split <;> simp_all, cell_of_row w b p cs.toArray t (0, 0) hh]
    simpa using hu
  · rename_i s' m get
    cases hb : Nat.beq s s' <;> simp only [hb] at h
    have es : s = s' := Nat.eq_of_beq_eq_true hb
    subst es
    obtain ⟨v', e, hA⟩ := hs
    rw [hv] at e
    injection e with e
    subst e
    exact arr_news hA h.one h.h
  · rename_i t s' m get
    cases hb : Nat.beq s s' <;> simp only [hb] at h
    have es : s = s' := Nat.eq_of_beq_eq_true hb
    subst es
    obtain ⟨v', e, hA⟩ := hs
    rw [hv] at e
    injection e with e
    subst e
    exact arr_news hA.arr h.one h.h
  · exact h.elim
def footV : Value → Option Nat
  | .slice A _ c => if c = 0 then none else A.map (·.block)
  | _ => none
theorem foot_rowV {ρ : Rho} {i t s n : Nat} {get : Nat → List Value} {B : Nat} {w : World} {v : Value} (e : ρ i = some v) (h : RowIs B w v t s n get) : foot ρ i (.row t s n get) = footV v := by
  obtain ⟨A, c, rfl, _⟩ := h
  rw [foot_row e]; rfl
theorem RowIs.congr {B : Nat} {w : World} {v : Value} {t s n : Nat} {get g : Nat → List Value} (h : RowIs B w v t s n get) (hg : ∀ k, k < n → g k = get k) : RowIs B w v t s n g := by
  obtain ⟨A, c, rfl, hn, hs, hh⟩ := h
  refine ⟨A, c, rfl, hn, fun k hk => by rw [hg k hk]; exact hs k hk, ?_⟩
  rcases hh with h0 | ⟨g', cur, a1, a2, a3, a4, a5, a6, a7, a8⟩
  · exact .inl h0
  · refine .inr ⟨g', cur, a1, a2, a3, a4, a5, a6, a7, ?_⟩
    rw [a8]
    have : ∀ {m : Nat}, m ≤ n → flat get m = flat g m := by
      intro m
      induction m with
      | zero => intro _; rfl
      | succ m ih =>
        intro hm
        have e : ∀ f : Nat → List Value, flat f (m + 1) = flat f m ++ f m := fun f => by unfold flat; rw [List.range_succ, List.flatMap_append]; simp
        rw [e, e, ih (by omega), hg m (by omega)]
    exact this (Nat.le_refl _)
theorem flat_tail {get news g : Nat → List Value} {n m : Nat} (h1 : ∀ k, k < n → g k = get k) (h2 : ∀ k, k < m → g (n + k) = news k) : flat g (n + m) = flat get n ++ flat news m := by
  have e : ∀ (f : Nat → List Value) (m : Nat), flat f (m + 1) = flat f m ++ f m := fun f m => by unfold flat; rw [List.range_succ, List.flatMap_append]; simp
  have a1 : ∀ p, p ≤ n → flat g p = flat get p := by
    intro p
    induction p with
    | zero => intro _; rfl
    | succ p ih => intro hp; rw [e, e, ih (by omega), h1 p (by omega)]
  have a2 : ∀ p, p ≤ m → flat g (n + p) = flat get n ++ flat news p := by
    intro p
    induction p with
    | zero => intro _; rw [Nat.add_zero, a1 n (Nat.le_refl _)]; simp [flat]
    | succ p ih => intro hp; rw [← Nat.add_assoc, e, e, ih (by omega), h2 p (by omega), List.append_assoc]
  exact a2 m (Nat.le_refl _)
theorem RowIs.owns {B : Nat} {w : World} {A : Option Addr} {c t s n : Nat} {get : Nat → List Value} (h : RowIs B w (.slice A n c) t s n get) (hc : c ≠ 0) : w.ownsRow B t s (.slice A n c) n (flat get n) := by
  obtain ⟨A', c', e, hn, hs, hh⟩ := h
  injection e with e1 e2 e3
  subst e1 e3
  refine ⟨flat_length hs, ?_⟩
  rcases hh with ⟨_, h0⟩ | ⟨g, cur, rfl, a2, a3, a4, a5, a6, a7, a8⟩
  · exact absurd h0 hc
  · exact .inr ⟨g, c, cur, rfl, a2, a3, a4, a6, a7, a8⟩
theorem row_of_owns {B : Nat} {w : World} {v : Value} {t s n : Nat} {g : Nat → List Value} {xs : List Value} (h : w.ownsRow B t s v n xs) (hn : 0 < n) (hm : n ≤ 9223372036854775807) (hs : ∀ k, k < n → (g k).length = s) (hx : xs = flat g n) : RowIs B w v t s n g := by
  rcases h.2 with ⟨_, h0⟩ | ⟨g', cap, cur, rfl, a2, a3, a4, a5, a6, a7⟩
  · omega
  · exact ⟨_, _, rfl, hm, hs, .inr ⟨g', cur, rfl, a2, a3, a4, by omega, a5, a6, by rw [a7, hx]⟩⟩
theorem run_app {P : Program} {B : Nat} {w : World} {t ty e : TypeId} {i : TypeInfo} {z : Value} (ht : P.underlying t = some (.slice e)) (hi : P.info? e = some i) (hz : i.zero = some z) (hzs : z.cells.size = i.size) (hsz : 0 < i.size)
    {v : Value} {n : Nat} {get : Nat → List Value} (hr : RowIs B w v e i.size n get) {A : Option Addr} {m c : Nat} {news g : Nat → List Value} (hl : ∀ k, k < m → (news k).length = i.size) (h1 : ∀ k, k < m → ∀ u ∈ news k, u.oneCell' = true) (hcell : 0 < m → ∃ ad, A = some ad ∧ Lies w ad (flat news m))
    (hg1 : ∀ k, k < n → g k = get k) (hg2 : ∀ k, k < m → g (n + k) = news k) (h63 : n + m ≤ 9223372036854775807) (hby : (n + m) * i.bytes ≤ 140737488355328) (hB : B ≤ w.heap.size) :
    ∃ v' w', (Builtin.append_ #[t, t] ty #[v, .slice A m c]).run P w = .ok v' w' ∧ RowIs B w' v' e i.size (n + m) g ∧ w.grownBy w' (footV v) ∧ (∀ b, footV v' = some b → footV v = some b ∨ w.heap.size ≤ b) := by
  have hr0 := hr
  obtain ⟨X, cv, rfl, hn, hs, hh⟩ := hr
  have hcap := hr0.cap
  have hgs : ∀ k, k < n + m → (g k).length = i.size := by
    intro k hk
    by_cases hkn : k < n
    · rw [hg1 k hkn]; exact hs k hkn
    · have := hg2 (k - n) (by omega)
      rw [show n + (k - n) = k by omega] at this
      rw [this]; exact hl _ (by omega)
  by_cases hm : m = 0
  · subst hm
    refine ⟨.slice X n cv, w, ?_, hr0.congr hg1, World.grownBy.refl w _, fun b hb => .inl hb⟩
    have hroom : n + 0 ≤ cv := by omega
    cases X <;> cases A <;> simp [Builtin.append_, run_underlying ht, run_size hi, Builtin.lenOf, Builtin.firstCells, hcap, storeCells, loadCells, loadCellsFrom, Sem.run_bind]
  · obtain ⟨ad, rfl, hlies⟩ := hcell (by omega)
    have hnl : (flat news m).length = m * i.size := flat_length hl
    have hn1 : ∀ u ∈ flat news m, u.oneCell' = true := by
      intro u hu
      unfold flat at hu
      obtain ⟨k, hk, hu⟩ := List.mem_flatMap.1 hu
      exact h1 k (List.mem_range.1 hk) u hu
    have fin : ∀ (V : Value), w.ownsRow B e i.size V n (flat get n) → footV V = footV (.slice X n cv) → (V.ownBlock = footV V) → (Builtin.append_ #[t, t] ty #[.slice X n cv, .slice (some ad) m c]).run P w = (Builtin.append_ #[t, t] ty #[V, .slice (some ad) m c]).run P w →
        ∃ v' w', (Builtin.append_ #[t, t] ty #[.slice X n cv, .slice (some ad) m c]).run P w = .ok v' w' ∧ RowIs B w' v' e i.size (n + m) g ∧ w.grownBy w' (footV (.slice X n cv)) ∧ (∀ b, footV v' = some b → footV (.slice X n cv) = some b ∨ w.heap.size ≤ b) := by
      intro V ho hf hob heq
      obtain ⟨v', w', a1, a2, a3, _, a5⟩ := run_append_own_at (P := P) w B t ty e i z i.size i.bytes ht hi hz rfl rfl hzs hsz V n (flat get n) ho ad m c (flat news m) hnl hlies hn1 (by unfold maxLen; omega) hby hB
      have R := row_of_owns a2 (by omega) h63 hgs (flat_tail hg1 hg2).symm
      refine ⟨v', w', heq.trans a1, R, by rw [← hf, ← hob]; exact a3, fun b hb => ?_⟩
      have hb' : v'.ownBlock = some b := by
        obtain ⟨A', c', rfl, _⟩ := R
        simp only [footV] at hb
        split at hb
        · cases hb
        · cases A' with
          | none => cases hb
          | some a' => exact hb
      rcases a5 with a5 | a5
      · rw [a5, hob, hf] at hb'; exact .inl hb'
      · rw [a5] at hb'; injection hb' with hb'; right; omega
    rcases hh with ⟨rfl, rfl⟩ | ⟨g', cur, rfl, b2, b3, b4, b5, b6, b7, b8⟩
    · refine fin (.slice none 0 0) (by have : flat get 0 = [] := by simp [flat]
                                       rw [this]; exact World.ownsRow_nil w B e i.size) rfl rfl ?_
      cases X with
      | none => rfl
      | some x =>
        have hpos : ¬ m ≤ 0 := by omega
        simp only [Builtin.append_]
        simp [run_underlying ht, run_size hi, Builtin.lenOf, Builtin.firstCells, Sem.run_bind, loadCells, loadCellsFrom, hm, typeInfo, hi]
        have e1 : Builtin.nextslicecap m 0 = m := by unfold Builtin.nextslicecap; rw [if_pos (by omega)]
        have e2 : ¬ (9223372036854775807 < (m : Int)) := by omega
        have e3 : ¬ (281474976710656 < m * i.bytes) := by rw [Nat.zero_add] at hby; omega
        simp [e1, e2, e3]
    · exact fin _ (hr0.owns (by omega)) rfl (by simp [Value.ownBlock, footV]; omega) rfl
end Go.Proofs.Yteblbhbfdfifpaa.V
