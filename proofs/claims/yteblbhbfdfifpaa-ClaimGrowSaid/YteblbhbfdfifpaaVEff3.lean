/- The walk by verification conditions is sound: append, as an operation. -/
import Derived.Test.YteblbhbfdfifpaaVEff2
namespace Go.Proofs.Yteblbhbfdfifpaa.V
open Go Go.RowKit
set_option linter.unusedVariables false
set_option linter.unusedSimpArgs false
set_option linter.unusedSectionVars false

theorem foot_any {ρ : Rho} {i t s n : Nat} {get : Nat → List Value} {v : Value} (e : ρ i = some v) (hv : ∃ A m c, v = .slice A m c) : foot ρ i (.row t s n get) = footV v := by
  obtain ⟨A, m, c, rfl⟩ := hv
  rw [foot_row e]; rfl
/-- a row is appended to: it goes, and another one comes, which may lie in its block or behind all -/
theorem Cls.moved {B nx : Nat} {ρ : Rho} {obs : Obs} {w w' : World} {i t s n n' : Nat} {get g : Nat → List Value} {v v' : Value} (h : Cls B ρ obs nx w) (ho : fnd obs i = some (.row t s n get)) (hv : ρ i = some v) (hr : RowIs B w' v' t s n' g)
    (hg : w.grownBy w' (footV v)) (hf : ∀ b, footV v' = some b → footV v = some b ∨ w.heap.size ≤ b) : Cls B (upd ρ nx v') ((nx, .row t s n' g) :: (i, .gone) :: obs) (nx + 1) w' := by
  have hx : Ext ρ (upd ρ nx v') := ext_upd (h.new nx (Nat.le_refl _))
  have old : ∀ i o', nx ≠ i → foot (upd ρ nx v') i o' = foot ρ i o' := fun i o' hn => foot_eq (upd_ne v' (Ne.symm hn))
  have fi : foot ρ i (.row t s n get) = footV v := by
    obtain ⟨v2, e, hr2⟩ := h.sat i _ ho
    rw [hv] at e; injection e with e; subst e
    exact foot_rowV hv hr2
  have fn_ : foot (upd ρ nx v') nx (.row t s n' g) = footV v' := foot_rowV (upd_same _ _ _) hr
  -- another object's block is neither the row's nor a new one
  have apart_ : ∀ j o b, i ≠ j → fnd obs j = some o → foot ρ j o = some b → footV v ≠ some b := fun j o b hne hj hb e => by
    have h1 : foot ρ i (.row t s n get) = some b := fi.trans e
    exact h.apart i j _ o b ho hj hne rfl h1 hb
  refine ⟨Nat.le_trans h.le hg.size, fun j u hu => ?_, fun j k o1 o2 c h1 h2 hne hmu hf1 => ?_, fun j hj => ?_⟩
  · rcases fnd_cons hu with ⟨rfl, rfl⟩ | ⟨hn, hu⟩
    · exact ⟨v', upd_same _ _ _, hr⟩
    · rcases fnd_cons hu with ⟨rfl, rfl⟩ | ⟨hn2, hu⟩
      · trivial
      · exact ((h.sat j u hu).keep hg.size fun b hb => hg.block b (foot_lt (h.sat j u hu) hb) (fun e => apart_ j u b hn2 hu hb e.symm)).ext hx
  · have new_ : ∀ j o b, nx ≠ j → fnd ((i, Ob.gone) :: obs) j = some o → foot (upd ρ nx v') j o = some b → footV v' ≠ some b := fun j o b hn hj hb e => by
      rw [old _ _ hn] at hb
      rcases fnd_cons hj with ⟨rfl, rfl⟩ | ⟨hn2, hj⟩
      · cases hb
      · rcases hf b e with q | q
        · exact apart_ j o b hn2 hj hb q
        · have := foot_lt (h.sat j o hj) hb; omega
    rcases fnd_cons h1 with ⟨rfl, rfl⟩ | ⟨hn1, h1⟩
    · rcases fnd_cons h2 with ⟨rfl, rfl⟩ | ⟨hn2, h2⟩
      · exact absurd rfl hne
      · intro q
        rw [fn_] at hf1
        exact new_ k o2 c hn2 h2 q hf1
    · rcases fnd_cons h2 with ⟨rfl, rfl⟩ | ⟨hn2, h2⟩
      · intro q
        rw [fn_] at q
        exact new_ j o1 c hn1 h1 hf1 q
      · rw [old _ _ hn1] at hf1
        rw [old _ _ hn2]
        rcases fnd_cons h1 with ⟨rfl, rfl⟩ | ⟨hn3, h1⟩
        · cases hf1
        · rcases fnd_cons h2 with ⟨rfl, rfl⟩ | ⟨hn4, h2⟩
          · intro q; cases q
          · exact h.apart j k o1 o2 c h1 h2 hne hmu hf1
  · rw [upd_ne v' (by omega)]; exact h.new j (by omega)
/-- the same, where the row that was appended to was nil -/
theorem Cls.born {B nx : Nat} {ρ : Rho} {obs : Obs} {w w' : World} {t s n' : Nat} {g : Nat → List Value} {v' : Value} (h : Cls B ρ obs nx w) (hr : RowIs B w' v' t s n' g)
    (hb : Below w.heap.size w w') (hf : ∀ b, footV v' = some b → w.heap.size ≤ b) : Cls B (upd ρ nx v') ((nx, .row t s n' g) :: obs) (nx + 1) w' :=
  h.more hb ⟨v', upd_same _ _ _, hr⟩ (fun b hb' => hf b (by rw [foot_rowV (upd_same _ _ _) hr] at hb'; exact hb'))
theorem below_grown {B : Nat} {w w' : World} {row : Option Nat} (h : w.grownBy w' row) (hB : B ≤ w.heap.size) (hr : ∀ k, row = some k → B ≤ k) : Below B w w' :=
  ⟨h.os, h.tape, h.output, h.size, fun k hk => h.block k (by omega) (fun e => by have := hr k e.symm; omega)⟩
section
variable {P : Program} {T : TT} {sz : Nat} {ρ : Rho} {env : Env} {a : Act} {B nx : Nat} {obs : Obs} {w0 : St} {w : World} (hT : TTok P T) (hE : EnvR sz ρ env a) (hC : Cls B ρ obs nx w) (hW : Wy B w0 ρ a.defers w) {K : Env → Obs → Nat → Prop} {Q : Exit → Act → World → Prop}
include hT hE hC hW
theorem op_append {o : Oper} {t t' : TypeId} {x y : Operand} (ho : o.op = .call ⟨.builtin .append, #[x, y], #[t, t']⟩) (h : opK P T sz false o env obs nx K) : o.wp P a w (Nx B w0 sz K) Q := by
  simp only [opK, ho] at h
  cases htt : Nat.beq t t' <;> simp only [htt] at h
  have et : t = t' := Nat.eq_of_beq_eq_true htt
  subst et
  obtain ⟨ty, i, d, z, ht, hi1, hd, hz, rfl, h⟩ := fnd_ty hT h
  simp only at h
  split at h
  rotate_left
  · exact h.elim
  rename_i e hs
  have e0 := sh_sl hs
  subst e0
  obtain ⟨te, i2, d2, z2, ht2, hi2, hd2, hz2, rfl, h⟩ := fnd_ty hT h
  simp only at h
  split at h
  rotate_left
  · exact h.elim
  rename_i b1 b2
  have hsz : 0 < i2.size := by have := Nat.ne_of_beq_eq_false b1; omega
  have hzs : z2.cells.size = i2.size := by have := Nat.eq_of_beq_eq_true b2; simpa using this
  obtain ⟨v, hv, h⟩ := evK_spec hE h
  obtain ⟨u, hu, h⟩ := evK_spec hE h
  have exec : ∀ v' w', (Builtin.append_ #[t, t] o.type #[a.eval x, a.eval y]).run P w = .ok v' w' → (execOp a.eval o).run P w = .ok (.value v') w' := fun v' w' hr => by
    simp [execOp, ho, resolve, invoke, builtin, Sem.run_bind, hr]
  unfold appK_ at h
  split at h
  · rename_i io j _
    obtain ⟨ob, hob, h⟩ := fndK_spec h
    split at h
    rotate_left
    · exact h.elim
    rename_i te' s' n get
    split at h
    rotate_left
    · exact h.elim
    rename_i q1 q2 q3
    have e1 : te' = e := Nat.eq_of_beq_eq_true q1
    have e2 : i2.size = s' := Nat.eq_of_beq_eq_true q2
    subst e1 e2
    obtain ⟨m, news, A, c, h, ey, hnl, hn1, hcell⟩ := news_spec hC hu.1 h
    obtain ⟨v2, e3, hr⟩ := hC.sat io _ hob
    rw [hv.1] at e3
    injection e3 with e3
    subst e3
    obtain ⟨n', g, rfl, hlen, hroom, hg1, hg2, h⟩ := h.h
    obtain ⟨v', w', a1, a2, a3, a4⟩ := run_app (P := P) (ty := o.type) hd hi2 hz2 hzs hsz hr (A := A) (c := c) hnl hn1 hcell (g := g) hg1 hg2 hlen hroom hC.le
    rw [← ey] at a1
    have hx : Ext ρ (upd ρ nx v') := ext_upd (hC.new nx (Nat.le_refl _))
    have hone : v'.oneCell' = true := by obtain ⟨_, _, rfl, _⟩ := a2; rfl
    obtain ⟨env', hK, hE'⟩ := putK_spec (hE.ext hx) (v := .one (.ref nx)) ⟨upd_same _ _ _, hone⟩ h
    have own : ∀ k, footV (a.eval x) = some k → B ≤ k ∧ ∃ cur, w.heap[k]? = some (.cells cur te' (0, 0)) := fun k hk => by
      obtain ⟨X, cv, ev, _, _, hh⟩ := hr
      rw [ev] at hk
      simp only [footV] at hk
      split at hk
      · cases hk
      · rcases hh with ⟨_, h0⟩ | ⟨g, cur, rfl, hB, hg, _⟩
        · omega
        · injection hk with hk; subst hk; exact ⟨hB, cur, hg⟩
    unfold Oper.wp
    rw [exec _ _ a1]
    refine ⟨_, env', _, _, hK, hE', hC.moved hob hv.1 a2 a3 a4, ((hW.trans (below_grown a3 hC.le (fun k hk => (own k hk).1)) (fun k D hk => ?_)).ext hx).put⟩
    refine (a3.block k (Array.getElem?_eq_some_iff.1 hk).1 fun e => ?_).trans hk
    obtain ⟨_, cur, hc⟩ := own k e.symm
    rw [hc] at hk; cases hk
  · rename_i j
    have ex : a.eval x = .slice none 0 0 := hv
    obtain ⟨m, news, A, c, h, ey, hnl, hn1, hcell⟩ := news_spec hC hu.1 h
    have hr : RowIs B w (.slice none 0 0) e i2.size 0 (fun _ => []) := ⟨none, 0, rfl, by omega, fun k hk => by omega, .inl ⟨rfl, rfl⟩⟩
    obtain ⟨n', g, rfl, hlen, hroom, hg1, hg2, h⟩ := h.h
    obtain ⟨v', w', a1, a2, a3, a4⟩ := run_app (P := P) (ty := o.type) hd hi2 hz2 hzs hsz hr (A := A) (c := c) hnl hn1 hcell (g := g) hg1 hg2 hlen hroom hC.le
    rw [← ey, ← ex] at a1
    have hone : v'.oneCell' = true := by obtain ⟨_, _, rfl, _⟩ := a2; rfl
    have hb : Below w.heap.size w w' := below_grown a3 (Nat.le_refl _) (fun k hk => by simp [footV] at hk)
    have hf : ∀ b, footV v' = some b → w.heap.size ≤ b := fun b hb' => by
      rcases a4 b hb' with q | q
      · simp [footV] at q
      · exact q
    have hx : Ext ρ (upd ρ nx v') := ext_upd (hC.new nx (Nat.le_refl _))
    obtain ⟨env', hK, hE'⟩ := putK_spec (hE.ext hx) (v := .one (.ref nx)) ⟨upd_same _ _ _, hone⟩ h
    unfold Oper.wp
    rw [exec _ _ a1]
    exact ⟨_, env', _, _, hK, hE', hC.born a2 hb hf, ((below_of hW hC.le hb).ext hx).put⟩
  · exact h.elim
end
/-- a call's arguments, and what the callee has captured -/
theorem capN_spec {ρ : Rho} : ∀ {c : List Nat} {cs : List Value} {K : List SV → Prop}, CapsAre ρ c cs → capN c K → ∃ m, K m ∧ Svs ρ m cs
  | [], cs, K, hc, h => ⟨[], h, hc⟩
  | i :: r, cs, K, ⟨a, q, e, hx, hr⟩, h => by
    obtain ⟨m, hK, hm⟩ := capN_spec (K := fun l => K (.one (.ptr i 0 0 0) :: l)) hr h
    exact ⟨_, hK, _, q, hx, ⟨a, e, by simp [Addr.add]⟩, hm⟩
theorem capE_spec {ρ : Rho} : ∀ {l : List SV} {c : List Nat} {xs cs : List Value} {K : List SV → Prop}, Svs ρ l xs → CapsAre ρ c cs → capE l c K → ∃ m, K m ∧ Svs ρ m (xs ++ cs)
  | [], c, xs, cs, K, hl, hc, h => by
    obtain ⟨m, hK, hm⟩ := capN_spec hc h
    exact ⟨m, hK, by rw [show xs = [] from hl]; exact hm⟩
  | x :: l, c, xs, cs, K, ⟨u, r, hx, hu, hr⟩, hc, h => by
    obtain ⟨m, hK, hm⟩ := capE_spec (K := fun r => K (x :: r)) hr hc h
    exact ⟨_, hK, u, r ++ cs, by rw [hx]; rfl, hu, hm⟩
end Go.Proofs.Yteblbhbfdfifpaa.V
