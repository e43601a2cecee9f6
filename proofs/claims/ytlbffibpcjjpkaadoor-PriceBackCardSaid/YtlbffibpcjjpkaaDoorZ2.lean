/- Shared texts, one behind the other: VSound, VEff, VEff2, VEff3, VSound2, VDraw0, VDraw -/
import Derived.Maps.AppendAt
import Derived.Great.BuildSlice
import Derived.Laws.MakeOwn
import Derived.OrdersIn
import Derived.TacticsIn
import Derived.Deep.Quiet
import Derived.Test.YtlbffibpcjjpkaaDoorZ1
set_option linter.unusedVariables false
set_option linter.unusedSimpArgs false
set_option linter.unusedSectionVars false
set_option maxRecDepth 100000

namespace Go.Proofs.YtlbffibpcjjpkaaDoor.V
open Go Go.RowKit
variable [Dr]
set_option linter.unusedSectionVars false
theorem foot_row {ρ : Rho} {i t s n : Nat} {get : Nat → List Value} {A : Option Addr} {m c : Nat} (e : ρ i = some (.slice A m c)) : foot ρ i (.row t s n get) = if c = 0 then none else A.map (·.block) := by
  unfold foot
  rw [e]
  cases c with
  | zero => rfl
  | succ c => cases A <;> simp [base, e]
theorem foot_rowV {ρ : Rho} {i t s n : Nat} {get : Nat → List Value} {B : Nat} {w : World} {v : Value} (e : ρ i = some v) (h : RowIs B w v t s n get) : foot ρ i (.row t s n get) = footV v := by
  obtain ⟨A, c, rfl, _⟩ := h
  rw [foot_row e]; rfl
theorem RowIs.foot {B : Nat} {w : World} {v : Value} {t s n b : Nat} {get : Nat → List Value} (h : RowIs B w v t s n get) (hf : footV v = some b) : B ≤ b ∧ b < w.heap.size ∧ ∃ cur, w.heap[b]? = some (.cells cur t (0, 0)) := by
  obtain ⟨A, c, rfl, _, _, hh⟩ := h
  simp only [footV] at hf
  rcases hh with ⟨_, rfl⟩ | ⟨g, cur, rfl, hB, hg, _, hc, _⟩
  · simp at hf
  · rw [if_neg (by omega)] at hf
    injection hf with hf
    have hf : g = b := hf
    subst hf
    exact ⟨hB, (Array.getElem?_eq_some_iff.1 hg).1, cur, hg⟩
theorem RowIs.kept {B : Nat} {w w' : World} {v : Value} {t s n : Nat} {get : Nat → List Value} (h : RowIs B w v t s n get) (hk : ∀ b, footV v = some b → w'.heap[b]? = w.heap[b]?) : RowIs B w' v t s n get := by
  obtain ⟨A, c, rfl, hn, hs, hh⟩ := h
  refine ⟨A, c, rfl, hn, hs, ?_⟩
  rcases hh with hv | ⟨g, cur, rfl, hB, hg, hnc, hc, r⟩
  · exact .inl hv
  · exact .inr ⟨g, cur, rfl, hB, (hk g (by simp only [footV]; rw [if_neg (by omega)]; rfl)).trans hg, hnc, hc, r⟩
theorem RowIs.one {B : Nat} {w : World} {v : Value} {t s n : Nat} {get : Nat → List Value} (h : RowIs B w v t s n get) : v.oneCell' = true := by
  obtain ⟨A, c, rfl, _⟩ := h; rfl
theorem sub_lt {B : Nat} {ρ : Rho} {w : World} {i b : Nat} {o : Ob} (h : Sat B ρ w i o) (hs : sub o b) : B ≤ b ∧ b < w.heap.size := by
  cases o with
  | rws t e s N vs xs =>
    obtain ⟨k, ⟨n, g⟩, hk, hx, hf⟩ := hs
    have := (h.2.1 k n g hk hx).foot hf
    exact ⟨this.1, this.2.1⟩
  | _ => exact hs.elim
theorem foot_lt {B : Nat} {ρ : Rho} {w : World} {i b : Nat} {o : Ob} (h : Sat B ρ w i o) (hf : foot ρ i o = some b) : b < w.heap.size := by
  cases o with
  | box t l =>
    obtain ⟨b', cs, e, _, _, hh⟩ := h
    simp only [foot, base_ptr e, Option.map_some] at hf
    injection hf with hf; subst hf
    exact (Array.getElem?_eq_some_iff.1 hh).1
  | lit t s rows =>
    obtain ⟨b', cs, e, _, _, _, _, hh⟩ := h
    simp only [foot, base_sl e, Option.map_some] at hf
    injection hf with hf; subst hf
    exact (Array.getElem?_eq_some_iff.1 hh).1
  | arr s n get =>
    obtain ⟨v, e, A, c, rfl, _, _, hh⟩ := h
    cases n with
    | zero => simp [foot] at hf
    | succ n =>
      obtain ⟨a, rfl, hlt, _⟩ := hh 0 (by omega)
      simp only [foot, base_sl e, Option.map_some] at hf
      injection hf with hf; subst hf; exact hlt
  | cel l =>
    obtain ⟨v, cs, e, hl, a, rfl, hlt, _⟩ := h
    simp only [foot, base_ptr e, Option.map_some] at hf
    injection hf with hf; subst hf; exact hlt
  | row t s n get =>
    obtain ⟨v, e, A, c, rfl, _, _, hh⟩ := h
    rw [foot_row e] at hf
    rcases hh with ⟨_, rfl⟩ | ⟨g, cur, rfl, _, hg, _, hc, _⟩
    · simp at hf
    · rw [if_neg (by omega)] at hf
      injection hf with hf; subst hf
      exact (Array.getElem?_eq_some_iff.1 hg).1
  | tab g l =>
    obtain ⟨e, hlt, _⟩ := h
    simp only [foot, base_ptr e, Option.map_some] at hf
    injection hf with hf; subst hf; exact hlt
  | lp L env st =>
    obtain ⟨l, fn, tmps, D, e, _, hh, _⟩ := h
    simp only [foot, e] at hf
    injection hf with hf; subst hf
    exact (Array.getElem?_eq_some_iff.1 hh).1
  | rov v t s n get =>
    have hf : foot ρ i (.row t s n get) = some b := hf
    rw [foot_rowV h.1 h.2] at hf
    exact (h.2.foot hf).2.1
  | rws t e s N vs xs =>
    obtain ⟨⟨v, e, hr⟩, _⟩ := h
    have hf : foot ρ i (.row t 1 N fun k => [vs k]) = some b := hf
    rw [foot_rowV e hr] at hf
    exact (hr.foot hf).2.1
  | vw r a s => cases hf
  | dee s n vs xs => cases hf
  | eqv j v => cases hf
  | vh r b => cases hf
  | gone => cases hf
theorem mut_ge {B : Nat} {ρ : Rho} {w : World} {i b : Nat} {o : Ob} (h : Sat B ρ w i o) (hm : o.mut = true) (hf : foot ρ i o = some b) : B ≤ b := by
  cases o with
  | box t l =>
    obtain ⟨b', cs, e, hB, _, hh⟩ := h
    simp only [foot, base_ptr e, Option.map_some] at hf
    injection hf with hf; subst hf; exact hB
  | lit t s rows =>
    obtain ⟨b', cs, e, hB, _, _, _, hh⟩ := h
    simp only [foot, base_sl e, Option.map_some] at hf
    injection hf with hf; subst hf; exact hB
  | row t s n get =>
    obtain ⟨v, e, hr⟩ := h
    rw [foot_rowV e hr] at hf
    exact (hr.foot hf).1
  | lp L env st =>
    obtain ⟨l, fn, tmps, D, e, hB, hh, _⟩ := h
    simp only [foot, e] at hf
    injection hf with hf; subst hf; exact hB
  | rov v t s n get =>
    have hf : foot ρ i (.row t s n get) = some b := hf
    rw [foot_rowV h.1 h.2] at hf
    exact (h.2.foot hf).1
  | rws t e s N vs xs =>
    obtain ⟨⟨v, e, hr⟩, _⟩ := h
    have hf : foot ρ i (.row t 1 N fun k => [vs k]) = some b := hf
    rw [foot_rowV e hr] at hf
    exact (hr.foot hf).1
  | _ => cases hm
theorem ArrB.kept {B : Nat} {w w' : World} {v : Value} {s n : Nat} {get : Nat → List Value} (h : ArrB B w v s n get) (hk : ∀ b, b < B → w'.heap[b]? = w.heap[b]?) : ArrB B w' v s n get := by
  obtain ⟨A, c, e, h1, h2, hh⟩ := h
  refine ⟨A, c, e, h1, h2, fun k hlt => ?_⟩
  obtain ⟨a, q1, q2, q3, q4⟩ := hh k hlt
  refine ⟨a, q1, q2, q3, fun j u hu => ?_⟩
  rw [← q4 j u hu]
  exact World.cell?_of_block (by rw [block_of_add]; exact hk _ q2)
theorem Sat.keep {B : Nat} {ρ : Rho} {w w' : World} {i : Nat} {o : Ob} (h : Sat B ρ w i o) (hsz : w.heap.size ≤ w'.heap.size) (hk : ∀ b, foot ρ i o = some b → w'.heap[b]? = w.heap[b]?) (hk2 : ∀ b, sub o b → w'.heap[b]? = w.heap[b]?) (hk3 : ∀ b, b < B → w'.heap[b]? = w.heap[b]?) : Sat B ρ w' i o := by
  cases o with
  | box t l =>
    obtain ⟨b', cs, e, hB, hl, hh⟩ := h
    exact ⟨b', cs, e, hB, hl, (hk b' (by simp [foot, base_ptr e])).trans hh⟩
  | lit t s rows =>
    obtain ⟨b', cs, e, hB, hs, hn, hl, hh⟩ := h
    exact ⟨b', cs, e, hB, hs, hn, hl, (hk b' (by simp [foot, base_sl e])).trans hh⟩
  | arr s n get =>
    obtain ⟨v, e, A, c, rfl, hn, hc0, hh⟩ := h
    refine ⟨_, e, A, c, rfl, hn, hc0, fun k hk' => ?_⟩
    obtain ⟨a, rfl, hlt, hs, hc⟩ := hh k hk'
    refine ⟨a, rfl, Nat.lt_of_lt_of_le hlt hsz, hs, fun j u hu => ?_⟩
    rw [← hc j u hu]
    refine World.cell?_of_block ?_
    rw [block_of_add]
    refine hk _ ?_
    cases n with
    | zero => omega
    | succ n => simp [foot, base_sl e]
  | cel l =>
    obtain ⟨v, cs, e, hl, a, rfl, hlt, hc⟩ := h
    refine ⟨_, cs, e, hl, a, rfl, Nat.lt_of_lt_of_le hlt hsz, fun j u hu => ?_⟩
    rw [← hc j u hu]
    refine World.cell?_of_block ?_
    rw [block_of_add]
    exact hk _ (by simp [foot, base_ptr e])
  | row t s n get =>
    obtain ⟨v, e, A, c, rfl, hn, hs, hh⟩ := h
    refine ⟨_, e, A, c, rfl, hn, hs, ?_⟩
    rcases hh with hv | ⟨g, cur, rfl, hB, hg, hnc, hc, r⟩
    · exact .inl hv
    · exact .inr ⟨g, cur, rfl, hB, (hk g (by rw [foot_row e, if_neg (by omega)]; rfl)).trans hg, hnc, hc, r⟩
  | tab g l =>
    obtain ⟨e, hlt, hc, cs, t, fr, hh, hl⟩ := h
    refine ⟨e, Nat.lt_of_lt_of_le hlt hsz, fun j u hu => ?_, cs, t, fr, (hk g (by simp [foot, base_ptr e])).trans hh, hl⟩
    rw [← hc j u hu]
    exact World.cell?_of_block (hk g (by simp [foot, base_ptr e]))
  | lp L env st =>
    obtain ⟨l, fn, tmps, D, e, hB, hh, r⟩ := h
    exact ⟨l, fn, tmps, D, e, hB, (hk l (by simp [foot, e])).trans hh, r⟩
  | rov v t s n get => exact ⟨h.1, h.2.kept fun b hb => hk b ((foot_rowV h.1 h.2).trans hb)⟩
  | rws t e s N vs xs =>
    obtain ⟨⟨v, ev, hr⟩, hs, hd⟩ := h
    exact ⟨⟨v, ev, hr.kept fun b hb => hk b ((foot_rowV ev hr).trans hb)⟩, fun k n g h1 h2 => (hs k n g h1 h2).kept fun b hb => hk2 b ⟨k, _, h1, h2, hb⟩, hd⟩
  | vw r a s => exact h
  | dee s n vs xs =>
    obtain ⟨v, e, q1, q2⟩ := h
    exact ⟨v, e, q1.kept hk3, fun k j u s' m g h1 h2 h3 => (q2 k j u s' m g h1 h2 h3).kept hk3⟩
  | eqv j v => exact h
  | vh r b => exact h
  | gone => trivial
theorem Cls.belowK {B nx : Nat} {ρ : Rho} {obs : Obs} {w w' : World} (h : Cls B ρ obs nx w) (hb : Go.RowKit.Below w.heap.size w w') : Cls B ρ obs nx w' :=
  ⟨Nat.le_trans h.le hb.size, fun i o ho => (h.sat i o ho).keep hb.size (fun b hf => hb.block b (foot_lt (h.sat i o ho) hf)) (fun b hf => hb.block b (sub_lt (h.sat i o ho) hf).2) fun b hf => hb.block b (Nat.lt_of_lt_of_le hf h.le), h.apart, h.new, h.apx⟩
theorem Cls.below {B nx : Nat} {ρ : Rho} {obs : Obs} {w w' : World} (h : Cls B ρ obs nx w) (hb : Belw w.heap.size w w') : Cls B ρ obs nx w' := h.belowK hb.toBelow
theorem Cls.drawn {B nx : Nat} {ρ : Rho} {obs : Obs} {w : World} (h : Cls B ρ obs nx w) (n : Nat) : Cls B ρ obs nx { w with drawn := n } :=
  h.belowK ⟨rfl, rfl, rfl, Nat.le_refl _, fun _ _ => rfl⟩
theorem base_eq {ρ ρ' : Rho} {i : Nat} (h : ρ' i = ρ i) : base ρ' i = base ρ i := by unfold base; rw [h]
theorem foot_eq {ρ ρ' : Rho} {i : Nat} {o : Ob} (h : ρ' i = ρ i) : foot ρ' i o = foot ρ i o := by
  cases o <;> simp only [foot, base_eq h, h]
theorem EnvR.ext {sz : Nat} {ρ ρ' : Rho} {env : Env} {a : Act} (hE : EnvR sz ρ env a) (hx : Ext ρ ρ') : EnvR sz ρ' env a :=
  ⟨hE.size, fun t v h => let ⟨x, e, hv⟩ := hE.env t v h; ⟨x, e, SV.is_ext hx hv⟩⟩
theorem Sat.ext {B : Nat} {ρ ρ' : Rho} (hx : Ext ρ ρ') {w : World} {i : Nat} {o : Ob} (h : Sat B ρ w i o) : Sat B ρ' w i o := by
  cases o with
  | box t l => obtain ⟨b, cs, e, hB, hl, hh⟩ := h; exact ⟨b, cs, hx _ _ e, hB, hl.ext hx, hh⟩
  | lit t s rows => obtain ⟨b, cs, e, hB, hs, hn, hl, hh⟩ := h; exact ⟨b, cs, hx _ _ e, hB, hs, hn, hl.ext hx, hh⟩
  | arr s n get => obtain ⟨v, e, r⟩ := h; exact ⟨v, hx _ _ e, r⟩
  | cel l => obtain ⟨v, cs, e, hl, r⟩ := h; exact ⟨v, cs, hx _ _ e, hl.ext hx, r⟩
  | row t s n get => obtain ⟨v, e, r⟩ := h; exact ⟨v, hx _ _ e, r⟩
  | tab g l => obtain ⟨e, r⟩ := h; exact ⟨hx _ _ e, r⟩
  | lp L env st => obtain ⟨l, fn, tmps, D, e, hB, hh, r⟩ := h; exact ⟨l, fn, tmps, D, hx _ _ e, hB, hh, r.ext hx⟩
  | rov v t s n get => exact ⟨hx _ _ h.1, h.2⟩
  | rws t e s N vs xs => obtain ⟨⟨v, e, hr⟩, r⟩ := h; exact ⟨⟨v, hx _ _ e, hr⟩, r⟩
  | vw r a s => obtain ⟨A, n, c, e1, h1, e2⟩ := h; exact ⟨A, n, c, hx _ _ e1, h1, hx _ _ e2⟩
  | dee s n vs xs => obtain ⟨v, e, r⟩ := h; exact ⟨v, hx _ _ e, r⟩
  | eqv j v => exact ⟨hx _ _ h.1, hx _ _ h.2.1, h.2.2⟩
  | vh r b => obtain ⟨A, n, c, e1, h1, e2⟩ := h; exact ⟨A, n, c, hx _ _ e1, h1, hx _ _ e2⟩
  | gone => trivial
def upd (ρ : Rho) (i : Nat) (v : Value) : Rho := fun j => if j = i then some v else ρ j
theorem upd_same (ρ : Rho) (i : Nat) (v : Value) : upd ρ i v i = some v := by simp [upd]
theorem upd_ne {ρ : Rho} {i j : Nat} (v : Value) (h : j ≠ i) : upd ρ i v j = ρ j := by simp [upd, h]
theorem ext_upd {ρ : Rho} {i : Nat} {v : Value} (h : ρ i = none) : Ext ρ (upd ρ i v) := by
  intro j y hj
  by_cases e : j = i
  · subst e; rw [h] at hj; cases hj
  · rw [upd_ne v e]; exact hj
theorem fnd_cons {α : Type} {l : List (Nat × α)} {u t : Nat} {v x : α} (h : fnd ((u, v) :: l) t = some x) : (u = t ∧ v = x) ∨ (u ≠ t ∧ fnd l t = some x) := by
  unfold fnd at h
  cases hb : Nat.beq u t <;> simp only [hb] at h
  · exact .inr ⟨Nat.ne_of_beq_eq_false hb, h⟩
  · exact .inl ⟨Nat.eq_of_beq_eq_true hb, by injection h⟩
theorem Cls.more {B nx : Nat} {ρ : Rho} {obs : Obs} {w w' : World} {v : Value} {o : Ob} (h : Cls B ρ obs nx w) (hb : Belw w.heap.size w w') (hs : Sat B (upd ρ nx v) w' nx o)
    (hf : ∀ b, foot (upd ρ nx v) nx o = some b → w.heap.size ≤ b) (hns : ∀ b, ¬ sub o b := by exact fun _ h => h) : Cls B (upd ρ nx v) ((nx, o) :: obs) (nx + 1) w' := by
  have hx : Ext ρ (upd ρ nx v) := ext_upd (h.new nx (Nat.le_refl _))
  have old : ∀ i o', nx ≠ i → foot (upd ρ nx v) i o' = foot ρ i o' := fun i o' hn => foot_eq (upd_ne v (Ne.symm hn))
  refine ⟨Nat.le_trans h.le hb.size, fun i o' ho => ?_, fun i j o1 o2 b h1 h2 hne hm hf1 => ?_, fun i hi => ?_, fun i j o1 o2 b h1 h2 hb1 => ?_⟩
  · rcases fnd_cons ho with ⟨rfl, rfl⟩ | ⟨hn, ho⟩
    · exact hs
    · exact ((h.sat i o' ho).keep hb.size (fun b hf => hb.block b (foot_lt (h.sat i o' ho) hf)) (fun b hf => hb.block b (sub_lt (h.sat i o' ho) hf).2) fun b hf => hb.block b (Nat.lt_of_lt_of_le hf h.le)).ext hx
  · rcases fnd_cons h1 with ⟨rfl, rfl⟩ | ⟨hn1, h1⟩
    · rcases fnd_cons h2 with ⟨rfl, rfl⟩ | ⟨hn2, h2⟩
      · exact absurd rfl hne
      · intro e
        rw [old _ _ hn2] at e
        have := foot_lt (h.sat j o2 h2) e
        have := hf b hf1
        omega
    · rw [old _ _ hn1] at hf1
      rcases fnd_cons h2 with ⟨rfl, rfl⟩ | ⟨hn2, h2⟩
      · intro e
        have := foot_lt (h.sat i o1 h1) hf1
        have := hf b e
        omega
      · rw [old _ _ hn2]
        exact h.apart i j o1 o2 b h1 h2 hne hm hf1
  · rw [upd_ne v (by omega)]; exact h.new i (by omega)
  · rcases fnd_cons h1 with ⟨rfl, rfl⟩ | ⟨hn1, h1⟩
    · exact absurd hb1 (hns b)
    · rcases fnd_cons h2 with ⟨rfl, rfl⟩ | ⟨hn2, h2⟩
      · refine ⟨fun e => ?_, fun _ => hns b⟩
        have := (sub_lt (h.sat i o1 h1) hb1).2
        have := hf b e
        omega
      · rw [old _ _ hn2]
        exact h.apx i j o1 o2 b h1 h2 hb1
theorem putK_spec {sz : Nat} {ρ : Rho} {env : Env} {a : Act} (hE : EnvR sz ρ env a) {dst : Option Tmp} {v : SV} {x : Value} {K : Env → Prop} (hv : v.is ρ x) (h : putK sz dst v env K) : ∃ env', K env' ∧ EnvR sz ρ env' (a.put dst x) := by
  unfold putK at h
  cases dst with
  | none => exact ⟨env, h, hE⟩
  | some d =>
    simp only at h
    cases hb : Nat.blt d sz <;> simp only [hb] at h
    have hd : d < sz := by simpa [Nat.blt_eq] using hb
    refine ⟨_, h, by simp [Act.put, hE.size], fun t u hu => ?_⟩
    rcases fnd_cons hu with ⟨rfl, rfl⟩ | ⟨hn, hu⟩
    · exact ⟨x, by simp [Act.put, hE.size, hd], hv⟩
    · obtain ⟨y, hy, h2⟩ := hE.env t u hu
      exact ⟨y, by simp only [Act.put]; rw [Array.getElem?_setIfInBounds_ne hn]; exact hy, h2⟩
theorem undef_is (ρ : Rho) : (SV.tup []).is ρ undef := ⟨[], rfl, rfl⟩
theorem heap_setCell_same {w : World} {b o : Nat} {c : Array Value} {t : TypeId} {fr : Nat × Nat} (h : w.heap[b]? = some (.cells c t fr)) (v : Value) : (w.setCell ⟨b, o, none⟩ v).heap[b]? = some (.cells (c.setIfInBounds o v) t fr) := by
  simp [World.setCell, Array.getElem?_modify, h]
theorem setCells_row {b : Nat} {t : TypeId} {fr : Nat × Nat} : ∀ (vs : List Value) (o : Nat) (w : World) (c : Array Value), w.heap[b]? = some (.cells c t fr) → o + vs.length ≤ c.size →
    (w.setCells b o vs).heap[b]? = some (.cells (laid c.toList o vs).toArray t fr) ∧ (w.setCells b o vs).heap.size = w.heap.size ∧ (w.setCells b o vs).os = w.os ∧ (w.setCells b o vs).tape = w.tape ∧ (w.setCells b o vs).output = w.output ∧
      ∀ k, k ≠ b → (w.setCells b o vs).heap[k]? = w.heap[k]?
  | [], o, w, c, h, _ => ⟨by rw [show (w.setCells b o []) = w from rfl, h]; simp [laid], rfl, rfl, rfl, rfl, fun _ _ => rfl⟩
  | v :: vs, o, w, c, h, hl => by
    simp only [List.length_cons] at hl
    have h1 := heap_setCell_same (o := o) h v
    obtain ⟨a1, a2, a3, a4, a5, a6⟩ := setCells_row vs (o + 1) (w.setCell ⟨b, o, none⟩ v) _ h1 (by simp; omega)
    have e : w.setCells b o (v :: vs) = (w.setCell ⟨b, o, none⟩ v).setCells b (o + 1) vs := rfl
    rw [e]
    refine ⟨?_, ?_, a3, a4, a5, fun k hk => ?_⟩
    · rw [a1, laid_cons (by simp; omega)]; simp
    · rw [a2]; simp [World.setCell]
    · rw [a6 k hk, Below.heap_setCell _ _ _ _ (by simpa using hk)]
theorem Cls.setA {B nx : Nat} {ρ : Rho} {obs : Obs} {w w' : World} {i b : Nat} {o o' : Ob} (h : Cls B ρ obs nx w) (ho : fnd obs i = some o) (hm : o.mut = true) (hf : foot ρ i o = some b) (hf' : foot ρ i o' = some b ∨ foot ρ i o' = none)
    (hsz : w'.heap.size = w.heap.size) (hk : ∀ k, k ≠ b → w'.heap[k]? = w.heap[k]?) (hs : Sat B ρ w' i o') (hns : ∀ b, ¬ sub o' b := by exact fun _ h => h) : Cls B ρ ((i, o') :: obs) nx w' := by
  refine ⟨by rw [hsz]; exact h.le, fun j u hu => ?_, fun j k o1 o2 c h1 h2 hne hmu hf1 => ?_, h.new, fun j k o1 o2 c h1 h2 hc => ?_⟩
  · rcases fnd_cons hu with ⟨rfl, rfl⟩ | ⟨hn, hu⟩
    · exact hs
    · exact (h.sat j u hu).keep (by omega) (fun c hc => hk c (fun e => by subst e; exact h.apart i j o u c ho hu hn hm hf hc)) (fun c hc => hk c fun e => by subst e; exact (h.apx j i u o c hu ho hc).1 hf) fun c hc => hk c fun e => by subst e; have := mut_ge (h.sat i o ho) hm hf; omega
  · rcases fnd_cons h1 with ⟨rfl, rfl⟩ | ⟨hn1, h1⟩
    · rcases fnd_cons h2 with ⟨rfl, rfl⟩ | ⟨hn2, h2⟩
      · exact absurd rfl hne
      · rcases hf' with hf' | hf' <;> rw [hf'] at hf1
        · injection hf1 with hf1; subst hf1
          exact h.apart i k o o2 b ho h2 hn2 hm hf
        · cases hf1
    · rcases fnd_cons h2 with ⟨rfl, rfl⟩ | ⟨hn2, h2⟩
      · intro e
        rcases hf' with hf' | hf' <;> rw [hf'] at e
        · injection e with e; subst e
          exact h.apart i j o o1 b ho h1 hn1 hm hf hf1
        · cases e
      · exact h.apart j k o1 o2 c h1 h2 hne hmu hf1
  · rcases fnd_cons h1 with ⟨rfl, rfl⟩ | ⟨hn1, h1⟩
    · exact absurd hc (hns c)
    · rcases fnd_cons h2 with ⟨rfl, rfl⟩ | ⟨hn2, h2⟩
      · refine ⟨fun e => ?_, fun _ => hns c⟩
        rcases hf' with q | q <;> rw [q] at e
        · injection e with e; subst e
          exact (h.apx j i o1 o b h1 ho hc).1 hf
        · cases e
      · exact h.apx j k o1 o2 c h1 h2 hc
theorem Cls.set {B nx : Nat} {ρ : Rho} {obs : Obs} {w w' : World} {i b : Nat} {o o' : Ob} (h : Cls B ρ obs nx w) (ho : fnd obs i = some o) (hm : o.mut = true) (hf : foot ρ i o = some b) (hf' : foot ρ i o' = some b ∨ foot ρ i o' = none) (hm' : o'.mut = true)
    (hsz : w'.heap.size = w.heap.size) (hk : ∀ k, k ≠ b → w'.heap[k]? = w.heap[k]?) (hs : Sat B ρ w' i o') (hns : ∀ b, ¬ sub o' b := by exact fun _ h => h) : Cls B ρ ((i, o') :: obs) nx w' :=
  h.setA ho hm hf hf' hsz hk hs hns
def Apx (ρ : Rho) (obs : Obs) : Prop := ∀ i j o o' b, fnd obs i = some o → fnd obs j = some o' → sub o b → foot ρ j o' ≠ some b ∧ (i ≠ j → ¬ sub o' b)
theorem Apx.cons {ρ ρ' : Rho} {obs : Obs} {i : Nat} {o' : Ob} (h : Apx ρ obs) (old : ∀ j u, i ≠ j → fnd obs j = some u → foot ρ' j u = foot ρ j u) (hf : ∀ j u b, i ≠ j → fnd obs j = some u → sub u b → foot ρ' i o' ≠ some b) (hns : ∀ b, ¬ sub o' b := by exact fun _ h => h) : Apx ρ' ((i, o') :: obs) := fun j k o1 o2 b h1 h2 hb => by
  rcases fnd_cons h1 with ⟨rfl, rfl⟩ | ⟨hn1, h1⟩
  · exact absurd hb (hns b)
  · rcases fnd_cons h2 with ⟨rfl, rfl⟩ | ⟨hn2, h2⟩
    · exact ⟨hf j o1 b hn1 h1 hb, fun _ => hns b⟩
    · rw [old k o2 hn2 h2]
      exact h j k o1 o2 b h1 h2 hb
theorem Cls.put {B nx : Nat} {ρ : Rho} {obs : Obs} {w w' : World} {i r k t e s n m : Nat} {vs : Nat → Value} {xs : Nat → Option (Nat × (Nat → List Value))} {g : Nat → List Value} {v v' : Value} (h : Cls B ρ obs nx w) (ho : fnd obs i = some (.rws t e s n vs xs)) (hr : fnd obs r = some (.row e s m g)) (hne : r ≠ i)
    (hv : ρ i = some v) (hv' : ρ r = some v') (hrow : RowIs B w' v t 1 n fun j => [putX vs k v' j]) (hsz : w'.heap.size = w.heap.size) (hk : ∀ q, footV v ≠ some q → w'.heap[q]? = w.heap[q]?) : Cls B ρ ((i, .rws t e s n (putX vs k v') (putX xs k (some (m, g)))) :: (r, .gone) :: obs) nx w' := by
  obtain ⟨⟨v0, e0, hr0⟩, hs0, hd0⟩ := h.sat i _ ho
  rw [hv] at e0; injection e0 with e0; subst e0
  obtain ⟨v1, e1, hr1⟩ := h.sat r _ hr
  rw [hv'] at e1; injection e1 with e1; subst e1
  have fi : ∀ t e s n vs xs, foot ρ i (.rws t e s n vs xs) = footV v := fun _ _ _ _ _ _ => foot_rowV (t := t) (s := 1) (n := n) hv hr0
  have fr : foot ρ r (.row e s m g) = footV v' := foot_rowV hv' hr1
  have ri : ∀ b, footV v' = some b → footV v ≠ some b := fun b hb q => h.apart r i _ _ b hr ho hne rfl (fr.trans hb) ((fi _ _ _ _ _ _).trans q)
  have own : ∀ b, sub (.rws t e s n vs xs) b → footV v ≠ some b := fun b hb q => (h.apx i i _ _ b ho ho hb).1 ((fi _ _ _ _ _ _).trans q)
  have subs : ∀ b, sub (.rws t e s n (putX vs k v') (putX xs k (some (m, g)))) b → footV v' = some b ∨ sub (.rws t e s n vs xs) b := fun b ⟨q, x, h1, h2, h3⟩ => by
    unfold putX at h2 h3
    by_cases hq : q = k
    · rw [if_pos hq] at h3; exact .inl h3
    · rw [if_neg hq] at h2 h3; exact .inr ⟨q, x, h1, h2, h3⟩
  refine ⟨by rw [hsz]; exact h.le, fun j u hu => ?_, fun j p o1 o2 c h1 h2 hne' hmu hf1 => ?_, h.new, fun j p o1 o2 c h1 h2 hc => ?_⟩
  · rcases fnd_cons hu with ⟨rfl, rfl⟩ | ⟨hn, hu⟩
    · refine ⟨⟨v, hv, hrow⟩, fun q n' g' h1 h2 => ?_, fun q q' x y b h1 h2 hq h3 h4 h5 h6 => ?_⟩
      · unfold putX at h2 ⊢
        by_cases hq : q = k
        · rw [if_pos hq] at h2 ⊢
          injection h2 with h2; injection h2 with h2 h3; subst h2 h3
          exact hr1.kept fun b hb => hk b (ri b hb)
        · rw [if_neg hq] at h2 ⊢
          exact (hs0 q n' g' h1 h2).kept fun b hb => hk b (own b ⟨q, _, h1, h2, hb⟩)
      · unfold putX at h3 h4 h5 h6
        by_cases e1 : q = k
        · rw [if_pos e1] at h3 h5
          have e2 : q' ≠ k := fun z => hq (e1.trans z.symm)
          rw [if_neg e2] at h4 h6
          exact (h.apx i r _ _ b ho hr ⟨q', _, h2, h4, h6⟩).1 (fr.trans h5)
        · rw [if_neg e1] at h3 h5
          by_cases e2 : q' = k
          · rw [if_pos e2] at h4 h6
            exact (h.apx i r _ _ b ho hr ⟨q, _, h1, h3, h5⟩).1 (fr.trans h6)
          · rw [if_neg e2] at h4 h6
            exact hd0 q q' x y b h1 h2 hq h3 h4 h5 h6
    · rcases fnd_cons hu with ⟨rfl, rfl⟩ | ⟨hn2, hu⟩
      · trivial
      · exact (h.sat j u hu).keep (by omega) (fun c hc => hk c fun q => h.apart i j _ u c ho hu hn rfl ((fi _ _ _ _ _ _).trans q) hc) (fun c hc => hk c fun q => (h.apx j i u _ c hu ho hc).1 ((fi _ _ _ _ _ _).trans q)) fun c hc => hk c fun q => by have := mut_ge (h.sat i _ ho) rfl ((fi _ _ _ _ _ _).trans q); omega
  · rcases fnd_cons h1 with ⟨rfl, rfl⟩ | ⟨hn1, h1⟩
    · rw [fi] at hf1
      rcases fnd_cons h2 with ⟨rfl, rfl⟩ | ⟨hn2, h2⟩
      · exact absurd rfl hne'
      · rcases fnd_cons h2 with ⟨rfl, rfl⟩ | ⟨hn3, h2⟩
        · intro q; cases q
        · exact h.apart i p _ o2 c ho h2 hne' rfl ((fi _ _ _ _ _ _).trans hf1)
    · rcases fnd_cons h1 with ⟨rfl, rfl⟩ | ⟨hn3, h1⟩
      · cases hmu
      · rcases fnd_cons h2 with ⟨rfl, rfl⟩ | ⟨hn2, h2⟩
        · rw [fi]
          exact fun q => h.apart j i o1 _ c h1 ho hne' hmu hf1 ((fi _ _ _ _ _ _).trans q)
        · rcases fnd_cons h2 with ⟨rfl, rfl⟩ | ⟨hn4, h2⟩
          · intro q; cases q
          · exact h.apart j p o1 o2 c h1 h2 hne' hmu hf1
  · rcases fnd_cons h1 with ⟨rfl, rfl⟩ | ⟨hn1, h1⟩
    · rcases subs c hc with q | q
      · rcases fnd_cons h2 with ⟨rfl, rfl⟩ | ⟨hn2, h2⟩
        · exact ⟨by rw [fi]; exact ri c q, fun z => absurd rfl z⟩
        · rcases fnd_cons h2 with ⟨rfl, rfl⟩ | ⟨hn3, h2⟩
          · exact ⟨fun z => (by cases z), fun _ z => z.elim⟩
          · exact ⟨h.apart r p _ o2 c hr h2 hn3 rfl (fr.trans q), fun _ z => (h.apx p r o2 _ c h2 hr z).1 (fr.trans q)⟩
      · rcases fnd_cons h2 with ⟨rfl, rfl⟩ | ⟨hn2, h2⟩
        · exact ⟨by rw [fi]; exact own c q, fun z => absurd rfl z⟩
        · rcases fnd_cons h2 with ⟨rfl, rfl⟩ | ⟨hn3, h2⟩
          · exact ⟨fun z => (by cases z), fun _ z => z.elim⟩
          · exact h.apx i p _ o2 c ho h2 q
    · rcases fnd_cons h1 with ⟨rfl, rfl⟩ | ⟨hn3, h1⟩
      · exact hc.elim
      · rcases fnd_cons h2 with ⟨rfl, rfl⟩ | ⟨hn2, h2⟩
        · refine ⟨by rw [fi]; exact fun q => (h.apx j i o1 _ c h1 ho hc).1 ((fi _ _ _ _ _ _).trans q), fun _ z => ?_⟩
          rcases subs c z with q | q
          · exact (h.apx j r o1 _ c h1 hr hc).1 (fr.trans q)
          · exact (h.apx j i o1 _ c h1 ho hc).2 (Ne.symm hn1) q
        · rcases fnd_cons h2 with ⟨rfl, rfl⟩ | ⟨hn4, h2⟩
          · exact ⟨fun z => (by cases z), fun _ z => z.elim⟩
          · exact h.apx j p o1 o2 c h1 h2 hc
theorem Cls.out {B nx : Nat} {ρ : Rho} {obs : Obs} {w : World} {i k t e s n m : Nat} {vs : Nat → Value} {xs : Nat → Option (Nat × (Nat → List Value))} {g : Nat → List Value} {o : Ob} (h : Cls B ρ obs nx w) (ho : fnd obs i = some (.rws t e s n vs xs)) (hk : k < n) (hx : xs k = some (m, g))
    (hO : o = .rov (vs k) e s m g ∨ o = .row e s m g) : Cls B (upd ρ nx (vs k)) ((nx, o) :: (i, .rws t e s n vs (putX xs k none)) :: obs) (nx + 1) w ∧ (vs k).oneCell' = true := by
  obtain ⟨⟨v, hv, hr⟩, hs, hd⟩ := h.sat i _ ho
  have hrk := hs k m g hk hx
  have hX : Ext ρ (upd ρ nx (vs k)) := ext_upd (h.new nx (Nat.le_refl _))
  have hin : i ≠ nx := fun e => by rw [e, h.new nx (Nat.le_refl _)] at hv; cases hv
  have old : ∀ j o', nx ≠ j → foot (upd ρ nx (vs k)) j o' = foot ρ j o' := fun j o' hn => foot_eq (upd_ne _ (Ne.symm hn))
  have fn_ : foot (upd ρ nx (vs k)) nx o = footV (vs k) := by
    rcases hO with rfl | rfl <;> exact foot_rowV (t := e) (s := s) (n := m) (get := g) (upd_same _ _ _) hrk
  have mu : o.mut = true := by rcases hO with rfl | rfl <;> rfl
  have ns : ∀ b, ¬ sub o b := by rcases hO with rfl | rfl <;> exact fun _ z => z
  have less : ∀ b, sub (.rws t e s n vs (putX xs k none)) b → sub (.rws t e s n vs xs) b ∧ footV (vs k) ≠ some b := fun b ⟨q, x, h1, h2, h3⟩ => by
    unfold putX at h2
    by_cases hq : q = k
    · rw [if_pos hq] at h2; cases h2
    · rw [if_neg hq] at h2
      exact ⟨⟨q, x, h1, h2, h3⟩, hd q k x (m, g) b h1 hk hq h2 hx h3⟩
  have mine : ∀ b, footV (vs k) = some b → sub (.rws t e s n vs xs) b := fun b hb => ⟨k, _, hk, hx, hb⟩
  refine ⟨⟨h.le, fun j u hu => ?_, fun j p o1 o2 c h1 h2 hne hmu hf1 => ?_, fun j hj => ?_, fun j p o1 o2 c h1 h2 hc => ?_⟩, hrk.one⟩
  · rcases fnd_cons hu with ⟨rfl, rfl⟩ | ⟨hn, hu⟩
    · rcases hO with rfl | rfl
      · exact ⟨upd_same _ _ _, hrk⟩
      · exact ⟨_, upd_same _ _ _, hrk⟩
    · rcases fnd_cons hu with ⟨rfl, rfl⟩ | ⟨hn2, hu⟩
      · refine Sat.ext hX (o := .rws t e s n vs (putX xs k none)) ⟨⟨v, hv, hr⟩, fun q n' g' h1 h2 => ?_, fun q q' x y b h1 h2 hq h3 h4 => ?_⟩
        · unfold putX at h2
          by_cases hq : q = k
          · rw [if_pos hq] at h2; cases h2
          · rw [if_neg hq] at h2; exact hs q n' g' h1 h2
        · unfold putX at h3 h4
          by_cases e1 : q = k
          · rw [if_pos e1] at h3; cases h3
          · by_cases e2 : q' = k
            · rw [if_pos e2] at h4; cases h4
            · rw [if_neg e1] at h3; rw [if_neg e2] at h4
              exact hd q q' x y b h1 h2 hq h3 h4
      · exact (h.sat j u hu).ext hX
  · rcases fnd_cons h1 with ⟨rfl, rfl⟩ | ⟨hn1, h1⟩
    · rw [fn_] at hf1
      rcases fnd_cons h2 with ⟨rfl, rfl⟩ | ⟨hn2, h2⟩
      · exact absurd rfl hne
      · rw [old _ _ hn2]
        rcases fnd_cons h2 with ⟨rfl, rfl⟩ | ⟨hn3, h2⟩
        · exact (h.apx i i _ _ c ho ho (mine c hf1)).1
        · exact (h.apx i p _ o2 c ho h2 (mine c hf1)).1
    · rw [old _ _ hn1] at hf1
      rcases fnd_cons h2 with ⟨rfl, rfl⟩ | ⟨hn2, h2⟩
      · rw [fn_]
        intro q
        rcases fnd_cons h1 with ⟨rfl, rfl⟩ | ⟨hn3, h1⟩
        · exact (h.apx i i _ _ c ho ho (mine c q)).1 hf1
        · exact (h.apx i j _ o1 c ho h1 (mine c q)).1 hf1
      · rw [old _ _ hn2]
        rcases fnd_cons h1 with ⟨rfl, rfl⟩ | ⟨hn3, h1⟩
        · rcases fnd_cons h2 with ⟨rfl, rfl⟩ | ⟨hn4, h2⟩
          · exact absurd rfl hne
          · exact h.apart i p _ o2 c ho h2 hne rfl hf1
        · rcases fnd_cons h2 with ⟨rfl, rfl⟩ | ⟨hn4, h2⟩
          · exact fun q => h.apart j i o1 (.rws t e s n vs xs) c h1 ho hne hmu hf1 q
          · exact h.apart j p o1 o2 c h1 h2 hne hmu hf1
  · rw [upd_ne _ (by omega)]; exact h.new j (by omega)
  · rcases fnd_cons h1 with ⟨rfl, rfl⟩ | ⟨hn1, h1⟩
    · exact absurd hc (ns c)
    · rcases fnd_cons h1 with ⟨rfl, rfl⟩ | ⟨hn3, h1⟩
      · obtain ⟨l1, l2⟩ := less c hc
        rcases fnd_cons h2 with ⟨rfl, rfl⟩ | ⟨hn2, h2⟩
        · exact ⟨by rw [fn_]; exact l2, fun _ => ns c⟩
        · rw [old _ _ hn2]
          rcases fnd_cons h2 with ⟨rfl, rfl⟩ | ⟨hn4, h2⟩
          · exact ⟨(h.apx i i _ _ c ho ho l1).1, fun z => absurd rfl z⟩
          · exact h.apx i p _ o2 c ho h2 l1
      · rcases fnd_cons h2 with ⟨rfl, rfl⟩ | ⟨hn2, h2⟩
        · refine ⟨?_, fun _ => ns c⟩
          rw [fn_]
          exact fun q => (h.apx j i o1 _ c h1 ho hc).2 (Ne.symm hn3) (mine c q)
        · rw [old _ _ hn2]
          rcases fnd_cons h2 with ⟨rfl, rfl⟩ | ⟨hn4, h2⟩
          · exact ⟨(h.apx j i o1 _ c h1 ho hc).1, fun z w => (h.apx j i o1 _ c h1 ho hc).2 z (less c w).1⟩
          · exact h.apx j p o1 o2 c h1 h2 hc
theorem closeK_spec {ρ : Rho} : ∀ {l : List At} {K : List Value → Prop}, closeK l K → ∃ vs, K vs ∧ Ats ρ l vs ∧ ∀ v ∈ vs, v.oneCell' = true
  | [], K, h => ⟨[], h, rfl, by simp⟩
  | .val v :: r, K, h => by
    unfold closeK at h
    cases hb : v.oneCell' <;> simp only [hb] at h
    obtain ⟨vs, hK, hr, h1⟩ := closeK_spec h
    exact ⟨v :: vs, hK, ⟨v, vs, rfl, rfl, hr⟩, by simpa using ⟨hb, h1⟩⟩
  | .tf b :: r, K, h => by
    unfold closeK at h
    obtain ⟨vs, hK, hr, h1⟩ := closeK_spec h
    exact ⟨.bool b :: vs, hK, ⟨.bool b, vs, rfl, rfl, hr⟩, by simpa using ⟨rfl, h1⟩⟩
  | .prop p :: r, K, h => by
    unfold closeK at h
    obtain ⟨b, hb⟩ : ∃ b : Bool, b = true ↔ p := by
      rcases Classical.em p with q | q
      · exact ⟨true, by simp [q]⟩
      · exact ⟨false, by simp [q]⟩
    obtain ⟨vs, hK, hr, h1⟩ := closeK_spec (h.h b hb)
    exact ⟨.bool b :: vs, hK, ⟨.bool b, vs, rfl, ⟨b, rfl, hb⟩, hr⟩, by simpa using ⟨rfl, h1⟩⟩
  | .ptr _ _ _ _ :: _, _, h => h.elim
  | .ref _ :: _, _, h => h.elim
  | .clo _ _ :: _, _, h => h.elim
theorem flat_length {get : Nat → List Value} {s : Nat} : ∀ {n : Nat}, (∀ k, k < n → (get k).length = s) → (flat get n).length = n * s
  | 0, _ => by simp [flat]
  | n + 1, h => by
    have e : flat get (n + 1) = flat get n ++ get n := by unfold flat; rw [List.range_succ, List.flatMap_append]; simp
    rw [e, List.length_append, flat_length (fun k hk => h k (by omega)), h n (by omega), Nat.add_mul, Nat.one_mul]
theorem flat_cut {s : Nat} : ∀ {n : Nat} {l : List Value}, l.length = n * s → flat (fun k => (l.drop (k * s)).take s) n = l
  | 0, l, h => by
    have : l = [] := List.length_eq_zero_iff.1 (by omega)
    subst this; rfl
  | n + 1, l, h => by
    have e : flat (fun k => (l.drop (k * s)).take s) (n + 1) = flat (fun k => (l.drop (k * s)).take s) n ++ (l.drop (n * s)).take s := by unfold flat; rw [List.range_succ, List.flatMap_append]; simp
    have hl : (l.take (n * s)).length = n * s := by rw [List.length_take, h, Nat.add_mul]; omega
    have ih := flat_cut (n := n) (l := l.take (n * s)) hl
    have e2 : flat (fun k => (l.drop (k * s)).take s) n = flat (fun k => ((l.take (n * s)).drop (k * s)).take s) n := by
      unfold flat
      rw [List.flatMap_def, List.flatMap_def]
      congr 1
      refine List.map_congr_left fun k hk => ?_
      have hk := List.mem_range.1 hk
      have : (k + 1) * s ≤ n * s := Nat.mul_le_mul_right s hk
      rw [Nat.add_mul, Nat.one_mul] at this
      rw [List.drop_take, List.take_take, Nat.min_eq_left (by omega)]
    rw [e, e2, ih, List.take_of_length_le (l := l.drop (n * s)) (by rw [List.length_drop, h, Nat.add_mul]; omega), List.take_append_drop]
theorem laid_get {α : Type} {l ys : List α} {j p : Nat} (h : j + ys.length ≤ l.length) : (laid l j ys)[p]? = if p < j then l[p]? else if p < j + ys.length then ys[p - j]? else l[p]? := by
  unfold laid
  have e : (l.take j).length = j := by simp; omega
  by_cases c1 : p < j
  · rw [if_pos c1, List.append_assoc, List.getElem?_append_left (by omega), List.getElem?_take_of_lt c1]
  · rw [if_neg c1, List.append_assoc, List.getElem?_append_right (by omega), e]
    by_cases c2 : p < j + ys.length
    · rw [if_pos c2, List.getElem?_append_left (by omega)]
    · rw [if_neg c2, List.getElem?_append_right (by omega), List.getElem?_drop]
      congr 1; omega
theorem laid_length {α : Type} {l ys : List α} {j : Nat} (h : j + ys.length ≤ l.length) : (laid l j ys).length = l.length := by
  unfold laid; simp; omega
theorem flat_set {get g : Nat → List Value} {s n k j : Nat} {vs : List Value} (h : ∀ k, k < n → (get k).length = s) (hk : k < n) (hj : j + vs.length ≤ s) (hg : ∀ k', k' < n → g k' = if k' = k then laid (get k) j vs else get k') :
    flat g n = laid (flat get n) (k * s + j) vs ∧ ∀ k', k' < n → (g k').length = s := by
  have hsk := h k hk
  have hlen : ∀ k', k' < n → (g k').length = s := by
    intro k' hk'
    rw [hg k' hk']
    split
    · rw [laid_length (by omega)]; exact hsk
    · exact h k' hk'
  refine ⟨?_, hlen⟩
  have hfl := flat_length h
  have hks : k * s + s ≤ n * s := by
    have : (k + 1) * s ≤ n * s := Nat.mul_le_mul_right _ hk
    rwa [Nat.add_mul, Nat.one_mul] at this
  have l1 := flat_length hlen
  apply List.ext_getElem?
  intro p
  rw [laid_get (by omega)]
  by_cases hp : p < n * s
  · have hs0 : 0 < s := by
      rcases Nat.eq_zero_or_pos s with e | e
      · rw [e, Nat.mul_zero] at hp; omega
      · exact e
    obtain ⟨q, r, hr, rfl⟩ : ∃ q r, r < s ∧ p = q * s + r := ⟨p / s, p % s, Nat.mod_lt _ hs0, by rw [Nat.mul_comm]; exact (Nat.div_add_mod p s).symm⟩
    have hq : q < n := by
      rcases Nat.lt_or_ge q n with c | c
      · exact c
      · have : n * s ≤ q * s := Nat.mul_le_mul_right _ c
        omega
    have val : ∀ {f : Nat → List Value}, (∀ k, k < n → (f k).length = s) → (flat f n)[q * s + r]? = (f q)[r]? := fun {f} hf => by
      have e1 : (f q)[r]? = some ((f q)[r]'(by rw [hf _ hq]; exact hr)) := List.getElem?_eq_getElem _
      rw [e1]; exact flat_get hf hq e1
    rw [val hlen, val h, hg q hq]
    by_cases hqk : q = k
    · subst hqk
      rw [if_pos rfl, laid_get (by omega)]
      by_cases c1 : r < j
      · rw [if_pos c1, if_pos (by omega)]
      · by_cases c2 : r < j + vs.length
        · rw [if_neg c1, if_pos c2, if_neg (by omega), if_pos (by omega)]; congr 1; omega
        · rw [if_neg c1, if_neg c2, if_neg (by omega), if_neg (by omega)]
    · rw [if_neg hqk]
      rcases Nat.lt_or_gt_of_ne hqk with c | c
      · have : (q + 1) * s ≤ k * s := Nat.mul_le_mul_right _ c
        rw [Nat.add_mul, Nat.one_mul] at this
        rw [if_pos (by omega)]
      · have : (k + 1) * s ≤ q * s := Nat.mul_le_mul_right _ c
        rw [Nat.add_mul, Nat.one_mul] at this
        rw [if_neg (by omega), if_neg (by omega)]
  · rw [List.getElem?_eq_none (by omega), if_neg (by omega), if_neg (by omega), List.getElem?_eq_none (by omega)]
theorem oth_of {w w' : World} (h : Belw w.heap.size w w') : Oth w w' := fun k D hk => (h.block k (Array.getElem?_eq_some_iff.1 hk).1).trans hk
theorem Oth.refl (w : World) : Oth w w := fun _ _ h => h
theorem Oth.trans {a b c : World} (h : Oth a b) (k : Oth b c) : Oth a c := fun i D hi => k i D (h i D hi)
theorem oth_one {w w' : World} {b : Nat} (hk : ∀ k, k ≠ b → w'.heap[k]? = w.heap[k]?) (hb : ∀ D, w.heap[b]? ≠ some (.deferred D)) : Oth w w' := fun k D h => by
  by_cases e : k = b
  · subst e; exact absurd h (hb D)
  · exact (hk k e).trans h
theorem Wy.trans {B : Nat} {s : St} {ρ : Rho} {ds : List Deferred} {w w' : World} (h : Wy B s ρ ds w) (k : Belw B w w') (ko : Oth w w') : Wy B s ρ ds w' :=
  ⟨h.b.trans k, h.o.trans ko, h.e, let ⟨Ds, e, hn, hd⟩ := h.m; ⟨Ds, e, hn, fun D hD => ⟨(hd D hD).1, (hd D hD).2.1, ko D _ (hd D hD).2.2⟩⟩⟩
theorem Wy.ext {B : Nat} {s : St} {ρ ρ' : Rho} {ds : List Deferred} {w : World} (h : Wy B s ρ ds w) (k : Ext ρ ρ') : Wy B s ρ' ds w := ⟨h.b, h.o, fun i y hi hy => k i y (h.e i y hi hy), h.m⟩
theorem put_dfs (a : Act) (d : Option Tmp) (v : Value) : (a.put d v).defers = a.defers := by cases d <;> rfl
theorem Wy.put {B : Nat} {s : St} {ρ : Rho} {a : Act} {w : World} (h : Wy B s ρ a.defers w) {d : Option Tmp} {v : Value} : Wy B s ρ (a.put d v).defers w := by rw [put_dfs]; exact h
theorem NxA.nx {B : Nat} {w0 : St} {sz : Nat} {K : Env → Obs → Nat → Prop} {w1 : World} {a : Act} {w : World} (h : NxA B w0 sz K w1 a w) : Nx B w0 sz K a w := by
  obtain ⟨ρ, env, obs, nx, h1, h2, h3, h4, _⟩ := h; exact ⟨ρ, env, obs, nx, h1, h2, h3, h4⟩
theorem below_of {B : Nat} {w0 : St} {ρ : Rho} {ds : List Deferred} {w w' : World} (h : Wy B w0 ρ ds w) (hB : B ≤ w.heap.size) (k : Belw w.heap.size w w') : Wy B w0 ρ ds w' := h.trans (k.mono hB) (oth_of k)
section
variable {P : Program} {T : TT} {sz : Nat} {ρ : Rho} {env : Env} {a : Act} {B nx : Nat} {obs : Obs} {w0 : St} {w : World} (hT : TTok P T) (hE : EnvR sz ρ env a) (hC : Cls B ρ obs nx w) (hW : Wy B w0 ρ a.defers w) {K : Env → Obs → Nat → Prop} {Q : Exit → Act → World → Prop}
include hE hC hW
theorem new_box {t : TypeId} {l : List At} {cs : Array Value} {dst : Option Tmp} (hl : Ats ρ l cs.toList) (h : putK sz dst (.one (.ptr nx 0 0 0)) env fun env' => K env' ((nx, .box t l) :: obs) (nx + 1)) :
    NxA B w0 sz K w (a.put dst (.pointer (some ⟨w.heap.size, 0, none⟩))) (w.alloc (.cells cs t)) := by
  have hx : Ext ρ (upd ρ nx (.pointer (some ⟨w.heap.size, 0, none⟩))) := ext_upd (hC.new nx (Nat.le_refl _))
  have hv : (SV.one (.ptr nx 0 0 0)).is (upd ρ nx (.pointer (some ⟨w.heap.size, 0, none⟩))) (.pointer (some ⟨w.heap.size, 0, none⟩)) :=
    ⟨⟨w.heap.size, 0, none⟩, base_ptr (upd_same _ _ _), by simp [Addr.add]⟩
  obtain ⟨env', hK, hE'⟩ := putK_spec (hE.ext hx) hv h
  have hb : Belw w.heap.size w (w.alloc (.cells cs t)) := (Belw.refl _ _).alloc (Nat.le_refl _) _
  refine ⟨_, env', _, _, hK, hE', hC.more hb ⟨w.heap.size, cs.toList, upd_same _ _ _, hC.le, hl.ext hx, by simpa using heap_alloc_new w _⟩ (fun b hf => ?_), ((below_of hW hC.le hb).ext hx).put, hb⟩
  simp only [foot, base_ptr (upd_same _ _ _), Option.map_some] at hf
  injection hf with hf; omega
theorem new_arr {t n s : Nat} {cs : Array Value} {dst : Option Tmp} (h0 : n ≠ 0) (hn : n ≤ 16777216) (hl : cs.toList.length = n * s) (h : putK sz dst (.one (.ptr nx 0 0 0)) env fun env' => K env' ((nx, .row t s n fun k => (cs.toList.drop (k * s)).take s) :: obs) (nx + 1)) :
    NxA B w0 sz K w (a.put dst (.pointer (some ⟨w.heap.size, 0, none⟩))) (w.alloc (.cells cs t)) := by
  have hx : Ext ρ (upd ρ nx (.slice (some ⟨w.heap.size, 0, none⟩) n n)) := ext_upd (hC.new nx (Nat.le_refl _))
  have hv : (SV.one (.ptr nx 0 0 0)).is (upd ρ nx (.slice (some ⟨w.heap.size, 0, none⟩) n n)) (.pointer (some ⟨w.heap.size, 0, none⟩)) :=
    ⟨⟨w.heap.size, 0, none⟩, base_sl (upd_same _ _ _), by simp [Addr.add]⟩
  obtain ⟨env', hK, hE'⟩ := putK_spec (hE.ext hx) hv h
  have hb : Belw w.heap.size w (w.alloc (.cells cs t)) := (Belw.refl _ _).alloc (Nat.le_refl _) _
  have hle : ∀ k, k < n → k * s + s ≤ cs.toList.length := fun k hk => by
    have : (k + 1) * s ≤ n * s := Nat.mul_le_mul_right s hk
    rw [Nat.add_mul, Nat.one_mul] at this
    omega
  refine ⟨_, env', _, _, hK, hE', hC.more hb ⟨_, upd_same _ _ _, _, n, rfl, by omega, fun k hk => ?_, .inr ⟨w.heap.size, cs, rfl, hC.le, heap_alloc_new w _, Nat.le_refl _, by omega, by unfold maxLen; omega, by simpa using hl, ?_⟩⟩ (fun b hf => ?_), ((below_of hW hC.le hb).ext hx).put, hb⟩
  · have := hle k hk
    simp only [List.length_take, List.length_drop]
    omega
  · rw [List.take_of_length_le (by omega)]
    exact (flat_cut hl).symm
  · rw [foot_row (upd_same _ _ _), if_neg h0] at hf
    simp only [Option.map_some] at hf
    injection hf with hf; omega
include hT
theorem op_box {o : Oper} {t : TypeId} {x : Operand} (ho : o.op = .box t x) (h : opK P T sz false o env obs nx K) : o.wp P a w (NxA B w0 sz K w) Q := by
  simp only [opK, ho] at h
  obtain ⟨v, hv, h⟩ := evK_spec hE h
  obtain ⟨l, h, hl, _⟩ := cellsK_spec hv h
  have := new_box hE hC hW hl h
  unfold Oper.wp
  simp only [execOp, ho]
  exact this
theorem op_alloc {o : Oper} {t : TypeId} (ho : o.op = .alloc t) (h : opK P T sz false o env obs nx K) : o.wp P a w (NxA B w0 sz K w) Q := by
  simp only [opK, ho] at h
  obtain ⟨ty, i, d, z, ht, hi, hd, hz, rfl, h⟩ := fnd_ty hT h
  have e : (do pure (Next.value (← Instr.alloc t true (.tuple #[]))) : Sem Next).run P w = .ok (.value (.pointer (some ⟨w.heap.size, 0, none⟩))) (w.alloc (.cells z.cells t)) := by
    simp [Instr.alloc, zeroValue, typeInfo, hi, hz, newVar, newRow, Sem.run_bind]
  unfold Oper.wp
  simp only [execOp, ho]
  rw [e]
  simp only at h
  split at h
  · rename_i e' hsh hzz
    obtain ⟨te, _, h⟩ := fndK_spec h
    have hx : Ext ρ (upd ρ nx (.slice none 0 0)) := ext_upd (hC.new nx (Nat.le_refl _))
    have hC2 := hC.more (v := .slice none 0 0) (o := .row e' te.size 0 fun _ => []) (Belw.refl _ _) ⟨_, upd_same _ _ _, none, 0, rfl, by omega, fun k hk => by omega, .inl ⟨rfl, rfl⟩⟩ (fun b hf => by rw [foot_row (upd_same _ _ _)] at hf; simp at hf)
    exact new_box (cs := z.cells) (hE.ext hx) hC2 (hW.ext hx) (l := [.ref nx]) (by rw [hzz]; exact ⟨_, [], rfl, ⟨upd_same _ _ _, rfl⟩, rfl⟩) h
  · rename_i n e' hsh
    obtain ⟨te, _, h⟩ := fndK_spec h
    split at h
    · rename_i b1 b2 b3
      have n0 : n ≠ 0 := Nat.ne_of_beq_eq_false b1
      have nm := Nat.le_of_ble_eq_true b2
      have zl := Nat.eq_of_beq_eq_true b3
      exact new_arr hE hC hW n0 nm zl h
    · exact h.elim
  · split at h
    · exact new_box (cs := z.cells) hE hC hW (Ats.vals ρ z.cells.toList) h
    · exact h.elim
theorem op_store_arr {o : Oper} {t : TypeId} {x y : Operand} {io t' n : Nat} {get g : Nat → List Value} {i : TypeInfo} {a0 : Addr} (ho : o.op = .store t x y) (hi : P.info? t = some i) (hsz : i.size = n) (n0 : n ≠ 0)
    (hob : fnd obs io = some (.row t' 1 n get)) (hb : base ρ io = some a0) (hx : a.eval x = .pointer (some (a0.add 0))) (hy : a.eval y = .agg (flat g n).toArray) (hg1 : ∀ k, k < n → (g k).length = 1 ∧ ∀ u ∈ g k, u.oneCell' = true)
    (h : putK sz o.dst (.tup []) env fun env' => K env' ((io, .row t' 1 n g) :: obs) nx) : o.wp P a w (Nx B w0 sz K) Q := by
  obtain ⟨v, e, A, cp, rfl, hn, hs, hh⟩ := hC.sat io _ hob
  rcases hh with ⟨h0, _⟩ | ⟨b, cur, rfl, hB, hg, hnc, hcp, hcm, hcs, htake⟩
  · omega
  rw [base_sl e] at hb
  injection hb with hb; subst hb
  have ev : (a.eval y).cells.toList = flat g n := by rw [hy]; simp [Value.cells]
  have lf : (flat g n).length = n := by have := flat_length (s := 1) (get := g) (n := n) fun k hk => (hg1 k hk).1; rwa [Nat.mul_one] at this
  have ea : (⟨b, 0, none⟩ : Addr).add 0 = ⟨b, 0, none⟩ := by unfold Addr.add; split <;> simp_all
  rw [ea] at hx
  rw [Nat.mul_one] at hcs
  have cell : ∀ p, p < cur.size → w.cell? ⟨b, p, none⟩ = cur[p]? := fun p hp => cell_of_row w b p cur t' (0, 0) hg
  have hone : ∀ u ∈ (a.eval y).cells.toList, u.oneCell' = true := by
    rw [ev]
    intro u hu
    obtain ⟨k, hk, hu⟩ := List.mem_flatMap.1 hu
    exact (hg1 k (by simpa using hk)).2 u hu
  have st := run_storeCells_cells (P := P) b 0 (a.eval y).cells.toList 0 w (fun p hp => by
      rw [ev, lf] at hp
      rw [show 0 + 0 + p = p by omega, cell _ (by omega), Array.getElem?_eq_getElem (by omega)]; rfl)
    (fun p hp => by simp [World.frozen?, hg]) hone
  rw [ev] at st
  obtain ⟨r1, r2, r3, r4, r5, r6⟩ := setCells_row (flat g n) 0 w cur hg (by omega)
  obtain ⟨env', hK, hE'⟩ := putK_spec hE (undef_is ρ) h
  unfold Oper.wp
  simp only [execOp, ho]
  have er : (do Instr.storeAt t (a.eval x) (a.eval y); pure Next.skip : Sem Next).run P w = .ok .skip (w.setCells b 0 (flat g n)) := by
    rw [hx]
    simp only [Instr.storeAt, Instr.sureAddr, Sem.run_bind, Sem.run_pure, Result.andThen_ok, storeVar, run_size hi]
    have hcz : (a.eval y).cells.size = i.size := by rw [hsz, ← lf, ← ev]; simp
    rw [if_neg (by omega), ev]
    rw [st]; rfl
  rw [er]
  have hbw : Belw B w (w.setCells b 0 (flat g n)) := .of r3 r4 r5 (by rw [r2]; exact Nat.le_refl _) (fun q hq => r6 q (by omega)) (drawn_setCells _ _ _ _)
  have ft : ∀ g', foot ρ io (.row t' 1 n g') = some b := fun g' => by rw [foot_row e, if_neg (by omega)]; rfl
  refine ⟨ρ, env', _, _, hK, hE', hC.set (b := b) hob rfl (ft _) (.inl (ft _)) rfl r2 r6 ⟨_, e, _, cp, rfl, hn, fun k hk => (hg1 k hk).1, .inr ⟨b, _, rfl, hB, r1, hnc, hcp, hcm, ?_, ?_⟩⟩, (hW.trans hbw (oth_one r6 (fun D e => by rw [hg] at e; cases e))).put⟩
  · unfold laid
    simp only [List.size_toArray, List.length_append, List.length_take, List.length_drop, Array.length_toList]
    omega
  · rw [Nat.mul_one]
    unfold laid
    simp only [List.take_zero, List.nil_append]
    rw [List.take_left' lf]
theorem op_store_row {o : Oper} {t : TypeId} {x y : Operand} {io k j s t' s' n : Nat} {get : Nat → List Value} {i : TypeInfo} {d : TypeDesc} {z : Value} {a0 : Addr} (ho : o.op = .store t x y) (hi : P.info? t = some i) (hd : P.underlying t = some d) (hz : i.zero = some z)
    (hob : fnd obs io = some (.row t' s' n get)) (hb : base ρ io = some a0) (hx : a.eval x = .pointer (some (a0.add (k * s + j))))
    (h : match Nat.beq s s' with
      | true => NLt k n (evK env y fun u => cellsK u fun c => closeK c fun vs => match Nat.beq vs.length i.size with
        | true => layK (get k) j vs fun r => NPut n k get r fun g => putK sz o.dst (.tup []) env fun env' => K env' ((io, .row t' s' n g) :: obs) nx
        | false => False)
      | false => match shOf P d with
        | .arr m _ => match Nat.beq k 0, Nat.beq j 0, Nat.beq s' 1, Nat.beq n m, Nat.beq i.size m, Nat.beq n 0 with
          | true, true, true, true, true, false => evK env y fun u => match u with
            | .one (.val v) => NArr n v fun g => putK sz o.dst (.tup []) env fun env' => K env' ((io, .row t' s' n g) :: obs) nx
            | _ => False
          | _, _, _, _, _, _ => False
        | _ => False) : o.wp P a w (Nx B w0 sz K) Q := by
  cases hbq : Nat.beq s s' <;> simp only [hbq] at h
  · split at h
    · split at h
      · rename_i q0 q1 q2 q3 q4 q5
        have e0 := Nat.eq_of_beq_eq_true q0
        have e1 := Nat.eq_of_beq_eq_true q1
        have e2 := Nat.eq_of_beq_eq_true q2
        have e3 := Nat.eq_of_beq_eq_true q3
        have e4 := Nat.eq_of_beq_eq_true q4
        subst e0 e1 e2
        rw [show 0 * s + 0 = 0 by omega] at hx
        obtain ⟨u, hu, h⟩ := evK_spec hE h
        split at h
        · rename_i v
          obtain ⟨g, ev, hg, h⟩ := h.h
          exact op_store_arr hT hE hC hW ho hi (e4.trans e3.symm) (Nat.ne_of_beq_eq_false q5) hob hb hx (Eq.trans hu ev) hg h
        · exact h.elim
      · exact h.elim
    · exact h.elim
  have es : s = s' := Nat.eq_of_beq_eq_true hbq
  subst es
  obtain ⟨hlt, h⟩ := h
  obtain ⟨u, hu, h⟩ := evK_spec hE h
  obtain ⟨c, h, hc, hone⟩ := cellsK_spec hu h
  obtain ⟨vs, h, hvs, _⟩ := closeK_spec (ρ := ρ) h
  have ev : (a.eval y).cells.toList = vs := Ats.fun_ hc hvs
  cases hbq2 : Nat.beq vs.length i.size <;> simp only [hbq2] at h
  have hlen : vs.length = i.size := Nat.eq_of_beq_eq_true hbq2
  obtain ⟨hle, h⟩ := layK_spec h
  obtain ⟨v, e, A, cp, rfl, hn, hs, hh⟩ := hC.sat io _ hob
  rcases hh with ⟨h0, _⟩ | ⟨g, cur, rfl, hB, hg, hnc, hcp, hcm, hcs, htake⟩
  · omega
  rw [base_sl e] at hb
  injection hb with hb; subst hb
  have hsk := hs k hlt
  have hks : k * s + s ≤ cp * s := by
    have : (k + 1) * s ≤ cp * s := Nat.mul_le_mul_right _ (by omega)
    rwa [Nat.add_mul, Nat.one_mul] at this
  have ea : (⟨g, 0, none⟩ : Addr).add (k * s + j) = ⟨g, k * s + j, none⟩ := by unfold Addr.add; split <;> simp_all
  rw [ea] at hx
  have cell : ∀ p, p < cur.size → w.cell? ⟨g, p, none⟩ = cur[p]? := fun p hp => cell_of_row w g p cur t' (0, 0) hg
  have st := run_storeCells_cells (P := P) g (k * s + j) (a.eval y).cells.toList 0 w (fun p hp => by
      rw [ev] at hp
      rw [show k * s + j + 0 + p = k * s + j + p by omega, cell _ (by omega), Array.getElem?_eq_getElem (by omega)]; rfl)
    (fun p hp => by simp [World.frozen?, hg]) hone
  rw [ev] at st
  obtain ⟨r1, r2, r3, r4, r5, r6⟩ := setCells_row vs (k * s + j) w cur hg (by omega)
  obtain ⟨g', hg', h⟩ := h.h
  obtain ⟨f1, f2⟩ := flat_set (g := g') hs hlt (by omega) hg'
  obtain ⟨env', hK, hE'⟩ := putK_spec hE (undef_is ρ) h
  unfold Oper.wp
  simp only [execOp, ho]
  have er : (do Instr.storeAt t (a.eval x) (a.eval y); pure Next.skip : Sem Next).run P w = .ok .skip (w.setCells g (k * s + j) vs) := by
    rw [hx]
    simp only [Instr.storeAt, Instr.sureAddr, Sem.run_bind, Sem.run_pure, Result.andThen_ok, storeVar, run_size hi]
    have hcz : (a.eval y).cells.size = i.size := by rw [← hlen, ← ev]; simp
    rw [if_neg (by omega), ev]
    rw [show k * s + j + 0 = k * s + j by omega] at st
    rw [st]; rfl
  rw [er]
  have hbw : Belw B w (w.setCells g (k * s + j) vs) := .of r3 r4 r5 (by rw [r2]; exact Nat.le_refl _) (fun q hq => r6 q (by omega)) (drawn_setCells _ _ _ _)
  have ft : ∀ g', foot ρ io (.row t' s n g') = some g := fun g' => by rw [foot_row e, if_neg (by omega)]; rfl
  refine ⟨ρ, env', _, _, hK, hE', hC.set (b := g) hob rfl (ft _) (.inl (ft _)) rfl r2 r6 ⟨_, e, _, cp, rfl, hn, f2, .inr ⟨g, _, rfl, hB, r1, hnc, hcp, hcm, ?_, ?_⟩⟩, (hW.trans hbw (oth_one r6 (fun D e => by rw [hg] at e; cases e))).put⟩
  · unfold laid
    simp only [List.size_toArray, List.length_append, List.length_take, List.length_drop, Array.length_toList]
    omega
  · rw [f1, ← htake]
    have hns : n * s ≤ cp * s := Nat.mul_le_mul_right _ hnc
    have hks2 : k * s + s ≤ n * s := by
      have : (k + 1) * s ≤ n * s := Nat.mul_le_mul_right _ hlt
      rwa [Nat.add_mul, Nat.one_mul] at this
    have l0 : cur.toList.length = cp * s := by simp [hcs]
    apply List.ext_getElem?
    intro p
    rw [laid_get (by rw [List.length_take]; omega), List.getElem?_take, laid_get (by omega)]
    by_cases hp : p < n * s
    · rw [if_pos hp, List.getElem?_take_of_lt hp]
    · rw [if_neg hp, if_neg (by omega), if_neg (by omega), List.getElem?_take, if_neg hp]
theorem op_store_rws {o : Oper} {t : TypeId} {x y : Operand} {io k t' e s' n : Nat} {vs : Nat → Value} {xs : Nat → Option (Nat × (Nat → List Value))} {i : TypeInfo} {a0 : Addr} (ho : o.op = .store t x y) (hi : P.info? t = some i) (hsz : i.size = 1)
    (hob : fnd obs io = some (.rws t' e s' n vs xs)) (hb : base ρ io = some a0) (hx : a.eval x = .pointer (some (a0.add (k * 1 + 0)))) (hlt : k < n)
    (h : evK env y fun u => match u with
      | .one (.ref r) => fndK obs r fun ro => match ro with
        | .row t2 s2 m g => match Nat.beq t2 e, Nat.beq s2 s', Nat.beq r io with
          | true, true, false => NAny fun v => putK sz o.dst (.tup []) env fun env' => K env' ((io, .rws t' e s' n (putX vs k v) (putX xs k (some (m, g)))) :: (r, .gone) :: obs) nx
          | _, _, _ => False
        | _ => False
      | _ => False) : o.wp P a w (Nx B w0 sz K) Q := by
  obtain ⟨u, hu, h⟩ := evK_spec hE h
  split at h
  rotate_left
  · exact h.elim
  rename_i r
  obtain ⟨ro, hro, h⟩ := fndK_spec h
  split at h
  rotate_left
  · exact h.elim
  rename_i t2 s2 m g1
  split at h
  rotate_left
  · exact h.elim
  rename_i b1 b2 b3
  have e1 := Nat.eq_of_beq_eq_true b1
  have e2 := Nat.eq_of_beq_eq_true b2
  have e3 := Nat.ne_of_beq_eq_false b3
  subst e1 e2
  have hr : ρ r = some (a.eval y) := hu.1
  obtain ⟨c, h0, hc, hone⟩ := cellsK_spec (K := fun l => l = [.ref r]) hu rfl
  subst h0
  obtain ⟨y0, r0, ecs, ⟨hy0, _⟩, hr0⟩ := hc
  have hr0 : r0 = [] := hr0
  subst hr0
  rw [hr] at hy0
  injection hy0 with hy0
  subst hy0
  obtain ⟨⟨v, ev, hrow⟩, _, _⟩ := hC.sat io _ hob
  have hrow' := hrow
  obtain ⟨A, cp, rfl, hn, hs, hh⟩ := hrow
  rcases hh with ⟨h0, _⟩ | ⟨g, cur, rfl, hB, hg, hnc, hcp, hcm, hcs, htake⟩
  · omega
  rw [base_sl ev] at hb
  injection hb with hb; subst hb
  have ea : (⟨g, 0, none⟩ : Addr).add (k * 1 + 0) = ⟨g, k * 1 + 0, none⟩ := by unfold Addr.add; split <;> simp_all
  rw [ea] at hx
  have cell : ∀ p, p < cur.size → w.cell? ⟨g, p, none⟩ = cur[p]? := fun p hp => cell_of_row w g p cur t' (0, 0) hg
  have st := run_storeCells_cells (P := P) g (k * 1 + 0) (a.eval y).cells.toList 0 w (fun p hp => by
      rw [ecs] at hp
      have hp : p = 0 := by simpa using hp
      rw [show k * 1 + 0 + 0 + p = k by omega, cell _ (by omega), Array.getElem?_eq_getElem (by omega)]; rfl)
    (fun p hp => by simp [World.frozen?, hg]) hone
  rw [ecs] at st
  obtain ⟨r1, r2, r3, r4, r5, r6⟩ := setCells_row [a.eval y] (k * 1 + 0) w cur hg (by simp; omega)
  obtain ⟨f1, f2⟩ := flat_set (g := fun j => [putX vs k (a.eval y) j]) (j := 0) (vs := [a.eval y]) hs hlt (by simp) (fun k' hk' => by
    unfold putX
    by_cases q : k' = k
    · rw [if_pos q, if_pos q]; rfl
    · rw [if_neg q, if_neg q])
  obtain ⟨env', hK, hE'⟩ := putK_spec hE (undef_is ρ) (h.h (a.eval y))
  unfold Oper.wp
  simp only [execOp, ho]
  have er : (do Instr.storeAt t (a.eval x) (a.eval y); pure Next.skip : Sem Next).run P w = .ok .skip (w.setCells g (k * 1 + 0) [a.eval y]) := by
    rw [hx]
    simp only [Instr.storeAt, Instr.sureAddr, Sem.run_bind, Sem.run_pure, Result.andThen_ok, storeVar, run_size hi]
    have hcz : (a.eval y).cells.size = i.size := by rw [hsz]; have := congrArg List.length ecs; simpa using this
    rw [if_neg (by omega), ecs]
    rw [show k * 1 + 0 + 0 = k * 1 + 0 by omega] at st
    rw [st]; rfl
  rw [er]
  have hbw : Belw B w (w.setCells g (k * 1 + 0) [a.eval y]) := .of r3 r4 r5 (by rw [r2]; exact Nat.le_refl _) (fun q hq => r6 q (by omega)) (drawn_setCells _ _ _ _)
  have hfv : footV (.slice (some ⟨g, 0, none⟩) n cp) = some g := by simp only [footV]; rw [if_neg (by omega)]; rfl
  have hrow2 : RowIs B (w.setCells g (k * 1 + 0) [a.eval y]) (.slice (some ⟨g, 0, none⟩) n cp) t' 1 n fun j => [putX vs k (a.eval y) j] := by
    refine ⟨_, cp, rfl, hn, f2, .inr ⟨g, _, rfl, hB, r1, hnc, hcp, hcm, ?_, ?_⟩⟩
    · unfold laid
      simp only [List.size_toArray, List.length_append, List.length_take, List.length_drop, Array.length_toList, List.length_cons, List.length_nil]
      omega
    · rw [f1, ← htake]
      have l0 : cur.toList.length = cp * 1 := by simp [hcs]
      apply List.ext_getElem?
      intro p
      rw [laid_get (by rw [List.length_take]; simp; omega), List.getElem?_take, laid_get (by simp; omega)]
      by_cases hp : p < n * 1
      · rw [if_pos hp, List.getElem?_take_of_lt hp]
      · rw [if_neg hp, if_neg (by omega), if_neg (by simp; omega), List.getElem?_take, if_neg hp]
  exact ⟨ρ, env', _, _, hK, hE', hC.put hob hro e3 ev hr hrow2 r2 (fun q hq => r6 q (fun z => hq (by rw [hfv, z]))), (hW.trans hbw (oth_one r6 (fun D e => by rw [hg] at e; cases e))).put⟩
theorem op_store {o : Oper} {t : TypeId} {x y : Operand} (ho : o.op = .store t x y) (h : opK P T sz false o env obs nx K) : o.wp P a w (Nx B w0 sz K) Q := by
  simp only [opK, ho] at h
  obtain ⟨ty, i, d, z, ht, hi, hd, hz, rfl, h⟩ := fnd_ty hT h
  obtain ⟨v, hv, h⟩ := evK_spec hE h
  split at h
  · rename_i io k j s
    obtain ⟨a0, hb, hx⟩ := hv
    obtain ⟨ob, hob, h⟩ := fndK_spec h
    split at h
    · rename_i t' l
      split at h
      rotate_left
      · exact h.elim
      obtain ⟨u, hu, h⟩ := evK_spec hE h
      obtain ⟨c, h, hc, hone⟩ := cellsK_spec hu h
      cases hbq : Nat.beq c.length i.size <;> simp only [hbq] at h
      have hlen : c.length = i.size := Nat.eq_of_beq_eq_true hbq
      obtain ⟨hle, h⟩ := layK_spec h
      obtain ⟨b, cs, e, hB, hl, hh⟩ := hC.sat io _ hob
      rw [base_ptr e] at hb
      injection hb with hb; subst hb
      have hcl := hc.length
      have hll := hl.length
      simp only [Array.length_toList] at hcl
      have ea : (⟨b, 0, none⟩ : Addr).add (0 * 0 + j) = ⟨b, j, none⟩ := by unfold Addr.add; split <;> simp_all
      rw [ea] at hx
      have cell : ∀ k, k < cs.length → w.cell? ⟨b, k, none⟩ = cs[k]? := fun k hk => by rw [cell_of_row w b k cs.toArray t' (0, 0) hh]; simp
      have st := run_storeCells_cells (P := P) b j (a.eval y).cells.toList 0 w (fun k hk => by
          simp only [Array.length_toList] at hk
          rw [show j + 0 + k = j + k by omega, cell (j + k) (by omega), List.getElem?_eq_getElem (by omega)]; rfl)
        (fun k hk => by simp [World.frozen?, hh]) hone
      obtain ⟨r1, r2, r3, r4, r5, r6⟩ := setCells_row (a.eval y).cells.toList j w cs.toArray hh (by simp; omega)
      obtain ⟨env', hK, hE'⟩ := putK_spec hE (undef_is ρ) h
      unfold Oper.wp
      simp only [execOp, ho]
      have er : (do Instr.storeAt t (a.eval x) (a.eval y); pure Next.skip : Sem Next).run P w = .ok .skip (w.setCells b j (a.eval y).cells.toList) := by
        rw [hx]
        simp only [Instr.storeAt, Instr.sureAddr, Sem.run_bind, Sem.run_pure, Result.andThen_ok, storeVar, run_size hi]
        rw [if_neg (by omega)]
        rw [show j + 0 = j by omega] at st
        rw [st]; rfl
      rw [er]
      have hbw : Belw B w (w.setCells b j (a.eval y).cells.toList) := .of r3 r4 r5 (by rw [r2]; exact Nat.le_refl _) (fun k hk => r6 k (by omega)) (drawn_setCells _ _ _ _)
      refine ⟨ρ, env', _, _, hK, hE', hC.set (b := b) hob rfl (by simp [foot, base_ptr e]) (.inl (by simp [foot, base_ptr e])) rfl r2 r6 ⟨b, laid cs j (a.eval y).cells.toList, e, hB, hl.laid hc j, by simpa using r1⟩, (hW.trans hbw (oth_one r6 (fun D e => by rw [hh] at e; cases e))).put⟩
    · exact op_store_row hT hE hC hW ho hi hd hz hob hb hx h
    · cases b1 : Nat.beq j 0 <;> simp only [b1] at h
      cases b2 : Nat.beq s 1 <;> simp only [b2] at h
      cases b3 : Nat.beq i.size 1 <;> simp only [b3] at h
      have e1 := Nat.eq_of_beq_eq_true b1
      have e2 := Nat.eq_of_beq_eq_true b2
      have e3 := Nat.eq_of_beq_eq_true b3
      have g1 := h.lt
      have g2 := h.h
      subst e1 e2
      exact op_store_rws hT hE hC hW ho hi e3 hob hb hx g1 g2
    · exact h.elim
  · exact h.elim
theorem op_pure {o : Oper} (h : pureK T env obs o.op fun v => putK sz o.dst v env fun env' => K env' obs nx) : o.wp P a w (NxA B w0 sz K w) Q := by
  obtain ⟨v, x, hv, h, hr⟩ := pure_sound hT hE hC h
  obtain ⟨env', hK, hE'⟩ := putK_spec hE hv h
  unfold Oper.wp
  rw [hr o rfl w hC]
  exact ⟨ρ, env', obs, nx, hK, hE', hC, hW.put, Belw.refl _ _⟩
end
end Go.Proofs.YtlbffibpcjjpkaaDoor.V

namespace Go.Proofs.YtlbffibpcjjpkaaDoor.V
open Go Go.RowKit
variable [Dr]
set_option linter.unusedSectionVars false
theorem rowsK_spec {sz : Nat} {ρ : Rho} {env : Env} {a : Act} (hE : EnvR sz ρ env a) {s : Nat} : ∀ {parts : List (Nat × Operand)} {i : Nat} {K : List (List At) → Prop}, rowsK env s i parts K →
    ∃ rows cs, K rows ∧ (∀ r ∈ rows, r.length = s) ∧ rows.length = parts.length ∧ Ats ρ rows.flatten cs ∧
      ∀ (cells : List Value), cells.length = (i + parts.length) * s → Instr.fill (fun i => some (i * s, s)) cells.toArray (parts.map fun p => (p.1, a.eval p.2)) = some (cells.take (i * s) ++ cs).toArray
  | [], i, K, h => ⟨[], [], h, by simp, rfl, rfl, fun cells hc => by
      have : cells.take (i * s) = cells := List.take_of_length_le (by rw [hc]; simp)
      simp [Instr.fill, this]⟩
  | (j, x) :: r, i, K, h => by
    unfold rowsK at h
    cases hb : Nat.beq i j <;> simp only [hb] at h
    have e : i = j := Nat.eq_of_beq_eq_true hb
    subst e
    obtain ⟨v, hv, h⟩ := evK_spec hE h
    obtain ⟨c, h, hc, hone⟩ := cellsK_spec hv h
    cases hb2 : Nat.beq c.length s <;> simp only [hb2] at h
    have hlen : c.length = s := Nat.eq_of_beq_eq_true hb2
    obtain ⟨rows, cs, hK, hs, hl, hat, hf⟩ := rowsK_spec hE h
    refine ⟨c :: rows, (a.eval x).cells.toList ++ cs, hK, ?_, by simp [hl], by simpa using hc.append hat, fun cells hcl => ?_⟩
    · intro q hq
      rcases List.mem_cons.1 hq with rfl | hq
      · exact hlen
      · exact hs q hq
    · have hsz : (a.eval x).cells.size = s := by have := hc.length; rw [hlen] at this; simpa using this
      have hle : i * s + s ≤ cells.length := by
        rw [hcl]
        have : (i + 1) * s ≤ (i + (((i, x) :: r).length)) * s := Nat.mul_le_mul_right _ (by simp)
        rwa [Nat.add_mul, Nat.one_mul] at this
      rw [List.map_cons, Instr.fill]
      simp only
      rw [if_neg (by simp [hsz]; omega)]
      have e : (a.eval x).cells.zipIdx.foldl (fun (cs : Array Value) (p : Value × Nat) => cs.setIfInBounds (i * s + p.2) p.1) cells.toArray = (laid cells (i * s) (a.eval x).cells.toList).toArray := by
        rw [← Array.foldl_toList, Array.toList_zipIdx]
        have := foldl_laid (i * s) (a.eval x).cells.toList 0 cells.toArray (by simp; omega)
        simpa using this
      have e2 : (a.eval x).cells.zipIdx.foldl (fun (cs : Array Value) (x : Value × Nat) => match x with | (c, j) => cs.setIfInBounds (i * s + j) c) cells.toArray = (laid cells (i * s) (a.eval x).cells.toList).toArray := e
      rw [e2, hf _ (by rw [laid_length (by simp [hsz]; omega), hcl]; simp; congr 1; omega)]
      congr 2
      rw [← List.append_assoc]
      congr 1
      have el : (i + 1) * s = i * s + (a.eval x).cells.toList.length := by rw [Nat.add_mul]; simp [hsz]
      rw [el]
      unfold laid
      rw [List.take_append_of_le_length (by simp; omega)]
      rw [List.take_of_length_le (by simp; omega)]
theorem closesK_spec {ρ : Rho} : ∀ {rows : List (List At)} {K : List (List Value) → Prop}, closesK rows K → ∃ ll, K ll ∧ ll.length = rows.length ∧ Ats ρ rows.flatten ll.flatten ∧ (∀ l ∈ ll, ∀ v ∈ l, v.oneCell' = true) ∧ ∀ (k : Nat) r, rows[k]? = some r → ∃ l, ll[k]? = some l ∧ l.length = r.length
  | [], K, h => ⟨[], h, rfl, rfl, by simp, by simp⟩
  | x :: r, K, h => by
    unfold closesK at h
    obtain ⟨y, h, hy, h1⟩ := closeK_spec (ρ := ρ) h
    obtain ⟨ll, hK, hl, hat, h2, h3⟩ := closesK_spec (ρ := ρ) h
    refine ⟨y :: ll, hK, by simp [hl], by simpa using hy.append hat, ?_, fun k q hq => ?_⟩
    · intro l hl'
      rcases List.mem_cons.1 hl' with rfl | hl'
      · exact h1
      · exact h2 l hl'
    · cases k with
      | zero => exact ⟨y, rfl, by have e : x = q := by simpa using hq
                                  rw [← e]; exact hy.length⟩
      | succ k => simpa using h3 k q (by simpa using hq)
theorem flat_listG : ∀ (ll : List (List Value)), flat (listG ll) ll.length = ll.flatten := by
  intro ll
  suffices h : ∀ n, n ≤ ll.length → flat (listG ll) n = (ll.take n).flatten by
    have := h ll.length (Nat.le_refl _)
    rwa [List.take_length] at this
  intro n
  induction n with
  | zero => intro _; simp [flat]
  | succ n ih =>
    intro hn
    have e : flat (listG ll) (n + 1) = flat (listG ll) n ++ listG ll n := by unfold flat; rw [List.range_succ, List.flatMap_append]; simp
    rw [e, ih (by omega), List.take_succ_eq_append_getElem (by omega), List.flatten_append]
    congr 1
    simp [listG, List.getD, List.getElem?_eq_getElem (by omega : n < ll.length)]
theorem run_val' {P : Program} {w w' : World} {s : Sem Value} {x : Value} (h : s.run P w = .ok x w') : (do pure (Next.value (← s)) : Sem Next).run P w = .ok (.value x) w' := by
  rw [Sem.run_bind, h]; rfl
section
variable {P : Program} {T : TT} {sz : Nat} {ρ : Rho} {env : Env} {a : Act} {B nx : Nat} {obs : Obs} {w0 : St} {w : World} (hT : TTok P T) (hE : EnvR sz ρ env a) (hC : Cls B ρ obs nx w) (hW : Wy B w0 ρ a.defers w) {K : Env → Obs → Nat → Prop} {Q : Exit → Act → World → Prop}
include hE hC hW
theorem new_ref {v : Value} {o : Ob} {dst : Option Tmp} {w' : World} (hone : v.oneCell' = true) (hb : Belw w.heap.size w w') (hs : Sat B (upd ρ nx v) w' nx o) (hf : ∀ b, foot (upd ρ nx v) nx o = some b → w.heap.size ≤ b)
    (h : putK sz dst (.one (.ref nx)) env fun env' => K env' ((nx, o) :: obs) (nx + 1)) (hns : ∀ b, ¬ sub o b := by exact fun _ h => h) : NxA B w0 sz K w (a.put dst v) w' := by
  have hx : Ext ρ (upd ρ nx v) := ext_upd (hC.new nx (Nat.le_refl _))
  obtain ⟨env', hK, hE'⟩ := putK_spec (hE.ext hx) (v := .one (.ref nx)) (x := v) ⟨upd_same _ _ _, hone⟩ h
  exact ⟨_, env', _, _, hK, hE', hC.more hb hs hf hns, ((below_of hW hC.le hb).ext hx).put, hb⟩
include hT
theorem op_convert {o : Oper} {s t : TypeId} {x : Operand} (ho : o.op = .convert s t x) (hns : ∀ ts e, fnd T s = some ts → ts.sh ≠ .sl e) (h : opK P T sz false o env obs nx K) : o.wp P a w (NxA B w0 sz K w) Q := by
  simp only [opK, ho] at h
  obtain ⟨ty, i, d, z, ht, hi1, hd, hz, rfl, h⟩ := fnd_ty hT h
  simp only at h
  split at h
  · rename_i e hs
    have hd' : P.underlying t = some (.slice e) := by rw [hd, sh_sl hs]
    obtain ⟨te, i2, d2, z2, ht2, hi2, hd2, hz2, rfl, h⟩ := fnd_ty hT h
    simp only at h
    split at h
    · rename_i hs2
      have hd2' : P.underlying e = some (.int .u8) := by rw [hd2, sh_int hs2]
      obtain ⟨ts0, hts0, h⟩ := fndK_spec h
      have nsl := hns ts0
      obtain ⟨i3, d3, z3, hi3, hd3, hz3, ets⟩ := tyOf_spec (hT.get hts0)
      split at h
      · rename_i hs3
        obtain ⟨v, hv, h⟩ := evK_spec hE h
        split at h
        · rename_i b
          have ev : a.eval x = .string b := hv
          obtain ⟨hle, h⟩ := h
          have er := Lib.run_convert_string_bytes (P := P) w s t e b hd3 hd' hd2'
          unfold Oper.wp
          simp only [execOp, ho]
          rw [ev, run_val' er]
          have hb : Belw w.heap.size w (Lib.bytesWorld w e b) := ⟨⟨rfl, rfl, rfl, by rw [Lib.bytesWorld_size]; omega, fun k hk => Lib.bytesWorld_at_old w e b k hk⟩, fun _ => Nat.le_succ _⟩
          have gc : b.size ≤ grownCap w b.size 0 e := grownCap_ge w b.size 0 e
          refine new_ref (o := .arr 1 b.size (bytesG b)) hE hC hW rfl hb ⟨_, upd_same _ _ _, _, _, rfl, hle, gc, fun k hk => ⟨_, rfl, by rw [Lib.bytesWorld_size]; exact Nat.lt_succ_self _, rfl, fun j u hu => ?_⟩⟩ (fun c hc => ?_) h
          · rcases j with _ | j
            · have e5 : (.int .u8 (b.data.toList.getD k 0).toNat : Value) = u := by simpa [bytesG] using hu
              subst e5
              have q : (⟨w.heap.size, 0, none⟩ : Addr).add (k * 1 + 0) = ⟨w.heap.size, k, none⟩ := by unfold Addr.add; split <;> simp_all
              rw [q]
              exact Lib.bytesWorld_cell w e b k hk
            · simp [bytesG] at hu
          · cases hz : b.size with
            | zero => rw [hz] at hc; simp [foot] at hc
            | succ m => rw [hz] at hc; simp [foot, base, upd_same] at hc; omega
        · exact h.elim
      · rename_i hs3
        exact absurd hs3 (nsl _ hts0)
      · exact h.elim
    · exact h.elim
  · exact op_pure hT hE hC hW (by rw [ho]; exact h)
theorem op_mark {o : Oper} {s t : TypeId} {x : Operand} (ho : o.op = .convert s t x) (hsl : ∃ ts e, fnd T s = some ts ∧ ts.sh = .sl e) (htl : ∃ ty e, fnd T t = some ty ∧ ty.sh = .sl e) (h : opK P T sz false o env obs nx K) : o.wp P a w (Nx B w0 sz K) Q := by
  simp only [opK, ho] at h
  obtain ⟨ts, es, hts, hse⟩ := hsl
  obtain ⟨ty0, et, hty, hte⟩ := htl
  obtain ⟨ty, ht0, h⟩ := fndK_spec h
  rw [hty] at ht0; injection ht0 with ht0; subst ht0
  obtain ⟨i, d, z, hi1, hd, hz, ety⟩ := tyOf_spec (hT.get hty)
  rw [hte] at h
  simp only at h
  have hd' : P.underlying t = some (.slice et) := by
    have : shOf P d = .sl et := by rw [ety] at hte; exact hte
    rw [hd, sh_sl this]
  obtain ⟨te, i2, d2, z2, ht2, hi2, hd2, hz2, rfl, h⟩ := fnd_ty hT h
  simp only at h
  split at h
  rotate_left
  · exact h.elim
  rename_i hs2
  have hd2' : P.underlying et = some (.int .u8) := by rw [hd2, sh_int hs2]
  obtain ⟨ts0, hts0, h⟩ := fndK_spec h
  rw [hts] at hts0; injection hts0 with hts0; subst hts0
  rw [hse] at h
  simp only at h
  cases hst : Nat.beq s t <;> simp only [hst] at h
  have est : s = t := Nat.eq_of_beq_eq_true hst
  obtain ⟨v, hv, h⟩ := evK_spec hE h
  split at h
  rotate_left
  · exact h.elim
  rename_i io
  obtain ⟨ob, hob, h⟩ := fndK_spec h
  split at h
  rotate_left
  · exact h.elim
  rename_i t' s' r0 rs
  cases hs1 : Nat.beq s' 1 <;> simp only [hs1] at h
  have es1 := Nat.eq_of_beq_eq_true hs1
  subst es1
  obtain ⟨ll, hK, hl, hat, _, h2⟩ := closesK_spec (ρ := ρ) h
  obtain ⟨b, cs, e, hB, hrs, hn, hcs, hh⟩ := hC.sat io _ hob
  have ec : cs = ll.flatten := Ats.fun_ hcs hat
  have ev : a.eval x = .slice (some ⟨b, 0, none⟩) (r0 :: rs).length (r0 :: rs).length := by have := hv.1; rw [e] at this; injection this with this; exact this.symm
  have len : ∀ k, k < ll.length → (listG ll k).length = 1 := fun k hk => by
    have e1 : listG ll k = ll[k] := by simp [listG, List.getD, List.getElem?_eq_getElem hk]
    obtain ⟨l, e2, e3⟩ := h2 k ((r0 :: rs)[k]'(by omega)) (List.getElem?_eq_getElem _)
    rw [List.getElem?_eq_getElem hk] at e2
    injection e2 with e2
    rw [e1, e2, e3]
    exact hrs _ (List.getElem_mem _)
  have fl : flat (listG ll) ll.length = cs := by rw [flat_listG, ec]
  have er : (convert s t (a.eval x)).run P w = .ok (a.eval x) (w.freeze ⟨b, cs.toArray.size, none⟩ 1) := by
    rw [ev, est]
    have hsh : w.shape? b = some (t', cs.toArray.size) := by simp [World.shape?, hh]
    simp [convert, run_underlying hd', run_underlying hd2', markStringish, hsh, Sem.run_bind]
  have hz1 : (w.freeze ⟨b, cs.toArray.size, none⟩ 1).heap.size = w.heap.size := by simp [World.freeze]
  have hk1 : ∀ k, k ≠ b → (w.freeze ⟨b, cs.toArray.size, none⟩ 1).heap[k]? = w.heap[k]? := fun k hk => by
    simp [World.freeze, Array.getElem?_modify, Ne.symm hk]
  have hb1 : (w.freeze ⟨b, cs.toArray.size, none⟩ 1).heap[b]? = some (.cells cs.toArray t' (cs.toArray.size, cs.toArray.size + 1)) := by
    simp [World.freeze, Array.getElem?_modify, hh]
  have cell : ∀ p, (w.freeze ⟨b, cs.toArray.size, none⟩ 1).cell? ⟨b, p, none⟩ = cs[p]? := fun p => by
    rw [cell_of_row _ b p cs.toArray t' _ hb1]; simp
  have hs : Sat B ρ (w.freeze ⟨b, cs.toArray.size, none⟩ 1) io (.arr 1 ll.length (listG ll)) := by
    refine ⟨_, e, _, _, by rw [hl], by omega, by omega, fun k hk => ⟨_, rfl, ?_, len k hk, fun j u hu => ?_⟩⟩
    · rw [hz1]; exact (Array.getElem?_eq_some_iff.1 hh).1
    · have := flat_get (get := listG ll) (s := 1) len hk hu
      rw [fl] at this
      rw [show (⟨b, 0, none⟩ : Addr).add (k * 1 + j) = ⟨b, k * 1 + j, none⟩ by unfold Addr.add; split <;> simp_all, cell]
      exact this
  have ft : foot ρ io (.lit t' 1 (r0 :: rs)) = some b := by simp [foot, base_sl e]
  have pos : ll.length = rs.length + 1 := by rw [hl]; rfl
  have ft2 : foot ρ io (.arr 1 ll.length (listG ll)) = some b := by rw [pos]; simp [foot, base_sl e]
  obtain ⟨env', hK', hE'⟩ := putK_spec hE (v := .one (.ref io)) (x := a.eval x) ⟨hv.1, hv.2⟩ hK
  unfold Oper.wp
  simp only [execOp, ho]
  rw [run_val' er]
  have hbw : Belw B w (w.freeze ⟨b, cs.toArray.size, none⟩ 1) := .of rfl rfl rfl (by rw [hz1]; exact Nat.le_refl _) (fun k hk => hk1 k (by omega)) rfl
  exact ⟨ρ, env', _, _, hK', hE', hC.setA (b := b) hob rfl ft (.inl ft2) hz1 hk1 hs, (hW.trans hbw (oth_one hk1 (fun D q => by rw [hh] at q; cases q))).put⟩
theorem op_buildSlice {o : Oper} {t : TypeId} {len : Nat} {parts : Array (Nat × Operand)} (ho : o.op = .buildSlice t len parts) (h : opK P T sz false o env obs nx K) : o.wp P a w (NxA B w0 sz K w) Q := by
  simp only [opK, ho] at h
  obtain ⟨ty, i, d, z, ht, hi, hd, hz, rfl, h⟩ := fnd_ty hT h
  simp only at h
  split at h
  rotate_left
  · exact h.elim
  rename_i e hs
  have e0 := sh_sl hs
  subst e0
  obtain ⟨te, i2, d2, z2, ht2, hi2, hd2, hz2, rfl, h⟩ := fnd_ty hT h
  simp only at h
  obtain ⟨rows, cs, h, hrs, hrl, hat, hfill⟩ := rowsK_spec hE h
  split at h
  rotate_left
  · exact h.elim
  rename_i b1 b2 b3
  have e1 : rows.length = len := Nat.eq_of_beq_eq_true b1
  have e2 : len * i2.size ≤ 16777216 := Nat.le_of_ble_eq_true b2
  have e3 : i2.size ≠ 0 := Nat.ne_of_beq_eq_false b3
  have hplen : parts.toList.length = len := by rw [← hrl]; exact e1
  have hcl := hfill ((List.range (len * i2.size)).map (z2.cells[· % z2.cells.size]!)) (by simp only [List.length_map, List.length_range]; congr 1; omega)
  have er : (Instr.buildSlice t len (parts.map fun p => match p with | (i, x) => (i, a.eval x))).run P w = .ok (.slice (some ⟨w.heap.size, 0, none⟩) len len) (w.alloc (.cells cs.toArray e)) := by
    by_cases h0 : len = 0
    · subst h0
      have hp : parts = #[] := by cases parts; simpa using hplen
      subst hp
      have hr0 : rows = [] := List.eq_nil_of_length_eq_zero e1
      subst hr0
      have hcs : cs = [] := hat
      subst hcs
      simp [Instr.buildSlice, run_underlying hd, run_size hi2, newRow, Instr.fill, Sem.run_bind]
      congr 2
      apply Array.ext'
      simp
    · refine run_buildSlice w t e len _ cs.toArray i2 z2 hd hi2 hz2 (by omega) (by rw [Nat.mul_eq_zero]; omega) ?_
      have ea : (parts.map fun p => match p with | (i, x) => (i, a.eval x)).toList = parts.toList.map fun p => (p.1, a.eval p.2) := by simp
      rw [ea]
      have eb : (Array.range (len * i2.size)).map (z2.cells[· % z2.cells.size]!) = ((List.range (len * i2.size)).map (z2.cells[· % z2.cells.size]!)).toArray := by
        apply Array.ext'
        simp
      rw [eb, hcl]
      simp
  unfold Oper.wp
  simp only [execOp, ho]
  rw [show (do pure (Next.value (← Instr.buildSlice t len (parts.map fun p => match p with | (i, x) => (i, a.eval x)))) : Sem Next).run P w = .ok (.value (.slice (some ⟨w.heap.size, 0, none⟩) len len)) (w.alloc (.cells cs.toArray e)) from run_val' er]
  have hfin := h
  split at hfin
  · simp at e1
    subst e1
    exact new_ref (o := .row e i2.size 0 fun _ => []) hE hC hW rfl ((Belw.refl _ _).alloc (Nat.le_refl _) _) ⟨_, upd_same _ _ _, _, 0, rfl, by omega, fun k hk => by omega, .inl ⟨rfl, rfl⟩⟩ (fun b hf => by rw [foot_row (upd_same _ _ _)] at hf; simp at hf) hfin
  refine new_ref (o := .lit e i2.size rows) hE hC hW rfl ((Belw.refl _ _).alloc (Nat.le_refl _) _) ⟨w.heap.size, cs, by rw [upd_same, e1], hC.le, hrs, ?_, hat.ext (ext_upd (hC.new nx (Nat.le_refl _))), by simpa using heap_alloc_new w _⟩ (fun b hf => ?_) hfin
  · have : len ≤ len * i2.size := Nat.le_mul_of_pos_right _ (by omega)
    omega
  · simp only [foot, base_sl (upd_same _ _ _), Option.map_some] at hf
    injection hf with hf; omega
theorem op_nil {o : Oper} (ho : o.op = .assign (.const (.slice none 0 0))) (h : opK P T sz false o env obs nx K) : o.wp P a w (NxA B w0 sz K w) Q := by
  simp only [opK, ho] at h
  have plain : (putK sz o.dst (.one (.val (.slice none 0 0))) env fun env' => K env' obs nx) → NxA B w0 sz K w (a.put o.dst (.slice none 0 0)) w := fun h => by
    obtain ⟨env', hK, hE'⟩ := putK_spec hE (v := .one (.val (.slice none 0 0))) rfl h
    exact ⟨ρ, env', obs, nx, hK, hE', hC, hW.put, Belw.refl _ _⟩
  obtain ⟨ty, i, d, z, ht, hi, hd, hz, rfl, h⟩ := fnd_ty hT h
  simp only at h
  unfold Oper.wp
  simp only [execOp, ho]
  show NxA B w0 sz K w (a.put o.dst (.slice none 0 0)) w
  split at h
  · obtain ⟨te, h⟩ := fndK_spec h
    exact new_ref (o := .row _ te.size 0 fun _ => []) hE hC hW rfl (Belw.refl _ _) ⟨_, upd_same _ _ _, none, 0, rfl, by omega, fun k hk => by omega, .inl ⟨rfl, rfl⟩⟩ (fun b hf => by rw [foot_row (upd_same _ _ _)] at hf; simp at hf) h.2
  · exact plain h
theorem op_makeSlice {o : Oper} {t : TypeId} {x y : Operand} (ho : o.op = .makeSlice t x y) (h : opK P T sz false o env obs nx K) : o.wp P a w (NxA B w0 sz K w) Q := by
  simp only [opK, ho] at h
  obtain ⟨ty, i, d, z, ht, hi, hd, hz, rfl, h⟩ := fnd_ty hT h
  simp only at h
  split at h
  rotate_left
  · exact h.elim
  rename_i e hs
  have e0 := sh_sl hs
  subst e0
  obtain ⟨te, i2, d2, z2, ht2, hi2, hd2, hz2, rfl, h⟩ := fnd_ty hT h
  simp only at h
  obtain ⟨v, hv, h⟩ := evK_spec hE h
  obtain ⟨u, hu, h⟩ := evK_spec hE h
  split at h
  rotate_left
  · exact h.elim
  rename_i kl l kc c _
  have ex : a.eval x = .int kl l := hv
  have ey : a.eval y = .int kc c := hu
  split at h
  rotate_left
  · exact h.elim
  rename_i b1 b2
  have e1 : i2.size ≠ 0 := Nat.ne_of_beq_eq_false b1
  have e2 : z2.cells.size = i2.size := by have := Nat.eq_of_beq_eq_true b2; simpa using this
  obtain ⟨n, m, rfl, rfl, hnm, hm, hby, h⟩ := h.h
  have hby' : (i2.bytes : Int) * (m : Int) ≤ 281474976710656 := by
    have h1 : ((i2.bytes * m : Nat) : Int) ≤ 281474976710656 := by omega
    rwa [Int.natCast_mul] at h1
  have er := run_make (P := P) (w := w) t e i2 z2 hd hi2 hz2 kl kc n m (by omega) (by omega) hby' (by omega)
  unfold Oper.wp
  simp only [execOp, ho, ex, ey]
  rw [show (do pure (Next.value (← Instr.makeSlice t (.int kl n) (.int kc m))) : Sem Next).run P w = .ok (.value (.slice (some ⟨w.heap.size, 0, none⟩) n m)) (w.alloc (.cells (madeCells z2.cells (m * i2.size)) e)) from run_val' er]
  refine new_ref (o := .row e i2.size n fun _ => z2.cells.toList) hE hC hW rfl ((Belw.refl _ _).alloc (Nat.le_refl _) _) ⟨_, upd_same _ _ _, _, m, rfl, by omega, fun k hk => by simp [e2], ?_⟩ (fun b hf => ?_) h
  · by_cases hm0 : m = 0
    · exact .inl ⟨by omega, hm0⟩
    · refine .inr ⟨w.heap.size, _, rfl, hC.le, heap_alloc_new w _, hnm, by omega, by unfold maxLen; omega, by simp [madeCells], ?_⟩
      have hz2' : ∀ k, k < n → ((fun _ => z2.cells.toList : Nat → List Value) k).length = i2.size := fun k _ => by simp [e2]
      have hfl := flat_length hz2'
      have hns : n * i2.size ≤ m * i2.size := Nat.mul_le_mul_right _ hnm
      apply List.ext_getElem?
      intro p
      by_cases hp : p < n * i2.size
      · obtain ⟨q, r, hr, rfl⟩ : ∃ q r, r < i2.size ∧ p = q * i2.size + r := ⟨p / i2.size, p % i2.size, Nat.mod_lt _ (by omega), by rw [Nat.mul_comm]; exact (Nat.div_add_mod p _).symm⟩
        have hq : q < n := by
          rcases Nat.lt_or_ge q n with c | c
          · exact c
          · have : n * i2.size ≤ q * i2.size := Nat.mul_le_mul_right _ c
            omega
        have e3 : (z2.cells.toList)[r]? = some (z2.cells.toList[r]'(by simp [e2]; exact hr)) := List.getElem?_eq_getElem _
        rw [flat_get (get := fun _ => z2.cells.toList) hz2' hq e3, List.getElem?_take_of_lt hp]
        have hmod : (q * i2.size + r) % z2.cells.size = r := by rw [e2, Nat.add_comm, Nat.add_mul_mod_self_right, Nat.mod_eq_of_lt hr]
        simp [madeCells, hmod, (by omega : q * i2.size + r < m * i2.size), (by omega : r < z2.cells.size)]
      · rw [List.getElem?_take, if_neg hp, List.getElem?_eq_none (by rw [hfl]; omega)]
  · rw [foot_row (upd_same _ _ _)] at hf
    split at hf
    · cases hf
    · injection hf with hf
      exact Nat.le_of_eq hf
end
end Go.Proofs.YtlbffibpcjjpkaaDoor.V

namespace Go.Proofs.YtlbffibpcjjpkaaDoor.V
open Go Go.RowKit
variable [Dr]
set_option linter.unusedSectionVars false
theorem ArrIs.cut {w : World} {A : Option Addr} {s n c a b : Nat} {get : Nat → List Value} (h : ArrIs w (.slice A n c) s n get) (hab : a ≤ b) (hb : b ≤ n) : ArrIs w (.slice (if c = a then A else A.map (·.add (a * s))) (b - a) (c - a)) s (b - a) (fun k => get (a + k)) := by
  obtain ⟨A', c', e, hn, hc, hh⟩ := h
  injection e with e1 e2 e3
  subst e1 e3
  refine ⟨_, _, rfl, by omega, by omega, fun k hk => ?_⟩
  obtain ⟨ad, rfl, hlt, hs, hl⟩ := hh (a + k) (by omega)
  rw [if_neg (by omega)]
  refine ⟨ad.add (a * s), rfl, by rw [block_of_add]; exact hlt, hs, fun j u hu => ?_⟩
  rw [add_of_add]
  have := hl j u hu
  rw [Nat.add_mul] at this
  rw [← Nat.add_assoc]
  exact this
theorem RowIs.cap {B : Nat} {w : World} {A : Option Addr} {c t s n : Nat} {get : Nat → List Value} (h : RowIs B w (.slice A n c) t s n get) : n ≤ c := by
  obtain ⟨A', c', e, hn, hs, hh⟩ := h
  injection e with e1 e2 e3
  subst e3
  rcases hh with ⟨a, b⟩ | ⟨g, cur, _, _, _, hnc, _⟩ <;> omega
theorem Cls.freeze {B nx : Nat} {ρ : Rho} {obs : Obs} {w : World} {i t s n : Nat} {get : Nat → List Value} (h : Cls B ρ obs nx w) (ho : fnd obs i = some (.row t s n get)) : Cls B ρ ((i, .arr s n get) :: obs) nx w := by
  obtain ⟨v, e, hr⟩ := h.sat i _ ho
  have hs : Sat B ρ w i (.arr s n get) := ⟨v, e, hr.arr⟩
  have ff : ∀ b, foot ρ i (.arr s n get) = some b → foot ρ i (.row t s n get) = some b := by
    intro b hb
    obtain ⟨A, c, rfl, hn, hss, hh⟩ := hr
    rw [foot_row e]
    cases n with
    | zero => simp [foot] at hb
    | succ n =>
      rcases hh with ⟨a, b⟩ | ⟨g, cur, rfl, _, _, hnc, hc, _⟩
      · omega
      · rw [if_neg (by omega)]
        simpa [foot, base_sl e] using hb
  refine ⟨h.le, fun j u hu => ?_, fun j k o1 o2 c h1 h2 hne hmu hf1 => ?_, h.new, Apx.cons h.apx (fun _ _ _ _ => rfl) fun j u b hn hu hb q => (h.apx j i u _ b hu ho hb).1 (ff b q)⟩
  · rcases fnd_cons hu with ⟨rfl, rfl⟩ | ⟨hn, hu⟩
    · exact hs
    · exact h.sat j u hu
  · rcases fnd_cons h1 with ⟨rfl, rfl⟩ | ⟨hn1, h1⟩
    · cases hmu
    · rcases fnd_cons h2 with ⟨rfl, rfl⟩ | ⟨hn2, h2⟩
      · exact fun q => h.apart j i o1 _ c h1 ho hne hmu hf1 (ff c q)
      · exact h.apart j k o1 o2 c h1 h2 hne hmu hf1
theorem Cls.view {B nx : Nat} {ρ : Rho} {obs : Obs} {w : World} {i s n s' n' : Nat} {get get' : Nat → List Value} {v : Value} (h : Cls B ρ obs nx w) (ho : fnd obs i = some (.arr s n get)) (hv : ArrIs w v s' n' get')
    (hb : ∀ b, foot (upd ρ nx v) nx (.arr s' n' get') = some b → foot ρ i (.arr s n get) = some b) : Cls B (upd ρ nx v) ((nx, .arr s' n' get') :: obs) (nx + 1) w := by
  have hx : Ext ρ (upd ρ nx v) := ext_upd (h.new nx (Nat.le_refl _))
  have old : ∀ i o', nx ≠ i → foot (upd ρ nx v) i o' = foot ρ i o' := fun i o' hn => foot_eq (upd_ne v (Ne.symm hn))
  refine ⟨h.le, fun j u hu => ?_, fun j k o1 o2 c h1 h2 hne hmu hf1 => ?_, fun j hj => ?_, Apx.cons h.apx (fun j u hn _ => old j u hn) fun j u b hn hu hs q => (h.apx j i u _ b hu ho hs).1 (hb b q)⟩
  · rcases fnd_cons hu with ⟨rfl, rfl⟩ | ⟨hn, hu⟩
    · exact ⟨v, upd_same _ _ _, hv⟩
    · exact (h.sat j u hu).ext hx
  · rcases fnd_cons h1 with ⟨rfl, rfl⟩ | ⟨hn1, h1⟩
    · cases hmu
    · rw [old _ _ hn1] at hf1
      rcases fnd_cons h2 with ⟨rfl, rfl⟩ | ⟨hn2, h2⟩
      · intro q
        have q2 := hb c q
        by_cases e : j = i
        · subst e
          rw [ho] at h1; injection h1 with h1; subst h1; cases hmu
        · exact h.apart j i o1 _ c h1 ho e hmu hf1 q2
      · rw [old _ _ hn2]
        exact h.apart j k o1 o2 c h1 h2 hne hmu hf1
  · rw [upd_ne v (by omega)]; exact h.new j (by omega)
theorem flat_tail {get news g : Nat → List Value} {n m : Nat} (h1 : ∀ k, k < n → g k = get k) (h2 : ∀ k, k < m → g (n + k) = news k) : flat g (n + m) = flat get n ++ flat news m := by
  have e : ∀ (f : Nat → List Value) (m : Nat), flat f (m + 1) = flat f m ++ f m := fun f m => by unfold flat; rw [List.range_succ, List.flatMap_append]; simp
  have a1 : ∀ p, p ≤ n → flat g p = flat get p := by
    intro p
    induction p with
    | zero => intro _; rfl
    | succ p ih => intro hp; rw [e, e, ih (by omega), h1 p (by omega)]
  have a2 : ∀ p, p ≤ m → flat g (n + p) = flat get n ++ flat news p := by
    intro p
    induction p with
    | zero => intro _; rw [Nat.add_zero, a1 n (Nat.le_refl _)]; simp [flat]
    | succ p ih => intro hp; rw [← Nat.add_assoc, e, e, ih (by omega), h2 p (by omega), List.append_assoc]
  exact a2 m (Nat.le_refl _)
theorem Cls.moved {B nx : Nat} {ρ : Rho} {obs : Obs} {w w' : World} {i t s n' : Nat} {g : Nat → List Value} {v v' : Value} {oi : Ob} (h : Cls B ρ obs nx w) (ho : fnd obs i = some oi) (hmut : oi.mut = true) (fi : foot ρ i oi = footV v) (hr : RowIs B w' v' t s n' g)
    (hg : w.grownBy w' (footV v)) (hf : ∀ b, footV v' = some b → footV v = some b ∨ w.heap.size ≤ b) : Cls B (upd ρ nx v') ((nx, .row t s n' g) :: (i, .gone) :: obs) (nx + 1) w' := by
  have hx : Ext ρ (upd ρ nx v') := ext_upd (h.new nx (Nat.le_refl _))
  have old : ∀ i o', nx ≠ i → foot (upd ρ nx v') i o' = foot ρ i o' := fun i o' hn => foot_eq (upd_ne v' (Ne.symm hn))
  have fn_ : foot (upd ρ nx v') nx (.row t s n' g) = footV v' := foot_rowV (upd_same _ _ _) hr
  have apart_ : ∀ j o b, i ≠ j → fnd obs j = some o → foot ρ j o = some b → footV v ≠ some b := fun j o b hne hj hb e => by
    exact h.apart i j _ o b ho hj hne hmut (fi.trans e) hb
  have subA : ∀ j u b, fnd obs j = some u → sub u b → footV v ≠ some b := fun j u b hu hb q => (h.apx j i u _ b hu ho hb).1 (fi.trans q)
  have ax : Apx (upd ρ nx v') ((nx, .row t s n' g) :: (i, .gone) :: obs) := by
    refine Apx.cons (ρ := ρ) (Apx.cons (ρ := ρ) (ρ' := ρ) (o' := .gone) h.apx (fun _ _ _ _ => rfl) fun j u b _ _ _ q => by cases q) (fun j u hn _ => old j u hn) fun j u b hn hu hb q => ?_
    rcases fnd_cons hu with ⟨rfl, rfl⟩ | ⟨hn2, hu⟩
    · exact hb
    · rw [fn_] at q
      rcases hf b q with q | q
      · exact subA j u b hu hb q
      · have := (sub_lt (h.sat j u hu) hb).2; omega
  refine ⟨Nat.le_trans h.le hg.size, fun j u hu => ?_, fun j k o1 o2 c h1 h2 hne hmu hf1 => ?_, fun j hj => ?_, ax⟩
  · rcases fnd_cons hu with ⟨rfl, rfl⟩ | ⟨hn, hu⟩
    · exact ⟨v', upd_same _ _ _, hr⟩
    · rcases fnd_cons hu with ⟨rfl, rfl⟩ | ⟨hn2, hu⟩
      · trivial
      · exact ((h.sat j u hu).keep hg.size (fun b hb => hg.block b (foot_lt (h.sat j u hu) hb) (fun e => apart_ j u b hn2 hu hb e.symm)) (fun b hb => hg.block b (sub_lt (h.sat j u hu) hb).2 (fun e => subA j u b hu hb e.symm)) fun b hb => hg.block b (Nat.lt_of_lt_of_le hb h.le) fun e => by have := mut_ge (h.sat i _ ho) hmut (fi.trans e.symm); omega).ext hx
  · have new_ : ∀ j o b, nx ≠ j → fnd ((i, Ob.gone) :: obs) j = some o → foot (upd ρ nx v') j o = some b → footV v' ≠ some b := fun j o b hn hj hb e => by
      rw [old _ _ hn] at hb
      rcases fnd_cons hj with ⟨rfl, rfl⟩ | ⟨hn2, hj⟩
      · cases hb
      · rcases hf b e with q | q
        · exact apart_ j o b hn2 hj hb q
        · have := foot_lt (h.sat j o hj) hb; omega
    rcases fnd_cons h1 with ⟨rfl, rfl⟩ | ⟨hn1, h1⟩
    · rcases fnd_cons h2 with ⟨rfl, rfl⟩ | ⟨hn2, h2⟩
      · exact absurd rfl hne
      · intro q
        rw [fn_] at hf1
        exact new_ k o2 c hn2 h2 q hf1
    · rcases fnd_cons h2 with ⟨rfl, rfl⟩ | ⟨hn2, h2⟩
      · intro q
        rw [fn_] at q
        exact new_ j o1 c hn1 h1 hf1 q
      · rw [old _ _ hn1] at hf1
        rw [old _ _ hn2]
        rcases fnd_cons h1 with ⟨rfl, rfl⟩ | ⟨hn3, h1⟩
        · cases hf1
        · rcases fnd_cons h2 with ⟨rfl, rfl⟩ | ⟨hn4, h2⟩
          · intro q; cases q
          · exact h.apart j k o1 o2 c h1 h2 hne hmu hf1
  · rw [upd_ne v' (by omega)]; exact h.new j (by omega)
theorem Cls.movedS {B nx : Nat} {ρ : Rho} {obs : Obs} {w w' : World} {i t e s n n' : Nat} {vs vs' : Nat → Value} {xs xs' : Nat → Option (Nat × (Nat → List Value))} {v v' : Value} (h : Cls B ρ obs nx w) (ho : fnd obs i = some (.rws t e s n vs xs)) (hv : ρ i = some v) (hr : RowIs B w' v' t 1 n' fun k => [vs' k])
    (hx' : ∀ k x, k < n' → xs' k = some x → k < n ∧ xs k = some x ∧ vs' k = vs k) (hg : w.grownBy w' (footV v)) (hf : ∀ b, footV v' = some b → footV v = some b ∨ w.heap.size ≤ b) : Cls B (upd ρ nx v') ((nx, .rws t e s n' vs' xs') :: (i, .gone) :: obs) (nx + 1) w' := by
  have hx : Ext ρ (upd ρ nx v') := ext_upd (h.new nx (Nat.le_refl _))
  have old : ∀ i o', nx ≠ i → foot (upd ρ nx v') i o' = foot ρ i o' := fun i o' hn => foot_eq (upd_ne v' (Ne.symm hn))
  have fn_ : foot (upd ρ nx v') nx (.rws t e s n' vs' xs') = footV v' := foot_rowV (t := t) (s := 1) (n := n') (upd_same _ _ _) hr
  obtain ⟨⟨v0, e0, hr0⟩, hs0, hd0⟩ := h.sat i _ ho
  rw [hv] at e0; injection e0 with e0; subst e0
  have fi : foot ρ i (.rws t e s n vs xs) = footV v := foot_rowV (t := t) (s := 1) (n := n) hv hr0
  have ge : ∀ b, footV v = some b → B ≤ b := fun b hb => (hr0.foot hb).1
  have apart_ : ∀ j o b, i ≠ j → fnd obs j = some o → foot ρ j o = some b → footV v ≠ some b := fun j o b hne hj hb q => h.apart i j _ o b ho hj hne rfl (fi.trans q) hb
  have subA : ∀ j u b, fnd obs j = some u → sub u b → footV v ≠ some b := fun j u b hu hb q => (h.apx j i u _ b hu ho hb).1 (fi.trans q)
  have less : ∀ b, sub (.rws t e s n' vs' xs') b → sub (.rws t e s n vs xs) b := fun b ⟨k, x, h1, h2, h3⟩ => by
    obtain ⟨q1, q2, q3⟩ := hx' k x h1 h2
    exact ⟨k, x, q1, q2, by rw [← q3]; exact h3⟩
  have keepS : ∀ b, sub (.rws t e s n vs xs) b → w'.heap[b]? = w.heap[b]? := fun b hb => hg.block b (sub_lt (h.sat i _ ho) hb).2 fun q => subA i _ b ho hb q.symm
  have newF : ∀ j u b, fnd obs j = some u → sub u b → footV v' ≠ some b := fun j u b hu hb q => by
    rcases hf b q with q | q
    · exact subA j u b hu hb q
    · have := (sub_lt (h.sat j u hu) hb).2; omega
  refine ⟨Nat.le_trans h.le hg.size, fun j u hu => ?_, fun j k o1 o2 c h1 h2 hne hmu hf1 => ?_, fun j hj => ?_, fun j k o1 o2 c h1 h2 hc => ?_⟩
  · rcases fnd_cons hu with ⟨rfl, rfl⟩ | ⟨hn, hu⟩
    · refine ⟨⟨v', upd_same _ _ _, hr⟩, fun k m g h1 h2 => ?_, fun k k' x y b h1 h2 hne h3 h4 h5 => ?_⟩
      · obtain ⟨q1, q2, q3⟩ := hx' k _ h1 h2
        rw [q3]
        exact (hs0 k m g q1 q2).kept fun b hb => keepS b ⟨k, _, q1, q2, hb⟩
      · obtain ⟨q1, q2, q3⟩ := hx' k _ h1 h3
        obtain ⟨r1, r2, r3⟩ := hx' k' _ h2 h4
        rw [q3] at h5; rw [r3]
        exact hd0 k k' x y b q1 r1 hne q2 r2 h5
    · rcases fnd_cons hu with ⟨rfl, rfl⟩ | ⟨hn2, hu⟩
      · trivial
      · exact ((h.sat j u hu).keep hg.size (fun b hb => hg.block b (foot_lt (h.sat j u hu) hb) (fun e => apart_ j u b hn2 hu hb e.symm)) (fun b hb => hg.block b (sub_lt (h.sat j u hu) hb).2 (fun e => subA j u b hu hb e.symm)) fun b hb => hg.block b (Nat.lt_of_lt_of_le hb h.le) fun e => by have := ge b e.symm; omega).ext hx
  · have new_ : ∀ j o b, nx ≠ j → fnd ((i, Ob.gone) :: obs) j = some o → foot (upd ρ nx v') j o = some b → footV v' ≠ some b := fun j o b hn hj hb e => by
      rw [old _ _ hn] at hb
      rcases fnd_cons hj with ⟨rfl, rfl⟩ | ⟨hn2, hj⟩
      · cases hb
      · rcases hf b e with q | q
        · exact apart_ j o b hn2 hj hb q
        · have := foot_lt (h.sat j o hj) hb; omega
    rcases fnd_cons h1 with ⟨rfl, rfl⟩ | ⟨hn1, h1⟩
    · rcases fnd_cons h2 with ⟨rfl, rfl⟩ | ⟨hn2, h2⟩
      · exact absurd rfl hne
      · intro q
        rw [fn_] at hf1
        exact new_ k o2 c hn2 h2 q hf1
    · rcases fnd_cons h2 with ⟨rfl, rfl⟩ | ⟨hn2, h2⟩
      · intro q
        rw [fn_] at q
        exact new_ j o1 c hn1 h1 hf1 q
      · rw [old _ _ hn1] at hf1
        rw [old _ _ hn2]
        rcases fnd_cons h1 with ⟨rfl, rfl⟩ | ⟨hn3, h1⟩
        · cases hf1
        · rcases fnd_cons h2 with ⟨rfl, rfl⟩ | ⟨hn4, h2⟩
          · intro q; cases q
          · exact h.apart j k o1 o2 c h1 h2 hne hmu hf1
  · rw [upd_ne v' (by omega)]; exact h.new j (by omega)
  · rcases fnd_cons h1 with ⟨rfl, rfl⟩ | ⟨hn1, h1⟩
    · have hc' := less c hc
      rcases fnd_cons h2 with ⟨rfl, rfl⟩ | ⟨hn2, h2⟩
      · exact ⟨by rw [fn_]; exact newF i _ c ho hc', fun z => absurd rfl z⟩
      · rw [old _ _ hn2]
        rcases fnd_cons h2 with ⟨rfl, rfl⟩ | ⟨hn4, h2⟩
        · exact ⟨fun q => (by cases q), fun _ z => z⟩
        · exact ⟨(h.apx i k _ o2 c ho h2 hc').1, fun _ => (h.apx i k _ o2 c ho h2 hc').2 hn4⟩
    · rcases fnd_cons h1 with ⟨rfl, rfl⟩ | ⟨hn3, h1⟩
      · exact hc.elim
      · rcases fnd_cons h2 with ⟨rfl, rfl⟩ | ⟨hn2, h2⟩
        · exact ⟨by rw [fn_]; exact newF j o1 c h1 hc, fun _ z => (h.apx j i o1 _ c h1 ho hc).2 (Ne.symm hn3) (less c z)⟩
        · rw [old _ _ hn2]
          rcases fnd_cons h2 with ⟨rfl, rfl⟩ | ⟨hn4, h2⟩
          · exact ⟨fun q => (by cases q), fun _ z => z⟩
          · exact h.apx j k o1 o2 c h1 h2 hc
section
variable {P : Program} {T : TT} {sz : Nat} {ρ : Rho} {env : Env} {a : Act} {B nx : Nat} {obs : Obs} {w0 : St} {w : World} (hT : TTok P T) (hE : EnvR sz ρ env a) (hC : Cls B ρ obs nx w) (hW : Wy B w0 ρ a.defers w) {K : Env → Obs → Nat → Prop} {Q : Exit → Act → World → Prop}
include hE hC hW
theorem cut_arr {t e i s n : Nat} {x : Operand} {lo hi : Option Operand} {get : Nat → List Value} {te : TypeInfo} {dst : Option Tmp} {o : Oper} (ho : o.op = .slice t x lo hi none) (hod : o.dst = dst) (hd : P.underlying t = some (.slice e)) (hi2 : P.info? e = some te) (hs : s = te.size)
    (hob : fnd obs i = some (.arr s n get)) (hv : ρ i = some (a.eval x))
    (h : optK env lo fun l => optK env hi fun h => NCut l h n fun a b => putK sz dst (.one (.ref nx)) env fun env' => K env' ((nx, .arr s (b - a) fun k => get (a + k)) :: obs) (nx + 1)) : o.wp P a w (NxA B w0 sz K w) Q := by
  subst hod
  obtain ⟨l, h, hl⟩ := optK_spec hE h
  obtain ⟨h', h, hh⟩ := optK_spec hE h
  obtain ⟨p, q, h1, h2, h3, h4, h⟩ := h.h
  obtain ⟨v, e1, hA⟩ := hC.sat i _ hob
  rw [hv] at e1
  injection e1 with e1
  obtain ⟨A, c, ev, hn, hc, hcell⟩ := hA
  subst ev
  have hA : ArrIs w (.slice A n c) s n get := ⟨A, c, rfl, hn, hc, hcell⟩
  have hr := run_bounds (P := P) (w := w) (s := true) (n := n) (c := c) hl hh h1 h2 h3 h4 hc
  have er : (Instr.sliceAt t (a.eval x) (lo.map a.eval) (hi.map a.eval) none).run P w = .ok (.slice (if c = p then A else A.map (·.add (p * s))) (q - p) (c - p)) w := by
    rw [e1]
    simp [Instr.sliceAt, run_underlying hd, Instr.slice, Sem.run_bind, hr, run_size hi2, hs]
  unfold Oper.wp
  simp only [execOp, ho, Option.map_none]
  rw [run_val' er]
  have hx : Ext ρ (upd ρ nx (.slice (if c = p then A else A.map (·.add (p * s))) (q - p) (c - p))) := ext_upd (hC.new nx (Nat.le_refl _))
  obtain ⟨env', hK, hE'⟩ := putK_spec (hE.ext hx) (v := .one (.ref nx)) ⟨upd_same _ _ _, rfl⟩ h
  refine ⟨_, env', _, _, hK, hE', hC.view hob (hA.cut h3 h4) (fun b hb => ?_), (hW.ext hx).put, Belw.refl _ _⟩
  have hnz : q - p ≠ 0 := fun e0 => by rw [e0] at hb; simp [foot] at hb
  obtain ⟨ad, eA, _⟩ := hcell p (by omega)
  subst eA
  rw [if_neg (by omega)] at hb
  have e2 : foot (upd ρ nx (.slice ((some ad).map (·.add (p * s))) (q - p) (c - p))) nx (.arr s (q - p) fun k => get (p + k)) = some ad.block := by
    obtain ⟨m, hm⟩ : ∃ m, q - p = m + 1 := ⟨q - p - 1, by omega⟩
    rw [hm]
    simp [foot, base, upd_same, block_of_add]
  rw [e2] at hb
  obtain ⟨m, hm⟩ : ∃ m, n = m + 1 := ⟨n - 1, by omega⟩
  subst hm
  rw [← hb]
  rw [e1] at hv
  simp [foot, base_sl hv]
theorem cut_sh {t e i s n t' : Nat} {x : Operand} {lo hi : Option Operand} {get : Nat → List Value} {te : TypeInfo} {dst : Option Tmp} {o : Oper} (ho : o.op = .slice t x lo hi none) (hod : o.dst = dst) (hd : P.underlying t = some (.slice e)) (hi2 : P.info? e = some te) (hs : s = te.size)
    (hob : fnd obs i = some (.row t' s n get)) (hv : ρ i = some (a.eval x))
    (h : optK env lo fun l => optK env hi fun h => NCut l h n fun a b => NZero a (putK sz dst (.one (.ref nx)) env fun env' => K env' ((nx, .row t' s b get) :: (i, .gone) :: obs) (nx + 1))) : o.wp P a w (NxA B w0 sz K w) Q := by
  subst hod
  obtain ⟨l, h, hl⟩ := optK_spec hE h
  obtain ⟨h', h, hh⟩ := optK_spec hE h
  obtain ⟨p, q, h1, h2, h3, h4, h⟩ := h.h
  obtain ⟨hp, hfin⟩ := h
  subst hp
  obtain ⟨v, e1, A, c, ev, hn, hsl, hcase⟩ := hC.sat i _ hob
  have e2 : v = a.eval x := by rw [hv] at e1; exact (Option.some.inj e1).symm
  have hr0 : RowIs B w (a.eval x) t' s n get := e2 ▸ ⟨A, c, ev, hn, hsl, hcase⟩
  have hcn : n ≤ c := by
    rcases hcase with ⟨h0, h5⟩ | ⟨_, _, _, _, _, h5, _⟩
    · omega
    · exact h5
  have hA : A.map (·.add (0 * s)) = A := by
    rcases hcase with ⟨h0, h5⟩ | ⟨g, cur, eA, _⟩
    · cases A with
      | none => rfl
      | some ad => simp [Addr.add]
    · subst eA; simp [Addr.add]
  have hr := run_bounds (P := P) (w := w) (s := true) (n := n) (c := c) hl hh h1 h2 h3 h4 hcn
  have er : (Instr.sliceAt t (a.eval x) (lo.map a.eval) (hi.map a.eval) none).run P w = .ok (.slice A q c) w := by
    rw [← e2, ev]
    simp only [Instr.sliceAt, run_underlying hd, Instr.slice, Sem.run_bind, hr, run_size hi2, ← hs, Sem.run_pure, Result.andThen_ok]
    by_cases c0 : c = 0
    · simp [c0]
    · simp only [c0, if_false, hA, Nat.sub_zero]
  have hR : RowIs B w (.slice A q c) t' s q get := by
    refine ⟨A, c, rfl, by omega, fun k hk => hsl k (by omega), ?_⟩
    rcases hcase with ⟨h0, h5⟩ | ⟨g, cur, eA, hB, hg, hnc, hc0, hcm, hcs, htake⟩
    · exact .inl ⟨by omega, h5⟩
    · refine .inr ⟨g, cur, eA, hB, hg, by omega, hc0, hcm, hcs, ?_⟩
      have e6 := flat_tail (get := get) (news := fun k => get (q + k)) (g := get) (n := q) (m := n - q) (fun _ _ => rfl) (fun _ _ => rfl)
      rw [show q + (n - q) = n by omega] at e6
      have l1 : (flat get q).length = q * s := flat_length fun k hk => hsl k (by omega)
      have mm : q * s ≤ n * s := Nat.mul_le_mul_right _ h4
      have h8 : (cur.toList.take (n * s)).take (q * s) = cur.toList.take (q * s) := by rw [List.take_take, Nat.min_eq_left mm]
      rw [← h8, htake, e6, List.take_left' l1]
  have hft : footV (.slice A q c) = footV (a.eval x) := by rw [← e2, ev]; rfl
  unfold Oper.wp
  simp only [execOp, ho, Option.map_none]
  rw [run_val' er]
  have hx : Ext ρ (upd ρ nx (.slice A q c)) := ext_upd (hC.new nx (Nat.le_refl _))
  obtain ⟨env', hK, hE'⟩ := putK_spec (hE.ext hx) (v := .one (.ref nx)) ⟨upd_same _ _ _, rfl⟩ hfin
  exact ⟨_, env', _, _, hK, hE', hC.moved hob rfl (foot_rowV hv hr0) hR ⟨rfl, rfl, rfl, Nat.le_refl _, fun _ _ _ => rfl⟩ (fun b hb => .inl (by rw [← hft]; exact hb)), (hW.ext hx).put, Belw.refl _ _⟩
theorem cut_vw {t e i s n t' : Nat} {x : Operand} {lo hi : Option Operand} {get : Nat → List Value} {te : TypeInfo} {dst : Option Tmp} {o : Oper} (ho : o.op = .slice t x lo hi none) (hod : o.dst = dst) (hd : P.underlying t = some (.slice e)) (hi2 : P.info? e = some te) (hs : s = te.size)
    (hob : fnd obs i = some (.row t' s n get)) (hv : ρ i = some (a.eval x))
    (h : optK env lo fun l => optK env hi fun h => NCut l h n fun a b => NVw a b n (putK sz dst (.one (.ref nx)) env fun env' => K env' ((nx, .vw i a s) :: obs) (nx + 1))) : o.wp P a w (NxA B w0 sz K w) Q := by
  subst hod
  obtain ⟨l, h, hl⟩ := optK_spec hE h
  obtain ⟨h', h, hh⟩ := optK_spec hE h
  obtain ⟨p, q, h1, h2, h3, h4, h⟩ := h.h
  obtain ⟨hlt, hq, hfin⟩ := h
  subst hq
  obtain ⟨v, e1, A, c, ev, hn, _, hcase⟩ := hC.sat i _ hob
  have hne : i ≠ nx := fun z => by rw [z, hC.new nx (Nat.le_refl _)] at hv; cases hv
  have e2 : v = a.eval x := by rw [hv] at e1; exact (Option.some.inj e1).symm
  rcases hcase with ⟨h0, _⟩ | ⟨g, cur, eA, hB, hg, hnc, _⟩
  · omega
  subst eA
  have hr := run_bounds (P := P) (w := w) (s := true) (n := q) (c := c) hl hh h1 h2 h3 h4 hnc
  have er : (Instr.sliceAt t (a.eval x) (lo.map a.eval) (hi.map a.eval) none).run P w = .ok (.slice (some ((⟨g, 0, none⟩ : Addr).add (p * s))) (q - p) (c - p)) w := by
    rw [← e2, ev]
    simp [Instr.sliceAt, run_underlying hd, Instr.slice, Sem.run_bind, hr, run_size hi2, hs, (show ¬ c = p by omega)]
  unfold Oper.wp
  simp only [execOp, ho, Option.map_none]
  rw [run_val' er]
  refine new_ref (o := .vw i p s) hE hC hW rfl (Belw.refl _ _) ⟨⟨g, 0, none⟩, q, c, ?_, hlt, upd_same _ _ _⟩ (fun b hb => by cases hb) hfin
  rw [upd_ne _ hne, hv, ← e2, ev]
theorem cut_vh {t e i t' e' s' n : Nat} {x : Operand} {lo hi : Option Operand} {vs : Nat → Value} {xs : Nat → Option (Nat × (Nat → List Value))} {te : TypeInfo} {dst : Option Tmp} {o : Oper} (ho : o.op = .slice t x lo hi none) (hod : o.dst = dst) (hd : P.underlying t = some (.slice e)) (hi2 : P.info? e = some te) (hs : 1 = te.size)
    (hob : fnd obs i = some (.rws t' e' s' n vs xs)) (hv : ρ i = some (a.eval x))
    (h : optK env lo fun l => optK env hi fun h => NCut l h n fun a b => NZero a (putK sz dst (.one (.ref nx)) env fun env' => K env' ((nx, .vh i b) :: obs) (nx + 1))) : o.wp P a w (NxA B w0 sz K w) Q := by
  subst hod
  obtain ⟨l, h, hl⟩ := optK_spec hE h
  obtain ⟨h', h, hh⟩ := optK_spec hE h
  obtain ⟨p, q, h1, h2, h3, h4, h⟩ := h.h
  obtain ⟨hp, hfin⟩ := h
  subst hp
  obtain ⟨⟨v, e1, A, c, ev, hn, hsl, hcase⟩, _⟩ := hC.sat i _ hob
  have hne : i ≠ nx := fun z => by rw [z, hC.new nx (Nat.le_refl _)] at hv; cases hv
  have e2 : v = a.eval x := by rw [hv] at e1; exact (Option.some.inj e1).symm
  have hcn : n ≤ c := by
    rcases hcase with ⟨h0, h5⟩ | ⟨_, _, _, _, _, h5, _⟩
    · omega
    · exact h5
  have hA : A.map (·.add (0 * 1)) = A := by
    rcases hcase with ⟨h0, h5⟩ | ⟨g, cur, eA, _⟩
    · cases A with
      | none => rfl
      | some ad => simp [Addr.add]
    · subst eA; simp [Addr.add]
  have hr := run_bounds (P := P) (w := w) (s := true) (n := n) (c := c) hl hh h1 h2 h3 h4 hcn
  have er : (Instr.sliceAt t (a.eval x) (lo.map a.eval) (hi.map a.eval) none).run P w = .ok (.slice A q c) w := by
    rw [← e2, ev]
    simp only [Instr.sliceAt, run_underlying hd, Instr.slice, Sem.run_bind, hr, run_size hi2, ← hs, Sem.run_pure, Result.andThen_ok]
    by_cases c0 : c = 0
    · simp [c0]
    · simp only [c0, if_false, hA, Nat.sub_zero]
  unfold Oper.wp
  simp only [execOp, ho, Option.map_none]
  rw [run_val' er]
  refine new_ref (o := .vh i q) hE hC hW rfl (Belw.refl _ _) ⟨A, n, c, ?_, h4, upd_same _ _ _⟩ (fun b hb => by cases hb) hfin
  rw [upd_ne _ hne, hv, ← e2, ev]
include hT
theorem op_slice {o : Oper} {t : TypeId} {x : Operand} {lo hi : Option Operand} (ho : o.op = .slice t x lo hi none) (h : opK P T sz false o env obs nx K) : o.wp P a w (NxA B w0 sz K w) Q := by
  simp only [opK, ho] at h
  obtain ⟨ty, i, d, z, ht, hi1, hd, hz, rfl, h⟩ := fnd_ty hT h
  simp only at h
  split at h
  · rename_i e hs
    have e0 := sh_sl hs
    subst e0
    obtain ⟨te, i2, d2, z2, ht2, hi2, hd2, hz2, rfl, h⟩ := fnd_ty hT h
    obtain ⟨v, hv, h⟩ := evK_spec hE h
    split at h
    · rename_i io
      obtain ⟨ob, hob, h⟩ := fndK_spec h
      split at h
      · rename_i s n get
        cases hb : Nat.beq s i2.size <;> simp only [hb] at h
        exact cut_arr hE hC hW ho rfl hd hi2 (Nat.eq_of_beq_eq_true hb) hob hv.1 h
      · rename_i t' s n get
        cases hb : Nat.beq s i2.size <;> simp only [hb] at h
        rcases h.h with h | h
        · have hob' : fnd ((io, Ob.arr s n get) :: obs) io = some (.arr s n get) := by
            unfold fnd; rw [Nat.beq_refl]
          exact cut_arr hE (hC.freeze hob) hW ho rfl hd hi2 (Nat.eq_of_beq_eq_true hb) hob' hv.1 h
        · rcases h.h with h | h
          · exact cut_vw hE hC hW ho rfl hd hi2 (Nat.eq_of_beq_eq_true hb) hob hv.1 h
          · exact cut_sh hE hC hW ho rfl hd hi2 (Nat.eq_of_beq_eq_true hb) hob hv.1 h
      · rename_i t' e' s' n vs xs
        cases hb : Nat.beq 1 i2.size <;> simp only [hb] at h
        exact cut_vh hE hC hW ho rfl hd hi2 (Nat.eq_of_beq_eq_true hb) hob hv.1 h
      · exact h.elim
    · exact h.elim
  · exact op_pure hT hE hC hW (by rw [ho]; exact h)
end
theorem arr_news {w : World} {v : Value} {s m : Nat} {get : Nat → List Value} {K : Nat → (Nat → List Value) → Prop} (hA : ArrIs w v s m get) (h1 : ∀ k, k < m → (get k).all Value.oneCell' = true) (hK : K m get) :
    ∃ m get A c, K m get ∧ v = .slice A m c ∧ (∀ k, k < m → (get k).length = s) ∧ (∀ k, k < m → ∀ u ∈ get k, u.oneCell' = true) ∧ (0 < m → ∃ ad, A = some ad ∧ Lies w ad (flat get m)) := by
  obtain ⟨A, c, rfl, hn, hc, hh⟩ := hA
  have hl : ∀ k, k < m → (get k).length = s := fun k hk => by obtain ⟨_, _, _, q, _⟩ := hh k hk; exact q
  refine ⟨m, get, A, c, hK, rfl, hl, fun k hk u hu => List.all_eq_true.1 (h1 k hk) u hu, fun hm => ?_⟩
  obtain ⟨ad, rfl, _, _, _⟩ := hh 0 hm
  refine ⟨ad, rfl, fun p u hu => ?_⟩
  have hp : p < m * s := by
    have := (List.getElem?_eq_some_iff.1 hu).1
    rwa [flat_length hl] at this
  have hs0 : 0 < s := by
    rcases Nat.eq_zero_or_pos s with e | e
    · rw [e, Nat.mul_zero] at hp; omega
    · exact e
  obtain ⟨q, r, hr, rfl⟩ : ∃ q r, r < s ∧ p = q * s + r := ⟨p / s, p % s, Nat.mod_lt _ hs0, by rw [Nat.mul_comm]; exact (Nat.div_add_mod p s).symm⟩
  have hq : q < m := by
    rcases Nat.lt_or_ge q m with c | c
    · exact c
    · have : m * s ≤ q * s := Nat.mul_le_mul_right _ c
      omega
  obtain ⟨ad', e, _, _, hcell⟩ := hh q hq
  injection e with e
  subst e
  have e1 : (get q)[r]? = some ((get q)[r]'(by rw [hl _ hq]; exact hr)) := List.getElem?_eq_getElem _
  have e2 := flat_get hl hq e1
  rw [hu] at e2
  injection e2 with e2
  exact hcell r u (by rw [e1, e2])
theorem news_spec {B nx : Nat} {ρ : Rho} {obs : Obs} {w : World} (hC : Cls B ρ obs nx w) {s j : Nat} {v : Value} (hv : ρ j = some v) {K : Nat → (Nat → List Value) → Prop} (h : newsK obs s j K) :
    ∃ m get A c, K m get ∧ v = .slice A m c ∧ (∀ k, k < m → (get k).length = s) ∧ (∀ k, k < m → ∀ u ∈ get k, u.oneCell' = true) ∧ (0 < m → ∃ ad, A = some ad ∧ Lies w ad (flat get m)) := by
  obtain ⟨o, ho, h⟩ := fndK_spec h
  have hs := hC.sat j o ho
  split at h
  · rename_i t s' rows
    cases hb : Nat.beq s s' <;> simp only [hb] at h
    have es : s = s' := Nat.eq_of_beq_eq_true hb
    subst es
    obtain ⟨ll, hK, hl, hat, h1, h2⟩ := closesK_spec (ρ := ρ) h
    obtain ⟨b, cs, e, _, hrs, hn, hcs, hh⟩ := hs
    have ec : cs = ll.flatten := Ats.fun_ hcs hat
    rw [hv] at e
    injection e with e
    subst e
    have get_ : ∀ k, k < ll.length → (listG ll k).length = s ∧ ∀ u ∈ listG ll k, u.oneCell' = true := by
      intro k hk
      have e1 : listG ll k = ll[k] := by simp [listG, List.getD, List.getElem?_eq_getElem hk]
      obtain ⟨l, e2, e3⟩ := h2 k (rows[k]'(by omega)) (List.getElem?_eq_getElem _)
      rw [List.getElem?_eq_getElem hk] at e2
      injection e2 with e2
      rw [e1]
      exact ⟨by rw [e2, e3]; exact hrs _ (List.getElem_mem _), fun u hu => h1 _ (List.getElem_mem hk) u hu⟩
    refine ⟨ll.length, listG ll, _, _, hK, by rw [hl], fun k hk => (get_ k hk).1, fun k hk => (get_ k hk).2, fun _ => ⟨⟨b, 0, none⟩, rfl, fun p u hu => ?_⟩⟩
    rw [flat_listG, ← ec] at hu
    rw [show (⟨b, 0, none⟩ : Addr).add p = ⟨b, p, none⟩ by unfold Addr.add; split <;> simp_all, cell_of_row w b p cs.toArray t (0, 0) hh]
    simpa using hu
  · rename_i s' m get
    cases hb : Nat.beq s s' <;> simp only [hb] at h
    have es : s = s' := Nat.eq_of_beq_eq_true hb
    subst es
    obtain ⟨v', e, hA⟩ := hs
    rw [hv] at e
    injection e with e
    subst e
    exact arr_news hA h.one h.h
  · rename_i t s' m get
    cases hb : Nat.beq s s' <;> simp only [hb] at h
    have es : s = s' := Nat.eq_of_beq_eq_true hb
    subst es
    obtain ⟨v', e, hA⟩ := hs
    rw [hv] at e
    injection e with e
    subst e
    exact arr_news hA.arr h.one h.h
  · exact h.elim
theorem RowIs.congr {B : Nat} {w : World} {v : Value} {t s n : Nat} {get g : Nat → List Value} (h : RowIs B w v t s n get) (hg : ∀ k, k < n → g k = get k) : RowIs B w v t s n g := by
  obtain ⟨A, c, rfl, hn, hs, hh⟩ := h
  refine ⟨A, c, rfl, hn, fun k hk => by rw [hg k hk]; exact hs k hk, ?_⟩
  rcases hh with h0 | ⟨g', cur, a1, a2, a3, a4, a5, a6, a7, a8⟩
  · exact .inl h0
  · refine .inr ⟨g', cur, a1, a2, a3, a4, a5, a6, a7, ?_⟩
    rw [a8]
    have : ∀ {m : Nat}, m ≤ n → flat get m = flat g m := by
      intro m
      induction m with
      | zero => intro _; rfl
      | succ m ih =>
        intro hm
        have e : ∀ f : Nat → List Value, flat f (m + 1) = flat f m ++ f m := fun f => by unfold flat; rw [List.range_succ, List.flatMap_append]; simp
        rw [e, e, ih (by omega), hg m (by omega)]
    exact this (Nat.le_refl _)
theorem lit_row {B : Nat} {ρ : Rho} {w : World} {i t s : Nat} {r0 : List At} {rs : List (List At)} (hs : Sat B ρ w i (.lit t s (r0 :: rs))) {ll : List (List Value)} (hl : ll.length = (r0 :: rs).length) (hat : Ats ρ (r0 :: rs).flatten ll.flatten)
    (h2 : ∀ (k : Nat) q, (r0 :: rs)[k]? = some q → ∃ l, ll[k]? = some l ∧ l.length = q.length) : ∃ v, ρ i = some v ∧ RowIs B w v t s ll.length (listG ll) ∧ foot ρ i (.lit t s (r0 :: rs)) = footV v := by
  obtain ⟨b, cs, e, hB, hrs, hn, hcs, hh⟩ := hs
  have ec : cs = ll.flatten := Ats.fun_ hcs hat
  have pos : 0 < ll.length := by rw [hl]; simp
  have len : ∀ k, k < ll.length → (listG ll k).length = s := fun k hk => by
    have e1 : listG ll k = ll[k] := by simp [listG, List.getD, List.getElem?_eq_getElem hk]
    obtain ⟨l, e2, e3⟩ := h2 k ((r0 :: rs)[k]'(by omega)) (List.getElem?_eq_getElem _)
    rw [List.getElem?_eq_getElem hk] at e2
    injection e2 with e2
    rw [e1, e2, e3]
    exact hrs _ (List.getElem_mem _)
  have fl : flat (listG ll) ll.length = cs := by rw [flat_listG, ec]
  have sz : cs.length = ll.length * s := by rw [← fl]; exact flat_length len
  refine ⟨_, e, ⟨_, _, by rw [hl], by omega, len, .inr ⟨b, cs.toArray, rfl, hB, hh, by omega, by omega, by simp only [maxLen]; omega, by simp only [List.size_toArray]; rw [sz, hl], ?_⟩⟩, ?_⟩
  · rw [fl]
    show cs.take (ll.length * s) = cs
    rw [← sz, List.take_length]
  · simp only [foot, base_sl e, Option.map_some, footV]
    rw [if_neg (by simp)]
theorem RowIs.owns {B : Nat} {w : World} {A : Option Addr} {c t s n : Nat} {get : Nat → List Value} (h : RowIs B w (.slice A n c) t s n get) (hc : c ≠ 0) : w.ownsRow B t s (.slice A n c) n (flat get n) := by
  obtain ⟨A', c', e, hn, hs, hh⟩ := h
  injection e with e1 e2 e3
  subst e1 e3
  refine ⟨flat_length hs, ?_⟩
  rcases hh with ⟨_, h0⟩ | ⟨g, cur, rfl, a2, a3, a4, a5, a6, a7, a8⟩
  · exact absurd h0 hc
  · exact .inr ⟨g, c, cur, rfl, a2, a3, a4, a6, a7, a8⟩
theorem row_of_owns {B : Nat} {w : World} {v : Value} {t s n : Nat} {g : Nat → List Value} {xs : List Value} (h : w.ownsRow B t s v n xs) (hn : 0 < n) (hm : n ≤ 9223372036854775807) (hs : ∀ k, k < n → (g k).length = s) (hx : xs = flat g n) : RowIs B w v t s n g := by
  rcases h.2 with ⟨_, h0⟩ | ⟨g', cap, cur, rfl, a2, a3, a4, a5, a6, a7⟩
  · omega
  · exact ⟨_, _, rfl, hm, hs, .inr ⟨g', cur, rfl, a2, a3, a4, by omega, a5, a6, by rw [a7, hx]⟩⟩
theorem run_app {P : Program} {B : Nat} {w : World} {t ty e : TypeId} {i : TypeInfo} {z : Value} (ht : P.underlying t = some (.slice e)) (hi : P.info? e = some i) (hz : i.zero = some z) (hzs : z.cells.size = i.size) (hsz : 0 < i.size)
    {v : Value} {n : Nat} {get : Nat → List Value} (hr : RowIs B w v e i.size n get) {A : Option Addr} {m c : Nat} {news g : Nat → List Value} (hl : ∀ k, k < m → (news k).length = i.size) (h1 : ∀ k, k < m → ∀ u ∈ news k, u.oneCell' = true) (hcell : 0 < m → ∃ ad, A = some ad ∧ Lies w ad (flat news m))
    (hg1 : ∀ k, k < n → g k = get k) (hg2 : ∀ k, k < m → g (n + k) = news k) (h63 : n + m ≤ 9223372036854775807) (hby : (n + m) * i.bytes ≤ 140737488355328) (hB : B ≤ w.heap.size) :
    ∃ v' w', (Builtin.append_ #[t, t] ty #[v, .slice A m c]).run P w = .ok v' w' ∧ RowIs B w' v' e i.size (n + m) g ∧ w.grownBy w' (footV v) ∧ (∀ b, footV v' = some b → footV v = some b ∨ w.heap.size ≤ b) := by
  have hr0 := hr
  obtain ⟨X, cv, rfl, hn, hs, hh⟩ := hr
  have hcap := hr0.cap
  have hgs : ∀ k, k < n + m → (g k).length = i.size := by
    intro k hk
    by_cases hkn : k < n
    · rw [hg1 k hkn]; exact hs k hkn
    · have := hg2 (k - n) (by omega)
      rw [show n + (k - n) = k by omega] at this
      rw [this]; exact hl _ (by omega)
  by_cases hm : m = 0
  · subst hm
    refine ⟨.slice X n cv, w, ?_, hr0.congr hg1, World.grownBy.refl w _, fun b hb => .inl hb⟩
    have hroom : n + 0 ≤ cv := by omega
    cases X <;> cases A <;> simp [Builtin.append_, run_underlying ht, run_size hi, Builtin.lenOf, Builtin.firstCells, hcap, storeCells, loadCells, loadCellsFrom, Sem.run_bind]
  · obtain ⟨ad, rfl, hlies⟩ := hcell (by omega)
    have hnl : (flat news m).length = m * i.size := flat_length hl
    have hn1 : ∀ u ∈ flat news m, u.oneCell' = true := by
      intro u hu
      unfold flat at hu
      obtain ⟨k, hk, hu⟩ := List.mem_flatMap.1 hu
      exact h1 k (List.mem_range.1 hk) u hu
    have fin : ∀ (V : Value), w.ownsRow B e i.size V n (flat get n) → footV V = footV (.slice X n cv) → (V.ownBlock = footV V) → (Builtin.append_ #[t, t] ty #[.slice X n cv, .slice (some ad) m c]).run P w = (Builtin.append_ #[t, t] ty #[V, .slice (some ad) m c]).run P w →
        ∃ v' w', (Builtin.append_ #[t, t] ty #[.slice X n cv, .slice (some ad) m c]).run P w = .ok v' w' ∧ RowIs B w' v' e i.size (n + m) g ∧ w.grownBy w' (footV (.slice X n cv)) ∧ (∀ b, footV v' = some b → footV (.slice X n cv) = some b ∨ w.heap.size ≤ b) := by
      intro V ho hf hob heq
      obtain ⟨v', w', a1, a2, a3, _, a5⟩ := run_append_own_at (P := P) w B t ty e i z i.size i.bytes ht hi hz rfl rfl hzs hsz V n (flat get n) ho ad m c (flat news m) hnl hlies hn1 (by unfold maxLen; omega) hby hB
      have R := row_of_owns a2 (by omega) h63 hgs (flat_tail hg1 hg2).symm
      refine ⟨v', w', heq.trans a1, R, by rw [← hf, ← hob]; exact a3, fun b hb => ?_⟩
      have hb' : v'.ownBlock = some b := by
        obtain ⟨A', c', rfl, _⟩ := R
        simp only [footV] at hb
        split at hb
        · cases hb
        · cases A' with
          | none => cases hb
          | some a' => exact hb
      rcases a5 with a5 | a5
      · rw [a5, hob, hf] at hb'; exact .inl hb'
      · rw [a5] at hb'; injection hb' with hb'; right; omega
    rcases hh with ⟨rfl, rfl⟩ | ⟨g', cur, rfl, b2, b3, b4, b5, b6, b7, b8⟩
    · refine fin (.slice none 0 0) (by have : flat get 0 = [] := by simp [flat]
                                       rw [this]; exact World.ownsRow_nil w B e i.size) rfl rfl ?_
      cases X with
      | none => rfl
      | some x =>
        have hpos : ¬ m ≤ 0 := by omega
        simp only [Builtin.append_]
        simp [run_underlying ht, run_size hi, Builtin.lenOf, Builtin.firstCells, Sem.run_bind, loadCells, loadCellsFrom, hm, typeInfo, hi]
        have e1 : Builtin.nextslicecap m 0 = m := by unfold Builtin.nextslicecap; rw [if_pos (by omega)]
        have e2 : ¬ (9223372036854775807 < (m : Int)) := by omega
        have e3 : ¬ (281474976710656 < m * i.bytes) := by rw [Nat.zero_add] at hby; omega
        simp [e1, e2, e3]
    · exact fin _ (hr0.owns (by omega)) rfl (by simp [Value.ownBlock, footV]; omega) rfl
end Go.Proofs.YtlbffibpcjjpkaaDoor.V

namespace Go.Proofs.YtlbffibpcjjpkaaDoor.V
open Go Go.RowKit
variable [Dr]
set_option linter.unusedSectionVars false
theorem putX_twice {α : Type} (f : Nat → α) (k : Nat) (x y : α) : putX (putX f k x) k y = putX f k y := by
  funext j
  unfold putX
  split <;> rfl
theorem Cls.of_fnd {B nx : Nat} {ρ : Rho} {obs obs' : Obs} {w : World} (h : Cls B ρ obs nx w) (e : ∀ i, fnd obs' i = fnd obs i) : Cls B ρ obs' nx w :=
  ⟨h.le, fun i o ho => h.sat i o (by rw [← e]; exact ho), fun i j o o' b h1 h2 => h.apart i j o o' b (by rw [← e]; exact h1) (by rw [← e]; exact h2), h.new, fun i j o o' b h1 h2 => h.apx i j o o' b (by rw [← e]; exact h1) (by rw [← e]; exact h2)⟩
theorem Cls.born {B nx : Nat} {ρ : Rho} {obs : Obs} {w w' : World} {t s n' : Nat} {g : Nat → List Value} {v' : Value} (h : Cls B ρ obs nx w) (hr : RowIs B w' v' t s n' g)
    (hb : Belw w.heap.size w w') (hf : ∀ b, footV v' = some b → w.heap.size ≤ b) : Cls B (upd ρ nx v') ((nx, .row t s n' g) :: obs) (nx + 1) w' :=
  h.more hb ⟨v', upd_same _ _ _, hr⟩ (fun b hb' => hf b (by rw [foot_rowV (upd_same _ _ _) hr] at hb'; exact hb'))
theorem below_grown {B : Nat} {w w' : World} {row : Option Nat} (h : w.grownBy w' row) (hB : B ≤ w.heap.size) (hr : ∀ k, row = some k → B ≤ k) (hd : w.drawn ≤ w'.drawn) : Belw B w w' :=
  ⟨⟨h.os, h.tape, h.output, h.size, fun k hk => h.block k (by omega) (fun e => by have := hr k e.symm; omega)⟩, fun _ => hd⟩
section
variable {P : Program} {T : TT} {sz : Nat} {ρ : Rho} {env : Env} {a : Act} {B nx : Nat} {obs : Obs} {w0 : St} {w : World} (hT : TTok P T) (hE : EnvR sz ρ env a) (hC : Cls B ρ obs nx w) (hW : Wy B w0 ρ a.defers w) {K : Env → Obs → Nat → Prop} {Q : Exit → Act → World → Prop}
include hT hE hC hW
theorem op_append {o : Oper} {t t' : TypeId} {x y : Operand} (ho : o.op = .call ⟨.builtin .append, #[x, y], #[t, t']⟩) (h : opK P T sz false o env obs nx K) : o.wp P a w (Nx B w0 sz K) Q := by
  simp only [opK, ho] at h
  cases htt : Nat.beq t t' <;> simp only [htt] at h
  have et : t = t' := Nat.eq_of_beq_eq_true htt
  subst et
  obtain ⟨ty, i, d, z, ht, hi1, hd, hz, rfl, h⟩ := fnd_ty hT h
  simp only at h
  split at h
  rotate_left
  · exact h.elim
  rename_i e hs
  have e0 := sh_sl hs
  subst e0
  obtain ⟨te, i2, d2, z2, ht2, hi2, hd2, hz2, rfl, h⟩ := fnd_ty hT h
  simp only at h
  split at h
  rotate_left
  · exact h.elim
  rename_i b1 b2
  have hsz : 0 < i2.size := by have := Nat.ne_of_beq_eq_false b1; omega
  have hzs : z2.cells.size = i2.size := by have := Nat.eq_of_beq_eq_true b2; simpa using this
  obtain ⟨v, hv, h⟩ := evK_spec hE h
  obtain ⟨u, hu, h⟩ := evK_spec hE h
  have exec : ∀ v' w', (Builtin.append_ #[t, t] o.type #[a.eval x, a.eval y]).run P w = .ok v' w' → (execOp a.eval o).run P w = .ok (.value v') w' := fun v' w' hr => by
    simp [execOp, ho, resolve, invoke, builtin, Sem.run_bind, hr]
  unfold appK_ at h
  split at h
  · rename_i io j _
    obtain ⟨ob, hob, h⟩ := fndK_spec h
    have main : ∀ (te' s' n : Nat) (get : Nat → List Value) (oi : Ob), fnd obs io = some oi → oi.mut = true → foot ρ io oi = footV (a.eval x) → RowIs B w (a.eval x) te' s' n get → (match Nat.beq te' e, Nat.beq i2.size s', Nat.beq io j with
        | true, true, false => newsK obs i2.size j fun m news => NApp n m get news i2.bytes fun n' g => putK sz o.dst (.one (.ref nx)) env fun env' => K env' ((nx, .row e i2.size n' g) :: (io, .gone) :: obs) (nx + 1)
        | _, _, _ => False) → o.wp P a w (Nx B w0 sz K) Q := by
      intro te' s' n get oi hob hmu hfo hr h
      split at h
      rotate_left
      · exact h.elim
      rename_i q1 q2 q3
      have e1 : te' = e := Nat.eq_of_beq_eq_true q1
      have e2 : i2.size = s' := Nat.eq_of_beq_eq_true q2
      subst e1 e2
      obtain ⟨m, news, A, c, h, ey, hnl, hn1, hcell⟩ := news_spec hC hu.1 h
      obtain ⟨n', g, rfl, hlen, hroom, hg1, hg2, h⟩ := h.h
      obtain ⟨v', w', a1, a2, a3, a4⟩ := run_app (P := P) (ty := o.type) hd hi2 hz2 hzs hsz hr (A := A) (c := c) hnl hn1 hcell (g := g) hg1 hg2 hlen hroom hC.le
      rw [← ey] at a1
      have hx : Ext ρ (upd ρ nx v') := ext_upd (hC.new nx (Nat.le_refl _))
      have hone : v'.oneCell' = true := by obtain ⟨_, _, rfl, _⟩ := a2; rfl
      obtain ⟨env', hK, hE'⟩ := putK_spec (hE.ext hx) (v := .one (.ref nx)) ⟨upd_same _ _ _, hone⟩ h
      have own : ∀ k, footV (a.eval x) = some k → B ≤ k ∧ ∃ cur, w.heap[k]? = some (.cells cur te' (0, 0)) := fun k hk => ⟨(hr.foot hk).1, (hr.foot hk).2.2⟩
      unfold Oper.wp
      rw [exec _ _ a1]
      refine ⟨_, env', _, _, hK, hE', hC.moved hob hmu hfo a2 a3 a4, ((hW.trans (below_grown a3 hC.le (fun k hk => (own k hk).1) (run_drawn _ _ _ _ _ a1)) (fun k D hk => ?_)).ext hx).put⟩
      refine (a3.block k (Array.getElem?_eq_some_iff.1 hk).1 fun e => ?_).trans hk
      obtain ⟨_, cur, hc⟩ := own k e.symm
      rw [hc] at hk; cases hk
    have mainS : ∀ (te' ei s' n : Nat) (vs : Nat → Value) (xs : Nat → Option (Nat × (Nat → List Value))), fnd obs io = some (.rws te' ei s' n vs xs) → (match Nat.beq te' e, Nat.beq i2.size 1 with
      | true, true => fndK obs j fun oj => match oj with
        | .lit _ s1 [[.ref r]] => match Nat.beq s1 1 with
          | true => fndK obs r fun ro => match ro with
            | .row t2 s2 m g => match Nat.beq t2 ei, Nat.beq s2 s', Nat.beq r io with
              | true, true, false => NGrow (n + 1) i2.bytes (NAny fun v => putK sz o.dst (.one (.ref nx)) env fun env' => K env' ((nx, .rws te' ei s' (n + 1) (putX vs n v) (putX xs n (some (m, g)))) :: (r, .gone) :: (io, .gone) :: obs) (nx + 1))
              | _, _, _ => False
            | _ => False
          | false => False
        | _ => False
      | _, _ => False) → o.wp P a w (Nx B w0 sz K) Q := by
      clear h main hob
      intro te' ei s' n vs xs hob hS
      split at hS
      rotate_left
      · exact hS.elim
      rename_i q1 q2
      have e1 : te' = e := Nat.eq_of_beq_eq_true q1
      have e2 : i2.size = 1 := Nat.eq_of_beq_eq_true q2
      subst e1
      obtain ⟨oj, hoj, hS⟩ := fndK_spec hS
      split at hS
      rotate_left
      · exact hS.elim
      rename_i t1 s1 r
      cases hb1 : Nat.beq s1 1 <;> simp only [hb1] at hS
      have es1 := Nat.eq_of_beq_eq_true hb1
      subst es1
      obtain ⟨ro, hro, hS⟩ := fndK_spec hS
      split at hS
      rotate_left
      · exact hS.elim
      rename_i t2 s2 m g
      split at hS
      rotate_left
      · exact hS.elim
      rename_i q3 q4 q5
      have e3 : t2 = ei := Nat.eq_of_beq_eq_true q3
      have e4 : s2 = s' := Nat.eq_of_beq_eq_true q4
      have e5 : r ≠ io := Nat.ne_of_beq_eq_false q5
      subst e3 e4
      obtain ⟨hlen, hroom, ⟨hS⟩⟩ := hS
      obtain ⟨⟨v0, ev0, hr⟩, hsub, hdis⟩ := hC.sat io _ hob
      obtain ⟨vr, evr, hrr⟩ := hC.sat r _ hro
      obtain ⟨b, cs, ej, hBj, hrs, hnl, hl, hh⟩ := hC.sat j _ hoj
      have hl : Ats ρ [.ref r] cs := hl
      obtain ⟨x1, r1, rfl, hx1, hr1⟩ := hl
      have hr1 : r1 = [] := hr1
      subst hr1
      have ex1 : x1 = vr := by have := hx1.1; rw [evr] at this; injection this with this; exact this.symm
      subst ex1
      have ex : v0 = a.eval x := by have := hv.1; rw [ev0] at this; injection this
      have ey : a.eval y = .slice (some ⟨b, 0, none⟩) 1 1 := by have := hu.1; rw [ej] at this; injection this with this; exact this.symm
      have hS := hS x1
      have hr' : RowIs B w v0 te' i2.size n fun k => [vs k] := by rw [e2]; exact hr
      have fl : flat (fun _ => [x1]) 1 = [x1] := rfl
      obtain ⟨v', w', a1, a2, a3, a4⟩ := run_app (P := P) (ty := o.type) hd hi2 hz2 hzs hsz hr' (A := some ⟨b, 0, none⟩) (m := 1) (c := 1) (news := fun _ => [x1]) (fun _ _ => e2.symm) (fun _ _ u hu => by
          have : u = x1 := by simpa using hu
          subst this; exact hrr.one) (fun _ => ⟨_, rfl, fun p u hp => by
          rw [fl] at hp
          rw [show (⟨b, 0, none⟩ : Addr).add p = ⟨b, p, none⟩ by unfold Addr.add; split <;> simp_all, cell_of_row w b p _ t1 (0, 0) hh]
          simpa using hp⟩) (g := fun k => [putX vs n x1 k]) (fun k hk => by unfold putX; rw [if_neg (by omega)]) (fun k hk => by unfold putX; rw [if_pos (by omega)]) hlen hroom hC.le
      rw [← ey, ex] at a1
      have a2 : RowIs B w' v' te' 1 (n + 1) fun k => [putX vs n x1 k] := by have q := a2; rw [e2] at q; exact q
      have hx : Ext ρ (upd ρ nx v') := ext_upd (hC.new nx (Nat.le_refl _))
      have hone : v'.oneCell' = true := by obtain ⟨_, _, rfl, _⟩ := a2; rfl
      obtain ⟨env', hK, hE'⟩ := putK_spec (hE.ext hx) (v := .one (.ref nx)) ⟨upd_same _ _ _, hone⟩ hS
      have c1 := hC.movedS (xs' := putX xs n none) (vs' := putX vs n x1) hob ev0 a2 (fun k x h1 h2 => by
        unfold putX at h2 ⊢
        by_cases q : k = n
        · rw [if_pos q] at h2; cases h2
        · rw [if_neg q] at h2 ⊢; exact ⟨by omega, h2, rfl⟩) a3 a4
      have hrn : r ≠ nx := fun q => by rw [q, hC.new nx (Nat.le_refl _)] at evr; cases evr
      have nb : Nat.beq nx r = false := by
        cases q : Nat.beq nx r
        · rfl
        · exact absurd (Nat.eq_of_beq_eq_true q) (Ne.symm hrn)
      have ib : Nat.beq io r = false := by
        cases q : Nat.beq io r
        · rfl
        · exact absurd (Nat.eq_of_beq_eq_true q) (Ne.symm e5)
      have c2 := c1.put (i := nx) (r := r) (k := n) (t := te') (e := t2) (s := s2) (n := n + 1) (m := m) (vs := putX vs n x1) (xs := putX xs n none) (g := g) (v := v') (v' := x1) (w' := w') (by unfold fnd; rw [Nat.beq_refl]) (by
        unfold fnd
        rw [nb]
        show fnd ((io, Ob.gone) :: obs) r = _
        unfold fnd
        rw [ib]
        exact hro) hrn (upd_same _ _ _) (by rw [upd_ne _ hrn]; exact evr) (by rw [putX_twice]; exact a2) rfl (fun _ _ => rfl)
      rw [putX_twice, putX_twice] at c2
      have own : ∀ k, footV v0 = some k → B ≤ k ∧ ∃ cur, w.heap[k]? = some (.cells cur te' (0, 0)) := fun k hk => ⟨(hr.foot hk).1, (hr.foot hk).2.2⟩
      unfold Oper.wp
      rw [exec _ _ a1]
      refine ⟨_, env', _, _, hK, hE', c2.of_fnd fun q => ?_, ((hW.trans (below_grown a3 hC.le (fun k hk => (own k hk).1) (run_drawn _ _ _ _ _ a1)) (fun k D hk => ?_)).ext hx).put⟩
      · simp only [fnd]
        cases Nat.beq nx q <;> simp
      · refine (a3.block k (Array.getElem?_eq_some_iff.1 hk).1 fun e => ?_).trans hk
        obtain ⟨_, cur, hc⟩ := own k e.symm
        rw [hc] at hk; cases hk
    split at h
    rotate_left
    · rename_i v2 te' s' n get
      obtain ⟨e3, hr⟩ := hC.sat io _ hob
      rw [hv.1] at e3
      injection e3 with e3
      subst e3
      exact main _ _ _ _ _ hob rfl (foot_rowV (t := te') (s := s') (n := n) (get := get) hv.1 hr) hr h
    · rename_i te' ei s' n vs xs
      exact mainS _ _ _ _ _ _ hob h
    · rename_i te' s'
      split at h
      rotate_left
      · exact h.elim
      rename_i q1 q2
      have e1 : te' = e := Nat.eq_of_beq_eq_true q1
      have e2 : i2.size = s' := Nat.eq_of_beq_eq_true q2
      subst e1 e2
      obtain ⟨b, cs0, e3, _, _, _, _, _⟩ := hC.sat io _ hob
      have hv1 := hv.1
      rw [e3] at hv1
      injection hv1 with hv1
      have ex : a.eval x = .slice (some ⟨b, 0, none⟩) 0 0 := hv1.symm
      obtain ⟨m, news, A, c, h, ey, hnl, hn1, hcell⟩ := news_spec hC hu.1 h
      have hr : RowIs B w (.slice (some ⟨b, 0, none⟩) 0 0) te' i2.size 0 (fun _ => []) := ⟨_, 0, rfl, by omega, fun k hk => by omega, .inl ⟨rfl, rfl⟩⟩
      obtain ⟨n', g, rfl, hlen, hroom, hg1, hg2, h⟩ := h.h
      obtain ⟨v', w', a1, a2, a3, a4⟩ := run_app (P := P) (ty := o.type) hd hi2 hz2 hzs hsz hr (A := A) (c := c) hnl hn1 hcell (g := g) hg1 hg2 hlen hroom hC.le
      rw [← ey, ← ex] at a1
      have hone : v'.oneCell' = true := by obtain ⟨_, _, rfl, _⟩ := a2; rfl
      have hb : Belw w.heap.size w w' := below_grown a3 (Nat.le_refl _) (fun k hk => by simp [footV] at hk) (run_drawn _ _ _ _ _ a1)
      have hf : ∀ b, footV v' = some b → w.heap.size ≤ b := fun b hb' => by
        rcases a4 b hb' with q | q
        · simp [footV] at q
        · exact q
      have hx : Ext ρ (upd ρ nx v') := ext_upd (hC.new nx (Nat.le_refl _))
      obtain ⟨env', hK, hE'⟩ := putK_spec (hE.ext hx) (v := .one (.ref nx)) ⟨upd_same _ _ _, hone⟩ h
      unfold Oper.wp
      rw [exec _ _ a1]
      exact ⟨_, env', _, _, hK, hE', hC.born a2 hb hf, ((below_of hW hC.le hb).ext hx).put⟩
    · rename_i te' s' r0 rs
      obtain ⟨ll, hK, hl, hat, _, h2⟩ := closesK_spec (ρ := ρ) h
      obtain ⟨v2, e3, hr, hfo⟩ := lit_row (hC.sat io _ hob) hl hat h2
      rw [hv.1] at e3
      injection e3 with e3
      subst e3
      exact main _ _ _ _ _ hob rfl hfo hr hK
    · exact h.elim
    rename_i te' s' n get
    obtain ⟨v2, e3, hr⟩ := hC.sat io _ hob
    rw [hv.1] at e3
    injection e3 with e3
    subst e3
    exact main _ _ _ _ _ hob rfl (foot_rowV hv.1 hr) hr h
  · rename_i j
    have ex : a.eval x = .slice none 0 0 := hv
    obtain ⟨m, news, A, c, h, ey, hnl, hn1, hcell⟩ := news_spec hC hu.1 h
    have hr : RowIs B w (.slice none 0 0) e i2.size 0 (fun _ => []) := ⟨none, 0, rfl, by omega, fun k hk => by omega, .inl ⟨rfl, rfl⟩⟩
    obtain ⟨n', g, rfl, hlen, hroom, hg1, hg2, h⟩ := h.h
    obtain ⟨v', w', a1, a2, a3, a4⟩ := run_app (P := P) (ty := o.type) hd hi2 hz2 hzs hsz hr (A := A) (c := c) hnl hn1 hcell (g := g) hg1 hg2 hlen hroom hC.le
    rw [← ey, ← ex] at a1
    have hone : v'.oneCell' = true := by obtain ⟨_, _, rfl, _⟩ := a2; rfl
    have hb : Belw w.heap.size w w' := below_grown a3 (Nat.le_refl _) (fun k hk => by simp [footV] at hk) (run_drawn _ _ _ _ _ a1)
    have hf : ∀ b, footV v' = some b → w.heap.size ≤ b := fun b hb' => by
      rcases a4 b hb' with q | q
      · simp [footV] at q
      · exact q
    have hx : Ext ρ (upd ρ nx v') := ext_upd (hC.new nx (Nat.le_refl _))
    obtain ⟨env', hK, hE'⟩ := putK_spec (hE.ext hx) (v := .one (.ref nx)) ⟨upd_same _ _ _, hone⟩ h
    unfold Oper.wp
    rw [exec _ _ a1]
    exact ⟨_, env', _, _, hK, hE', hC.born a2 hb hf, ((below_of hW hC.le hb).ext hx).put⟩
  · exact h.elim
theorem op_append_fresh {o : Oper} {t t' : TypeId} {x y : Operand} (hfr : freshB env obs x = true) (ho : o.op = .call ⟨.builtin .append, #[x, y], #[t, t']⟩) (h : opK P T sz false o env obs nx K) : o.wp P a w (NxA B w0 sz K w) Q := by
  simp only [opK, ho] at h
  cases htt : Nat.beq t t' <;> simp only [htt] at h
  have et : t = t' := Nat.eq_of_beq_eq_true htt
  subst et
  obtain ⟨ty, i, d, z, ht, hi1, hd, hz, rfl, h⟩ := fnd_ty hT h
  simp only at h
  split at h
  rotate_left
  · exact h.elim
  rename_i e hs
  have e0 := sh_sl hs
  subst e0
  obtain ⟨te, i2, d2, z2, ht2, hi2, hd2, hz2, rfl, h⟩ := fnd_ty hT h
  simp only at h
  split at h
  rotate_left
  · exact h.elim
  rename_i b1 b2
  have hsz : 0 < i2.size := by have := Nat.ne_of_beq_eq_false b1; omega
  have hzs : z2.cells.size = i2.size := by have := Nat.eq_of_beq_eq_true b2; simpa using this
  obtain ⟨v, hv, h, hfv⟩ : ∃ v, v.is ρ (a.eval x) ∧ (evK env y fun u => appK_ sz o.dst env obs nx e i2.size i2.bytes K v u) ∧ ((∃ i t' s', v = .one (.ref i) ∧ fnd obs i = some (.lit t' s' [])) ∨ v = .one (.val (.slice none 0 0))) := by
    cases x with
    | tmp tx =>
      unfold evK at h
      obtain ⟨v, hv0, h⟩ := fndK_spec h
      obtain ⟨xv, hx1, hx2⟩ := hE.env tx v hv0
      refine ⟨v, ?_, h, ?_⟩
      · have this : a.eval (.tmp tx) = xv := by simp [Act.eval, Array.getD_eq_getD_getElem?, hx1]
        rw [this]; exact hx2
      · simp only [freshB, hv0] at hfr
        split at hfr
        · rename_i i q
          injection q with q
          split at hfr
          · rename_i t' s' q2
            exact .inl ⟨i, t', s', q, q2⟩
          · cases hfr
        · rename_i q
          injection q with q
          exact .inr q
        · cases hfr
    | _ => cases hfr
  obtain ⟨u, hu, h⟩ := evK_spec hE h
  have exec : ∀ v' w', (Builtin.append_ #[t, t] o.type #[a.eval x, a.eval y]).run P w = .ok v' w' → (execOp a.eval o).run P w = .ok (.value v') w' := fun v' w' hr => by
    simp [execOp, ho, resolve, invoke, builtin, Sem.run_bind, hr]
  unfold appK_ at h
  split at h
  · rename_i io j _
    obtain ⟨ob, hob, h⟩ := fndK_spec h
    split at h
    rotate_left
    · rcases hfv with ⟨i0, t0, s0, q1, q2⟩ | q
      · injection q1 with q1; injection q1 with q1; subst q1
        rw [q2] at hob; injection hob with hob; cases hob
      · cases q
    · rcases hfv with ⟨i0, t0, s0, q1, q2⟩ | q
      · injection q1 with q1; injection q1 with q1; subst q1
        rw [q2] at hob; injection hob with hob; cases hob
      · cases q
    · rename_i te' s'
      split at h
      rotate_left
      · exact h.elim
      rename_i q1 q2
      have e1 : te' = e := Nat.eq_of_beq_eq_true q1
      have e2 : i2.size = s' := Nat.eq_of_beq_eq_true q2
      subst e1 e2
      obtain ⟨b, cs0, e3, _, _, _, _, _⟩ := hC.sat io _ hob
      have hv1 := hv.1
      rw [e3] at hv1
      injection hv1 with hv1
      have ex : a.eval x = .slice (some ⟨b, 0, none⟩) 0 0 := hv1.symm
      obtain ⟨m, news, A, c, h, ey, hnl, hn1, hcell⟩ := news_spec hC hu.1 h
      have hr : RowIs B w (.slice (some ⟨b, 0, none⟩) 0 0) te' i2.size 0 (fun _ => []) := ⟨_, 0, rfl, by omega, fun k hk => by omega, .inl ⟨rfl, rfl⟩⟩
      obtain ⟨n', g, rfl, hlen, hroom, hg1, hg2, h⟩ := h.h
      obtain ⟨v', w', a1, a2, a3, a4⟩ := run_app (P := P) (ty := o.type) hd hi2 hz2 hzs hsz hr (A := A) (c := c) hnl hn1 hcell (g := g) hg1 hg2 hlen hroom hC.le
      rw [← ey, ← ex] at a1
      have hone : v'.oneCell' = true := by obtain ⟨_, _, rfl, _⟩ := a2; rfl
      have hb : Belw w.heap.size w w' := below_grown a3 (Nat.le_refl _) (fun k hk => by simp [footV] at hk) (run_drawn _ _ _ _ _ a1)
      have hf : ∀ b, footV v' = some b → w.heap.size ≤ b := fun b hb' => by
        rcases a4 b hb' with q | q
        · simp [footV] at q
        · exact q
      have hx : Ext ρ (upd ρ nx v') := ext_upd (hC.new nx (Nat.le_refl _))
      obtain ⟨env', hK, hE'⟩ := putK_spec (hE.ext hx) (v := .one (.ref nx)) ⟨upd_same _ _ _, hone⟩ h
      unfold Oper.wp
      rw [exec _ _ a1]
      exact ⟨_, env', _, _, hK, hE', hC.born a2 hb hf, ((below_of hW hC.le hb).ext hx).put, hb⟩
    · rcases hfv with ⟨i0, t0, s0, q1, q2⟩ | q
      · injection q1 with q1; injection q1 with q1; subst q1
        rw [q2] at hob; injection hob with hob; cases hob
      · cases q
    · exact h.elim
    rename_i te' s' n get
    rcases hfv with ⟨i0, t0, s0, q1, q2⟩ | q
    · injection q1 with q1; injection q1 with q1; subst q1
      rw [q2] at hob; injection hob with hob; cases hob
    · cases q
  · rename_i j
    have ex : a.eval x = .slice none 0 0 := hv
    obtain ⟨m, news, A, c, h, ey, hnl, hn1, hcell⟩ := news_spec hC hu.1 h
    have hr : RowIs B w (.slice none 0 0) e i2.size 0 (fun _ => []) := ⟨none, 0, rfl, by omega, fun k hk => by omega, .inl ⟨rfl, rfl⟩⟩
    obtain ⟨n', g, rfl, hlen, hroom, hg1, hg2, h⟩ := h.h
    obtain ⟨v', w', a1, a2, a3, a4⟩ := run_app (P := P) (ty := o.type) hd hi2 hz2 hzs hsz hr (A := A) (c := c) hnl hn1 hcell (g := g) hg1 hg2 hlen hroom hC.le
    rw [← ey, ← ex] at a1
    have hone : v'.oneCell' = true := by obtain ⟨_, _, rfl, _⟩ := a2; rfl
    have hb : Belw w.heap.size w w' := below_grown a3 (Nat.le_refl _) (fun k hk => by simp [footV] at hk) (run_drawn _ _ _ _ _ a1)
    have hf : ∀ b, footV v' = some b → w.heap.size ≤ b := fun b hb' => by
      rcases a4 b hb' with q | q
      · simp [footV] at q
      · exact q
    have hx : Ext ρ (upd ρ nx v') := ext_upd (hC.new nx (Nat.le_refl _))
    obtain ⟨env', hK, hE'⟩ := putK_spec (hE.ext hx) (v := .one (.ref nx)) ⟨upd_same _ _ _, hone⟩ h
    unfold Oper.wp
    rw [exec _ _ a1]
    exact ⟨_, env', _, _, hK, hE', hC.born a2 hb hf, ((below_of hW hC.le hb).ext hx).put, hb⟩
  · exact h.elim
theorem op_clear {o : Oper} {t : TypeId} {x : Operand} (ho : o.op = .call ⟨.builtin .clear, #[x], #[t]⟩) (h : opK P T sz false o env obs nx K) : o.wp P a w (Nx B w0 sz K) Q := by
  simp only [opK, ho] at h
  obtain ⟨ty, i, d, z, ht, hi1, hd, hz, rfl, h⟩ := fnd_ty hT h
  simp only at h
  split at h
  rotate_left
  · exact h.elim
  rename_i e hs
  have e0 := sh_sl hs
  subst e0
  obtain ⟨te, i2, d2, z2, ht2, hi2, hd2, hz2, rfl, h⟩ := fnd_ty hT h
  simp only at h
  obtain ⟨v, hv, h⟩ := evK_spec hE h
  split at h
  rotate_left
  · exact h.elim
  rename_i j
  obtain ⟨ob, hob, h⟩ := fndK_spec h
  have exec : ∀ w', (Builtin.clear_ #[t] o.type #[a.eval x]).run P w = .ok (.tuple #[]) w' → (execOp a.eval o).run P w = .ok (.value (.tuple #[])) w' := fun w' hr => by
    simp [execOp, ho, resolve, invoke, builtin, Sem.run_bind, hr]
  split at h
  · rename_i s n get
    obtain ⟨hn, h⟩ := h
    subst hn
    obtain ⟨v', e1, A, c, rfl, _⟩ := hC.sat j _ hob
    have ex : a.eval x = .slice A 0 c := by have := hv.1; rw [e1] at this; exact (Option.some.inj this).symm
    have er : (Builtin.clear_ #[t] o.type #[a.eval x]).run P w = .ok (.tuple #[]) w := by
      rw [ex]
      cases A <;> simp [Builtin.clear_, run_underlying hd]
    obtain ⟨env', hK, hE'⟩ := putK_spec hE (undef_is ρ) h
    unfold Oper.wp
    rw [exec _ er]
    exact ⟨ρ, env', obs, nx, hK, hE', hC, hW.put⟩
  rotate_left
  · exact h.elim
  rename_i r a' s
  obtain ⟨ro, hro, h⟩ := fndK_spec h
  split at h
  rotate_left
  · exact h.elim
  rename_i t' s' n get
  split at h
  rotate_left
  · exact h.elim
  rename_i b1 b2 b3 b4 b5
  have q1 : t' = e := Nat.eq_of_beq_eq_true b1
  have q2 : s = s' := Nat.eq_of_beq_eq_true b2
  have q3 : i2.size = s := Nat.eq_of_beq_eq_true b3
  have q4 : z2.cells.size = i2.size := by have := Nat.eq_of_beq_eq_true b4; simpa using this
  have q5 : ∀ v ∈ z2.cells.toList, v.oneCell' = true := List.all_eq_true.1 b5
  subst q1 q2
  obtain ⟨A, n0, c, e1, ha, e2⟩ := hC.sat j _ hob
  obtain ⟨v, ev, A2, cp, rfl, hn, hsl, hh⟩ := hC.sat r _ hro
  rw [e1] at ev
  injection ev with ev
  injection ev with ev1 ev2 ev3
  subst ev2 ev3
  rcases hh with ⟨h0, _⟩ | ⟨g, cur, eA, hB, hg, hnc, hcp, hcm, hcs, htake⟩
  · omega
  rw [eA] at ev1
  injection ev1 with ev1
  subst ev1
  have ea : (⟨g, 0, none⟩ : Addr).add (a' * s) = ⟨g, a' * s, none⟩ := by unfold Addr.add; split <;> simp_all
  have ex : a.eval x = .slice (some ⟨g, a' * s, none⟩) (n0 - a') (c - a') := by
    have := hv.1
    rw [e2, ea] at this
    exact (Option.some.inj this).symm
  obtain ⟨zs, hzs⟩ : ∃ zs, zs = (Builtin.zeroCells z2.cells (n0 - a')).toList := ⟨_, rfl⟩
  have zl : zs.length = (n0 - a') * s := by rw [hzs]; simp [Builtin.zeroCells, q4, q3]
  have z1 : ∀ v ∈ zs, v.oneCell' = true := fun v hv => by
    rw [hzs] at hv
    by_cases z0 : z2.cells.size = 0
    · simp [Builtin.zeroCells, z0] at hv
    · simp only [Builtin.zeroCells, Array.toList_map, List.mem_map] at hv
      obtain ⟨k, _, rfl⟩ := hv
      have hk : k % z2.cells.size < z2.cells.size := Nat.mod_lt _ (by omega)
      refine q5 _ ?_
      rw [getElem!_pos z2.cells _ hk]
      simp
  have mm : a' * s + (n0 - a') * s = n0 * s := by rw [← Nat.add_mul]; congr 1; omega
  have mc : n0 * s ≤ c * s := Nat.mul_le_mul_right _ hnc
  have cell : ∀ p, p < cur.size → w.cell? ⟨g, p, none⟩ = cur[p]? := fun p hp => cell_of_row w g p cur t' (0, 0) hg
  have st := run_storeCells_cells (P := P) g (a' * s) zs 0 w (fun p hp => by
      rw [show a' * s + 0 + p = a' * s + p by omega, cell _ (by omega), Array.getElem?_eq_getElem (by omega)]; rfl)
    (fun p hp => by simp [World.frozen?, hg]) z1
  simp only [Nat.add_zero] at st
  have hzv : (zeroValue t').run P w = .ok z2 w := by simp [zeroValue, typeInfo, hi2, hz2, Sem.run_bind]
  have er : (Builtin.clear_ #[t] o.type #[a.eval x]).run P w = .ok (.tuple #[]) (w.setCells g (a' * s) zs) := by
    rw [ex]
    obtain ⟨m, hm⟩ : ∃ m, n0 - a' = m + 1 := ⟨n0 - a' - 1, by omega⟩
    rw [hm] at hzs ⊢
    simp [Builtin.clear_, run_underlying hd, hzv, ← hzs, st]
  obtain ⟨r1, r2, r3, r4, r5, r6⟩ := setCells_row zs (a' * s) w cur hg (by omega)
  obtain ⟨env', hK, hE'⟩ := putK_spec hE (undef_is ρ) h
  have z0 : flat (fun _ => z2.cells.toList) (n0 - a') = zs := by
    have hl : ∀ k, k < n0 - a' → ((fun _ => z2.cells.toList : Nat → List Value) k).length = s := fun k _ => by simp [q4, q3]
    have hfl := flat_length hl
    rw [hzs]
    apply List.ext_getElem?
    intro p
    by_cases hp : p < (n0 - a') * s
    · have sp : 0 < s := by
        rcases Nat.eq_zero_or_pos s with z | z
        · rw [z] at hp; omega
        · exact z
      obtain ⟨q, r, hr, rfl⟩ : ∃ q r, r < s ∧ p = q * s + r := ⟨p / s, p % s, Nat.mod_lt _ sp, by rw [Nat.mul_comm]; exact (Nat.div_add_mod p _).symm⟩
      have hq : q < n0 - a' := by
        rcases Nat.lt_or_ge q (n0 - a') with y | y
        · exact y
        · have : (n0 - a') * s ≤ q * s := Nat.mul_le_mul_right _ y
          omega
      have e3 : (z2.cells.toList)[r]? = some (z2.cells.toList[r]'(by simp [q4, q3]; exact hr)) := List.getElem?_eq_getElem _
      rw [flat_get (get := fun _ => z2.cells.toList) hl hq e3]
      have hmod : (q * s + r) % z2.cells.size = r := by rw [q4, q3, Nat.add_comm, Nat.add_mul_mod_self_right, Nat.mod_eq_of_lt hr]
      have hsz : q * s + r < (n0 - a') * z2.cells.size := by rw [q4, q3]; exact hp
      simp [Builtin.zeroCells, hmod, hsz, (by omega : r < z2.cells.size)]
    · rw [List.getElem?_eq_none (by rw [hfl]; omega), List.getElem?_eq_none (by rw [← hzs, zl]; omega)]
  have e5 := flat_tail (get := get) (news := fun _ => z2.cells.toList) (g := fun k => if k < a' then get k else z2.cells.toList) (n := a') (m := n0 - a') (fun k hk => if_pos hk) (fun k _ => if_neg (by omega))
  rw [show a' + (n0 - a') = n0 by omega, z0] at e5
  have e6 := flat_tail (get := get) (news := fun k => get (a' + k)) (g := get) (n := a') (m := n0 - a') (fun _ _ => rfl) (fun _ _ => rfl)
  rw [show a' + (n0 - a') = n0 by omega] at e6
  have l1 : (flat get a').length = a' * s := flat_length fun k hk => hsl k (by omega)
  have e7 : cur.toList.take (a' * s) = flat get a' := by
    have h8 : (cur.toList.take (n0 * s)).take (a' * s) = cur.toList.take (a' * s) := by rw [List.take_take, Nat.min_eq_left (by omega)]
    rw [← h8, htake, e6, List.take_left' l1]
  unfold Oper.wp
  rw [exec _ er]
  have hbw : Belw B w (w.setCells g (a' * s) zs) := .of r3 r4 r5 (by rw [r2]; exact Nat.le_refl _) (fun q hq => r6 q (by omega)) (drawn_setCells _ _ _ _)
  have ft : ∀ g', foot ρ r (.row t' s n0 g') = some g := fun g' => by rw [foot_row e1, if_neg (by omega)]; rfl
  refine ⟨ρ, env', _, _, hK, hE', hC.set (b := g) hro rfl (ft _) (.inl (ft _)) rfl r2 r6 ⟨_, e1, _, c, rfl, hn, fun k hk => ?_, .inr ⟨g, _, rfl, hB, r1, hnc, hcp, hcm, ?_, ?_⟩⟩, (hW.trans hbw (oth_one r6 (fun D e => by rw [hg] at e; cases e))).put⟩
  · show (if k < a' then get k else z2.cells.toList).length = s
    split
    · exact hsl k hk
    · simp [q4, q3]
  · unfold laid
    simp only [List.size_toArray, List.length_append, List.length_take, List.length_drop, Array.length_toList]
    omega
  · rw [e5, ← e7]
    show (laid cur.toList (a' * s) zs).take (n0 * s) = _
    unfold laid
    have l2 : (cur.toList.take (a' * s) ++ zs).length = n0 * s := by rw [List.length_append, e7, l1, zl]; exact mm
    rw [List.take_left' l2]
end
theorem capN_spec {ρ : Rho} : ∀ {c : List Nat} {cs : List Value} {K : List SV → Prop}, CapsAre ρ c cs → capN c K → ∃ m, K m ∧ Svs ρ m cs
  | [], cs, K, hc, h => ⟨[], h, hc⟩
  | i :: r, cs, K, ⟨a, q, e, hx, hr⟩, h => by
    obtain ⟨m, hK, hm⟩ := capN_spec (K := fun l => K (.one (.ptr i 0 0 0) :: l)) hr h
    exact ⟨_, hK, _, q, hx, ⟨a, e, by simp [Addr.add]⟩, hm⟩
theorem capE_spec {ρ : Rho} : ∀ {l : List SV} {c : List Nat} {xs cs : List Value} {K : List SV → Prop}, Svs ρ l xs → CapsAre ρ c cs → capE l c K → ∃ m, K m ∧ Svs ρ m (xs ++ cs)
  | [], c, xs, cs, K, hl, hc, h => by
    obtain ⟨m, hK, hm⟩ := capN_spec hc h
    exact ⟨m, hK, by rw [show xs = [] from hl]; exact hm⟩
  | x :: l, c, xs, cs, K, ⟨u, r, hx, hu, hr⟩, hc, h => by
    obtain ⟨m, hK, hm⟩ := capE_spec (K := fun r => K (x :: r)) hr hc h
    exact ⟨_, hK, u, r ++ cs, by rw [hx]; rfl, hu, hm⟩
end Go.Proofs.YtlbffibpcjjpkaaDoor.V

namespace Go.Proofs.YtlbffibpcjjpkaaDoor.V
open Go Go.RowKit
variable [Dr]
set_option linter.unusedSectionVars false
theorem wp_next {P : Program} {o : Oper} {a : Act} {w : World} {N N' : Act → World → Prop} {Q : Exit → Act → World → Prop} (h : o.wp P a w N Q) (hn : ∀ a w, N a w → N' a w) : o.wp P a w N' Q := by
  unfold Oper.wp at h ⊢
  generalize (execOp a.eval o).run P w = r at *
  cases r with
  | ok n w' =>
    cases n <;> simp only [Oper.upon] at h ⊢ <;> try exact hn _ _ h
    case enter f args =>
      refine h.mono fun e w'' he => ?_
      cases e <;> first | exact hn _ _ he | exact he
    case row r args => exact h.mono fun v w'' hv => hn _ _ hv
  | halt x w' =>
    cases x <;> simp only [Oper.upon] at h ⊢
    exact h
theorem calls_some {P : Program} {f : FuncId} {args : Array Value} {w : World} {R : Ending → World → Prop} (h : Calls P f args w R) : ∃ e w', R e w' := by
  obtain ⟨e, w', _, hr, _⟩ := h []
  exact ⟨e, w', hr⟩
theorem run_call {P : Program} {f : FuncId} (hb : hasBody P f = true) {a : Act} {g : Operand} {args : Array Operand} {ts : Array TypeId} {o : Oper} {cs : Array Value} (ho : o.op = .call ⟨.value g, args, ts⟩) (hg : a.eval g = .func (.func f) #[] cs) (w : World) :
    (execOp a.eval o).run P w = .ok (.enter f (args.map a.eval ++ cs)) w := by
  unfold hasBody at hb
  cases hf : P.funcs[f]? with
  | none => rw [hf] at hb; cases hb
  | some fn =>
    rw [hf] at hb
    simp only [Bool.and_eq_true, Bool.not_eq_true', Option.isSome_iff_ne_none] at hb
    obtain ⟨h1, h2⟩ := hb
    have h3 : fn.body.isNone = false := by cases hq : fn.body with | none => exact absurd hq h1 | some c => rfl
    have h4 : ¬ fn.name = "runtime.NumGoroutine" := by simpa using h2
    simp [execOp, ho, resolve, hg, Deferred.ofValue, invoke, callFunc, hf, h4, h3, Sem.run_bind]
    exact fun q => absurd q h1
def Fz : Option Nat → Fence
  | none => Fence.wide
  | some l => Fence.wide.inRound l
theorem fz_fn (ro : Option Nat) (f : FuncId) : (Fz ro).fn f := by cases ro <;> trivial
theorem fz_depth (ro : Option Nat) : (Fz ro).depth.isSome = false := by cases ro <;> rfl
theorem fz_ro (ro : Option Nat) : (Fz ro).round = ro := by cases ro <;> rfl
theorem fz_calls {ro : Option Nat} {n : Nat} {P : Program} {f : FuncId} {args : Array Value} {w : World} {R : Ending → World → Prop} (h : Calls P f args w R) : CallsIn (Fz ro) n P f args w R := by
  have := (callsIn_wide (n := n)).2 h
  cases ro <;> exact this
theorem fz_rows {ro : Option Nat} {n : Nat} {P : Program} {row : String} {args : Array Value} {w : World} {R : Value → World → Prop} (h : Rows P row args w R) : RowsIn (Fz ro) n P row args w R := by
  have : RowsIn Fence.wide n P row args w R := fun c cs _ => let ⟨v, w', r, s⟩ := h c cs; ⟨v, w', r, stepsIn_wide.2 s⟩
  cases ro <;> exact this
theorem fz_round {ro : Option Nat} {n : Nat} {P : Program} {l : Nat} {f : FuncId} {tmps : Array Value} {assign body : Code} {w : World} {R : Ending → World → Prop} (h : RoundIn Fence.wide n P l f tmps assign body w R) : RoundIn (Fz ro) n P l f tmps assign body w R := by
  cases ro <;> exact h
theorem semAt_fz {ro : Option Nat} {o : Oper} {f : Operand → Value} (hd : ro = none ∨ ∀ c, o.op ≠ .defer c) : Oper.semAt (Fz ro).round f o = execOp f o := by
  rw [fz_ro]
  rcases hd with rfl | hd
  · rfl
  · exact Oper.semAt_eq _ _ _ hd
theorem op_in {ro : Option Nat} {n : Nat} {P : Program} {o : Oper} {a : Act} {w : World} {N : Act → World → Prop} {Q : Exit → Act → World → Prop} (hd : ro = none ∨ ∀ c, o.op ≠ .defer c) (h : o.wp P a w N Q) : o.wpIn (Fz ro) n P a w N Q := by
  unfold Oper.wpIn
  refine ⟨fun _ _ => fz_fn _ _, ?_⟩
  rw [semAt_fz hd]
  unfold Oper.wp at h
  generalize (execOp a.eval o).run P w = r at *
  cases r with
  | ok x w' =>
    cases x <;> simp only [Oper.upon] at h <;> simp only [Oper.uponIn] <;> first
      | exact h
      | exact ⟨fun q => (by rw [fz_depth] at q; cases q), fz_calls (h.mono fun e w'' he => by cases e <;> exact he)⟩
      | exact ⟨fun q => (by rw [fz_depth] at q; cases q), fz_rows h⟩
  | halt x w' => cases x <;> simp only [Oper.upon] at h <;> simp only [Oper.uponIn] <;> exact h
theorem run_ycall {P : Program} {a : Act} {g : Operand} {args : Array Operand} {ts : Array TypeId} {o : Oper} {l : Nat} (ho : o.op = .call ⟨.value g, args, ts⟩) (hg : a.eval g = .func (.yield l) #[] #[]) (w : World) :
    (execOp a.eval o).run P w = (Instr.yield l (args.map a.eval)).run P w := by
  simp [execOp, ho, resolve, hg, Deferred.ofValue, invoke, Sem.run_bind]
def noDef (l : List Oper) : Bool := l.all fun o => match o.op with | .defer _ => false | _ => true
theorem noDef_spec {l : List Oper} (h : noDef l = true) {o : Oper} (ho : o ∈ l) (c : Call) : o.op ≠ .defer c := fun e => by
  have := List.all_eq_true.1 h o ho
  rw [e] at this; cases this
theorem any_in {P : Program} {md : Region.Mode} {ops : Array Oper} {Q : Exit → Act → World → Prop} {ro : Option Nat} {n : Nat} (hd : ro = none ∨ noDef ops.toList = true) (hQ : ¬ LetsOut Q) : ∀ (f : Nat) (listed : Array Bool) (a : Act) (w : World),
    wpAny P md ops Q f listed a w → wpAnyIn (Fz ro) n P md ops Q f listed a w
  | 0, _, _, _, h => h
  | f + 1, listed, a, w, h => ⟨h.1, fun i hi => by
    have h1 := h.2 i hi
    unfold wpOp at h1
    unfold wpOpIn
    split
    · rename_i ho; rw [ho] at h1; exact any_in hd hQ f _ _ _ h1
    · rename_i o ho
      simp only [ho] at h1
      split
      · rename_i hw
        rw [if_pos hw] at h1
        rcases h1 with h1 | ⟨_, q⟩
        · refine op_in ?_ (Oper.wp_mono (fun a w => any_in hd hQ f _ a w) h1)
          rcases hd with rfl | hd
          · exact .inl rfl
          · exact .inr (noDef_spec hd (by simpa using Array.mem_of_getElem? ho))
        · exact absurd q hQ
      · rename_i hw
        rw [if_neg hw] at h1
        exact ⟨fun _ _ => fz_fn _ _, any_in hd hQ f _ _ _ h1⟩⟩
section
variable {P : Program} {T : TT} {sz : Nat} {ρ : Rho} {env : Env} {a : Act} {B nx : Nat} {obs : Obs} {w0 : St} {w : World} (hT : TTok P T) (hE : EnvR sz ρ env a) (hC : Cls B ρ obs nx w) (hW : Wy B w0 ρ a.defers w) {K : Env → Obs → Nat → Prop} {Q : Exit → Act → World → Prop}
include hT hE hC hW
theorem op_call {ro : Option Nat} {n : Nat} {o : Oper} {g : Operand} {args : Array Operand} {ts : Array TypeId} (ho : o.op = .call ⟨.value g, args, ts⟩) (h : opK P T sz false o env obs nx K) : o.wpIn (Fz ro) n P a w (Nx B w0 sz K) Q := by
  simp only [opK, ho] at h
  obtain ⟨v, hv, h⟩ := evK_spec hE h
  split at h
  · rename_i f caps
    obtain ⟨cs, hcs, hg⟩ := hv
    obtain ⟨vs0, h, hvs0⟩ := evsK_spec hE h
    obtain ⟨vs, h, hvs⟩ := capE_spec hvs0 hcs h
    refine op_in (.inr fun c q => by rw [ho] at q; cases q) ?_
    unfold Oper.wp
    rw [run_call h.b ho hg w]
    have hc := h.h B ρ w _ hC hvs
    have e : (args.toList.map a.eval ++ cs).toArray = args.map a.eval ++ cs.toArray := by cases args; simp
    rw [e] at hc
    refine hc.mono fun e w' ⟨v, obs', nx', ρ', x, hK, hx, he, hv, hC', hb, hob⟩ => ?_
    subst he
    obtain ⟨env', hK, hE'⟩ := putK_spec (hE.ext hx) hv hK
    exact ⟨ρ', env', obs', nx', hK, hE', hC', ((hW.trans hb hob).ext hx).put⟩
  · rename_i i
    obtain ⟨ob, hob, h⟩ := fndK_spec h
    split at h
    · obtain ⟨vs, h, hvs⟩ := evsK_spec hE h
      obtain ⟨l, fn, tmps, D, e, _, _, _⟩ := hC.sat i _ hob
      have hg : a.eval g = .func (.yield l) #[] #[] := by have := hv.1; rw [e] at this; injection this with this; exact this.symm
      obtain ⟨fn', tmps', assign, body, hy, hR⟩ := h.h B ρ w _ l (n - 1) hC hvs e
      have ea : (args.toList.map a.eval).toArray = args.map a.eval := by cases args; simp
      rw [ea] at hy
      unfold Oper.wpIn
      refine ⟨fun _ _ => fz_fn _ _, ?_⟩
      have e1 : Oper.semAt (Fz ro).round a.eval o = execOp a.eval o := semAt_fz (.inr fun c q => by rw [ho] at q; cases q)
      rw [e1, run_ycall ho hg w, hy]
      refine ⟨fun q => (by rw [fz_depth] at q; cases q), ?_⟩
      refine (fz_round hR).mono fun e w' ⟨v, obs', nx', ρ', x, hK, hx, he, hv, hC', hb, hob⟩ => ?_
      subst he
      obtain ⟨env', hK, hE'⟩ := putK_spec (hE.ext hx) hv hK
      exact ⟨ρ', env', obs', nx', hK, hE', hC', ((hW.trans hb hob).ext hx).put⟩
    · exact h.elim
  · exact h.elim
theorem op_sound {o : Oper} (hnc : ∀ g args ts, o.op ≠ .call ⟨.value g, args, ts⟩) (h : opK P T sz false o env obs nx K) : o.wp P a w (Nx B w0 sz K) Q := by
  by_cases hnil : o.op = .assign (.const (.slice none 0 0))
  · exact wp_next (op_nil hT hE hC hW hnil h) fun _ _ h => h.nx
  have pur : (pureK T env obs o.op fun v => putK sz o.dst v env fun env' => K env' obs nx) → o.wp P a w (Nx B w0 sz K) Q := fun h => wp_next (op_pure hT hE hC hW h) fun _ _ h => h.nx
  cases hop : o.op
  case box t x => exact wp_next (op_box hT hE hC hW hop h) fun _ _ h => h.nx
  case alloc t => exact wp_next (op_alloc hT hE hC hW hop h) fun _ _ h => h.nx
  case store t x y => exact op_store hT hE hC hW hop h
  case buildSlice t n ps => exact wp_next (op_buildSlice hT hE hC hW hop h) fun _ _ h => h.nx
  case makeSlice t x y => exact wp_next (op_makeSlice hT hE hC hW hop h) fun _ _ h => h.nx
  case convert s t x =>
    by_cases htl : ∃ ty e, fnd T t = some ty ∧ ty.sh = .sl e
    · by_cases hsl : ∃ ts e, fnd T s = some ts ∧ ts.sh = .sl e
      · exact op_mark hT hE hC hW hop hsl htl h
      · exact wp_next (op_convert hT hE hC hW hop (fun ts e q1 q2 => hsl ⟨ts, e, q1, q2⟩) h) fun _ _ h => h.nx
    · refine pur ?_
      unfold opK at h
      rw [hop] at h ⊢
      obtain ⟨ty, hty, h⟩ := fndK_spec h
      split at h
      · rename_i e he
        exact absurd ⟨ty, e, hty, he⟩ htl
      · exact h
  case slice t x lo hi mx =>
    cases mx with
    | none => exact wp_next (op_slice hT hE hC hW hop h) fun _ _ h => h.nx
    | some m => exact pur (by unfold opK at h; rw [hop] at h ⊢; exact h)
  case assign x =>
    refine pur ?_
    unfold opK at h
    rw [hop] at h ⊢
    split at h
    all_goals first | (rename_i e; cases e; done) | skip
    all_goals first | (rename_i e; injection e with e; subst e; exact absurd hop hnil) | exact h
  case call c =>
    obtain ⟨cl, args, ts⟩ := c
    cases cl with
    | value g => exact absurd hop (hnc _ _ _)
    | invoke r m => exact pur (by unfold opK at h; rw [hop] at h ⊢; exact h)
    | builtin b =>
      by_cases happ : ∃ x y t t', b = .append ∧ args = #[x, y] ∧ ts = #[t, t']
      · obtain ⟨x, y, t, t', rfl, rfl, rfl⟩ := happ
        exact op_append hT hE hC hW hop h
      · by_cases hclr : ∃ x t, b = .clear ∧ args = #[x] ∧ ts = #[t]
        · obtain ⟨x, t, rfl, rfl, rfl⟩ := hclr
          exact op_clear hT hE hC hW hop h
        refine pur ?_
        unfold opK at h
        rw [hop] at h ⊢
        split at h
        all_goals first | (rename_i e; cases e; done) | skip
        all_goals first | (rename_i e; injection e with e; injection e with e1 e2 e3; injection e1 with e1; have q : b = .clear := e1; exact absurd ⟨_, _, q, e2, e3⟩ hclr) | skip
        all_goals first | (rename_i e; injection e with e; injection e with e1 e2 e3; injection e1 with e1; have q : b = .append := e1; exact absurd ⟨_, _, _, _, q, e2, e3⟩ happ) | exact h | exact (show False from h).elim
  all_goals exact pur (by unfold opK at h; rw [hop] at h ⊢; exact h)
omit hT hE hC hW in
theorem opK_nd {o : Oper} {q : Bool} (h : opK P T sz q o env obs nx K) (c : Call) : o.op ≠ .defer c := fun hc => by
  unfold opK at h
  rw [hc] at h
  exact h
theorem op_soundIn {ro : Option Nat} {n : Nat} {o : Oper} (h : opK P T sz false o env obs nx K) : o.wpIn (Fz ro) n P a w (Nx B w0 sz K) Q := by
  by_cases hnc : ∃ g args ts, o.op = .call ⟨.value g, args, ts⟩
  · obtain ⟨g, args, ts, hop⟩ := hnc
    exact op_call hT hE hC hW hop h
  · exact op_in (.inr (opK_nd h)) (op_sound hT hE hC hW (fun g args ts q => hnc ⟨g, args, ts, q⟩) h)
end
def asked (all : List Oper) (tmps : Array Value) (g : Option (Nat × Bool)) : Bool := match g with
  | none => true
  | some (j, want) => yielded all.toArray tmps j == some want
theorem wanted_eq (all : List Oper) (o : Oper) (tmps : Array Value) : Region.wanted o (yielded all.toArray tmps) = asked all tmps o.guard := by
  unfold Region.wanted asked
  cases o.guard <;> rfl
theorem EnvR.tf {sz : Nat} {ρ : Rho} {env : Env} {a : Act} (hE : EnvR sz ρ env a) {d : Nat} {b : Bool} (h : a.tmps[d]? = some (.bool b)) : EnvR sz ρ ((d, .one (.tf b)) :: env) a :=
  ⟨hE.size, fun t v ht => by
    rcases fnd_cons ht with ⟨rfl, rfl⟩ | ⟨_, ht⟩
    · exact ⟨_, h, rfl⟩
    · exact hE.env t v ht⟩
theorem guardK_spec {sz : Nat} {ρ : Rho} {env : Env} {a : Act} (hE : EnvR sz ρ env a) {all : List Oper} {g : Option (Nat × Bool)} {yes no : Env → Prop} (h : guardK all env g yes no) :
    ∃ env', EnvR sz ρ env' a ∧ ((asked all a.tmps g = true ∧ yes env') ∨ (asked all a.tmps g = false ∧ no env')) := by
  unfold guardK at h
  cases g with
  | none => exact ⟨env, hE, .inl ⟨rfl, h⟩⟩
  | some jw =>
    obtain ⟨j, want⟩ := jw
    simp only at h
    obtain ⟨o, eo, h⟩ := nthK_spec h
    have ask : ∀ d b, o.dst = some d → a.tmps[d]? = some (.bool b) → asked all a.tmps (some (j, want)) = (b == want) := by
      intro d b h1 h2
      simp [asked, yielded, eo, h1, h2]
    cases hd : o.dst with
    | none => rw [hd] at h; exact h.elim
    | some d =>
      rw [hd] at h
      simp only at h
      obtain ⟨v, hv, h⟩ := fndK_spec h
      obtain ⟨x, hx, hi⟩ := hE.env d v hv
      have both : ∀ b, x = .bool b → (b = true → (match want with | true => yes ((d, .one (.tf true)) :: env) | false => no ((d, .one (.tf true)) :: env))) → (b = false → (match want with | true => no ((d, .one (.tf false)) :: env) | false => yes ((d, .one (.tf false)) :: env))) →
          ∃ env', EnvR sz ρ env' a ∧ ((asked all a.tmps (some (j, want)) = true ∧ yes env') ∨ (asked all a.tmps (some (j, want)) = false ∧ no env')) := by
        intro b hb h1 h2
        subst hb
        have e := ask d b hd hx
        refine ⟨_, hE.tf hx, ?_⟩
        rw [e]
        cases b <;> cases want
        · exact .inl ⟨rfl, h2 rfl⟩
        · exact .inr ⟨rfl, h2 rfl⟩
        · exact .inr ⟨rfl, h1 rfl⟩
        · exact .inl ⟨rfl, h1 rfl⟩
      split at h
      · rename_i b
        have e := ask d b hd (by rw [hx, hi])
        refine ⟨env, hE, ?_⟩
        rw [e]
        cases b <;> cases want
        · exact .inl ⟨rfl, h⟩
        · exact .inr ⟨rfl, h⟩
        · exact .inr ⟨rfl, h⟩
        · exact .inl ⟨rfl, h⟩
      · obtain ⟨b, hb, hp⟩ := hi
        cases want
        · exact both b hb (fun e => h.t (hp.1 e)) (fun e => h.f (fun q => by have := hp.2 q; rw [e] at this; cases this))
        · exact both b hb (fun e => h.t (hp.1 e)) (fun e => h.f (fun q => by have := hp.2 q; rw [e] at this; cases this))
      · rename_i b
        cases want
        · exact both b hi (fun e => h.t e) (fun e => h.f (by rw [e]; decide))
        · exact both b hi (fun e => h.t e) (fun e => h.f (by rw [e]; decide))
      · obtain ⟨cs, _, rfl⟩ := hi
        refine ⟨env, hE, .inr ⟨?_, h⟩⟩
        simp [asked, yielded, eo, hd, hx]
      · exact h.elim
section
variable {P : Program} {T : TT} {sz : Nat} {B : Nat} {w0 : St} (hT : TTok P T)
include hT
theorem ops_sound {ro : Option Nat} {n : Nat} {all : List Oper} {K : Env → Obs → Nat → Prop} {Q : Exit → Act → World → Prop} (hQ : ∀ a w, Nx B w0 sz K a w → Q .normal a w) : ∀ (l : List Oper) {ρ : Rho} {env : Env} {a : Act} {obs : Obs} {nx : Nat} {w : World},
    EnvR sz ρ env a → Cls B ρ obs nx w → Wy B w0 ρ a.defers w → opsK P T sz false all l env obs nx K → wpListIn (Fz ro) n P all.toArray Q l a w
  | [], ρ, env, a, obs, nx, w, hE, hC, hW, h => hQ _ _ ⟨ρ, env, obs, nx, h, hE, hC, hW⟩
  | o :: r, ρ, env, a, obs, nx, w, hE, hC, hW, h => by
    rw [opsK_cons] at h
    obtain ⟨env', hE', h⟩ := guardK_spec hE h
    unfold wpListIn
    rw [wanted_eq]
    rcases h with ⟨hw, h⟩ | ⟨hw, h⟩
    · rw [if_pos hw]
      refine Oper.wpIn_mono ?_ (op_soundIn hT hE' hC hW h)
      rintro a1 w1 ⟨ρ1, env1, obs1, nx1, h1, hE1, hC1, hW1⟩
      exact ops_sound hQ r hE1 hC1 hW1 h1
    · rw [if_neg (by rw [hw]; decide)]
      obtain ⟨env2, h2, hE2⟩ := putK_spec hE' (undef_is ρ) h
      exact ⟨fun _ _ => fz_fn _ _, ops_sound hQ r hE2 hC hW.put h2⟩
theorem ops_quiet {all : List Oper} {ρ : Rho} {obs : Obs} {nx : Nat} {w : World} {ds : List Deferred} (hC : Cls B ρ obs nx w) (hW : Wy B w0 ρ ds w) {K : Env → Obs → Nat → Prop} {Q : Act → Prop} (hQ : ∀ a env, a.defers = ds → EnvR sz ρ env a → K env obs nx → Q a) : ∀ (l : List Oper) {env : Env} {a : Act},
    a.defers = ds → EnvR sz ρ env a → opsK P T sz true all l env obs nx K → wpQuiet P all.toArray (fun w' => Cls B ρ obs nx w' ∧ Wy B w0 ρ ds w') Q l a
  | [], env, a, hd, hE, h => hQ _ _ hd hE h
  | o :: r, env, a, hd, hE, h => by
    rw [opsK_cons] at h
    obtain ⟨env', hE', h⟩ := guardK_spec hE h
    unfold wpQuiet
    rw [wanted_eq]
    rcases h with ⟨hw, h⟩ | ⟨hw, h⟩
    · rw [if_pos hw]
      have pur : (pureK T env' obs o.op fun v => putK sz o.dst v env' fun e => opsK P T sz true all r e obs nx K) → o.quiet P a (fun w' => Cls B ρ obs nx w' ∧ Wy B w0 ρ ds w') (wpQuiet P all.toArray (fun w' => Cls B ρ obs nx w' ∧ Wy B w0 ρ ds w') Q r) := by
        intro h
        obtain ⟨v, x, hv, h, hr⟩ := pure_sound hT hE' hC h
        obtain ⟨env2, h2, hE2⟩ := putK_spec hE' hv h
        exact ⟨x, fun w1 hw1 => by unfold Oper.quietAt; rw [hr o rfl w1 hw1.1]; exact ⟨rfl, rfl⟩, ops_quiet hC hW hQ r (by rw [put_dfs]; exact hd) hE2 h2⟩
      cases hop : o.op
      case box t x => unfold opK at h; rw [hop] at h; exact h.elim
      case alloc t => unfold opK at h; rw [hop] at h; exact h.elim
      case store t x y => unfold opK at h; rw [hop] at h; exact h.elim
      case buildSlice t n ps => unfold opK at h; rw [hop] at h; exact h.elim
      case makeSlice t x y => unfold opK at h; rw [hop] at h; exact h.elim
      case convert s t x =>
        unfold opK at h
        rw [hop] at h
        obtain ⟨ty, _, h⟩ := fndK_spec h
        split at h
        · exact h.elim
        · exact pur (by rw [hop]; exact h)
      case slice t x lo hi mx =>
        cases mx with
        | none =>
          unfold opK at h
          rw [hop] at h
          obtain ⟨ty, _, h⟩ := fndK_spec h
          split at h
          · exact h.elim
          · exact pur (by rw [hop]; exact h)
        | some m => exact pur (by unfold opK at h; rw [hop] at h ⊢; exact h)
      case assign x =>
        refine pur ?_
        unfold opK at h
        rw [hop] at h ⊢
        split at h
        all_goals first | (rename_i e; cases e; done) | skip
        all_goals first | (rename_i e; injection e with e; subst e; exact h) | exact h
      case call c =>
        obtain ⟨cl, args, ts⟩ := c
        cases cl with
        | value g =>
          simp only [opK, hop] at h
          obtain ⟨v, hv, h⟩ := evK_spec hE' h
          split at h
          · rename_i f caps
            obtain ⟨cs, hcs, hg⟩ := hv
            obtain ⟨vs0, h, hvs0⟩ := evsK_spec hE' h
            obtain ⟨vs, h, hvs⟩ := capE_spec hvs0 hcs h
            obtain ⟨v, hK, hc⟩ := h.h
            have e : (args.toList.map a.eval ++ cs).toArray = args.map a.eval ++ cs.toArray := by cases args; simp
            have hc' : ∀ w1, Cls B ρ obs nx w1 → Calls P f (args.map a.eval ++ cs.toArray) w1 fun e w' => ∃ x, e = .returned x ∧ v.is ρ x ∧ Belw w1.heap.size w1 w' := fun w1 h1 => e ▸ hc B ρ w1 _ h1 hvs
            obtain ⟨_, _, x, _, hx, _⟩ := calls_some (hc' w hC)
            obtain ⟨env2, h2, hE2⟩ := putK_spec hE' hx hK
            refine ⟨x, fun w1 hw1 => ?_, ops_quiet hC hW hQ r (by rw [put_dfs]; exact hd) hE2 h2⟩
            unfold Oper.quietAt
            rw [run_call h.b hop hg w1]
            refine ⟨rfl, (hc' w1 hw1.1).mono fun e w' ⟨y, he, hy, hb⟩ => ?_⟩
            rw [SV.is_fun hx hy]
            exact ⟨he, hw1.1.below hb, below_of hw1.2 hw1.1.le hb⟩
          · exact h.elim
          · exact h.elim
        | invoke r m => exact pur (by unfold opK at h; rw [hop] at h ⊢; exact h)
        | builtin b =>
          by_cases happ : ∃ x y t t', b = .append ∧ args = #[x, y] ∧ ts = #[t, t']
          · obtain ⟨x, y, t, t', rfl, rfl, rfl⟩ := happ
            unfold opK at h
            rw [hop] at h
            exact h.elim
          · refine pur ?_
            unfold opK at h
            rw [hop] at h ⊢
            split at h
            all_goals first | (rename_i e; cases e; done) | skip
            all_goals first | (rename_i e; injection e with e; injection e with e1 e2 e3; injection e1 with e1; have q : b = .append := e1; exact absurd ⟨_, _, _, _, q, e2, e3⟩ happ) | exact h | exact (show False from h).elim
      all_goals exact pur (by unfold opK at h; rw [hop] at h ⊢; exact h)
    · rw [if_neg (by rw [hw]; decide)]
      obtain ⟨env2, h2, hE2⟩ := putK_spec hE' (undef_is ρ) h
      exact ops_quiet hC hW hQ r (by rw [put_dfs]; exact hd) hE2 h2
end
end Go.Proofs.YtlbffibpcjjpkaaDoor.V

namespace Go.Proofs.YtlbffibpcjjpkaaDoor.V
open Go Go.RowKit
set_option linter.unusedSectionVars false
section
variable {P : Program} {ops : Array Oper} {md : Region.Mode}
inductive Anc (md : Region.Mode) (ops : Array Oper) : Nat → Nat → Prop
  | one {j : Nat} {oj : Oper} {e : Edge} : ops[j]? = some oj → e ∈ oj.after → Region.binds md e = true → Anc md ops e.on j
  | more {k j : Nat} {oj : Oper} {e : Edge} : ops[j]? = some oj → e ∈ oj.after → Region.binds md e = true → Anc md ops k e.on → Anc md ops k j
def Down (md : Region.Mode) (ops : Array Oper) (listed : Array Bool) : Prop :=
  ∀ j oj, ops[j]? = some oj → listed.getD j false = true → ∀ e ∈ oj.after, Region.binds md e = true → listed.getD e.on false = true
theorem Anc.listed {k j : Nat} {listed : Array Bool} (hd : Down md ops listed) (h : Anc md ops k j) : (∃ oj, ops[j]? = some oj ∧ ∀ e ∈ oj.after, Region.binds md e = true → listed.getD e.on false = true) → listed.getD k false = true := by
  induction h with
  | one hj he hb =>
    rintro ⟨oj, h1, h2⟩
    rw [hj] at h1; injection h1 with h1; subst h1
    exact h2 _ he hb
  | more hj he hb hk ih =>
    rintro ⟨oj, h1, h2⟩
    rw [hj] at h1; injection h1 with h1; subst h1
    have hl := h2 _ he hb
    refine ih ?_
    cases hk with
    | one ho _ _ => exact ⟨_, ho, fun e' he' hb' => hd _ _ ho hl e' he' hb'⟩
    | more ho _ _ _ => exact ⟨_, ho, fun e' he' hb' => hd _ _ ho hl e' he' hb'⟩
theorem Down.set {listed : Array Bool} {i : Nat} (hd : Down md ops listed) (hi : i ∈ Region.ready md ops listed) : Down md ops (listed.setIfInBounds i true) := by
  intro j oj hj hl e he hb
  refine getD_set_true ?_
  by_cases hji : i = j
  · subst hji
    obtain ⟨_, o, ho, h⟩ := mem_ready.1 hi
    rw [hj] at ho; injection ho with ho; subst ho
    exact h e he hb
  · rw [getD_set_ne false hji] at hl
    exact hd j oj hj hl e he hb
def noQ : Exit → Act → World → Prop := fun _ _ _ => False
def opG (P : Program) (ops : Array Oper) (i : Nat) (K : Act → World → Prop) (a : Act) (w : World) : Prop := match ops[i]? with
  | none => False
  | some o => if Region.wanted o (yielded ops a.tmps) then o.wp P a w K noQ else K (a.put o.dst undef) w
theorem opG_mono {i : Nat} {K K' : Act → World → Prop} {a : Act} {w : World} (h : ∀ a w, K a w → K' a w) (hh : opG P ops i K a w) : opG P ops i K' a w := by
  unfold opG at *
  split
  · rename_i hn; simp only [hn] at hh
  · rename_i o ho
    simp only [ho] at hh
    split
    · rename_i hw; simp only [hw, if_true] at hh; exact Oper.wp_mono h hh
    · rename_i hw; simp only [hw] at hh; exact h _ _ hh
theorem wp_noQ {o : Oper} {a : Act} {w : World} {K : Act → World → Prop} {Q : Exit → Act → World → Prop} (h : o.wp P a w K noQ) : o.wp P a w K Q := by
  unfold Oper.wp at *
  generalize (execOp a.eval o).run P w = r at *
  cases r with
  | ok n w' =>
    cases n <;> simp only [Oper.upon] at h ⊢ <;> first
      | exact h
      | exact Calls.mono h (fun e w'' he => by cases e <;> first | exact he | exact (show False from he).elim | exact (let ⟨_, _, q⟩ := (show LetsOut noQ from he); (show False from q).elim))
  | halt x w' => cases x <;> simp only [Oper.upon] at h ⊢ <;> exact (show False from h).elim
theorem opG.to {i : Nat} {K : Act → World → Prop} {Q : Exit → Act → World → Prop} {a : Act} {w : World} (h : opG P ops i K a w) : wpOp P ops Q i K a w := by
  unfold opG at h
  unfold wpOp
  split at h
  · exact h.elim
  · rename_i o ho
    split at h
    · rename_i hw; simp only [ho, hw, if_true]; exact .inl (wp_noQ h)
    · rename_i hw; simp only [ho, hw]; exact h
def wpX (P : Program) (md : Region.Mode) (ops : Array Oper) (S : Nat → Prop) (Z : World → Prop) (R : Act → World → Prop) : Nat → Array Bool → Act → World → (Nat → World → Prop) → Prop
  | 0, listed, a, w, C => ((∀ k, S k → listed.getD k false = true → C k w) ∧ Z w) ∧ Region.ready md ops listed = [] ∧ R a w
  | f + 1, listed, a, w, C => ((∀ k, S k → listed.getD k false = true → C k w) ∧ Z w) ∧ (Region.ready md ops listed = [] → R a w) ∧ ∀ i ∈ Region.ready md ops listed,
      opG P ops i (fun a' w' => ∃ C' : Nat → World → Prop, (∀ k, S k → listed.getD k false = true → ¬ Anc md ops k i → ∀ v, C' k v → C k v) ∧ wpX P md ops S Z R f (listed.setIfInBounds i true) a' w' C') a w
theorem wpX.cz {S : Nat → Prop} {Z : World → Prop} {R : Act → World → Prop} {f : Nat} {listed : Array Bool} {a : Act} {w : World} {C : Nat → World → Prop} (h : wpX P md ops S Z R f listed a w C) : (∀ k, S k → listed.getD k false = true → C k w) ∧ Z w := by
  cases f with
  | zero => exact h.1
  | succ f => exact h.1
theorem wpX.less {S : Nat → Prop} {Z : World → Prop} {R : Act → World → Prop} {f : Nat} {listed : Array Bool} {a : Act} {w : World} {C C' : Nat → World → Prop} (h : wpX P md ops S Z R f listed a w C') (hc : ∀ k, S k → listed.getD k false = true → ∀ v, C' k v → C k v) : wpX P md ops S Z R f listed a w C := by
  cases f with
  | zero => exact ⟨⟨fun k h1 h2 => hc k h1 h2 w (h.1.1 k h1 h2), h.1.2⟩, h.2⟩
  | succ f => exact ⟨⟨fun k h1 h2 => hc k h1 h2 w (h.1.1 k h1 h2), h.1.2⟩, h.2.1, fun i hi => opG_mono (fun a' w' ⟨C2, q, r⟩ => ⟨C2, fun k h1 h2 h3 v hv => hc k h1 h2 v (q k h1 h2 h3 v hv), r⟩) (h.2.2 i hi)⟩
theorem wpX.any {S : Nat → Prop} {Z : World → Prop} {R : Act → World → Prop} {Q : Exit → Act → World → Prop} (hR : ∀ a w, R a w → Q .normal a w) : ∀ (f : Nat) (listed : Array Bool) (a : Act) (w : World) (C : Nat → World → Prop), wpX P md ops S Z R f listed a w C → wpAny P md ops Q f listed a w
  | 0, _, _, _, _, h => ⟨h.2.1, hR _ _ h.2.2⟩
  | f + 1, _, _, _, _, h => ⟨fun q => hR _ _ (h.2.1 q), fun i hi => (opG_mono (fun a' w' ⟨C', _, q⟩ => wpX.any hR f _ a' w' C' q) (h.2.2 i hi)).to⟩
def YS (P : Program) (ops : Array Oper) (C : World → Prop) (o : Oper) (v : Value) (a : Act) : Prop :=
  if Region.wanted o (yielded ops a.tmps) then ∀ w, C w → (execOp a.eval o).run P w = .ok (.value v) w else v = undef
theorem YS.less {C C' : World → Prop} {o : Oper} {v : Value} {a : Act} (h : YS P ops C o v a) (hc : ∀ w, C' w → C w) : YS P ops C' o v a := by
  unfold YS at *
  split
  · rename_i hw; rw [if_pos hw] at h; exact fun w hw' => h w (hc w hw')
  · rename_i hw; rw [if_neg hw] at h; exact h
theorem YS.go {C : World → Prop} {i : Nat} {o : Oper} {v : Value} {a : Act} {w : World} {K : Act → World → Prop} (hi : ops[i]? = some o) (h : YS P ops C o v a) (hC : C w) (hK : K (a.put o.dst v) w) : opG P ops i K a w := by
  unfold opG YS at *
  simp only [hi]
  split
  · rename_i hw
    rw [if_pos hw] at h
    unfold Oper.wp
    rw [h w hC]; exact hK
  · rename_i hw
    rw [if_neg hw] at h
    subst h; exact hK
theorem put_defers (a : Act) (d : Option Tmp) (v : Value) (l : List Deferred) : ({ a with defers := l } : Act).put d v = { (a.put d v) with defers := l } := by
  cases d <;> rfl
theorem defers_put (a : Act) (d : Option Tmp) (v : Value) : (a.put d v).defers = a.defers := by cases d <;> rfl
theorem eval_defers (a : Act) (l : List Deferred) : ({ a with defers := l } : Act).eval = a.eval := by
  funext x; cases x <;> rfl
theorem opG_put {j : Nat} {oi oj : Oper} {v : Value} {C : World → Prop} (hj : ops[j]? = some oj) (hap : oi.apart ops oj = true) (hsi : ∀ cs b, oi.op ≠ .select cs b) (hsj : ∀ cs b, oj.op ≠ .select cs b)
    {K : Act → World → Prop} {a : Act} {w : World} (hy : YS P ops C oi v a) (h : opG P ops j K (a.put oi.dst v) w) : opG P ops j (fun a' w' => YS P ops C oi v a' ∧ K (a'.put oi.dst v) w') a w := by
  obtain ⟨h1, h2, h3⟩ := Oper.apart_spec hap
  have keep : ∀ u, YS P ops C oi v (a.put oj.dst u) := fun u => by
    unfold YS at *
    rw [wanted_put oi a oj.dst u h3, execOp_put oi hsi a oj.dst u h3]; exact hy
  have comm : ∀ u, (a.put oj.dst u).put oi.dst v = (a.put oi.dst v).put oj.dst u := fun u => (Act.put_comm a v u h2).symm
  unfold opG at *
  simp only [hj] at *
  rw [wanted_put oj a oi.dst v h1] at h
  split
  · rename_i hw
    rw [if_pos hw] at h
    unfold Oper.wp at *
    rw [execOp_put oj hsj a oi.dst v h1] at h
    generalize (execOp a.eval oj).run P w = r at *
    cases r with
    | ok n w' =>
      cases n <;> simp only [Oper.upon] at h ⊢ <;> first
        | exact ⟨keep _, by rw [comm]; exact h⟩
        | (refine Calls.mono h (fun e w'' he => ?_)
           cases e <;> first | exact ⟨keep _, by rw [comm]; exact he⟩ | exact (show False from he).elim | exact he)
        | skip
      · rename_i d
        refine ⟨?_, ?_⟩
        · have := keep undef
          unfold YS at this ⊢
          rw [put_defers]
          exact this
        · rw [← Act.put_comm { a with defers := d :: a.defers } v undef h2, put_defers a oi.dst v]
          rw [defers_put] at h
          exact h
      · exact Rows.mono h (fun u w'' he => ⟨keep _, by rw [comm]; exact he⟩)
    | halt x w' => cases x <;> simp only [Oper.upon] at h ⊢ <;> exact (show False from h).elim
  · rename_i hw
    rw [if_neg hw] at h
    exact ⟨keep _, by rw [comm]; exact h⟩
theorem wpX_first {S : Nat → Prop} {Z : World → Prop} {R : Act → World → Prop} {i : Nat} {oi : Oper} {v : Value} (hS : S i) (hi : ops[i]? = some oi) (hsel : ∀ (j : Nat) (o : Oper) cs b, ops[j]? = some o → o.op ≠ .select cs b)
    (hfree : ∀ j oj, ops[j]? = some oj → j ≠ i → Anc md ops i j ∨ Anc md ops j i ∨ oi.apart ops oj = true) :
    ∀ (f : Nat) (listed : Array Bool) (a : Act) (w : World) (C : Nat → World → Prop), Down md ops listed → i ∈ Region.ready md ops listed → YS P ops (C i) oi v a → C i w →
      wpX P md ops S Z R f (listed.setIfInBounds i true) (a.put oi.dst v) w C → wpX P md ops S Z R (f + 1) listed a w C := by
  intro f
  induction f with
  | zero =>
    intro listed a w C hd hr hy hC H
    refine ⟨⟨fun k h1 h2 => H.cz.1 k h1 (getD_set_true h2), H.cz.2⟩, fun q => (by rw [q] at hr; cases hr), fun j hj => ?_⟩
    by_cases hji : j = i
    · subst hji; exact hy.go hi hC ⟨C, fun _ _ _ _ _ h => h, H⟩
    · have := ready_mono hj hji
      rw [H.2.1] at this; cases this
  | succ f ih =>
    intro listed a w C hd hr hy hC H
    refine ⟨⟨fun k h1 h2 => H.cz.1 k h1 (getD_set_true h2), H.cz.2⟩, fun q => (by rw [q] at hr; cases hr), fun j hj => ?_⟩
    by_cases hji : j = i
    · subst hji; exact hy.go hi hC ⟨C, fun _ _ _ _ _ h => h, H⟩
    obtain ⟨hjun, oj, hoj, hall⟩ := mem_ready.1 hj
    have hiun : listed.getD i false = false := by
      have h0 := (mem_ready.1 hr).1
      rcases Nat.lt_or_ge i listed.size with h' | h'
      · simpa [h'] using h0
      · simp [Array.getElem?_eq_none h']
    have no : ¬ Anc md ops i j := fun q => by
      have := q.listed hd ⟨oj, hoj, hall⟩
      rw [hiun] at this; cases this
    have hi' : (listed.setIfInBounds i true).getD i false = true := by
      have h0 := (mem_ready.1 hr).1
      have hlt : i < listed.size := by
        rcases Nat.lt_or_ge i listed.size with h' | h'
        · exact h'
        · simp [Array.getElem?_eq_none h'] at h0
      simp [hlt]
    have hap : oi.apart ops oj = true := by
      rcases hfree j oj hoj hji with q | q | q
      · exact absurd q no
      · obtain ⟨_, o, ho, h⟩ := mem_ready.1 hr
        have := q.listed hd ⟨o, ho, h⟩
        rcases Nat.lt_or_ge j listed.size with h' | h'
        · simp [h'] at hjun this; rw [hjun] at this; cases this
        · simp [Array.getElem?_eq_none h'] at this
      · exact q
    refine opG_mono ?_ (opG_put hoj hap (fun cs b => hsel i oi cs b hi) (fun cs b => hsel j oj cs b hoj) hy (H.2.2 j (ready_mono hj hji)))
    rintro a' w' ⟨hy', C', hc, h⟩
    refine ⟨C', fun k h1 h2 h3 => hc k h1 (getD_set_true h2) h3, ih (listed.setIfInBounds j true) a' w' C' (hd.set hj) (ready_mono hr (Ne.symm hji)) (hy'.less (hc i hS hi' no)) (h.cz.1 i hS (getD_set_true hi')) ?_⟩
    rw [Array.setIfInBounds_comm _ _ hji]; exact h
theorem wpX_firstZ {S : Nat → Prop} {Z : World → Prop} {R : Act → World → Prop} {i : Nat} {oi : Oper} {v : Value} (hi : ops[i]? = some oi) (hsel : ∀ (j : Nat) (o : Oper) cs b, ops[j]? = some o → o.op ≠ .select cs b)
    (hfree : ∀ j oj, ops[j]? = some oj → j ≠ i → Anc md ops i j ∨ Anc md ops j i ∨ oi.apart ops oj = true) :
    ∀ (f : Nat) (listed : Array Bool) (a : Act) (w : World) (C : Nat → World → Prop), Down md ops listed → i ∈ Region.ready md ops listed → YS P ops Z oi v a →
      wpX P md ops S Z R f (listed.setIfInBounds i true) (a.put oi.dst v) w C → wpX P md ops S Z R (f + 1) listed a w C := by
  intro f
  induction f with
  | zero =>
    intro listed a w C hd hr hy H
    refine ⟨⟨fun k h1 h2 => H.cz.1 k h1 (getD_set_true h2), H.cz.2⟩, fun q => (by rw [q] at hr; cases hr), fun j hj => ?_⟩
    by_cases hji : j = i
    · subst hji; exact hy.go hi H.cz.2 ⟨C, fun _ _ _ _ _ h => h, H⟩
    · have := ready_mono hj hji
      rw [H.2.1] at this; cases this
  | succ f ih =>
    intro listed a w C hd hr hy H
    refine ⟨⟨fun k h1 h2 => H.cz.1 k h1 (getD_set_true h2), H.cz.2⟩, fun q => (by rw [q] at hr; cases hr), fun j hj => ?_⟩
    by_cases hji : j = i
    · subst hji; exact hy.go hi H.cz.2 ⟨C, fun _ _ _ _ _ h => h, H⟩
    obtain ⟨hjun, oj, hoj, hall⟩ := mem_ready.1 hj
    have hiun : listed.getD i false = false := by
      have h0 := (mem_ready.1 hr).1
      rcases Nat.lt_or_ge i listed.size with h' | h'
      · simpa [h'] using h0
      · simp [Array.getElem?_eq_none h']
    have no : ¬ Anc md ops i j := fun q => by
      have := q.listed hd ⟨oj, hoj, hall⟩
      rw [hiun] at this; cases this
    have hap : oi.apart ops oj = true := by
      rcases hfree j oj hoj hji with q | q | q
      · exact absurd q no
      · obtain ⟨_, o, ho, h⟩ := mem_ready.1 hr
        have := q.listed hd ⟨o, ho, h⟩
        rcases Nat.lt_or_ge j listed.size with h' | h'
        · simp [h'] at hjun this; rw [hjun] at this; cases this
        · simp [Array.getElem?_eq_none h'] at this
      · exact q
    refine opG_mono ?_ (opG_put hoj hap (fun cs b => hsel i oi cs b hi) (fun cs b => hsel j oj cs b hoj) hy (H.2.2 j (ready_mono hj hji)))
    rintro a' w' ⟨hy', C', hc, h⟩
    refine ⟨C', fun k h1 h2 h3 => hc k h1 (getD_set_true h2) h3, ih (listed.setIfInBounds j true) a' w' C' (hd.set hj) (ready_mono hr (Ne.symm hji)) hy' ?_⟩
    rw [Array.setIfInBounds_comm _ _ hji]; exact h
theorem down_start (n : Nat) : Down md ops (Array.replicate n false) := fun j oj _ hl => by
  rcases Nat.lt_or_ge j n with h | h
  · simp [h] at hl
  · simp [Array.getElem?_eq_none, h] at hl
end
end Go.Proofs.YtlbffibpcjjpkaaDoor.V

namespace Go.Proofs.YtlbffibpcjjpkaaDoor.V
open Go Go.RowKit
variable [Dr]
set_option linter.unusedSectionVars false
theorem ancB_spec {all : List Oper} {k : Nat} : ∀ {f j : Nat}, ancB all f k j = true → Anc .any all.toArray k j
  | 0, _, h => by cases h
  | f + 1, j, h => by
    unfold ancB at h
    cases ho : all[j]? with
    | none => rw [ho] at h; cases h
    | some o =>
      rw [ho] at h
      obtain ⟨e, he, h⟩ := List.any_eq_true.1 h
      simp only [Bool.and_eq_true, Bool.or_eq_true] at h
      obtain ⟨hb, h⟩ := h
      have ho' : all.toArray[j]? = some o := by simpa using ho
      have he' : e ∈ o.after := by simpa using he
      rcases h with h | h
      · have := Nat.eq_of_beq_eq_true h
        subst this
        exact .one ho' he' hb
      · exact .more ho' he' hb (ancB_spec h)
theorem allB_spec {p : Nat → Bool} : ∀ {n : Nat}, allB p n = true → ∀ i, i < n → p i = true
  | 0, _, i, hi => by omega
  | n + 1, h, i, hi => by
    unfold allB at h
    cases hp : p n <;> simp only [hp] at h
    · cases h
    · by_cases e : i = n
      · subst e; exact hp
      · exact allB_spec h i (by omega)
theorem freeB_spec {all : List Oper} (h : freeB all = true) : Region.noSelect all.toArray = true ∧ ∀ (i j : Nat) (oi oj : Oper), all[i]? = some oi → all[j]? = some oj → j ≠ i → Anc .any all.toArray i j ∨ Anc .any all.toArray j i ∨ oi.apart all.toArray oj = true := by
  unfold freeB at h
  simp only [Bool.and_eq_true] at h
  refine ⟨h.1, fun i j oi oj hi hj hne => ?_⟩
  have h1 := allB_spec (allB_spec h.2 i (List.getElem?_eq_some_iff.1 hi).1) j (List.getElem?_eq_some_iff.1 hj).1
  simp only [hi, hj, Bool.or_eq_true] at h1
  rcases h1 with ((h1 | h1) | h1) | h1
  · exact absurd (Nat.eq_of_beq_eq_true h1).symm hne
  · exact .inl (ancB_spec h1)
  · exact .inr (.inl (ancB_spec h1))
  · exact .inr (.inr h1)
structure Corr (n : Nat) (listed : Array Bool) (done : List Nat) : Prop where
  size : listed.size = n
  c : ∀ j, listed.getD j false = memB j done
theorem Corr.set {n i : Nat} {listed : Array Bool} {done : List Nat} (h : Corr n listed done) (hi : i < n) : Corr n (listed.setIfInBounds i true) (i :: done) :=
  ⟨by simp [h.size], fun j => by
    unfold memB
    by_cases e : i = j
    · subst e
      rw [Nat.beq_refl]
      simp [h.size, hi]
    · rw [getD_set_ne false e]
      cases hb : Nat.beq j i
      · exact h.c j
      · exact absurd (Nat.eq_of_beq_eq_true hb).symm e⟩
theorem depsIn_spec {done : List Nat} : ∀ {l : List Edge}, depsIn done l = true ↔ ∀ e ∈ l, Region.binds .any e = true → memB e.on done = true
  | [] => by simp [depsIn]
  | e :: r => by
    unfold depsIn
    cases hb : Region.binds .any e <;> simp only [List.mem_cons, forall_eq_or_imp, hb]
    · rw [depsIn_spec]; simp
    · cases hm : memB e.on done <;> simp [depsIn_spec]
theorem readyL_spec {done : List Nat} {k : Nat} {o : Oper} : ∀ {l : List Oper} {n : Nat}, (k, o) ∈ readyL done n l ↔ n ≤ k ∧ l[k - n]? = some o ∧ memB k done = false ∧ depsIn done o.after.toList = true
  | [], n => by simp [readyL]
  | u :: r, n => by
    unfold readyL
    have ih := @readyL_spec done k o r (n + 1)
    have step : (n + 1 ≤ k ∧ r[k - (n + 1)]? = some o ∧ memB k done = false ∧ depsIn done o.after.toList = true) ↔ (n < k ∧ (u :: r)[k - n]? = some o ∧ memB k done = false ∧ depsIn done o.after.toList = true) := by
      constructor
      · rintro ⟨h1, h2⟩
        refine ⟨by omega, ?_⟩
        rw [show k - n = (k - (n + 1)) + 1 by omega]; simpa using h2
      · rintro ⟨h1, h2⟩
        refine ⟨by omega, ?_⟩
        rw [show k - n = (k - (n + 1)) + 1 by omega] at h2; simpa using h2
    cases hm : memB n done
    · cases hd : depsIn done u.after.toList
      · simp only
        rw [ih, step]
        constructor
        · rintro ⟨h1, h2⟩; exact ⟨by omega, h2⟩
        · rintro ⟨h1, h2, h3, h4⟩
          rcases Nat.lt_or_ge n k with q | q
          · exact ⟨q, h2, h3, h4⟩
          · have e : k = n := by omega
            subst e
            simp at h2; subst h2
            rw [hd] at h4; cases h4
      · simp only [List.mem_cons]
        rw [ih, step]
        constructor
        · rintro (q | ⟨h1, h2⟩)
          · injection q with q1 q2
            subst q1 q2
            exact ⟨Nat.le_refl _, by simp, hm, hd⟩
          · exact ⟨by omega, h2⟩
        · rintro ⟨h1, h2, h3, h4⟩
          rcases Nat.lt_or_ge n k with q | q
          · exact .inr ⟨q, h2, h3, h4⟩
          · have e : k = n := by omega
            subst e
            simp at h2; subst h2
            exact .inl rfl
    · simp only
      rw [ih, step]
      constructor
      · rintro ⟨h1, h2⟩; exact ⟨by omega, h2⟩
      · rintro ⟨h1, h2, h3, h4⟩
        rcases Nat.lt_or_ge n k with q | q
        · exact ⟨q, h2, h3, h4⟩
        · have e : k = n := by omega
          subst e
          rw [hm] at h3; cases h3
theorem ready_iff {all : List Oper} {listed : Array Bool} {done : List Nat} (hc : Corr all.length listed done) {k : Nat} : k ∈ Region.ready .any all.toArray listed ↔ ∃ o, (k, o) ∈ readyL done 0 all := by
  rw [mem_ready]
  constructor
  · rintro ⟨h1, o, h2, h3⟩
    refine ⟨o, readyL_spec.2 ⟨Nat.zero_le _, by simpa using h2, ?_, depsIn_spec.2 fun e he hb => ?_⟩⟩
    · rw [← hc.c]
      rcases Nat.lt_or_ge k listed.size with h | h
      · simpa [h] using h1
      · simp [Array.getElem?_eq_none h]
    · rw [← hc.c]; exact h3 e (by simpa using he) hb
  · rintro ⟨o, h⟩
    obtain ⟨_, h2, h3, h4⟩ := readyL_spec.1 h
    have h2 : all[k]? = some o := by simpa using h2
    have hk : k < listed.size := by rw [hc.size]; exact (List.getElem?_eq_some_iff.1 h2).1
    refine ⟨?_, o, by simpa using h2, fun e he hb => ?_⟩
    · have := hc.c k
      rw [h3] at this
      simpa [hk] using this
    · rw [hc.c]; exact depsIn_spec.1 h4 e (by simpa using he) hb
theorem pick0_mem {g rc : Bool} {T : TT} {all : List Oper} {i : Nat} {o : Oper} : ∀ {l : List (Nat × Oper)}, pick0 g rc T all l = some (i, o) → (i, o) ∈ l ∧ kindK T o.op = 0 ∧ (lightB T o || (g && firmB rc all i)) = true
  | [], h => by cases h
  | (k, u) :: r, h => by
    unfold pick0 at h
    split at h
    · rename_i hk
      split at h
      · rename_i hg
        injection h with h; injection h with h1 h2; subst h1 h2; exact ⟨by simp, hk, hg⟩
      · obtain ⟨h1, h2⟩ := pick0_mem h
        exact ⟨List.mem_cons_of_mem _ h1, h2⟩
    · obtain ⟨h1, h2⟩ := pick0_mem h
      exact ⟨List.mem_cons_of_mem _ h1, h2⟩
theorem eachK_spec {K : Nat → Oper → Prop} : ∀ {l : List (Nat × Oper)}, eachK l K → ∀ i o, (i, o) ∈ l → K i o
  | [], _, _, _, h => by cases h
  | [(k, u)], h, i, o, hm => by
    obtain ⟨rfl, rfl⟩ : i = k ∧ o = u := by simpa using hm
    exact h
  | (k, u) :: v :: r, h, i, o, hm => by
    rcases List.mem_cons.1 hm with q | q
    · injection q with q1 q2; subst q1 q2; exact h.l
    · exact eachK_spec (l := v :: r) h.r i o q
theorem Cls.none_ {B nx : Nat} {ρ : Rho} {obs : Obs} {w : World} (h : Cls B ρ obs nx w) : Cls B ρ [] nx w := ⟨h.le, fun _ _ q => (by simp [fnd] at q), fun _ _ _ _ _ q => (by simp [fnd] at q), h.new, fun _ _ _ _ _ q => (by simp [fnd] at q)⟩
section
variable {P : Program} {T : TT} {sz : Nat} {B : Nat} {w0 : St} (hT : TTok P T)
include hT
theorem still_spec {ρ : Rho} {env : Env} {a : Act} {obs : Obs} {nx : Nat} {w : World} (hE : EnvR sz ρ env a) (hC : Cls B ρ obs nx w) {o : Oper} {K : Env → Obs → Nat → Prop} (hk : kindK T o.op = 0) (h : opK P T sz true o env obs nx K) :
    ∃ x env', (∀ w1, Cls B ρ obs nx w1 → (execOp a.eval o).run P w1 = .ok (.value x) w1) ∧ K env' obs nx ∧ EnvR sz ρ env' (a.put o.dst x) := by
  have pur : (pureK T env obs o.op fun v => putK sz o.dst v env fun env' => K env' obs nx) → ∃ x env', (∀ w1, Cls B ρ obs nx w1 → (execOp a.eval o).run P w1 = .ok (.value x) w1) ∧ K env' obs nx ∧ EnvR sz ρ env' (a.put o.dst x) := fun h => by
    obtain ⟨v, x, hv, h, hr⟩ := pure_sound hT hE hC h
    obtain ⟨env', hK, hE'⟩ := putK_spec hE hv h
    exact ⟨x, env', fun w1 h1 => hr o rfl w1 h1, hK, hE'⟩
  cases hop : o.op
  case box t x => rw [hop] at hk; cases hk
  case alloc t => rw [hop] at hk; cases hk
  case store t x y => rw [hop] at hk; cases hk
  case buildSlice t n ps => rw [hop] at hk; cases hk
  case makeSlice t x y => rw [hop] at hk; cases hk
  case convert s t x =>
    unfold opK at h
    rw [hop] at h
    obtain ⟨ty, _, h⟩ := fndK_spec h
    split at h
    · exact h.elim
    · exact pur (by rw [hop]; exact h)
  case slice t x lo hi mx =>
    cases mx with
    | none =>
      unfold opK at h
      rw [hop] at h
      obtain ⟨ty, _, h⟩ := fndK_spec h
      split at h
      · exact h.elim
      · exact pur (by rw [hop]; exact h)
    | some m => exact pur (by unfold opK at h; rw [hop] at h ⊢; exact h)
  case assign x =>
    refine pur ?_
    unfold opK at h
    rw [hop] at h ⊢
    split at h
    all_goals first | (rename_i e; cases e; done) | skip
    all_goals first | (rename_i e; injection e with e; subst e; exact h) | exact h
  case call c =>
    obtain ⟨cl, args, ts⟩ := c
    cases cl with
    | value g => rw [hop] at hk; cases hk
    | invoke r m => exact pur (by unfold opK at h; rw [hop] at h ⊢; exact h)
    | builtin b =>
      by_cases happ : ∃ x y t t', b = .append ∧ args = #[x, y] ∧ ts = #[t, t']
      · obtain ⟨x, y, t, t', rfl, rfl, rfl⟩ := happ
        unfold opK at h
        rw [hop] at h
        exact h.elim
      · refine pur ?_
        unfold opK at h
        rw [hop] at h ⊢
        split at h
        all_goals first | (rename_i e; cases e; done) | skip
        all_goals first | (rename_i e; injection e with e; injection e with e1 e2 e3; injection e1 with e1; have q : b = .append := e1; exact absurd ⟨_, _, _, _, q, e2, e3⟩ happ) | exact h | exact (show False from h).elim
  all_goals exact pur (by unfold opK at h; rw [hop] at h ⊢; exact h)
theorem makes_spec {ρ : Rho} {env : Env} {a : Act} {obs : Obs} {nx : Nat} {w : World} (hE : EnvR sz ρ env a) (hC : Cls B ρ obs nx w) (hW : Wy B w0 ρ a.defers w) {o : Oper} {K : Env → Obs → Nat → Prop} {Q : Exit → Act → World → Prop} (hk : kindK T o.op = 1) (h : opK P T sz false o env obs nx K) :
    o.wp P a w (NxA B w0 sz K w) Q := by
  cases hop : o.op
  case box t x => exact op_box hT hE hC hW hop h
  case alloc t => exact op_alloc hT hE hC hW hop h
  case buildSlice t n ps => exact op_buildSlice hT hE hC hW hop h
  case makeSlice t x y => exact op_makeSlice hT hE hC hW hop h
  case convert s t x =>
    refine op_convert hT hE hC hW hop (fun ts e q1 q2 => ?_) h
    rw [hop] at hk
    unfold opK at h
    rw [hop] at h
    obtain ⟨ty, hty, h⟩ := fndK_spec h
    simp only [kindK, hty, q1] at hk
    split at hk
    · simp only [q2] at hk
      cases hk
    · cases hk
  case slice t x lo hi mx =>
    cases mx with
    | none => exact op_slice hT hE hC hW hop h
    | some m => rw [hop] at hk; cases hk
  case call c =>
    obtain ⟨cl, args, ts⟩ := c
    rw [hop] at hk
    cases cl with
    | value g => cases hk
    | invoke r m => cases hk
    | builtin b => cases b <;> cases hk
  all_goals (rw [hop] at hk; cases hk)
theorem callA_spec {ρ : Rho} {env : Env} {a : Act} {obs : Obs} {nx : Nat} {w : World} (hE : EnvR sz ρ env a) (hC : Cls B ρ obs nx w) (hW : Wy B w0 ρ a.defers w) {o : Oper} {g : Operand} {args : Array Operand} {ts : Array TypeId} {K : Env → Obs → Nat → Prop} {Q : Exit → Act → World → Prop}
    (ho : o.op = .call ⟨.value g, args, ts⟩) (h : evK env g fun v => match v with
      | .one (.clo f caps) => evsK env args.toList fun l => capE l caps fun l => NCallA P f l obs nx fun u obs' nx' => putK sz o.dst u env fun env' => K env' obs' nx'
      | _ => False) : o.wp P a w (NxA B w0 sz K w) Q := by
  obtain ⟨v, hv, h⟩ := evK_spec hE h
  split at h
  · rename_i f caps
    obtain ⟨cs, hcs, hg⟩ := hv
    obtain ⟨vs0, h, hvs0⟩ := evsK_spec hE h
    obtain ⟨vs, h, hvs⟩ := capE_spec hvs0 hcs h
    unfold Oper.wp
    rw [run_call h.b ho hg w]
    have hc := h.h B ρ w _ hC hvs
    have e : (args.toList.map a.eval ++ cs).toArray = args.map a.eval ++ cs.toArray := by cases args; simp
    rw [e] at hc
    refine hc.mono fun e w' ⟨v, obs', nx', ρ', x, hK, hx, he, hv, hC', hb⟩ => ?_
    subst he
    obtain ⟨env', hK, hE'⟩ := putK_spec (hE.ext hx) hv hK
    exact ⟨ρ', env', obs', nx', hK, hE', hC', ((below_of hW hC.le hb).ext hx).put, hb⟩
  · exact h.elim
theorem callW_spec {ρ : Rho} {env : Env} {a : Act} {obs : Obs} {nx : Nat} {w : World} (hE : EnvR sz ρ env a) (hC : Cls B ρ obs nx w) (hW : Wy B w0 ρ a.defers w) {o : Oper} {g : Operand} {args : Array Operand} {ts : Array TypeId} {K : Env → Obs → Nat → Prop} {Q : Exit → Act → World → Prop}
    (ho : o.op = .call ⟨.value g, args, ts⟩) (h : evK env g fun v => match v with
      | .one (.clo f caps) => evsK env args.toList fun l => capE l caps fun l => NCall P f l obs nx fun u obs' nx' => putK sz o.dst u env fun env' => K env' obs' nx'
      | _ => False) : o.wp P a w (Nx B w0 sz K) Q := by
  obtain ⟨v, hv, h⟩ := evK_spec hE h
  split at h
  · rename_i f caps
    obtain ⟨cs, hcs, hg⟩ := hv
    obtain ⟨vs0, h, hvs0⟩ := evsK_spec hE h
    obtain ⟨vs, h, hvs⟩ := capE_spec hvs0 hcs h
    unfold Oper.wp
    rw [run_call h.b ho hg w]
    have hc := h.h B ρ w _ hC hvs
    have e : (args.toList.map a.eval ++ cs).toArray = args.map a.eval ++ cs.toArray := by cases args; simp
    rw [e] at hc
    refine hc.mono fun e w' ⟨v, obs', nx', ρ', x, hK, hx, he, hv, hC', hb, hob⟩ => ?_
    subst he
    obtain ⟨env', hK, hE'⟩ := putK_spec (hE.ext hx) hv hK
    exact ⟨ρ', env', obs', nx', hK, hE', hC', ((hW.trans hb hob).ext hx).put⟩
  · exact h.elim
theorem op_empty {ρ : Rho} {env : Env} {a : Act} {obs : Obs} {nx : Nat} {w : World} (hE : EnvR sz ρ env a) (hC : Cls B ρ obs nx w) (hW : Wy B w0 ρ a.defers w) {o : Oper} {t : TypeId} {K : Env → Obs → Nat → Prop} {Q : Exit → Act → World → Prop}
    (ho : o.op = .buildSlice t 0 ⟨[]⟩) (h : emptyK T sz o.dst t env obs nx K) : o.wp P a w (NxA B w0 sz K w) Q := by
  unfold emptyK at h
  obtain ⟨ty, i, d, z, ht, hi, hd, hz, rfl, h⟩ := fnd_ty hT h
  simp only at h
  split at h
  rotate_left
  · exact h.elim
  rename_i e hs
  have e0 := sh_sl hs
  subst e0
  obtain ⟨te, i2, d2, z2, ht2, hi2, hd2, hz2, rfl, h⟩ := fnd_ty hT h
  simp only at h
  split at h
  rotate_left
  · exact h.elim
  have er : (Instr.buildSlice t 0 ((#[] : Array (Nat × Operand)).map fun p => match p with | (i, x) => (i, a.eval x))).run P w = .ok (.slice (some ⟨w.heap.size, 0, none⟩) 0 0) (w.alloc (.cells #[] e)) := by
    simp [Instr.buildSlice, run_underlying hd, run_size hi2, newRow, Instr.fill, Sem.run_bind]
    congr 2
    apply Array.ext'
    simp
  unfold Oper.wp
  simp only [execOp, ho]
  rw [show (do pure (Next.value (← Instr.buildSlice t 0 ((#[] : Array (Nat × Operand)).map fun p => match p with | (i, x) => (i, a.eval x)))) : Sem Next).run P w = .ok (.value (.slice (some ⟨w.heap.size, 0, none⟩) 0 0)) (w.alloc (.cells #[] e)) from run_val' er]
  refine new_ref (o := .lit e i2.size []) hE hC hW rfl ((Belw.refl _ _).alloc (Nat.le_refl _) _) ⟨w.heap.size, [], by rw [upd_same]; rfl, hC.le, (fun r hr => absurd hr (List.not_mem_nil)), Nat.zero_le _, rfl, heap_alloc_new w _⟩ (fun b hf => ?_) h
  simp only [foot, base_sl (upd_same _ _ _), Option.map_some] at hf
  injection hf with hf; omega
omit hT in
theorem memB_mem {x : Nat} : ∀ {l : List Nat}, memB x l = true → x ∈ l
  | [], h => by cases h
  | y :: r, h => by
    unfold memB at h
    cases hb : Nat.beq x y
    · rw [hb] at h; exact List.mem_cons_of_mem _ (memB_mem h)
    · rw [Nat.eq_of_beq_eq_true hb]; simp
omit hT in
theorem mem_memB {x : Nat} : ∀ {l : List Nat}, x ∈ l → memB x l = true
  | y :: r, h => by
    unfold memB
    cases hb : Nat.beq x y
    · rcases List.mem_cons.1 h with rfl | h
      · rw [Nat.beq_refl] at hb; cases hb
      · exact mem_memB h
    · rfl
omit hT in
theorem opG_act {ops : Array Oper} {i : Nat} {oi : Oper} {K : Act → World → Prop} {a : Act} {w : World} (hi : ops[i]? = some oi) (h : opG P ops i K a w) : opG P ops i (fun a' w' => (∃ u l, a' = { (a.put oi.dst u) with defers := l }) ∧ K a' w') a w := by
  unfold opG at *
  simp only [hi] at *
  split
  · rename_i hw
    rw [if_pos hw] at h
    unfold Oper.wp at *
    generalize (execOp a.eval oi).run P w = r at *
    cases r with
    | ok n w' =>
      cases n <;> simp only [Oper.upon] at h ⊢ <;> first
        | exact ⟨⟨_, _, rfl⟩, h⟩
        | (refine Calls.mono h (fun e w'' he => ?_)
           cases e <;> first | exact ⟨⟨_, _, rfl⟩, he⟩ | exact (show False from he).elim | exact he)
        | exact Rows.mono h (fun u w'' he => ⟨⟨_, _, rfl⟩, he⟩)
        | skip
      · rename_i d
        exact ⟨⟨undef, d :: a.defers, by rw [put_defers]⟩, h⟩
    | halt x w' => cases x <;> simp only [Oper.upon] at h ⊢ <;> exact (show False from h).elim
  · rename_i hw
    rw [if_neg hw] at h
    exact ⟨⟨_, _, rfl⟩, h⟩
def Sk (T : TT) (g rc : Bool) (all : List Oper) (k : Nat) : Prop := ∃ o, all[k]? = some o ∧ kindK T o.op = 0 ∧ firmB rc all k = true ∧ lightB T o = false ∧ g = true
structure Inv (P : Program) (T : TT) (B : Nat) (all : List Oper) (done : List Nat) (k : Nat) (C : World → Prop) (a : Act) (w : World) : Prop where
  d : dropB T all done k = true → ∀ v, C v
  h : (∀ v, C v) ∨ ∃ o x ev, all[k]? = some o ∧ (∀ v, (execOp ev o).run P v = .ok (.value x) v → C v) ∧ (∀ d, o.dst = some d → looseB all done k o d = true → execOp a.eval o = execOp ev o ∧ ∀ y, a.tmps[d]? = some y → y = x) ∧
    ∃ ρe obse nxe, Cls B ρe obse nxe w ∧ ∀ v, Cls B ρe obse nxe v → C v
omit hT in
theorem loose_no {all : List Oper} {done : List Nat} {k d : Nat} {o : Oper} (h : looseB all done k o d = true) : d ∉ o.looksAt all.toArray := fun q => by
  unfold looseB at h
  rw [mem_memB q] at h
  cases h
omit hT in
theorem loose_spec {all : List Oper} {done : List Nat} {i k d : Nat} {o : Oper} (hne : i ≠ k) (h : looseB all (i :: done) k o d = true) : looseB all done k o d = true ∧ d ∉ o.looksAt all.toArray ∧ ∀ x e, all[i]? = some x → x.dst = some e → e ∉ o.looksAt all.toArray ∧ e ≠ d := by
  have hd := loose_no h
  have hb : Nat.beq i k = false := by
    cases hb : Nat.beq i k
    · rfl
    · exact absurd (Nat.eq_of_beq_eq_true hb) hne
  unfold looseB at *
  cases hm : memB d (o.looksAt all.toArray) <;> rw [hm] at h <;> simp only at h
  · unfold looseL at h
    rw [hb] at h
    simp only at h
    cases hx : all[i]? with
    | none =>
      rw [hx] at h
      exact ⟨h, hd, fun x e q => (by cases q)⟩
    | some x =>
      rw [hx] at h
      simp only at h
      cases he : x.dst with
      | none =>
        rw [he] at h
        exact ⟨h, hd, fun x' e q z => (by injection q with q; subst q; rw [he] at z; cases z)⟩
      | some e =>
        rw [he] at h
        simp only at h
        cases h1 : memB e (o.looksAt all.toArray) <;> cases h2 : Nat.beq e d <;> rw [h1, h2] at h <;> simp only at h
        · refine ⟨h, hd, fun x' e' q z => ?_⟩
          injection q with q
          subst q
          rw [he] at z
          injection z with z
          subst z
          refine ⟨fun q => (by rw [mem_memB q] at h1; cases h1), fun q => ?_⟩
          subst q
          rw [Nat.beq_refl] at h2
          cases h2
        all_goals cases h
  · cases h
omit hT in
theorem Inv.step {all : List Oper} {done : List Nat} {k i : Nat} {C C' : World → Prop} {a a' : Act} {w w' : World} {oi : Oper} (h : Inv P T B all done k C a w) (hne : i ≠ k) (hi : all[i]? = some oi) (hsel : ∀ (j : Nat) (o : Oper) cs b, all[j]? = some o → o.op ≠ .select cs b)
    (ha : ∃ u l, a' = { (a.put oi.dst u) with defers := l }) (hw : ∀ ρe obse nxe, Cls B ρe obse nxe w → (∀ v, Cls B ρe obse nxe v → C v) → (∀ v, C' v) ∨ ∃ ρe obse nxe, Cls B ρe obse nxe w' ∧ ∀ v, Cls B ρe obse nxe v → C v) (hC : (∀ v, C' v) ∨ C' = C) (hd : dropB T all (i :: done) k = true → ∀ v, C' v) :
    Inv P T B all (i :: done) k C' a' w' := by
  refine ⟨hd, ?_⟩
  rcases hC with hC | rfl
  · exact .inl hC
  rcases h.h with h1 | ⟨o, x, ev, h1, h2, h3, ρe, obse, nxe, h4, h5⟩
  · exact .inl h1
  · rcases hw ρe obse nxe h4 h5 with q | q
    · exact .inl q
    refine .inr ⟨o, x, ev, h1, h2, fun d hd hl => ?_, q⟩
    obtain ⟨l1, l2, l3⟩ := loose_spec hne hl
    obtain ⟨e1, e2⟩ := h3 d hd l1
    obtain ⟨u, l, rfl⟩ := ha
    have fr : ∀ e, oi.dst = some e → e ∉ o.looksAt all.toArray ∧ e ≠ d := fun e he => l3 oi e hi he
    refine ⟨?_, fun y hy => e2 y ?_⟩
    · rw [show ({ (a.put oi.dst u) with defers := l } : Act).eval = (a.put oi.dst u).eval from eval_defers _ _, execOp_put o (fun cs b => hsel k o cs b h1) a oi.dst u (fun e he => (fr e he).1)]
      exact e1
    · rw [← hy]
      show a.tmps[d]? = (a.put oi.dst u).tmps[d]?
      cases hq : oi.dst with
      | none => rfl
      | some e =>
        simp only [Act.put]
        rw [Array.getElem?_setIfInBounds_ne (fr e hq).2]
theorem stayK_spec {rc : Bool} {all : List Oper} {done : List Nat} {i : Nat} {ρ : Rho} {env : Env} {a : Act} {obs : Obs} {nx : Nat} {w : World} (hE : EnvR sz ρ env a) (hC : Cls B ρ obs nx w) : ∀ {l : List Nat} {K : Prop}, stayK rc T all done i env obs l K → K ∧ ∀ k ∈ l, ∀ u, all[k]? = some u → kindK T u.op = 0 → firmB rc all k = true → lightB T u = false → ancB all all.length k i = false → dropB T all done k = false →
      ∃ d x, u.dst = some d ∧ looseB all (i :: done) k u d = true ∧ a.tmps[d]? = some x ∧ ∀ w1, Cls B ρ obs nx w1 → (execOp a.eval u).run P w1 = .ok (.value x) w1
  | [], K, h => ⟨h, fun k hk => absurd hk (List.not_mem_nil)⟩
  | k :: r, K, h => by
    unfold stayK at h
    have skip : (∀ u, all[k]? = some u → kindK T u.op = 0 → firmB rc all k = true → lightB T u = false → ancB all all.length k i = false → dropB T all done k = false → False) → stayK rc T all done i env obs r K → K ∧ ∀ k' ∈ k :: r, ∀ u, all[k']? = some u → kindK T u.op = 0 → firmB rc all k' = true → lightB T u = false → ancB all all.length k' i = false → dropB T all done k' = false →
        ∃ d x, u.dst = some d ∧ looseB all (i :: done) k' u d = true ∧ a.tmps[d]? = some x ∧ ∀ w1, Cls B ρ obs nx w1 → (execOp a.eval u).run P w1 = .ok (.value x) w1 := fun hno h => by
      obtain ⟨h1, h2⟩ := stayK_spec hE hC h
      refine ⟨h1, fun k' hk' u e1 e2 e3 e4 e5 e6 => ?_⟩
      rcases List.mem_cons.1 hk' with rfl | hk'
      · exact (hno u e1 e2 e3 e4 e5 e6).elim
      · exact h2 k' hk' u e1 e2 e3 e4 e5 e6
    cases hu : all[k]? with
    | none => rw [hu] at h; exact skip (fun u e => by rw [hu] at e; cases e) h
    | some u =>
      rw [hu] at h
      simp only at h
      split at h
      · rename_i hk0
        split at h
        · rename_i q1 q2
          split at h
          · rename_i q3 q4
            cases hd : u.dst with
            | none => rw [hd] at h; exact h.elim
            | some d =>
              rw [hd] at h
              simp only at h
              split at h
              · rename_i q5
                obtain ⟨v, x, hv, h, hrun⟩ := pure_sound hT hE hC h
                obtain ⟨v', hv', h⟩ := fndK_spec h
                obtain ⟨y, hy, hy2⟩ := hE.env d v' hv'
                obtain ⟨e, h⟩ := h
                subst e
                have exy := SV.is_fun hv hy2
                subst exy
                obtain ⟨h1, h2⟩ := stayK_spec hE hC h
                refine ⟨h1, fun k' hk' u' e1 e2 e3 e4 e5 e6 => ?_⟩
                rcases List.mem_cons.1 hk' with rfl | hk'
                · rw [hu] at e1; injection e1 with e1; subst e1
                  exact ⟨d, x, hd, q5, hy, fun w1 hw1 => hrun u rfl w1 hw1⟩
                · exact h2 k' hk' u' e1 e2 e3 e4 e5 e6
              · exact h.elim
          · rename_i q3
            exact skip (fun u' e1 e2 e3 e4 e5 e6 => q3 e5 e6) h
        · rename_i q3
          exact skip (fun u' e1 e2 e3 e4 e5 e6 => by rw [hu] at e1; injection e1 with e1; subst e1; exact q3 e3 e4) h
      · rename_i q3
        exact skip (fun u' e1 e2 e3 e4 e5 e6 => by rw [hu] at e1; injection e1 with e1; subst e1; exact q3 e2) h
open Classical in
theorem expl_sound {g rc : Bool} {all : List Oper} (hfree : freeB all = true) {K : Env → Obs → Nat → Prop} : ∀ (f : Nat) (done : List Nat) {listed : Array Bool} {ρ : Rho} {env : Env} {a : Act} {obs : Obs} {nx : Nat} {w : World} (C : Nat → World → Prop),
    Corr all.length listed done → Down .any all.toArray listed → EnvR sz ρ env a → Cls B ρ obs nx w → Wy B w0 ρ a.defers w → (∀ k, Sk T g rc all k → listed.getD k false = true → Inv P T B all done k (C k) a w) →
    explK g rc P T sz all f done env obs nx K → wpX P .any all.toArray (Sk T g rc all) (fun v => B ≤ v.heap.size) (Nx B w0 sz K) f listed a w C := by
  obtain ⟨hns, hap⟩ := freeB_spec hfree
  have hsel := Region.noSelect_spec hns
  have hsel' : ∀ (j : Nat) (o : Oper) cs b, all[j]? = some o → o.op ≠ .select cs b := fun j o cs b ho => hsel j o cs b (by simpa using ho)
  have sure : ∀ {listed : Array Bool} {done : List Nat} {C : Nat → World → Prop} {a : Act} {w : World}, (∀ k, Sk T g rc all k → listed.getD k false = true → Inv P T B all done k (C k) a w) → ∀ k, Sk T g rc all k → listed.getD k false = true → C k w := fun {listed done C a w} hI k h1 h2 => by
    rcases (hI k h1 h2).h with q | ⟨o, x, ev, _, _, _, ρe, obse, nxe, q1, q2⟩
    · exact q w
    · exact q2 w q1
  intro f
  induction f with
  | zero =>
    intro done listed ρ env a obs nx w C hc hd hE hC hW hI h
    rw [explK_zero] at h
    split at h
    · rename_i hr
      refine ⟨⟨sure hI, hC.le⟩, List.eq_nil_iff_forall_not_mem.2 fun k hk => ?_, ρ, env, obs, nx, h, hE, hC, hW⟩
      obtain ⟨o, ho⟩ := (ready_iff hc).1 hk
      rw [hr] at ho; cases ho
    · exact h.elim
  | succ f ih =>
    intro done listed ρ env a obs nx w C hc hd hE hC hW hI h
    have hun : ∀ {i : Nat}, i ∈ Region.ready .any all.toArray listed → listed.getD i false = false := fun {i} hr => by
      have h0 := (mem_ready.1 hr).1
      rcases Nat.lt_or_ge i listed.size with h' | h'
      · simpa [h'] using h0
      · simp [Array.getElem?_eq_none h']
    have ne_of : ∀ {i k : Nat}, i ∈ Region.ready .any all.toArray listed → listed.getD k false = true → i ≠ k := fun {i k} hr hk e => by subst e; rw [hun hr] at hk; cases hk
    have back : ∀ {i k : Nat}, i ∈ Region.ready .any all.toArray listed → (listed.setIfInBounds i true).getD k false = true → i ≠ k → listed.getD k false = true := fun {i k} hr hk hne => by
      rwa [getD_set_ne false hne] at hk
    rw [explK_succ] at h
    split at h
    · rename_i hr
      refine ⟨⟨sure hI, hC.le⟩, fun _ => ⟨ρ, env, obs, nx, h, hE, hC, hW⟩, fun k hk => ?_⟩
      obtain ⟨o, ho⟩ := (ready_iff hc).1 hk
      rw [hr] at ho; cases ho
    split at h
    · rename_i i o hp
      obtain ⟨hm, hkind, hgl⟩ := pick0_mem hp
      obtain ⟨_, ho, _, _⟩ := readyL_spec.1 hm
      have ho : all[i]? = some o := by simpa using ho
      have hlt : i < all.length := (List.getElem?_eq_some_iff.1 ho).1
      have hready : i ∈ Region.ready .any all.toArray listed := (ready_iff hc).2 ⟨o, hm⟩
      obtain ⟨env1, hE1, h⟩ := guardK_spec hE h
      have hoa : all.toArray[i]? = some o := by simpa using ho
      have fr : ∀ j oj, all.toArray[j]? = some oj → j ≠ i → Anc .any all.toArray i j ∨ Anc .any all.toArray j i ∨ o.apart all.toArray oj = true := fun j oj hj hne => hap i j o oj ho (by simpa using hj) hne
      have nodrop : ∀ k, dropB T all (i :: done) k = dropB T all done k := fun k => by
        unfold dropB
        rw [List.any_cons, ho]
        simp only
        rw [show Nat.beq (kindK T o.op) 2 = false by rw [hkind]; rfl]
        simp
      have keep : ∀ {x : Value} k, Sk T g rc all k → listed.getD k false = true → Inv P T B all (i :: done) k (C k) (a.put o.dst x) w := fun {x} k hS hl =>
        (hI k hS hl).step (ne_of hready hl) ho hsel' ⟨x, (a.put o.dst x).defers, rfl⟩ (fun ρe obse nxe h1 h2 => .inr ⟨ρe, obse, nxe, h1, h2⟩) (.inr rfl) (fun hd => (hI k hS hl).d (by rwa [nodrop] at hd))
      rcases h with ⟨hw, h⟩ | ⟨hw, h⟩
      · cases hlt2 : lightB T o <;> rw [hlt2] at h
        · obtain ⟨x, env2, hx, h2, hE2⟩ := still_spec hT hE1 hC hkind h
          have hgf : g = true ∧ firmB rc all i = true := by rw [hlt2, Bool.false_or, Bool.and_eq_true] at hgl; exact hgl
          have hS : Sk T g rc all i := ⟨o, ho, hkind, hgf.2, hlt2, hgf.1⟩
          obtain ⟨C2, hC2⟩ : ∃ C2 : Nat → World → Prop, C2 = fun k => if k = i then (fun v => (execOp a.eval o).run P v = .ok (.value x) v) else C k := ⟨_, rfl⟩
          have ci : C2 i = fun v => (execOp a.eval o).run P v = .ok (.value x) v := by rw [hC2]; exact if_pos rfl
          have cn : ∀ k, k ≠ i → C2 k = C k := fun k hk => by rw [hC2]; exact if_neg hk
          have H := ih (i :: done) C2 (hc.set hlt) (hd.set hready) hE2 hC hW.put (fun k hS' hl' => by
              by_cases e : k = i
              · subst e
                rw [ci]
                refine ⟨fun q => ?_, .inr ⟨o, x, a.eval, ho, fun v hv => hv, fun d hd' hl => ⟨?_, fun y hy => ?_⟩, ρ, obs, nx, hC, fun v hv => hx v hv⟩⟩
                · exfalso
                  unfold dropB at q
                  obtain ⟨m, hm1, hm2⟩ := List.any_eq_true.1 q
                  cases hxm : all[m]? with
                  | none => rw [hxm] at hm2; cases hm2
                  | some xm =>
                    rw [hxm] at hm2
                    simp only at hm2
                    split at hm2
                    · rename_i hb
                      have anc := ancB_spec hm2
                      rcases List.mem_cons.1 hm1 with rfl | hm1
                      · rw [ho] at hxm; injection hxm with hxm; subst hxm
                        rw [hkind] at hb; cases hb
                      · have hlm : listed.getD m false = true := by rw [hc.c]; exact mem_memB hm1
                        have := anc.listed hd ⟨xm, by simpa using hxm, hd m xm (by simpa using hxm) hlm⟩
                        rw [hun hready] at this; cases this
                    · cases hm2
                · have l2 := loose_no hl
                  exact execOp_put o (fun cs b => hsel' k o cs b ho) a o.dst x (fun e he => by rw [hd'] at he; injection he with he; subst he; exact l2)
                · rw [hd'] at hy
                  simp only [Act.put] at hy
                  rw [Array.getElem?_setIfInBounds] at hy
                  simp only [if_true] at hy
                  split at hy
                  · injection hy with hy; exact hy.symm
                  · cases hy
              · rw [cn k e]
                exact keep k hS' (back hready hl' (Ne.symm e))) h2
          refine (wpX_first hS hoa (fun j u cs b hj => hsel j u cs b hj) fr f listed a w C2 hd hready (v := x) ?_ (by rw [ci]; exact hx w hC) H).less fun k h1 h3 v hv => ?_
          · unfold YS
            rw [wanted_eq, if_pos hw, ci]
            exact fun w1 hw1 => hw1
          · rwa [cn k (Ne.symm (ne_of hready h3))] at hv
        · obtain ⟨x, env2, hx, h2, hE2⟩ := still_spec hT hE1 hC.none_ hkind h
          have H := ih (i :: done) C (hc.set hlt) (hd.set hready) hE2 hC hW.put (fun k hS' hl' => by
            refine keep k hS' (back hready hl' fun e => ?_)
            subst e
            obtain ⟨o', q1, _, _, q4, _⟩ := hS'
            rw [ho] at q1; injection q1 with q1; subst q1
            rw [hlt2] at q4; cases q4) h2
          refine wpX_firstZ (v := x) hoa (fun j u cs b hj => hsel j u cs b hj) fr f listed a w C hd hready ?_ H
          unfold YS
          rw [wanted_eq, if_pos hw]
          exact fun w1 hw1 => hx w1 ⟨hw1, fun _ _ q => (by simp [fnd] at q), fun _ _ _ _ _ q => (by simp [fnd] at q), hC.new, fun _ _ _ _ _ q => (by simp [fnd] at q)⟩
      · obtain ⟨env2, h2, hE2⟩ := putK_spec hE1 (undef_is ρ) h
        obtain ⟨C2, hC2⟩ : ∃ C2 : Nat → World → Prop, C2 = fun k => if k = i then (fun _ => True) else C k := ⟨_, rfl⟩
        have ci : C2 i = fun _ => True := by rw [hC2]; exact if_pos rfl
        have cn : ∀ k, k ≠ i → C2 k = C k := fun k hk => by rw [hC2]; exact if_neg hk
        have H := ih (i :: done) C2 (hc.set hlt) (hd.set hready) hE2 hC hW.put (fun k hS' hl' => by
          by_cases e : k = i
          · subst e
            rw [ci]; exact ⟨fun _ _ => trivial, .inl fun _ => trivial⟩
          · rw [cn k e]; exact keep k hS' (back hready hl' (Ne.symm e))) h2
        refine (wpX_firstZ (v := undef) hoa (fun j u cs b hj => hsel j u cs b hj) fr f listed a w C2 hd hready ?_ H).less fun k h1 h3 v hv => by rwa [cn k (Ne.symm (ne_of hready h3))] at hv
        unfold YS
        rw [wanted_eq, if_neg (by rw [hw]; decide)]
    · refine ⟨⟨sure hI, hC.le⟩, fun q => ?_, fun i hi => ?_⟩
      · rename_i hne _ _
        exfalso
        refine hne (List.eq_nil_iff_forall_not_mem.2 fun p hp => ?_)
        obtain ⟨k, o⟩ := p
        have := (ready_iff hc).2 ⟨o, hp⟩
        rw [q] at this; cases this
      · obtain ⟨o, hm⟩ := (ready_iff hc).1 hi
        have h := eachK_spec h i o hm
        obtain ⟨_, ho, _, _⟩ := readyL_spec.1 hm
        have ho : all[i]? = some o := by simpa using ho
        have hlt : i < all.length := (List.getElem?_eq_some_iff.1 ho).1
        have hoa : all.toArray[i]? = some o := by simpa using ho
        obtain ⟨env1, hE1, h⟩ := guardK_spec hE h
        let C' : Nat → World → Prop := fun k => if Anc .any all.toArray k i ∨ k = i then (fun _ => True) else C k
        have hC'1 : ∀ k, Sk T g rc all k → listed.getD k false = true → ¬ Anc .any all.toArray k i → ∀ v, C' k v → C k v := fun k _ hl hn v hv => by
          have e : C' k = C k := if_neg (fun q => q.elim hn (fun e => ne_of hi hl e.symm))
          rwa [e] at hv
        have hC'2 : ∀ k, (∀ v, C' k v) ∨ C' k = C k := fun k => by
          by_cases q : Anc .any all.toArray k i ∨ k = i
          · left
            have e : C' k = fun _ => True := if_pos q
            rw [e]; exact fun _ => trivial
          · exact .inr (if_neg q)
        have hdr : ∀ k, (dropB T all done k = true → ∀ v, C k v) → dropB T all (i :: done) k = true → ∀ v, C' k v := fun k hk hd' => by
          unfold dropB at hd'
          rw [List.any_cons, Bool.or_eq_true] at hd'
          rcases hd' with q | q
          · rw [ho] at q
            simp only at q
            split at q
            · have e : C' k = fun _ => True := if_pos (.inl (ancB_spec q))
              rw [e]; exact fun _ => trivial
            · cases q
          · rcases hC'2 k with q2 | q2
            · exact q2
            · rw [q2]; exact hk q
        have inv : ∀ {a' : Act} {w' : World}, (∃ u l, a' = { (a.put o.dst u) with defers := l }) → (∀ k, Sk T g rc all k → listed.getD k false = true → ¬ Anc .any all.toArray k i → dropB T all done k = false → ∀ ρe obse nxe, Cls B ρe obse nxe w → (∀ v, Cls B ρe obse nxe v → C k v) → (∀ v, C' k v) ∨ ∃ ρe obse nxe, Cls B ρe obse nxe w' ∧ ∀ v, Cls B ρe obse nxe v → C k v) →
            ∀ k, Sk T g rc all k → (listed.setIfInBounds i true).getD k false = true → Inv P T B all (i :: done) k (C' k) a' w' := fun {a' w'} ha hw k hS hl => by
          by_cases e : k = i
          · have e2 : C' k = fun _ => True := if_pos (.inr e)
            rw [e2]; exact ⟨fun _ _ => trivial, .inl fun _ => trivial⟩
          · have hl0 := back hi hl (Ne.symm e)
            have hI0 := hI k hS hl0
            refine hI0.step (Ne.symm e) ho hsel' ha (fun ρe obse nxe h1 h2 => ?_) (hC'2 k) (hdr k hI0.d)
            by_cases q : Anc .any all.toArray k i
            · left
              have e2 : C' k = fun _ => True := if_pos (.inl q)
              rw [e2]; exact fun _ => trivial
            · cases hdb : dropB T all done k
              · exact hw k hS hl0 q hdb ρe obse nxe h1 h2
              · left
                have := hI0.d hdb
                rcases hC'2 k with q2 | q2
                · exact q2
                · rw [q2]; exact this
        rcases h with ⟨hw, h⟩ | ⟨hw, h⟩
        · have fin : o.wp P a w (NxA B w0 sz (fun e' o' n' => explK g rc P T sz all f (i :: done) e' o' n' K) w) noQ →
              opG P all.toArray i (fun a' w' => ∃ C' : Nat → World → Prop, (∀ k, Sk T g rc all k → listed.getD k false = true → ¬ Anc .any all.toArray k i → ∀ v, C' k v → C k v) ∧ wpX P .any all.toArray (Sk T g rc all) (fun v => B ≤ v.heap.size) (Nx B w0 sz K) f (listed.setIfInBounds i true) a' w' C') a w := fun hh => by
            have h0 : opG P all.toArray i (NxA B w0 sz (fun e' o' n' => explK g rc P T sz all f (i :: done) e' o' n' K) w) a w := by
              unfold opG
              simp only [hoa]
              rw [wanted_eq, if_pos hw]
              exact hh
            refine opG_mono ?_ (opG_act hoa h0)
            rintro a' w' ⟨ha, ρ', env', obs', nx', hK, hE', hC', hW', hb⟩
            exact ⟨C', hC'1, ih (i :: done) C' (hc.set hlt) (hd.set hi) hE' hC' hW' (inv ha fun k _ _ _ _ ρe obse nxe h1 h2 => .inr ⟨ρe, obse, nxe, h1.below hb, h2⟩) hK⟩
          have fin2 : (∀ k, Sk T g rc all k → listed.getD k false = true → Anc .any all.toArray k i) → o.wp P a w (Nx B w0 sz (fun e' o' n' => explK g rc P T sz all f (i :: done) e' o' n' K)) noQ →
              opG P all.toArray i (fun a' w' => ∃ C' : Nat → World → Prop, (∀ k, Sk T g rc all k → listed.getD k false = true → ¬ Anc .any all.toArray k i → ∀ v, C' k v → C k v) ∧ wpX P .any all.toArray (Sk T g rc all) (fun v => B ≤ v.heap.size) (Nx B w0 sz K) f (listed.setIfInBounds i true) a' w' C') a w := fun hal hh => by
            have h0 : opG P all.toArray i (Nx B w0 sz (fun e' o' n' => explK g rc P T sz all f (i :: done) e' o' n' K)) a w := by
              unfold opG
              simp only [hoa]
              rw [wanted_eq, if_pos hw]
              exact hh
            refine opG_mono ?_ (opG_act hoa h0)
            rintro a' w' ⟨ha, ρ', env', obs', nx', hK, hE', hC', hW'⟩
            exact ⟨C', hC'1, ih (i :: done) C' (hc.set hlt) (hd.set hi) hE' hC' hW' (inv ha fun k hS hl hn => absurd (hal k hS hl) hn) hK⟩
          have none_ : g = false → ∀ k, Sk T g rc all k → listed.getD k false = true → Anc .any all.toArray k i := fun hg k ⟨_, _, _, _, _, q⟩ => by rw [hg] at q; cases q
          unfold kidK at h
          split at h
          · rename_i hk
            obtain ⟨x, env2, hx, h2, hE2⟩ := still_spec hT hE1 hC hk h
            refine fin ?_
            unfold Oper.wp
            rw [hx w hC]
            exact ⟨ρ, env2, obs, nx, h2, hE2, hC, hW.put, Belw.refl _ _⟩
          · rename_i hk
            split at h
            · rename_i hop; exact fin (op_empty hT hE1 hC hW hop h)
            · exact fin (makes_spec hT hE1 hC hW hk h)
          · rename_i hk2
            split at h
            · rename_i hall
              rw [Bool.or_eq_true, Bool.or_eq_true] at hall
              rcases hall with (hfr | hng) | hall
              · split at hfr
                · rename_i hop
                  exact fin (op_append_fresh hT hE1 hC hW hfr hop h)
                · cases hfr
              · exact fin2 (none_ (by simpa using hng)) (op_sound hT hE1 hC hW (fun g args ts q => by rw [q] at hk2; cases hk2) h)
              · refine fin2 (fun k ⟨uk, huk, hkk, hkf, hkl, hkg⟩ hk => ?_) (op_sound hT hE1 hC hW (fun g args ts q => by rw [q] at hk2; cases hk2) h)
                rw [hc.c] at hk
                have := List.all_eq_true.1 hall k (memB_mem hk)
                simp only [huk, hkk, hkf, hkl] at this
                exact ancB_spec this
            · have h0 : opG P all.toArray i (Nx B w0 sz (fun e' o' n' => stayK rc T all done i e' o' done (explK g rc P T sz all f (i :: done) e' o' n' K))) a w := by
                unfold opG
                simp only [hoa]
                rw [wanted_eq, if_pos hw]
                exact op_sound hT hE1 hC hW (fun g args ts q => by rw [q] at hk2; cases hk2) h
              refine opG_mono ?_ (opG_act hoa h0)
              rintro a' w' ⟨ha, ρ', env', obs', nx', hK, hE', hC', hW'⟩
              obtain ⟨hK, hst⟩ := stayK_spec hT hE' hC' hK
              refine ⟨C', hC'1, ih (i :: done) C' (hc.set hlt) (hd.set hi) hE' hC' hW' (fun k hS hl => ?_) hK⟩
              by_cases e : k = i
              · have e2 : C' k = fun _ => True := if_pos (.inr e)
                rw [e2]; exact ⟨fun _ _ => trivial, .inl fun _ => trivial⟩
              have hl0 := back hi hl (Ne.symm e)
              have hI0 := hI k hS hl0
              refine ⟨hdr k hI0.d, ?_⟩
              rcases hC'2 k with q | q
              · exact .inl q
              rw [q]
              rcases hI0.h with h1 | ⟨o1, x, ev, h1, h2, h3, ρe, obse, nxe, h4, h5⟩
              · exact .inl h1
              have st := hI0.step (C' := C k) (a' := a') (w' := w) (Ne.symm e) ho hsel' ha (fun ρe obse nxe h1 h2 => .inr ⟨ρe, obse, nxe, h1, h2⟩) (.inr rfl)
              by_cases hanc : ancB all all.length k i = true
              · left
                have e2 : C' k = fun _ => True := if_pos (.inl (ancB_spec hanc))
                rw [← q, e2]; exact fun _ => trivial
              cases hdb : dropB T all done k
              rotate_left
              · exact .inl (hI0.d hdb)
              have st := st (fun hd' => by
                have := hdr k hI0.d hd'
                rwa [q] at this)
              obtain ⟨uk, huk, hkk, hkf, hkl, hkg⟩ := hS
              obtain ⟨d, x', s1, s2, s3, s4⟩ := hst k (by rw [hc.c] at hl0; exact memB_mem hl0) uk huk hkk hkf hkl (by simpa using hanc) hdb
              rcases st.h with g1 | ⟨o2, x2, ev2, g1, g2, g3, g4⟩
              · exact .inl g1
              rw [huk] at g1; injection g1 with g1; subst g1
              obtain ⟨g5, g6⟩ := g3 d s1 s2
              have ex := g6 x' s3
              subst ex
              exact .inr ⟨uk, x', ev2, huk, g2, g3, ρ', obs', nx', hC', fun v hv => g2 v (by rw [← g5]; exact s4 v hv)⟩
          · split at h
            · rename_i hop
              cases g with
              | true => exact fin (callA_spec hT hE1 hC hW hop h)
              | false => exact fin2 (none_ rfl) (callW_spec hT hE1 hC hW hop h)
            · exact h.elim
          · exact h.elim
        · obtain ⟨env2, h2, hE2⟩ := putK_spec hE1 (undef_is ρ) h
          unfold opG
          simp only [hoa]
          rw [wanted_eq, if_neg (by rw [hw]; decide)]
          have := ih (i :: done) C' (hc.set hlt) (hd.set hi) hE2 hC hW.put (inv ⟨undef, (a.put o.dst undef).defers, rfl⟩ fun k _ _ _ _ ρe obse nxe h1 h2 => .inr ⟨ρe, obse, nxe, h1, h2⟩) h2
          exact ⟨C', hC'1, this⟩
end
end Go.Proofs.YtlbffibpcjjpkaaDoor.V
