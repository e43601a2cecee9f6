/- The walk by verification conditions is sound: operations that make or write objects; regions. -/
import Derived.Test.YteblbhbfdfifpaaVPure4
namespace Go.Proofs.Yteblbhbfdfifpaa.V
open Go Go.RowKit
set_option linter.unusedVariables false
set_option linter.unusedSectionVars false
set_option linter.unusedSimpArgs false

theorem foot_row {ρ : Rho} {i t s n : Nat} {get : Nat → List Value} {A : Option Addr} {m c : Nat} (e : ρ i = some (.slice A m c)) : foot ρ i (.row t s n get) = if c = 0 then none else A.map (·.block) := by
  unfold foot
  rw [e]
  cases c with
  | zero => rfl
  | succ c => cases A <;> simp [base, e]
theorem foot_lt {B : Nat} {ρ : Rho} {w : World} {i b : Nat} {o : Ob} (h : Sat B ρ w i o) (hf : foot ρ i o = some b) : b < w.heap.size := by
  cases o with
  | box t l =>
    obtain ⟨b', cs, e, _, _, hh⟩ := h
    simp only [foot, base_ptr e, Option.map_some] at hf
    injection hf with hf; subst hf
    exact (Array.getElem?_eq_some_iff.1 hh).1
  | lit t s rows =>
    obtain ⟨b', cs, e, _, _, _, _, hh⟩ := h
    simp only [foot, base_sl e, Option.map_some] at hf
    injection hf with hf; subst hf
    exact (Array.getElem?_eq_some_iff.1 hh).1
  | arr s n get =>
    obtain ⟨v, e, A, c, rfl, _, _, hh⟩ := h
    cases n with
    | zero => simp [foot] at hf
    | succ n =>
      obtain ⟨a, rfl, hlt, _⟩ := hh 0 (by omega)
      simp only [foot, base_sl e, Option.map_some] at hf
      injection hf with hf; subst hf; exact hlt
  | cel l =>
    obtain ⟨v, e, a, rfl, hlt, _⟩ := h
    simp only [foot, base_ptr e, Option.map_some] at hf
    injection hf with hf; subst hf; exact hlt
  | row t s n get =>
    obtain ⟨v, e, A, c, rfl, _, _, hh⟩ := h
    rw [foot_row e] at hf
    rcases hh with ⟨_, rfl⟩ | ⟨g, cur, rfl, _, hg, _, hc, _⟩
    · simp at hf
    · rw [if_neg (by omega)] at hf
      injection hf with hf; subst hf
      exact (Array.getElem?_eq_some_iff.1 hg).1
  | lp L env st =>
    obtain ⟨l, fn, tmps, D, e, _, hh, _⟩ := h
    simp only [foot, e] at hf
    injection hf with hf; subst hf
    exact (Array.getElem?_eq_some_iff.1 hh).1
  | gone => cases hf
/-- an object's meaning hangs on its own block alone -/
theorem Sat.keep {B : Nat} {ρ : Rho} {w w' : World} {i : Nat} {o : Ob} (h : Sat B ρ w i o) (hsz : w.heap.size ≤ w'.heap.size) (hk : ∀ b, foot ρ i o = some b → w'.heap[b]? = w.heap[b]?) : Sat B ρ w' i o := by
  cases o with
  | box t l =>
    obtain ⟨b', cs, e, hB, hl, hh⟩ := h
    exact ⟨b', cs, e, hB, hl, (hk b' (by simp [foot, base_ptr e])).trans hh⟩
  | lit t s rows =>
    obtain ⟨b', cs, e, hB, hs, hn, hl, hh⟩ := h
    exact ⟨b', cs, e, hB, hs, hn, hl, (hk b' (by simp [foot, base_sl e])).trans hh⟩
  | arr s n get =>
    obtain ⟨v, e, A, c, rfl, hn, hc0, hh⟩ := h
    refine ⟨_, e, A, c, rfl, hn, hc0, fun k hk' => ?_⟩
    obtain ⟨a, rfl, hlt, hs, hc⟩ := hh k hk'
    refine ⟨a, rfl, Nat.lt_of_lt_of_le hlt hsz, hs, fun j u hu => ?_⟩
    rw [← hc j u hu]
    refine World.cell?_of_block ?_
    rw [block_of_add]
    refine hk _ ?_
    cases n with
    | zero => omega
    | succ n => simp [foot, base_sl e]
  | cel l =>
    obtain ⟨v, e, a, rfl, hlt, hc⟩ := h
    refine ⟨_, e, a, rfl, Nat.lt_of_lt_of_le hlt hsz, fun j u hu => ?_⟩
    rw [← hc j u hu]
    refine World.cell?_of_block ?_
    rw [block_of_add]
    exact hk _ (by simp [foot, base_ptr e])
  | row t s n get =>
    obtain ⟨v, e, A, c, rfl, hn, hs, hh⟩ := h
    refine ⟨_, e, A, c, rfl, hn, hs, ?_⟩
    rcases hh with hv | ⟨g, cur, rfl, hB, hg, hnc, hc, r⟩
    · exact .inl hv
    · exact .inr ⟨g, cur, rfl, hB, (hk g (by rw [foot_row e, if_neg (by omega)]; rfl)).trans hg, hnc, hc, r⟩
  | lp L env st =>
    obtain ⟨l, fn, tmps, D, e, hB, hh, r⟩ := h
    exact ⟨l, fn, tmps, D, e, hB, (hk l (by simp [foot, e])).trans hh, r⟩
  | gone => trivial
theorem Cls.below {B nx : Nat} {ρ : Rho} {obs : Obs} {w w' : World} (h : Cls B ρ obs nx w) (hb : Below w.heap.size w w') : Cls B ρ obs nx w' :=
  ⟨Nat.le_trans h.le hb.size, fun i o ho => (h.sat i o ho).keep hb.size fun b hf => hb.block b (foot_lt (h.sat i o ho) hf), h.apart, h.new⟩
theorem Cls.drawn {B nx : Nat} {ρ : Rho} {obs : Obs} {w : World} (h : Cls B ρ obs nx w) (n : Nat) : Cls B ρ obs nx { w with drawn := n } :=
  h.below ⟨rfl, rfl, rfl, Nat.le_refl _, fun _ _ => rfl⟩
theorem base_eq {ρ ρ' : Rho} {i : Nat} (h : ρ' i = ρ i) : base ρ' i = base ρ i := by unfold base; rw [h]
theorem foot_eq {ρ ρ' : Rho} {i : Nat} {o : Ob} (h : ρ' i = ρ i) : foot ρ' i o = foot ρ i o := by
  cases o <;> simp only [foot, base_eq h, h]
theorem EnvR.ext {sz : Nat} {ρ ρ' : Rho} {env : Env} {a : Act} (hE : EnvR sz ρ env a) (hx : Ext ρ ρ') : EnvR sz ρ' env a :=
  ⟨hE.size, fun t v h => let ⟨x, e, hv⟩ := hE.env t v h; ⟨x, e, SV.is_ext hx hv⟩⟩
theorem Sat.ext {B : Nat} {ρ ρ' : Rho} (hx : Ext ρ ρ') {w : World} {i : Nat} {o : Ob} (h : Sat B ρ w i o) : Sat B ρ' w i o := by
  cases o with
  | box t l => obtain ⟨b, cs, e, hB, hl, hh⟩ := h; exact ⟨b, cs, hx _ _ e, hB, hl.ext hx, hh⟩
  | lit t s rows => obtain ⟨b, cs, e, hB, hs, hn, hl, hh⟩ := h; exact ⟨b, cs, hx _ _ e, hB, hs, hn, hl.ext hx, hh⟩
  | arr s n get => obtain ⟨v, e, r⟩ := h; exact ⟨v, hx _ _ e, r⟩
  | cel l => obtain ⟨v, e, r⟩ := h; exact ⟨v, hx _ _ e, r⟩
  | row t s n get => obtain ⟨v, e, r⟩ := h; exact ⟨v, hx _ _ e, r⟩
  | lp L env st => obtain ⟨l, fn, tmps, D, e, hB, hh, r⟩ := h; exact ⟨l, fn, tmps, D, hx _ _ e, hB, hh, r.ext hx⟩
  | gone => trivial
def upd (ρ : Rho) (i : Nat) (v : Value) : Rho := fun j => if j = i then some v else ρ j
theorem upd_same (ρ : Rho) (i : Nat) (v : Value) : upd ρ i v i = some v := by simp [upd]
theorem upd_ne {ρ : Rho} {i j : Nat} (v : Value) (h : j ≠ i) : upd ρ i v j = ρ j := by simp [upd, h]
theorem ext_upd {ρ : Rho} {i : Nat} {v : Value} (h : ρ i = none) : Ext ρ (upd ρ i v) := by
  intro j y hj
  by_cases e : j = i
  · subst e; rw [h] at hj; cases hj
  · rw [upd_ne v e]; exact hj
theorem fnd_cons {α : Type} {l : List (Nat × α)} {u t : Nat} {v x : α} (h : fnd ((u, v) :: l) t = some x) : (u = t ∧ v = x) ∨ (u ≠ t ∧ fnd l t = some x) := by
  unfold fnd at h
  cases hb : Nat.beq u t <;> simp only [hb] at h
  · exact .inr ⟨Nat.ne_of_beq_eq_false hb, h⟩
  · exact .inl ⟨Nat.eq_of_beq_eq_true hb, by injection h⟩
/-- a new object with a block of its own, behind all blocks that are there -/
theorem Cls.more {B nx : Nat} {ρ : Rho} {obs : Obs} {w w' : World} {v : Value} {o : Ob} (h : Cls B ρ obs nx w) (hb : Below w.heap.size w w') (hs : Sat B (upd ρ nx v) w' nx o)
    (hf : ∀ b, foot (upd ρ nx v) nx o = some b → w.heap.size ≤ b) : Cls B (upd ρ nx v) ((nx, o) :: obs) (nx + 1) w' := by
  have hx : Ext ρ (upd ρ nx v) := ext_upd (h.new nx (Nat.le_refl _))
  have old : ∀ i o', nx ≠ i → foot (upd ρ nx v) i o' = foot ρ i o' := fun i o' hn => foot_eq (upd_ne v (Ne.symm hn))
  refine ⟨Nat.le_trans h.le hb.size, fun i o' ho => ?_, fun i j o1 o2 b h1 h2 hne hm hf1 => ?_, fun i hi => ?_⟩
  · rcases fnd_cons ho with ⟨rfl, rfl⟩ | ⟨hn, ho⟩
    · exact hs
    · exact ((h.sat i o' ho).keep hb.size fun b hf => hb.block b (foot_lt (h.sat i o' ho) hf)).ext hx
  · rcases fnd_cons h1 with ⟨rfl, rfl⟩ | ⟨hn1, h1⟩
    · rcases fnd_cons h2 with ⟨rfl, rfl⟩ | ⟨hn2, h2⟩
      · exact absurd rfl hne
      · intro e
        rw [old _ _ hn2] at e
        have := foot_lt (h.sat j o2 h2) e
        have := hf b hf1
        omega
    · rw [old _ _ hn1] at hf1
      rcases fnd_cons h2 with ⟨rfl, rfl⟩ | ⟨hn2, h2⟩
      · intro e
        have := foot_lt (h.sat i o1 h1) hf1
        have := hf b e
        omega
      · rw [old _ _ hn2]
        exact h.apart i j o1 o2 b h1 h2 hne hm hf1
  · rw [upd_ne v (by omega)]; exact h.new i (by omega)

theorem putK_spec {sz : Nat} {ρ : Rho} {env : Env} {a : Act} (hE : EnvR sz ρ env a) {dst : Option Tmp} {v : SV} {x : Value} {K : Env → Prop} (hv : v.is ρ x) (h : putK sz dst v env K) : ∃ env', K env' ∧ EnvR sz ρ env' (a.put dst x) := by
  unfold putK at h
  cases dst with
  | none => exact ⟨env, h, hE⟩
  | some d =>
    simp only at h
    cases hb : Nat.blt d sz <;> simp only [hb] at h
    have hd : d < sz := by simpa [Nat.blt_eq] using hb
    refine ⟨_, h, by simp [Act.put, hE.size], fun t u hu => ?_⟩
    rcases fnd_cons hu with ⟨rfl, rfl⟩ | ⟨hn, hu⟩
    · exact ⟨x, by simp [Act.put, hE.size, hd], hv⟩
    · obtain ⟨y, hy, h2⟩ := hE.env t u hu
      exact ⟨y, by simp only [Act.put]; rw [Array.getElem?_setIfInBounds_ne hn]; exact hy, h2⟩
theorem undef_is (ρ : Rho) : (SV.tup []).is ρ undef := ⟨[], rfl, rfl⟩

/-! stores -/
theorem heap_setCell_same {w : World} {b o : Nat} {c : Array Value} {t : TypeId} {fr : Nat × Nat} (h : w.heap[b]? = some (.cells c t fr)) (v : Value) : (w.setCell ⟨b, o, none⟩ v).heap[b]? = some (.cells (c.setIfInBounds o v) t fr) := by
  simp [World.setCell, Array.getElem?_modify, h]
theorem setCells_row {b : Nat} {t : TypeId} {fr : Nat × Nat} : ∀ (vs : List Value) (o : Nat) (w : World) (c : Array Value), w.heap[b]? = some (.cells c t fr) → o + vs.length ≤ c.size →
    (w.setCells b o vs).heap[b]? = some (.cells (laid c.toList o vs).toArray t fr) ∧ (w.setCells b o vs).heap.size = w.heap.size ∧ (w.setCells b o vs).os = w.os ∧ (w.setCells b o vs).tape = w.tape ∧ (w.setCells b o vs).output = w.output ∧
      ∀ k, k ≠ b → (w.setCells b o vs).heap[k]? = w.heap[k]?
  | [], o, w, c, h, _ => ⟨by rw [show (w.setCells b o []) = w from rfl, h]; simp [laid], rfl, rfl, rfl, rfl, fun _ _ => rfl⟩
  | v :: vs, o, w, c, h, hl => by
    simp only [List.length_cons] at hl
    have h1 := heap_setCell_same (o := o) h v
    obtain ⟨a1, a2, a3, a4, a5, a6⟩ := setCells_row vs (o + 1) (w.setCell ⟨b, o, none⟩ v) _ h1 (by simp; omega)
    have e : w.setCells b o (v :: vs) = (w.setCell ⟨b, o, none⟩ v).setCells b (o + 1) vs := rfl
    rw [e]
    refine ⟨?_, ?_, a3, a4, a5, fun k hk => ?_⟩
    · rw [a1, laid_cons (by simp; omega)]; simp
    · rw [a2]; simp [World.setCell]
    · rw [a6 k hk, Below.heap_setCell _ _ _ _ (by simpa using hk)]
theorem Cls.set {B nx : Nat} {ρ : Rho} {obs : Obs} {w w' : World} {i b : Nat} {o o' : Ob} (h : Cls B ρ obs nx w) (ho : fnd obs i = some o) (hm : o.mut = true) (hf : foot ρ i o = some b) (hf' : foot ρ i o' = some b ∨ foot ρ i o' = none) (hm' : o'.mut = true)
    (hsz : w'.heap.size = w.heap.size) (hk : ∀ k, k ≠ b → w'.heap[k]? = w.heap[k]?) (hs : Sat B ρ w' i o') : Cls B ρ ((i, o') :: obs) nx w' := by
  refine ⟨by rw [hsz]; exact h.le, fun j u hu => ?_, fun j k o1 o2 c h1 h2 hne hmu hf1 => ?_, h.new⟩
  · rcases fnd_cons hu with ⟨rfl, rfl⟩ | ⟨hn, hu⟩
    · exact hs
    · exact (h.sat j u hu).keep (by omega) fun c hc => hk c (fun e => by subst e; exact h.apart i j o u c ho hu hn hm hf hc)
  · rcases fnd_cons h1 with ⟨rfl, rfl⟩ | ⟨hn1, h1⟩
    · rcases fnd_cons h2 with ⟨rfl, rfl⟩ | ⟨hn2, h2⟩
      · exact absurd rfl hne
      · rcases hf' with hf' | hf' <;> rw [hf'] at hf1
        · injection hf1 with hf1; subst hf1
          exact h.apart i k o o2 b ho h2 hn2 hm hf
        · cases hf1
    · rcases fnd_cons h2 with ⟨rfl, rfl⟩ | ⟨hn2, h2⟩
      · intro e
        rcases hf' with hf' | hf' <;> rw [hf'] at e
        · injection e with e; subst e
          exact h.apart i j o o1 b ho h1 hn1 hm hf hf1
        · cases e
      · exact h.apart j k o1 o2 c h1 h2 hne hmu hf1

theorem closeK_spec {ρ : Rho} : ∀ {l : List At} {K : List Value → Prop}, closeK l K → ∃ vs, K vs ∧ Ats ρ l vs ∧ ∀ v ∈ vs, v.oneCell' = true
  | [], K, h => ⟨[], h, rfl, by simp⟩
  | .val v :: r, K, h => by
    unfold closeK at h
    cases hb : v.oneCell' <;> simp only [hb] at h
    obtain ⟨vs, hK, hr, h1⟩ := closeK_spec h
    exact ⟨v :: vs, hK, ⟨v, vs, rfl, rfl, hr⟩, by simpa using ⟨hb, h1⟩⟩
  | .tf b :: r, K, h => by
    unfold closeK at h
    obtain ⟨vs, hK, hr, h1⟩ := closeK_spec h
    exact ⟨.bool b :: vs, hK, ⟨.bool b, vs, rfl, rfl, hr⟩, by simpa using ⟨rfl, h1⟩⟩
  | .prop p :: r, K, h => by
    unfold closeK at h
    obtain ⟨b, hb⟩ : ∃ b : Bool, b = true ↔ p := by
      rcases Classical.em p with q | q
      · exact ⟨true, by simp [q]⟩
      · exact ⟨false, by simp [q]⟩
    obtain ⟨vs, hK, hr, h1⟩ := closeK_spec (h.h b hb)
    exact ⟨.bool b :: vs, hK, ⟨.bool b, vs, rfl, ⟨b, rfl, hb⟩, hr⟩, by simpa using ⟨rfl, h1⟩⟩
  | .ptr _ _ _ _ :: _, _, h => h.elim
  | .ref _ :: _, _, h => h.elim
  | .clo _ _ :: _, _, h => h.elim
theorem flat_length {get : Nat → List Value} {s : Nat} : ∀ {n : Nat}, (∀ k, k < n → (get k).length = s) → (flat get n).length = n * s
  | 0, _ => by simp [flat]
  | n + 1, h => by
    have e : flat get (n + 1) = flat get n ++ get n := by unfold flat; rw [List.range_succ, List.flatMap_append]; simp
    rw [e, List.length_append, flat_length (fun k hk => h k (by omega)), h n (by omega), Nat.add_mul, Nat.one_mul]
theorem flat_get' {get : Nat → List Value} {s n k : Nat} (h : ∀ k, k < n → (get k).length = s) (hk : k < n) : ((flat get n).drop (k * s)).take s = get k := by
  apply List.ext_getElem?
  intro j
  rw [List.getElem?_take]
  split
  · rename_i hj
    rw [List.getElem?_drop]
    have hl := h k hk
    have : (get k)[j]? = some ((get k)[j]'(by omega)) := List.getElem?_eq_getElem (by omega)
    rw [this]
    exact flat_get h hk this
  · rename_i hj
    rw [List.getElem?_eq_none (by rw [h k hk]; omega)]
theorem laid_get {α : Type} {l ys : List α} {j p : Nat} (h : j + ys.length ≤ l.length) : (laid l j ys)[p]? = if p < j then l[p]? else if p < j + ys.length then ys[p - j]? else l[p]? := by
  unfold laid
  have e : (l.take j).length = j := by simp; omega
  by_cases c1 : p < j
  · rw [if_pos c1, List.append_assoc, List.getElem?_append_left (by omega), List.getElem?_take_of_lt c1]
  · rw [if_neg c1, List.append_assoc, List.getElem?_append_right (by omega), e]
    by_cases c2 : p < j + ys.length
    · rw [if_pos c2, List.getElem?_append_left (by omega)]
    · rw [if_neg c2, List.getElem?_append_right (by omega), List.getElem?_drop]
      congr 1; omega
theorem laid_length {α : Type} {l ys : List α} {j : Nat} (h : j + ys.length ≤ l.length) : (laid l j ys).length = l.length := by
  unfold laid; simp; omega
/-- one element of a row of elements is written -/
theorem flat_set {get g : Nat → List Value} {s n k j : Nat} {vs : List Value} (h : ∀ k, k < n → (get k).length = s) (hk : k < n) (hj : j + vs.length ≤ s) (hg : ∀ k', k' < n → g k' = if k' = k then laid (get k) j vs else get k') :
    flat g n = laid (flat get n) (k * s + j) vs ∧ ∀ k', k' < n → (g k').length = s := by
  have hsk := h k hk
  have hlen : ∀ k', k' < n → (g k').length = s := by
    intro k' hk'
    rw [hg k' hk']
    split
    · rw [laid_length (by omega)]; exact hsk
    · exact h k' hk'
  refine ⟨?_, hlen⟩
  have hfl := flat_length h
  have hks : k * s + s ≤ n * s := by
    have : (k + 1) * s ≤ n * s := Nat.mul_le_mul_right _ hk
    rwa [Nat.add_mul, Nat.one_mul] at this
  have l1 := flat_length hlen
  apply List.ext_getElem?
  intro p
  rw [laid_get (by omega)]
  by_cases hp : p < n * s
  · have hs0 : 0 < s := by
      rcases Nat.eq_zero_or_pos s with e | e
      · rw [e, Nat.mul_zero] at hp; omega
      · exact e
    obtain ⟨q, r, hr, rfl⟩ : ∃ q r, r < s ∧ p = q * s + r := ⟨p / s, p % s, Nat.mod_lt _ hs0, by rw [Nat.mul_comm]; exact (Nat.div_add_mod p s).symm⟩
    have hq : q < n := by
      rcases Nat.lt_or_ge q n with c | c
      · exact c
      · have : n * s ≤ q * s := Nat.mul_le_mul_right _ c
        omega
    have val : ∀ {f : Nat → List Value}, (∀ k, k < n → (f k).length = s) → (flat f n)[q * s + r]? = (f q)[r]? := fun {f} hf => by
      have e1 : (f q)[r]? = some ((f q)[r]'(by rw [hf _ hq]; exact hr)) := List.getElem?_eq_getElem _
      rw [e1]; exact flat_get hf hq e1
    rw [val hlen, val h, hg q hq]
    by_cases hqk : q = k
    · subst hqk
      rw [if_pos rfl, laid_get (by omega)]
      by_cases c1 : r < j
      · rw [if_pos c1, if_pos (by omega)]
      · by_cases c2 : r < j + vs.length
        · rw [if_neg c1, if_pos c2, if_neg (by omega), if_pos (by omega)]; congr 1; omega
        · rw [if_neg c1, if_neg c2, if_neg (by omega), if_neg (by omega)]
    · rw [if_neg hqk]
      rcases Nat.lt_or_gt_of_ne hqk with c | c
      · have : (q + 1) * s ≤ k * s := Nat.mul_le_mul_right _ c
        rw [Nat.add_mul, Nat.one_mul] at this
        rw [if_pos (by omega)]
      · have : (k + 1) * s ≤ q * s := Nat.mul_le_mul_right _ c
        rw [Nat.add_mul, Nat.one_mul] at this
        rw [if_neg (by omega), if_neg (by omega)]
  · rw [List.getElem?_eq_none (by omega), if_neg (by omega), if_neg (by omega), List.getElem?_eq_none (by omega)]
theorem oth_of {w w' : World} (h : Below w.heap.size w w') : Oth w w' := fun k D hk => (h.block k (Array.getElem?_eq_some_iff.1 hk).1).trans hk
theorem Oth.refl (w : World) : Oth w w := fun _ _ h => h
theorem Oth.trans {a b c : World} (h : Oth a b) (k : Oth b c) : Oth a c := fun i D hi => k i D (h i D hi)
theorem oth_one {w w' : World} {b : Nat} (hk : ∀ k, k ≠ b → w'.heap[k]? = w.heap[k]?) (hb : ∀ D, w.heap[b]? ≠ some (.deferred D)) : Oth w w' := fun k D h => by
  by_cases e : k = b
  · subst e; exact absurd h (hb D)
  · exact (hk k e).trans h
theorem Wy.trans {B : Nat} {s : St} {ρ : Rho} {ds : List Deferred} {w w' : World} (h : Wy B s ρ ds w) (k : Below B w w') (ko : Oth w w') : Wy B s ρ ds w' :=
  ⟨h.b.trans k, h.o.trans ko, h.e, let ⟨Ds, e, hn, hd⟩ := h.m; ⟨Ds, e, hn, fun D hD => ⟨(hd D hD).1, (hd D hD).2.1, ko D _ (hd D hD).2.2⟩⟩⟩
theorem Wy.ext {B : Nat} {s : St} {ρ ρ' : Rho} {ds : List Deferred} {w : World} (h : Wy B s ρ ds w) (k : Ext ρ ρ') : Wy B s ρ' ds w := ⟨h.b, h.o, fun i y hi hy => k i y (h.e i y hi hy), h.m⟩
theorem put_dfs (a : Act) (d : Option Tmp) (v : Value) : (a.put d v).defers = a.defers := by cases d <;> rfl
theorem Wy.put {B : Nat} {s : St} {ρ : Rho} {a : Act} {w : World} (h : Wy B s ρ a.defers w) {d : Option Tmp} {v : Value} : Wy B s ρ (a.put d v).defers w := by rw [put_dfs]; exact h
theorem NxA.nx {B : Nat} {w0 : St} {sz : Nat} {K : Env → Obs → Nat → Prop} {w1 : World} {a : Act} {w : World} (h : NxA B w0 sz K w1 a w) : Nx B w0 sz K a w := by
  obtain ⟨ρ, env, obs, nx, h1, h2, h3, h4, _⟩ := h; exact ⟨ρ, env, obs, nx, h1, h2, h3, h4⟩
theorem below_of {B : Nat} {w0 : St} {ρ : Rho} {ds : List Deferred} {w w' : World} (h : Wy B w0 ρ ds w) (hB : B ≤ w.heap.size) (k : Below w.heap.size w w') : Wy B w0 ρ ds w' := h.trans (k.mono hB) (oth_of k)

section
variable {P : Program} {T : TT} {sz : Nat} {ρ : Rho} {env : Env} {a : Act} {B nx : Nat} {obs : Obs} {w0 : St} {w : World} (hT : TTok P T) (hE : EnvR sz ρ env a) (hC : Cls B ρ obs nx w) (hW : Wy B w0 ρ a.defers w) {K : Env → Obs → Nat → Prop} {Q : Exit → Act → World → Prop}
include hE hC hW
theorem new_box {t : TypeId} {l : List At} {cs : Array Value} {dst : Option Tmp} (hl : Ats ρ l cs.toList) (h : putK sz dst (.one (.ptr nx 0 0 0)) env fun env' => K env' ((nx, .box t l) :: obs) (nx + 1)) :
    NxA B w0 sz K w (a.put dst (.pointer (some ⟨w.heap.size, 0, none⟩))) (w.alloc (.cells cs t)) := by
  have hx : Ext ρ (upd ρ nx (.pointer (some ⟨w.heap.size, 0, none⟩))) := ext_upd (hC.new nx (Nat.le_refl _))
  have hv : (SV.one (.ptr nx 0 0 0)).is (upd ρ nx (.pointer (some ⟨w.heap.size, 0, none⟩))) (.pointer (some ⟨w.heap.size, 0, none⟩)) :=
    ⟨⟨w.heap.size, 0, none⟩, base_ptr (upd_same _ _ _), by simp [Addr.add]⟩
  obtain ⟨env', hK, hE'⟩ := putK_spec (hE.ext hx) hv h
  have hb : Below w.heap.size w (w.alloc (.cells cs t)) := (Below.refl _ _).alloc (Nat.le_refl _) _
  refine ⟨_, env', _, _, hK, hE', hC.more hb ⟨w.heap.size, cs.toList, upd_same _ _ _, hC.le, hl.ext hx, by simpa using heap_alloc_new w _⟩ (fun b hf => ?_), ((below_of hW hC.le hb).ext hx).put, hb⟩
  simp only [foot, base_ptr (upd_same _ _ _), Option.map_some] at hf
  injection hf with hf; omega
include hT
theorem op_box {o : Oper} {t : TypeId} {x : Operand} (ho : o.op = .box t x) (h : opK P T sz false o env obs nx K) : o.wp P a w (NxA B w0 sz K w) Q := by
  simp only [opK, ho] at h
  obtain ⟨v, hv, h⟩ := evK_spec hE h
  obtain ⟨l, h, hl, _⟩ := cellsK_spec hv h
  have := new_box hE hC hW hl h
  unfold Oper.wp
  simp only [execOp, ho]
  exact this
theorem op_alloc {o : Oper} {t : TypeId} (ho : o.op = .alloc t) (h : opK P T sz false o env obs nx K) : o.wp P a w (NxA B w0 sz K w) Q := by
  simp only [opK, ho] at h
  obtain ⟨ty, i, d, z, ht, hi, hd, hz, rfl, h⟩ := fnd_ty hT h
  have e : (do pure (Next.value (← Instr.alloc t true (.tuple #[]))) : Sem Next).run P w = .ok (.value (.pointer (some ⟨w.heap.size, 0, none⟩))) (w.alloc (.cells z.cells t)) := by
    simp [Instr.alloc, zeroValue, typeInfo, hi, hz, newVar, newRow, Sem.run_bind]
  unfold Oper.wp
  simp only [execOp, ho]
  rw [e]
  simp only at h
  split at h
  · rename_i e' hsh hzz
    obtain ⟨te, _, h⟩ := fndK_spec h
    have hx : Ext ρ (upd ρ nx (.slice none 0 0)) := ext_upd (hC.new nx (Nat.le_refl _))
    have hC2 := hC.more (v := .slice none 0 0) (o := .row e' te.size 0 fun _ => []) (Below.refl _ _) ⟨_, upd_same _ _ _, none, 0, rfl, by omega, fun k hk => by omega, .inl ⟨rfl, rfl⟩⟩ (fun b hf => by rw [foot_row (upd_same _ _ _)] at hf; simp at hf)
    exact new_box (cs := z.cells) (hE.ext hx) hC2 (hW.ext hx) (l := [.ref nx]) (by rw [hzz]; exact ⟨_, [], rfl, ⟨upd_same _ _ _, rfl⟩, rfl⟩) h
  · split at h
    · exact new_box (cs := z.cells) hE hC hW (Ats.vals ρ z.cells.toList) h
    · exact h.elim
theorem op_store_row {o : Oper} {t : TypeId} {x y : Operand} {io k j s t' s' n : Nat} {get : Nat → List Value} {i : TypeInfo} {d : TypeDesc} {z : Value} {a0 : Addr} (ho : o.op = .store t x y) (hi : P.info? t = some i) (hd : P.underlying t = some d) (hz : i.zero = some z)
    (hob : fnd obs io = some (.row t' s' n get)) (hb : base ρ io = some a0) (hx : a.eval x = .pointer (some (a0.add (k * s + j))))
    (h : match Nat.beq s s' with
      | true => NLt k n (evK env y fun u => cellsK u fun c => closeK c fun vs => match Nat.beq vs.length i.size with
        | true => layK (get k) j vs fun r => NPut n k get r fun g => putK sz o.dst (.tup []) env fun env' => K env' ((io, .row t' s' n g) :: obs) nx
        | false => False)
      | false => False) : o.wp P a w (Nx B w0 sz K) Q := by
  cases hbq : Nat.beq s s' <;> simp only [hbq] at h
  have es : s = s' := Nat.eq_of_beq_eq_true hbq
  subst es
  obtain ⟨hlt, h⟩ := h
  obtain ⟨u, hu, h⟩ := evK_spec hE h
  obtain ⟨c, h, hc, hone⟩ := cellsK_spec hu h
  obtain ⟨vs, h, hvs, _⟩ := closeK_spec (ρ := ρ) h
  have ev : (a.eval y).cells.toList = vs := Ats.fun_ hc hvs
  cases hbq2 : Nat.beq vs.length i.size <;> simp only [hbq2] at h
  have hlen : vs.length = i.size := Nat.eq_of_beq_eq_true hbq2
  obtain ⟨hle, h⟩ := layK_spec h
  obtain ⟨v, e, A, cp, rfl, hn, hs, hh⟩ := hC.sat io _ hob
  rcases hh with ⟨h0, _⟩ | ⟨g, cur, rfl, hB, hg, hnc, hcp, hcm, hcs, htake⟩
  · omega
  rw [base_sl e] at hb
  injection hb with hb; subst hb
  have hsk := hs k hlt
  have hks : k * s + s ≤ cp * s := by
    have : (k + 1) * s ≤ cp * s := Nat.mul_le_mul_right _ (by omega)
    rwa [Nat.add_mul, Nat.one_mul] at this
  have ea : (⟨g, 0, none⟩ : Addr).add (k * s + j) = ⟨g, k * s + j, none⟩ := by unfold Addr.add; split <;> simp_all
  rw [ea] at hx
  have cell : ∀ p, p < cur.size → w.cell? ⟨g, p, none⟩ = cur[p]? := fun p hp => cell_of_row w g p cur t' (0, 0) hg
  have st := run_storeCells_cells (P := P) g (k * s + j) (a.eval y).cells.toList 0 w (fun p hp => by
      rw [ev] at hp
      rw [show k * s + j + 0 + p = k * s + j + p by omega, cell _ (by omega), Array.getElem?_eq_getElem (by omega)]; rfl)
    (fun p hp => by simp [World.frozen?, hg]) hone
  rw [ev] at st
  obtain ⟨r1, r2, r3, r4, r5, r6⟩ := setCells_row vs (k * s + j) w cur hg (by omega)
  obtain ⟨g', hg', h⟩ := h.h
  obtain ⟨f1, f2⟩ := flat_set (g := g') hs hlt (by omega) hg'
  obtain ⟨env', hK, hE'⟩ := putK_spec hE (undef_is ρ) h
  unfold Oper.wp
  simp only [execOp, ho]
  have er : (do Instr.storeAt t (a.eval x) (a.eval y); pure Next.skip : Sem Next).run P w = .ok .skip (w.setCells g (k * s + j) vs) := by
    rw [hx]
    simp only [Instr.storeAt, Instr.sureAddr, Sem.run_bind, Sem.run_pure, Result.andThen_ok, storeVar, run_size hi]
    have hcz : (a.eval y).cells.size = i.size := by rw [← hlen, ← ev]; simp
    rw [if_neg (by omega), ev]
    rw [show k * s + j + 0 = k * s + j by omega] at st
    rw [st]; rfl
  rw [er]
  have hbw : Below B w (w.setCells g (k * s + j) vs) := ⟨r3, r4, r5, by rw [r2]; exact Nat.le_refl _, fun q hq => r6 q (by omega)⟩
  have ft : ∀ g', foot ρ io (.row t' s n g') = some g := fun g' => by rw [foot_row e, if_neg (by omega)]; rfl
  refine ⟨ρ, env', _, _, hK, hE', hC.set (b := g) hob rfl (ft _) (.inl (ft _)) rfl r2 r6 ⟨_, e, _, cp, rfl, hn, f2, .inr ⟨g, _, rfl, hB, r1, hnc, hcp, hcm, ?_, ?_⟩⟩, (hW.trans hbw (oth_one r6 (fun D e => by rw [hg] at e; cases e))).put⟩
  · unfold laid
    simp only [List.size_toArray, List.length_append, List.length_take, List.length_drop, Array.length_toList]
    omega
  · rw [f1, ← htake]
    have hns : n * s ≤ cp * s := Nat.mul_le_mul_right _ hnc
    have hks2 : k * s + s ≤ n * s := by
      have : (k + 1) * s ≤ n * s := Nat.mul_le_mul_right _ hlt
      rwa [Nat.add_mul, Nat.one_mul] at this
    have l0 : cur.toList.length = cp * s := by simp [hcs]
    apply List.ext_getElem?
    intro p
    rw [laid_get (by rw [List.length_take]; omega), List.getElem?_take, laid_get (by omega)]
    by_cases hp : p < n * s
    · rw [if_pos hp, List.getElem?_take_of_lt hp]
    · rw [if_neg hp, if_neg (by omega), if_neg (by omega), List.getElem?_take, if_neg hp]
theorem op_store {o : Oper} {t : TypeId} {x y : Operand} (ho : o.op = .store t x y) (h : opK P T sz false o env obs nx K) : o.wp P a w (Nx B w0 sz K) Q := by
  simp only [opK, ho] at h
  obtain ⟨ty, i, d, z, ht, hi, hd, hz, rfl, h⟩ := fnd_ty hT h
  obtain ⟨v, hv, h⟩ := evK_spec hE h
  split at h
  · rename_i io k j s
    obtain ⟨a0, hb, hx⟩ := hv
    obtain ⟨ob, hob, h⟩ := fndK_spec h
    split at h
    · rename_i t' l
      split at h
      rotate_left
      · exact h.elim
      obtain ⟨u, hu, h⟩ := evK_spec hE h
      obtain ⟨c, h, hc, hone⟩ := cellsK_spec hu h
      cases hbq : Nat.beq c.length i.size <;> simp only [hbq] at h
      have hlen : c.length = i.size := Nat.eq_of_beq_eq_true hbq
      obtain ⟨hle, h⟩ := layK_spec h
      obtain ⟨b, cs, e, hB, hl, hh⟩ := hC.sat io _ hob
      rw [base_ptr e] at hb
      injection hb with hb; subst hb
      have hcl := hc.length
      have hll := hl.length
      simp only [Array.length_toList] at hcl
      have ea : (⟨b, 0, none⟩ : Addr).add (0 * 0 + j) = ⟨b, j, none⟩ := by unfold Addr.add; split <;> simp_all
      rw [ea] at hx
      have cell : ∀ k, k < cs.length → w.cell? ⟨b, k, none⟩ = cs[k]? := fun k hk => by rw [cell_of_row w b k cs.toArray t' (0, 0) hh]; simp
      have st := run_storeCells_cells (P := P) b j (a.eval y).cells.toList 0 w (fun k hk => by
          simp only [Array.length_toList] at hk
          rw [show j + 0 + k = j + k by omega, cell (j + k) (by omega), List.getElem?_eq_getElem (by omega)]; rfl)
        (fun k hk => by simp [World.frozen?, hh]) hone
      obtain ⟨r1, r2, r3, r4, r5, r6⟩ := setCells_row (a.eval y).cells.toList j w cs.toArray hh (by simp; omega)
      obtain ⟨env', hK, hE'⟩ := putK_spec hE (undef_is ρ) h
      unfold Oper.wp
      simp only [execOp, ho]
      have er : (do Instr.storeAt t (a.eval x) (a.eval y); pure Next.skip : Sem Next).run P w = .ok .skip (w.setCells b j (a.eval y).cells.toList) := by
        rw [hx]
        simp only [Instr.storeAt, Instr.sureAddr, Sem.run_bind, Sem.run_pure, Result.andThen_ok, storeVar, run_size hi]
        rw [if_neg (by omega)]
        rw [show j + 0 = j by omega] at st
        rw [st]; rfl
      rw [er]
      have hbw : Below B w (w.setCells b j (a.eval y).cells.toList) := ⟨r3, r4, r5, by rw [r2]; exact Nat.le_refl _, fun k hk => r6 k (by omega)⟩
      refine ⟨ρ, env', _, _, hK, hE', hC.set (b := b) hob rfl (by simp [foot, base_ptr e]) (.inl (by simp [foot, base_ptr e])) rfl r2 r6 ⟨b, laid cs j (a.eval y).cells.toList, e, hB, hl.laid hc j, by simpa using r1⟩, (hW.trans hbw (oth_one r6 (fun D e => by rw [hh] at e; cases e))).put⟩
    · exact op_store_row hT hE hC hW ho hi hd hz hob hb hx h
    · exact h.elim
  · exact h.elim
theorem op_pure {o : Oper} (h : pureK T env obs o.op fun v => putK sz o.dst v env fun env' => K env' obs nx) : o.wp P a w (NxA B w0 sz K w) Q := by
  obtain ⟨v, x, hv, h, hr⟩ := pure_sound hT hE hC h
  obtain ⟨env', hK, hE'⟩ := putK_spec hE hv h
  unfold Oper.wp
  rw [hr o rfl w hC]
  exact ⟨ρ, env', obs, nx, hK, hE', hC, hW.put, Below.refl _ _⟩
end
end Go.Proofs.Yteblbhbfdfifpaa.V
