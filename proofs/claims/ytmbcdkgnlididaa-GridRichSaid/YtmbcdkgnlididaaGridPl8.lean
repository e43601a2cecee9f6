/- Plain facts on settling all at once: where each has all that is due from it all is done. -/
import Derived.Test.YtmbcdkgnlididaaGridPl7
namespace Go.Proofs.Ytmbcdkgnlididaa
set_option linter.unusedVariables false
namespace G
/-- nobody has anything -/
def none : List Int := List.replicate 31 0
theorem none_at (p : Nat) : none.getD p default = 0 := by
  unfold none
  rcases Nat.lt_or_ge p 31 with h | h
  · rw [getD_at (by rw [List.length_replicate]; exact h), List.getElem_replicate]
  · rw [List.getD, List.getElem?_eq_none (by rw [List.length_replicate]; exact h)]; rfl
theorem none_ga : ∀ k, k < 31 → V.e1 0 = V.ga V.e1 none k := fun k _ => by
  unfold V.ga; rw [none_at]
theorem none_sum : M.sum none = 0 := by decide
theorem none_ok : ∀ n ∈ none, 0 ≤ n ∧ n ≤ 1152921504606846976 := fun n hn => by
  have := List.eq_of_mem_replicate hn; omega
/-- what is due from p of the first k -/
def due (l : List Du) (p k : Nat) : Int := M.sum ((l.take k).map fun d => if d.fr = (p : Int) then d.am else 0)
theorem due_succ {l : List Du} {p k : Nat} (h : k < l.length) : due l p (k + 1) = due l p k + if (l.getD k default).fr = p then (l.getD k default).am else 0 := by
  unfold due
  rw [List.take_succ_eq_append_getElem h, List.map_append, M.sum_append, getD_at h]
  simp [M.sum]
theorem due_pos {l : List Du} (ha : ∀ d ∈ l, 0 ≤ d.am) (p k : Nat) : 0 ≤ due l p k := by
  refine sum_pos fun x hx => ?_
  obtain ⟨d, hd, rfl⟩ := List.mem_map.1 hx
  have := ha d (List.mem_of_mem_take hd)
  split <;> omega
def dues (l : List Du) (k : Nat) : List Int := (List.range 31).map fun p => due l p k
theorem dues_len (l : List Du) (k : Nat) : (dues l k).length = 31 := by simp [dues]
theorem dues_at {l : List Du} {k p : Nat} (h : p < 31) : (dues l k).getD p default = due l p k := by
  rw [getD_at (by rw [dues_len]; exact h)]; simp [dues]
theorem dues_zero (l : List Du) : dues l 0 = none := by
  apply List.ext_getElem
  · rw [dues_len]; simp [none]
  · intro i h1 h2
    rw [← getD_at h1, ← getD_at h2, none_at, dues_at (by rw [dues_len] at h1; exact h1)]
    simp [due, M.sum]
theorem dues_succ {l : List Du} {k p : Nat} (h : k < l.length) (e : (l.getD k default).fr = p) (hp : p < 31) : dues l (k + 1) = (dues l k).set p ((dues l k).getD p default + (l.getD k default).am) := by
  apply List.ext_getElem
  · rw [List.length_set, dues_len, dues_len]
  · intro i h1 h2
    have hi : i < 31 := by rw [dues_len] at h1; exact h1
    have e1 : (dues l k)[i]'(by rw [dues_len]; exact hi) = due l i k := by rw [← getD_at (by rw [dues_len]; exact hi), dues_at hi]
    rw [List.getElem_set, e1, ← getD_at h1, dues_at hi, dues_at hp, due_succ h, e]
    by_cases q : p = i
    · subst q; rw [if_pos rfl, if_pos rfl]
    · rw [if_neg q, if_neg (by omega)]; omega
theorem dues_sum {l : List Du} {k : Nat} (h : ∀ d ∈ l, N.ck1 d = 0) (hk : k ≤ l.length) : M.sum (dues l k) = sumD (l.take k) := by
  induction k with
  | zero => rw [dues_zero, none_sum]; simp [sumD, M.sum]
  | succ k ih =>
    have ck := N.ck_ok (h _ (getD_mem (l := l) (k := k) (by omega)))
    obtain ⟨p, ep⟩ := Int.eq_ofNat_of_zero_le ck.1.1
    rw [dues_succ (by omega) ep (by omega), sum_set (by rw [dues_len]; omega), ih (by omega), sumD_snoc (by omega), ← getD_at (by rw [dues_len]; omega)]
    omega
theorem due_bd {l : List Du} (h : ∀ d ∈ l, N.ck1 d = 0) {p k : Nat} (hp : p < 31) (hk : k ≤ l.length) : 0 ≤ due l p k ∧ due l p k ≤ sumD (l.take k) := by
  have ha : ∀ d ∈ l, 0 ≤ d.am := fun d hd => by have := N.ck_ok (h d hd); omega
  refine ⟨due_pos ha p k, ?_⟩
  rw [← dues_sum h hk, ← dues_at hp]
  refine mem_sum (fun x hx => ?_) _ (getD_mem (by rw [dues_len]; exact hp))
  obtain ⟨q, hq, rfl⟩ := List.getElem_of_mem hx
  rw [← getD_at hq, dues_at (by rw [dues_len] at hq; exact hq)]; exact due_pos ha q k
theorem none_chk {l : List Du} (h : chk none l = 0) : N.chk l = 0 ∧ sumD l ≤ 1152921504606846976 := by
  have ok := chk_ok h
  have := ok.s
  rw [none_sum] at this
  exact ⟨ok.c, by omega⟩
theorem chk_of {has : List Int} {l : List Du} (h1 : has.length = 31) (h2 : ∀ n ∈ has, 0 ≤ n ∧ n ≤ 1152921504606846976) (h3 : N.chk l = 0) (h4 : M.sum has + sumD l ≤ 1152921504606846976) : chk has l = 0 := ok_chk ⟨h1, h2, h3, h4⟩
/-- all is done -/
def yes (n : Nat) : List Bool := List.replicate n true
theorem yes_at {n i : Nat} (h : i < n) : (yes n).getD i default = true := by
  unfold yes; rw [getD_at (by simpa using h)]; simp
theorem flow_yes {p : Nat} : ∀ {l : List Du}, (∀ d ∈ l, 0 ≤ d.am) → -due l p l.length ≤ flow p l (yes l.length)
  | [], _ => by simp [due, flow, M.sum]
  | d :: l, h => by
    have ih := flow_yes (p := p) (l := l) fun x hx => h x (by simp [hx])
    have hd := h d (by simp)
    unfold due flow yes at *
    simp only [List.take_length, List.length_cons, List.replicate_succ, List.zip_cons_cons, List.take_succ_cons, List.map_cons, M.sum] at *
    have : -(if d.fr = (p : Int) then d.am else 0) ≤ fl p (d, true) := by
      unfold fl; simp only [if_true]; (repeat' split) <;> omega
    omega
theorem rich_adm {l : List Du} (h : ∀ d ∈ l, 0 ≤ d.am) : Adm (dues l l.length) l (yes l.length) :=
  ⟨by simp [yes], fun i j hij hj _ _ => yes_at (by omega), fun p hp => by
    rw [aft_at hp, dues_at hp]
    have := flow_yes (p := p) h; omega⟩
theorem best_yes {has : List Int} {l : List Du} (ok : Ok has l) (h : Adm has l (yes l.length)) : best has l = yes l.length := by
  have g := great ok
  apply List.ext_getElem
  · rw [g.adm.n]; simp [yes]
  · intro i h1 h2
    have hi : i < l.length := by rw [g.adm.n] at h1; exact h1
    rw [← getD_at h1, ← getD_at h2, yes_at hi]
    exact g.all _ h i (yes_at hi)
theorem plk_yes (n : Nat) : (plk (yes n) n).length = n := by
  unfold plk
  rw [List.length_map, List.filter_eq_self.2 (fun i hi => yes_at (List.mem_range.1 hi)), List.length_range]
theorem sol_yes {has : List Int} {l : List Du} (hc : chk has l = 0) (h : Adm has l (yes l.length)) : (sol has l).length = l.length := by
  rw [sol_ok hc, best_yes (chk_ok hc) h, plk_yes]
theorem sol_nil {has : List Int} {l : List Du} (hc : chk has l = 0) (h : ∀ b, Adm has l b → ∀ i : Nat, i < l.length → b.getD i default = false) : sol has l = [] := by
  rw [sol_ok hc]
  apply List.eq_nil_iff_forall_not_mem.2
  intro x hx
  obtain ⟨i, _, hi, hb⟩ := mem_plk.1 hx
  rw [h _ (great (chk_ok hc)).adm i hi] at hb
  cases hb
/-- the dues of the first party alone -/
theorem flow_neg {p : Nat} : ∀ {l : List Du} {b : List Bool}, b.length = l.length → (∀ d ∈ l, 1 ≤ d.am ∧ d.fr = p ∧ d.to ≠ p) → flow p l b ≤ 0 ∧ (∀ i : Nat, i < l.length → b.getD i default = true → flow p l b < 0)
  | [], [], _, _ => by simp [flow, M.sum]
  | d :: l, v :: b, hb, h => by
    obtain ⟨h1, h2⟩ := flow_neg (p := p) (l := l) (b := b) (by simpa using hb) fun x hx => h x (by simp [hx])
    have hd := h d (by simp)
    have e : flow p (d :: l) (v :: b) = fl p (d, v) + flow p l b := by simp [flow, M.sum]
    have e2 : fl p (d, v) = if v then -d.am else 0 := by
      unfold fl; cases v <;> simp [hd.2.1, hd.2.2]
    rw [e, e2]
    refine ⟨by split <;> omega, fun i hi hbi => ?_⟩
    cases i with
    | zero =>
      have : v = true := by simpa [List.getD] using hbi
      subst this; simp only [if_true]; omega
    | succ i =>
      have := h2 i (by simpa using hi) (by simpa [List.getD] using hbi)
      split <;> omega
theorem none_nil {l : List Du} (hc : chk none l = 0) {p : Nat} (hp : p < 31) (h : ∀ d ∈ l, d.fr = p) : sol none l = [] :=
  sol_nil hc fun b adm i hi => by
    have ck := (N.chk_ok (none_chk hc).1).2
    obtain ⟨h1, h2⟩ := flow_neg (p := p) (l := l) adm.n fun d hd => by
      have := N.ck_ok (ck d hd); have := h d hd; omega
    have := adm.pos p hp
    rw [aft_at hp, none_at] at this
    cases q : b.getD i default
    · rfl
    · have := h2 i hi q; omega
def from0 (l : List Du) (k : Nat) : List Du := (l.take k).filter fun d => decide (d.fr = 0)
theorem from0_succ {l : List Du} {k : Nat} (h : k < l.length) : from0 l (k + 1) = if (l.getD k default).fr = 0 then from0 l k ++ [l.getD k default] else from0 l k := by
  unfold from0
  rw [List.take_succ_eq_append_getElem h, List.filter_append, ← getD_at h]
  by_cases q : (l.getD k default).fr = 0 <;> simp only [List.filter_cons, List.filter_nil, q] <;> simp
theorem fb_sub {f : Du → Int} {l m : List Du} (h : ∀ d ∈ m, d ∈ l) (e : fb f l = 0) : fb f m = 0 := fb_yes fun d hd => fb_ok e d (h d hd)
theorem sumD_filter {q : Du → Bool} : ∀ {l : List Du}, (∀ d ∈ l, 0 ≤ d.am) → sumD (l.filter q) ≤ sumD l
  | [], _ => Int.le_refl _
  | d :: l, h => by
    have ih := sumD_filter (q := q) (l := l) fun x hx => h x (by simp [hx])
    have := h d (by simp)
    rw [List.filter_cons]
    split <;> simp only [sumD, List.map_cons, M.sum] at * <;> omega
theorem filter_chk {q : Du → Bool} {l : List Du} (h : chk none l = 0) : chk none (l.filter q) = 0 := by
  obtain ⟨h1, h2⟩ := none_chk h
  obtain ⟨h3, h4⟩ := N.chk_ok h1
  have hlen := List.length_filter_le q l
  refine chk_of rfl none_ok ?_ ?_
  · unfold N.chk; rw [if_neg (by omega)]; exact fb_yes fun d hd => h4 d (List.mem_filter.1 hd).1
  · rw [none_sum]
    have := sumD_filter (q := q) (l := l) fun d hd => by have := N.ck_ok (h4 d hd); omega
    omega
end G
end Go.Proofs.Ytmbcdkgnlididaa
