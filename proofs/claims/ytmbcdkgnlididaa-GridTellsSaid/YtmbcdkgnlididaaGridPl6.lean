/- Plain facts on settling all at once: the greatest set that can be done is there; the places of it; all have as much. -/
import Derived.Test.YtmbcdkgnlididaaGridPl4
import Derived.Test.YtmbcdkgnlididaaGridPl3
namespace Go.Proofs.Ytmbcdkgnlididaa
set_option linter.unusedVariables false
namespace G
theorem great_ex {has : List Int} {l : List Du} (ok : Ok has l) : ∀ (n : Nat) (b : List Bool), cnt b ≤ n → Inv has l b → ∃ g, Great has l g
  | n, b, hn, iv => by
    by_cases h : struck has l b 31 0
    · have lt := nxt_less iv.n h
      match n with
      | 0 => omega
      | n + 1 => exact great_ex ok n _ (by omega) (inv_nxt ok iv)
    · exact ⟨b, great_nxt ok iv (nxt_same ok iv.n h).2⟩
theorem great {has : List Int} {l : List Du} (ok : Ok has l) : Great has l (best has l) :=
  Classical.epsilon_spec (great_ex ok _ _ (Nat.le_refl _) inv_start)
theorem sol_ok {has : List Int} {l : List Du} (h : chk has l = 0) : sol has l = plk (best has l) l.length := if_pos h
theorem sol_no {has : List Int} {l : List Du} (h : chk has l ≠ 0) : sol has l = [] := if_neg h
theorem mem_plk {b : List Bool} {k : Nat} {x : Int} : x ∈ plk b k ↔ ∃ i : Nat, x = i ∧ i < k ∧ b.getD i default = true := by
  unfold plk
  simp only [List.mem_map, List.mem_filter, List.mem_range]
  constructor
  · rintro ⟨i, ⟨h1, h2⟩, rfl⟩; exact ⟨i, rfl, h1, h2⟩
  · rintro ⟨i, rfl, h1, h2⟩; exact ⟨i, ⟨h1, h2⟩, rfl⟩
theorem plk_sorted (b : List Bool) (k : Nat) : (plk b k).Pairwise (· < ·) := by
  unfold plk
  rw [List.pairwise_map]
  refine (List.Pairwise.filter _ List.pairwise_lt_range).imp ?_
  intro a b h; exact Int.ofNat_lt.2 h
theorem scn_ok (n : Int) : ∀ (l : List Int) (last : Int), (∀ x ∈ l, last < x ∧ 0 ≤ x ∧ x < n) → l.Pairwise (· < ·) → scn n last l = 0
  | [], _, _, _ => rfl
  | i :: r, last, h, hp => by
    have h1 := h i (by simp)
    obtain ⟨h2, h3⟩ := List.pairwise_cons.1 hp
    show (if i < 0 ∨ n ≤ i then 3 else if i ≤ last then 4 else scn n i r) = 0
    rw [if_neg (by omega), if_neg (by omega)]
    exact scn_ok n r i (fun x hx => ⟨h2 x hx, (h x (by simp [hx])).2⟩) h3
theorem scn_plk {b : List Bool} {n : Nat} : scn n (-1) (plk b n) = 0 := scn_ok n _ _ (fun x hx => by
  obtain ⟨i, rfl, h, _⟩ := mem_plk.1 hx; omega) (plk_sorted b n)
theorem mk_plk {b : List Bool} {n : Nat} (h : b.length = n) : mk n (plk b n) = b := by
  apply List.ext_getElem
  · rw [mk_len, h]
  · intro i h1 h2
    rw [← getD_at h1, ← getD_at h2, mk_at (by omega)]
    rw [Bool.eq_iff_iff]
    simp only [decide_eq_true_eq, mem_plk]
    constructor
    · rintro ⟨j, hj, _, h⟩
      have : i = j := by omega
      rw [this]; exact h
    · intro h; exact ⟨i, rfl, by omega, h⟩
theorem lmin_pos {l : List Int} (hn : l ≠ []) (h : ∀ x ∈ l, 0 ≤ x) : ¬ lmin l < 0 := fun q => by
  obtain ⟨x, hx, hl⟩ := (lmin_neg hn).1 q
  have := h x hx; omega
theorem aft_ne (has : List Int) (l : List Du) (b : List Bool) : aft has l b ≠ [] := fun q => by
  have := aft_len has l b; rw [q] at this; simp at this
theorem adm_all {has : List Int} {l : List Du} {b : List Bool} (h : Adm has l b) : ∀ x ∈ aft has l b, 0 ≤ x := fun x hx => by
  obtain ⟨p, hp, rfl⟩ := List.getElem_of_mem hx
  rw [← getD_at hp]; exact h.pos p (by rw [aft_len] at hp; exact hp)
/-- a set that stands first, by its places: done if all have enough -/
theorem aft_plk {has : List Int} {l : List Du} {b : List Bool} (h : chk has l = 0) (hb : b.length = l.length) :
    (aE has l (plk b l.length) = 0 ∧ aV has l (plk b l.length) = aft has l b ∧ ∀ x ∈ aft has l b, 0 ≤ x) ∨ (aE has l (plk b l.length) = 8 ∧ ¬ ∀ x ∈ aft has l b, 0 ≤ x) := by
  have hl : ¬ l.length < (plk b l.length).length := by have := plk_len b l.length; omega
  by_cases q : lmin (aft has l (mk l.length (plk b l.length))) < 0
  · right
    refine ⟨(a_4 h hl scn_plk q).1, fun q2 => ?_⟩
    rw [mk_plk hb] at q
    exact lmin_pos (aft_ne _ _ _) q2 q
  · left
    obtain ⟨e1, e2⟩ := a_5 h hl scn_plk q
    rw [mk_plk hb] at e2 q
    refine ⟨e1, e2, fun x hx => ?_⟩
    rcases Int.lt_or_le x 0 with h | h
    · exact absurd ((lmin_neg (aft_ne _ _ _)).2 ⟨x, hx, h⟩) q
    · exact h
theorem after_sol {has : List Int} {l : List Du} (h : chk has l = 0) : aE has l (sol has l) = 0 ∧ aV has l (sol has l) = aft has l (best has l) := by
  have g := great (chk_ok h)
  rw [sol_ok h]
  rcases aft_plk h g.adm.n with ⟨e1, e2, _⟩ | ⟨_, q⟩
  · exact ⟨e1, e2⟩
  · exact absurd (adm_all g.adm) q
/-! all together have as much -/
theorem sum_map_add (f g : Nat → Int) : ∀ n : Nat, M.sum ((List.range n).map fun p => f p + g p) = M.sum ((List.range n).map f) + M.sum ((List.range n).map g)
  | 0 => by simp [M.sum]
  | n + 1 => by
    rw [List.range_succ, List.map_append, List.map_append, List.map_append, M.sum_append, M.sum_append, M.sum_append, sum_map_add f g n]
    simp only [List.map_cons, List.map_nil, M.sum]; omega
theorem sum_one (x a : Int) : ∀ n : Nat, M.sum ((List.range n).map fun (p : Nat) => if x = (p : Int) then a else 0) = if 0 ≤ x ∧ x < n then a else 0
  | 0 => by rw [if_neg (by omega)]; simp [M.sum]
  | n + 1 => by
    rw [List.range_succ, List.map_append, M.sum_append, sum_one x a n]
    simp only [List.map_cons, List.map_nil, M.sum]
    (repeat' split) <;> omega
theorem sum_neg (f : Nat → Int) : ∀ n : Nat, M.sum ((List.range n).map fun p => -f p) = -M.sum ((List.range n).map f)
  | 0 => by simp [M.sum]
  | n + 1 => by
    rw [List.range_succ, List.map_append, List.map_append, M.sum_append, M.sum_append, sum_neg f n]
    simp only [List.map_cons, List.map_nil, M.sum]; omega
theorem sum_none (f : Nat → Int) : ∀ n : Nat, (∀ p, p < n → f p = 0) → M.sum ((List.range n).map f) = 0
  | 0, _ => by simp [M.sum]
  | n + 1, h => by
    rw [List.range_succ, List.map_append, M.sum_append, sum_none f n fun p hp => h p (by omega)]
    simp only [List.map_cons, List.map_nil, M.sum, h n (by omega)]; omega
theorem fl_sum {x : Du × Bool} (h : N.ck1 x.1 = 0) : M.sum ((List.range 31).map fun (p : Nat) => fl p x) = 0 := by
  have c := N.ck_ok h
  obtain ⟨d, v⟩ := x
  cases v
  · exact sum_none _ _ fun p _ => by simp [fl]
  · have e : (fun (p : Nat) => fl p (d, true)) = fun (p : Nat) => (fun (p : Nat) => if d.to = (p : Int) then d.am else 0) p + (fun (p : Nat) => -(fun (p : Nat) => if d.fr = (p : Int) then d.am else 0) p) p := by
      funext p; simp [fl]; omega
    rw [e, sum_map_add, sum_neg, sum_one, sum_one]
    simp only at c
    rw [if_pos (by omega), if_pos (by omega)]; omega
theorem flow_sum : ∀ {l : List Du} {b : List Bool}, (∀ d ∈ l, N.ck1 d = 0) → M.sum ((List.range 31).map fun (p : Nat) => flow p l b) = 0
  | [], b, _ => sum_none _ _ fun p _ => by simp [flow, M.sum]
  | d :: l, [], _ => sum_none _ _ fun p _ => by simp [flow, M.sum]
  | d :: l, v :: b, h => by
    have e : (fun (p : Nat) => flow p (d :: l) (v :: b)) = fun (p : Nat) => (fun (p : Nat) => fl p (d, v)) p + (fun (p : Nat) => flow p l b) p := by
      funext p; simp [flow, M.sum]
    rw [e, sum_map_add, fl_sum (h d (by simp)), flow_sum (fun x hx => h x (by simp [hx]))]
    rfl
theorem range_get {l : List Int} : (List.range l.length).map (fun p => l.getD p default) = l := by
  apply List.ext_getElem
  · simp
  · intro i h1 h2; rw [List.getElem_map, List.getElem_range, getD_at h2]
theorem aft_sum {has : List Int} {l : List Du} {b : List Bool} (ok : Ok has l) : M.sum (aft has l b) = M.sum has := by
  unfold aft
  rw [sum_map_add, flow_sum (N.chk_ok ok.c).2]
  have := range_get (l := has)
  rw [ok.n] at this
  rw [this]; omega
theorem sum_take {l : List Int} (h : ∀ x ∈ l, 0 ≤ x) (k : Nat) : 0 ≤ M.sum (l.take k) ∧ M.sum (l.take k) ≤ M.sum l := by
  have e : M.sum l = M.sum (l.take k) + M.sum (l.drop k) := by rw [← M.sum_append, List.take_append_drop]
  have h1 := sum_pos (l := l.take k) fun x hx => h x (List.mem_of_mem_take hx)
  have h2 := sum_pos (l := l.drop k) fun x hx => h x (List.mem_of_mem_drop hx)
  omega
end G
end Go.Proofs.Ytmbcdkgnlididaa
