/- Plain facts on settling all at once. -/
import Derived.Test.YtmbcdkgnlididaaVNet0
namespace Go.Proofs.Ytmbcdkgnlididaa
set_option linter.unusedVariables false
namespace G
def bad (n : Int) : Bool := decide (n < 0 ∨ 1152921504606846976 < n)
def sumD (l : List Du) : Int := M.sum (l.map (·.am))
def chk (has : List Int) (l : List Du) : Int :=
  if has.length ≠ 31 then 1 else if ixf bad has ≠ -1 then 3 else if N.chk l ≠ 0 then N.chk l else if 1152921504606846976 < M.sum has + sumD l then 8 else 0
structure Ok (has : List Int) (l : List Du) : Prop where
  n : has.length = 31
  h : ∀ n ∈ has, 0 ≤ n ∧ n ≤ 1152921504606846976
  c : N.chk l = 0
  s : M.sum has + sumD l ≤ 1152921504606846976
theorem bad_no {has : List Int} (h : ixf bad has = -1) : ∀ n ∈ has, 0 ≤ n ∧ n ≤ 1152921504606846976 := by
  rcases ixf_cases bad has with ⟨_, a⟩ | ⟨k, e, _⟩
  · intro n hn
    have := a n hn
    unfold bad at this
    simp at this; omega
  · omega
theorem bad_yes {has : List Int} (h : ixf bad has ≠ -1) : ¬ ∀ n ∈ has, 0 ≤ n ∧ n ≤ 1152921504606846976 := by
  rcases ixf_cases bad has with ⟨e, _⟩ | ⟨k, e, hk, hp, _⟩
  · exact absurd e h
  · intro q
    have := q _ (List.getElem_mem hk)
    rw [getD_at hk] at hp
    unfold bad at hp
    simp at hp; omega
theorem chk_ok {has : List Int} {l : List Du} (h : chk has l = 0) : Ok has l := by
  unfold chk at h
  split at h
  · omega
  split at h
  · omega
  split at h
  · exact absurd h ‹_›
  split at h
  · omega
  rename_i a b c d
  exact ⟨by omega, bad_no (Classical.not_not.1 b), Classical.not_not.1 c, by omega⟩
theorem ok_chk {has : List Int} {l : List Du} (h : Ok has l) : chk has l = 0 := by
  unfold chk
  rw [if_neg (by rw [h.n]; omega), if_neg (fun q => bad_yes q h.h), if_neg (by rw [h.c]; omega), if_neg (by have := h.s; omega)]
/-- what is left of the most that may be, -1: more than that was taken -/
def lf (s : Int) : Int := if s ≤ 1152921504606846976 then 1152921504606846976 - s else -1
theorem lf_bd {s : Int} (h : 0 ≤ s) : -1 ≤ lf s ∧ lf s ≤ 1152921504606846976 := by unfold lf; split <;> omega
theorem lf_more {s n : Int} (h : 0 ≤ s) (hn : 0 ≤ n) : lf (s + n) = lf s - (if lf s + 1 < n then lf s + 1 else n) := by
  unfold lf; (repeat' split) <;> omega
theorem sum_snoc {l : List Int} {k : Nat} (h : k < l.length) : M.sum (l.take (k + 1)) = M.sum (l.take k) + l.getD k default := by
  rw [List.take_succ_eq_append_getElem h, M.sum_append, getD_at h]; simp [M.sum]
theorem sumD_snoc {l : List Du} {k : Nat} (h : k < l.length) : sumD (l.take (k + 1)) = sumD (l.take k) + (l.getD k default).am := by
  unfold sumD
  rw [List.take_succ_eq_append_getElem h, List.map_append, M.sum_append, getD_at h]; simp [M.sum]
theorem sum_pos {l : List Int} (h : ∀ a ∈ l, 0 ≤ a) : 0 ≤ M.sum l := by
  induction l with
  | nil => simp [M.sum]
  | cons a r ih => have := h a (by simp); have := ih fun x hx => h x (by simp [hx]); simp only [M.sum]; omega
theorem sumD_pos {l : List Du} (h : ∀ d ∈ l, 0 ≤ d.am) : 0 ≤ sumD l := sum_pos fun a ha => by
  obtain ⟨d, hd, rfl⟩ := List.mem_map.1 ha; exact h d hd
/-- what a party gets and gives by what is done -/
def fl (p : Int) (x : Du × Bool) : Int := if x.2 then (if x.1.to = p then x.1.am else 0) - (if x.1.fr = p then x.1.am else 0) else 0
def flow (p : Int) (l : List Du) (b : List Bool) : Int := M.sum ((l.zip b).map (fl p))
theorem flow_no {p : Int} {l : List Du} {n : Nat} : flow p l (List.replicate n false) = 0 := by
  unfold flow
  have : ∀ (l : List Du) (n : Nat), M.sum ((l.zip (List.replicate n false)).map (fl p)) = 0 := fun l => by
    induction l with
    | nil => intro n; simp [M.sum]
    | cons d r ih =>
      intro n
      cases n with
      | zero => simp [M.sum]
      | succ n => simp only [List.replicate_succ, List.zip_cons_cons, List.map_cons, M.sum, ih n]; simp [fl]
  exact this l n
/-- what all have then -/
def aft (has : List Int) (l : List Du) (b : List Bool) : List Int := (List.range 31).map fun p => has.getD p default + flow p l b
theorem aft_len (has : List Int) (l : List Du) (b : List Bool) : (aft has l b).length = 31 := by simp [aft]
theorem aft_at {has : List Int} {l : List Du} {b : List Bool} {p : Nat} (h : p < 31) : (aft has l b).getD p default = has.getD p default + flow p l b := by
  rw [getD_at (by rw [aft_len]; exact h)]; simp [aft]
theorem sum_set : ∀ {l : List Int} {i : Nat} {x : Int} (h : i < l.length), M.sum (l.set i x) = M.sum l - l[i] + x
  | a :: r, 0, x, _ => by simp [M.sum]; omega
  | a :: r, i + 1, x, h => by
    have := sum_set (l := r) (i := i) (x := x) (by simpa using h)
    simp only [List.set_cons_succ, M.sum, this, List.getElem_cons_succ]; omega
theorem flow_set {p : Int} {l : List Du} {b : List Bool} {i : Nat} {v : Bool} (h : i < l.length) (hb : b.length = l.length) : flow p l (b.set i v) = flow p l b - fl p (l.getD i default, b.getD i default) + fl p (l.getD i default, v) := by
  have hz : i < ((l.zip b).map (fl p)).length := by simp; omega
  have e : (l.zip (b.set i v)).map (fl p) = ((l.zip b).map (fl p)).set i (fl p (l.getD i default, v)) := by
    apply List.ext_getElem
    · simp
    · intro k h1 h2
      simp only [List.getElem_map, List.getElem_zip, List.getElem_set]
      by_cases hk : i = k
      · subst hk; have eg := getD_at h; simp only [if_true]; rw [eg]
      · simp [hk]
  unfold flow
  rw [e, sum_set hz]
  have : ((l.zip b).map (fl p))[i] = fl p (l.getD i default, b.getD i default) := by
    rw [getD_at h, getD_at (by omega)]; simp
  omega
theorem set_set_ext {l m : List Int} {i j : Nat} {x y : Int} (hl : l.length = m.length) (hj : j < l.length) (hi : i < l.length) (hne : i ≠ j) (h1 : m.getD i default = x) (h2 : m.getD j default = y) (h3 : ∀ k, k < l.length → k ≠ i → k ≠ j → m.getD k default = l.getD k default) : (l.set i x).set j y = m := by
  apply List.ext_getElem
  · simp [hl]
  · intro k h4 h5
    simp only [List.getElem_set]
    rw [← getD_at h5]
    by_cases e1 : j = k
    · rw [if_pos e1, ← e1]; exact h2.symm
    · rw [if_neg e1]
      by_cases e2 : i = k
      · rw [if_pos e2, ← e2]; exact h1.symm
      · have h6 : k < l.length := by omega
        rw [if_neg e2, h3 k h6 (Ne.symm e2) (Ne.symm e1), getD_at h6]
theorem getD_set_ne {l : List Int} {i j : Nat} {x : Int} (h : i ≠ j) : (l.set i x).getD j default = l.getD j default := by
  simp [List.getD, List.getElem?_set_ne h]
theorem aft_no {has : List Int} {l : List Du} {n : Nat} (h : has.length = 31) : aft has l (List.replicate n false) = has := by
  apply List.ext_getElem
  · rw [aft_len, h]
  · intro k h1 h2
    rw [← getD_at h1, ← getD_at h2, aft_at (by omega), flow_no]; omega
theorem fl_bd {p : Int} {x : Du × Bool} (h : 0 ≤ x.1.am) : -x.1.am ≤ fl p x ∧ fl p x ≤ x.1.am := by
  unfold fl; (repeat' split) <;> omega
theorem flow_bd {p : Int} : ∀ {l : List Du} {b : List Bool}, (∀ d ∈ l, 0 ≤ d.am) → -sumD l ≤ flow p l b ∧ flow p l b ≤ sumD l
  | [], b, _ => by simp [flow, sumD, M.sum]
  | d :: r, [], h => by
    have := sumD_pos h
    simp [flow, M.sum]; omega
  | d :: r, v :: b, h => by
    obtain ⟨h1, h2⟩ := flow_bd (p := p) (l := r) (b := b) fun x hx => h x (by simp [hx])
    have h3 := fl_bd (p := p) (x := (d, v)) (h d (by simp))
    unfold flow sumD at *
    simp only [List.zip_cons_cons, List.map_cons, M.sum] at *
    omega
theorem mem_sum : ∀ {l : List Int}, (∀ a ∈ l, 0 ≤ a) → ∀ a ∈ l, a ≤ M.sum l
  | [], _, _, h => by simp at h
  | b :: r, h, a, ha => by
    have h1 := h b (by simp)
    have h2 := sum_pos (l := r) fun x hx => h x (by simp [hx])
    simp only [M.sum]
    rcases List.mem_cons.1 ha with rfl | q
    · omega
    · have := mem_sum (l := r) (fun x hx => h x (by simp [hx])) a q; omega
theorem aft_bd {has : List Int} {l : List Du} {b : List Bool} (ok : Ok has l) {p : Nat} (hp : p < 31) : -1152921504606846976 ≤ (aft has l b).getD p default ∧ (aft has l b).getD p default ≤ 1152921504606846976 := by
  rw [aft_at hp]
  have h1 := mem_sum (fun a ha => (ok.h a ha).1) _ (getD_mem (l := has) (k := p) (by rw [ok.n]; exact hp))
  have h2 := (ok.h _ (getD_mem (l := has) (k := p) (by rw [ok.n]; exact hp))).1
  have h3 := flow_bd (p := p) (l := l) (b := b) fun d hd => by have := N.ck_ok ((N.chk_ok ok.c).2 d hd); omega
  have := ok.s
  omega
/-- the first k are done -/
def fst (n k : Nat) : List Bool := List.replicate k true ++ List.replicate (n - k) false
theorem fst_len {n k : Nat} (h : k ≤ n) : (fst n k).length = n := by simp [fst]; omega
theorem fst_at {n k : Nat} (h : k < n) : (fst n k).getD k default = false := by
  rw [getD_at (by rw [fst_len (by omega)]; exact h)]; simp [fst]
theorem fst_succ {n k : Nat} (h : k < n) : (fst n k).set k true = fst n (k + 1) := by
  apply List.ext_getElem
  · rw [List.length_set, fst_len (by omega), fst_len (by omega)]
  · intro i h1 h2
    rw [List.getElem_set]
    simp only [fst, List.getElem_append, List.length_replicate, List.getElem_replicate]
    (repeat' split) <;> first | rfl | omega
/-- a due is done, or undone -/
theorem aft_do {has : List Int} {l : List Du} {b : List Bool} {i : Nat} {v : Bool} {s : Int} (h : i < l.length) (hb : b.length = l.length) (hd : N.ck1 (l.getD i default) = 0) (hv : b.getD i default = !v) (hs : s = if v then 1 else -1) :
    ((aft has l b).set (l.getD i default).fr.toNat ((aft has l b).getD (l.getD i default).fr.toNat default - s * (l.getD i default).am)).set (l.getD i default).to.toNat
      (((aft has l b).set (l.getD i default).fr.toNat ((aft has l b).getD (l.getD i default).fr.toNat default - s * (l.getD i default).am)).getD (l.getD i default).to.toNat default + s * (l.getD i default).am) = aft has l (b.set i v) := by
  obtain ⟨⟨f0, f1⟩, ⟨t0, t1⟩, ⟨a0, a1⟩, ne⟩ := N.ck_ok hd
  generalize hd' : l.getD i default = d at *
  have e : ∀ p : Int, flow p l (b.set i v) = flow p l b + s * ((if d.to = p then d.am else 0) - (if d.fr = p then d.am else 0)) := fun p => by
    rw [flow_set h hb, hd', hv]
    unfold fl
    subst hs
    cases v <;> simp <;> omega
  have hf : d.fr.toNat ≠ d.to.toNat := by omega
  have ea : ∀ p : Nat, p < 31 → (aft has l (b.set i v)).getD p default = (aft has l b).getD p default + s * ((if d.to = p then d.am else 0) - (if d.fr = p then d.am else 0)) := fun p hp => by
    rw [aft_at hp, aft_at hp, e]; omega
  rw [getD_set_ne hf]
  refine set_set_ext (by rw [aft_len, aft_len]) (by rw [aft_len]; omega) (by rw [aft_len]; omega) hf ?_ ?_ ?_
  · rw [ea _ (by omega), if_neg (by omega), if_pos (by omega), Int.zero_sub, Int.mul_neg]; omega
  · rw [ea _ (by omega), if_pos (by omega), if_neg (by omega), Int.sub_zero]
  · intro k hk h1 h2
    rw [aft_len] at hk
    rw [ea k hk, if_neg (by omega), if_neg (by omega)]; omega
end G
end Go.Proofs.Ytmbcdkgnlididaa
