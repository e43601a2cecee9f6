/- Plain facts on settling all at once: the most that can be done. -/
import Derived.Test.YtmbcdkgnlididaaGridPl
namespace Go.Proofs.Ytmbcdkgnlididaa
set_option linter.unusedVariables false
namespace G
def Pre (l : List Du) (b : List Bool) : Prop := ∀ i j : Nat, i < j → j < l.length → b.getD j default = true → (l.getD i default).fr = (l.getD j default).fr → b.getD i default = true
def Sub (b c : List Bool) : Prop := ∀ i : Nat, b.getD i default = true → c.getD i default = true
structure Adm (has : List Int) (l : List Du) (b : List Bool) : Prop where
  n : b.length = l.length
  pre : Pre l b
  pos : ∀ p : Nat, p < 31 → 0 ≤ (aft has l b).getD p default
structure Inv (has : List Int) (l : List Du) (b : List Bool) : Prop where
  n : b.length = l.length
  pre : Pre l b
  all : ∀ S, Adm has l S → Sub S b
structure Great (has : List Int) (l : List Du) (b : List Bool) : Prop where
  adm : Adm has l b
  all : ∀ S, Adm has l S → Sub S b
noncomputable def best (has : List Int) (l : List Du) : List Bool := Classical.epsilon (Great has l)
theorem getB_lt {b : List Bool} {i : Nat} (h : b.getD i default = true) : i < b.length := by
  rcases Nat.lt_or_ge i b.length with q | q
  · exact q
  · rw [List.getD, List.getElem?_eq_none q] at h; cases h
theorem great_one {has : List Int} {l : List Du} {b c : List Bool} (h : Great has l b) (k : Great has l c) : b = c := by
  apply List.ext_getElem
  · rw [h.adm.n, k.adm.n]
  · intro i h1 h2
    rw [← getD_at h1, ← getD_at h2, Bool.eq_iff_iff]
    exact ⟨k.all b h.adm i, h.all c k.adm i⟩
theorem best_is {has : List Int} {l : List Du} {b : List Bool} (h : Great has l b) : best has l = b := great_one (Classical.epsilon_spec ⟨b, h⟩) h
theorem getD_set_self {b : List Bool} {i : Nat} {v : Bool} (h : i < b.length) : (b.set i v).getD i default = v := by
  simp [List.getD, h]
theorem getD_set_other {b : List Bool} {i j : Nat} {v : Bool} (h : i ≠ j) : (b.set i v).getD j default = b.getD j default := by
  simp [List.getD, List.getElem?_set_ne h]
theorem flow_le {p : Int} : ∀ {l : List Du} {b c : List Bool}, b.length = l.length → c.length = l.length → (∀ d ∈ l, 0 ≤ d.am) → (∀ i : Nat, i < l.length → b.getD i default ≠ c.getD i default → b.getD i default = false ∧ (l.getD i default).fr ≠ p) → flow p l b ≤ flow p l c
  | [], b, c, _, _, _, _ => by simp [flow]
  | d :: r, [], _, h, _, _, _ => by simp at h
  | d :: r, _ :: _, [], _, h, _, _ => by simp at h
  | d :: r, x :: b, y :: c, hb, hc, ha, h => by
    have h1 := flow_le (p := p) (l := r) (b := b) (c := c) (by simpa using hb) (by simpa using hc) (fun z hz => ha z (by simp [hz])) fun i hi hne => by
      have := h (i + 1) (by simpa using hi) (by simpa [List.getD] using hne)
      simpa [List.getD] using this
    have h2 : fl p (d, x) ≤ fl p (d, y) := by
      by_cases e : x = y
      · rw [e]; exact Int.le_refl _
      · obtain ⟨q1, q2⟩ := h 0 (by simp) (by simpa [List.getD] using e)
        have q1 : x = false := by simpa [List.getD] using q1
        have q2 : d.fr ≠ p := by simpa [List.getD] using q2
        subst q1
        have := ha d (by simp)
        cases y
        · exact absurd rfl e
        · unfold fl; simp only [Bool.false_eq_true, if_false, if_true, if_neg q2]; split <;> omega
    unfold flow at *
    simp only [List.zip_cons_cons, List.map_cons, M.sum]
    omega
theorem flow_pos {p : Int} {l : List Du} {b : List Bool} (hb : b.length = l.length) (ha : ∀ d ∈ l, 0 ≤ d.am) (h : ∀ i : Nat, i < l.length → b.getD i default = true → (l.getD i default).fr ≠ p) : 0 ≤ flow p l b := by
  have := flow_le (p := p) (l := l) (b := List.replicate l.length false) (c := b) (by simp) hb ha fun i hi hne => by
    have e : (List.replicate l.length false).getD i default = false := by rw [getD_at (by simpa using hi)]; simp
    rw [e] at hne ⊢
    exact ⟨rfl, h i hi (by cases hq : b.getD i default <;> simp_all)⟩
  rw [flow_no] at this; exact this
theorem am_pos {has : List Int} {l : List Du} (ok : Ok has l) : ∀ d ∈ l, 0 ≤ d.am := fun d hd => by have := N.ck_ok ((N.chk_ok ok.c).2 d hd); omega
theorem inv_start {has : List Int} {l : List Du} : Inv has l (fst l.length l.length) := by
  have e : ∀ i, i < l.length → (fst l.length l.length).getD i default = true := fun i h => by
    rw [getD_at (by rw [fst_len (Nat.le_refl _)]; exact h)]; simp [fst]
  refine ⟨fst_len (Nat.le_refl _), fun i j hij hj _ _ => e i (by omega), fun S hS i hi => e i ?_⟩
  have := getB_lt hi
  rw [hS.n] at this; exact this
/-- a party with less than nothing has a due that is done -/
theorem poor {has : List Int} {l : List Du} {b : List Bool} (ok : Ok has l) (hb : b.length = l.length) {p : Nat} (hp : p < 31) (hn : (aft has l b).getD p default < 0) : ¬ ∀ i : Nat, i < l.length → b.getD i default = true → (l.getD i default).fr ≠ p := fun h => by
  have := flow_pos (p := p) hb (am_pos ok) h
  rw [aft_at hp] at hn
  have := (ok.h _ (getD_mem (l := has) (k := p) (by rw [ok.n]; exact hp))).1
  omega
theorem inv_drop {has : List Int} {l : List Du} {b : List Bool} (ok : Ok has l) (iv : Inv has l b) {p i : Nat} (hp : p < 31) (hn : (aft has l b).getD p default < 0) (hi : i < l.length) (hbi : b.getD i default = true) (hf : (l.getD i default).fr = p)
    (hl : ∀ j : Nat, i < j → j < l.length → b.getD j default = true → (l.getD j default).fr ≠ p) : Inv has l (b.set i false) := by
  have hbl : i < b.length := by rw [iv.n]; exact hi
  have no : ∀ S, Adm has l S → S.getD i default = false := fun S hS => by
    cases hq : S.getD i default
    · rfl
    · exfalso
      have h1 : flow p l S ≤ flow p l b := flow_le hS.n iv.n (am_pos ok) fun j hj hne => by
        have hsub := iv.all S hS j
        have hS0 : S.getD j default = false := by
          cases hs : S.getD j default
          · rfl
          · rw [hs, hsub hs] at hne; exact absurd rfl hne
        refine ⟨hS0, fun hfj => ?_⟩
        have hbj : b.getD j default = true := by
          cases hb : b.getD j default
          · rw [hS0, hb] at hne; exact absurd rfl hne
          · rfl
        rcases Nat.lt_trichotomy j i with q | q | q
        · have := hS.pre j i q hi hq (by rw [hfj, hf])
          rw [hS0] at this; cases this
        · subst q; rw [hq] at hS0; cases hS0
        · exact hl j q hj hbj hfj
      have h2 := hS.pos p hp
      rw [aft_at hp] at h2 hn
      omega
  refine ⟨by rw [List.length_set, iv.n], fun a c hac hc hbc hfr => ?_, fun S hS j hj => ?_⟩
  · have hci : i ≠ c := fun q => by subst q; rw [getD_set_self hbl] at hbc; cases hbc
    rw [getD_set_other hci] at hbc
    have hai : i ≠ a := fun q => by
      subst q
      exact hl c hac hc hbc (by rw [← hfr, hf])
    rw [getD_set_other hai]
    exact iv.pre a c hac hc hbc hfr
  · have hji : i ≠ j := fun q => by subst q; rw [no S hS] at hj; cases hj
    rw [getD_set_other hji]
    exact iv.all S hS j hj
theorem great_of {has : List Int} {l : List Du} {b : List Bool} (iv : Inv has l b) (h : ∀ n ∈ aft has l b, ¬ n < 0) : Great has l b :=
  ⟨⟨iv.n, iv.pre, fun p hp => by have := h _ (getD_mem (l := aft has l b) (k := p) (by rw [aft_len]; exact hp)); omega⟩, iv.all⟩
/-- how many are done -/
def cnt : List Bool → Nat
  | [] => 0
  | x :: r => (if x then 1 else 0) + cnt r
theorem cnt_drop : ∀ {b : List Bool} {i : Nat}, b.getD i default = true → cnt (b.set i false) < cnt b
  | [], i, h => by simp [List.getD] at h
  | x :: r, 0, h => by
    have h : x = true := by simpa [List.getD] using h
    subst h; simp [cnt]
  | x :: r, i + 1, h => by
    have := cnt_drop (b := r) (i := i) (by simpa [List.getD] using h)
    simp only [List.set_cons_succ, cnt]; omega
/-- the places of those that are done, of the first k -/
def plk (b : List Bool) (k : Nat) : List Int := ((List.range k).filter fun i => b.getD i default).map Int.ofNat
theorem plk_succ (b : List Bool) (k : Nat) : plk b (k + 1) = if b.getD k default then plk b k ++ [(k : Int)] else plk b k := by
  unfold plk
  rw [List.range_succ, List.filter_append, List.map_append]
  cases h : b.getD k default <;> simp only [List.filter_cons, List.filter_nil, h] <;> simp
theorem plk_len (b : List Bool) (k : Nat) : (plk b k).length ≤ k := by
  unfold plk
  rw [List.length_map]
  have := List.length_filter_le (fun i => b.getD i default) (List.range k)
  simpa using this
noncomputable def sol (has : List Int) (l : List Du) : List Int := if chk has l = 0 then plk (best has l) l.length else []
end G
end Go.Proofs.Ytmbcdkgnlididaa
