/- Plain facts on settling all at once: with more money no less is done. -/
import Derived.Test.YtmbcdkgnlididaaGridPl6
namespace Go.Proofs.Ytmbcdkgnlididaa
set_option linter.unusedVariables false
namespace G
theorem more_at {has : List Int} {l : List Du} {b : List Bool} {p k : Nat} {x : Int} (hn : has.length = 31) (hk : k < 31) (hp : p < 31) : (aft (has.set p (has.getD p default + x)) l b).getD k default = (aft has l b).getD k default + (if k = p then x else 0) := by
  rw [aft_at hk, aft_at hk]
  by_cases e : k = p
  · subst e
    rw [if_pos rfl, getD_at (by rw [List.length_set]; omega), List.getElem_set_self]; omega
  · rw [if_neg e, getD_set_ne (Ne.symm e)]; omega
theorem more_adm {has : List Int} {l : List Du} {b : List Bool} {p : Nat} {x : Int} (hn : has.length = 31) (hp : p < 31) (hx : 0 ≤ x) (h : Adm has l b) : Adm (has.set p (has.getD p default + x)) l b :=
  ⟨h.n, h.pre, fun k hk => by
    rw [more_at hn hk hp]
    have := h.pos k hk
    split <;> omega⟩
theorem more_chk {has has' : List Int} {l : List Du} (h : chk has l = 0) (hn : has'.length = 31) : chk has' l = 0 ∨ chk has' l = 3 ∨ chk has' l = 8 := by
  have ok := chk_ok h
  unfold chk
  rw [if_neg (by omega)]
  split
  · omega
  rw [if_neg (by rw [ok.c]; omega)]
  split <;> omega
theorem more_sub {has : List Int} {l : List Du} {p : Nat} {x : Int} (h : chk has l = 0) (hp : p < 31) (hx : 0 ≤ x) (h' : chk (has.set p (has.getD p default + x)) l = 0) : ∀ y ∈ sol has l, y ∈ sol (has.set p (has.getD p default + x)) l := fun y hy => by
  have g := great (chk_ok h)
  have g' := great (chk_ok h')
  rw [sol_ok h] at hy
  rw [sol_ok h']
  obtain ⟨i, e, hi, hb⟩ := mem_plk.1 hy
  exact mem_plk.2 ⟨i, e, hi, g'.all _ (more_adm (chk_ok h).n hp hx g.adm) i hb⟩
theorem sol_sorted {has : List Int} {l : List Du} : (sol has l).Pairwise (· < ·) := by
  unfold sol; split
  · exact plk_sorted _ _
  · exact List.Pairwise.nil
theorem sol_len (has : List Int) (l : List Du) : (sol has l).length ≤ l.length := by
  unfold sol; split
  · exact plk_len _ _
  · exact Nat.zero_le _
theorem sorted_lt {l : List Int} (h : l.Pairwise (· < ·)) {i j : Nat} (hij : i < j) (hj : j < l.length) : l.getD i default < l.getD j default := by
  rw [getD_at hj, getD_at (by omega)]
  exact List.pairwise_iff_getElem.1 h i j (by omega) hj hij
theorem sorted_at {l : List Int} {x : Int} (hx : x ∈ l) : ∃ k : Nat, k < l.length ∧ l.getD k default = x := by
  obtain ⟨k, hk, e⟩ := List.getElem_of_mem hx
  exact ⟨k, hk, by rw [getD_at hk, e]⟩
/-- how many of the first k are from p -/
def ct (l : List Du) (p : Nat) (k : Nat) : Nat := ((l.take k).filter fun d => decide (d.fr = (p : Int))).length
theorem ct_succ {l : List Du} {p k : Nat} (h : k < l.length) : ct l p (k + 1) = ct l p k + if (l.getD k default).fr = p then 1 else 0 := by
  unfold ct
  rw [List.take_succ_eq_append_getElem h, List.filter_append, List.length_append, getD_at h]
  by_cases q : l[k].fr = p <;> simp [q]
theorem ct_mono (l : List Du) (p : Nat) {i : Nat} : ∀ {j : Nat}, i ≤ j → j ≤ l.length → ct l p i ≤ ct l p j
  | 0, h, _ => by have : i = 0 := by omega
                  subst this; exact Nat.le_refl _
  | j + 1, h, hj => by
    rcases Nat.eq_or_lt_of_le h with rfl | h
    · exact Nat.le_refl _
    · have := ct_mono l p (i := i) (j := j) (by omega) (by omega)
      rw [ct_succ (by omega)]; omega
theorem ct_le (l : List Du) (p k : Nat) : ct l p k ≤ k := by
  have h1 := List.length_filter_le (fun d : Du => decide (d.fr = (p : Int))) (l.take k)
  have h2 := List.length_take_le k l
  unfold ct; omega
/-- of each party the first so many dues -/
def ofs (l : List Du) (many : List Int) : List Bool := (List.range l.length).map fun i => decide ((l.getD i default).fr < many.length ∧ (ct l (l.getD i default).fr.toNat i : Int) < many.getD (l.getD i default).fr.toNat default)
theorem ofs_len (l : List Du) (many : List Int) : (ofs l many).length = l.length := by simp [ofs]
theorem ofs_at {l : List Du} {many : List Int} {i : Nat} (h : i < l.length) : (ofs l many).getD i default = decide ((l.getD i default).fr < many.length ∧ (ct l (l.getD i default).fr.toNat i : Int) < many.getD (l.getD i default).fr.toNat default) := by
  rw [getD_at (by rw [ofs_len]; exact h)]; simp [ofs]
theorem ofs_pre (l : List Du) (many : List Int) : Pre l (ofs l many) := fun i j hij hj hb e => by
  rw [ofs_at hj] at hb
  rw [ofs_at (by omega), e]
  have := of_decide_eq_true hb
  have m := ct_mono l (l.getD j default).fr.toNat (i := i) (j := j) (by omega) (by omega)
  exact decide_eq_true (by omega)
/-- the counts -/
def cts (l : List Du) (k : Nat) : List Int := (List.range 31).map fun p => (ct l p k : Int)
theorem cts_len (l : List Du) (k : Nat) : (cts l k).length = 31 := by simp [cts]
theorem cts_at {l : List Du} {k p : Nat} (h : p < 31) : (cts l k).getD p default = ct l p k := by
  rw [getD_at (by rw [cts_len]; exact h)]; simp [cts]
theorem cts_zero (l : List Du) : cts l 0 = List.replicate 31 0 := by
  apply List.ext_getElem
  · rw [cts_len, List.length_replicate]
  · intro i h1 h2
    rw [List.getElem_replicate, ← getD_at h1, cts_at (by rw [cts_len] at h1; exact h1)]
    simp [ct]
theorem cts_succ {l : List Du} {k p : Nat} (h : k < l.length) (e : (l.getD k default).fr = p) (hp : p < 31) : cts l (k + 1) = (cts l k).set p ((cts l k).getD p default + 1) := by
  apply List.ext_getElem
  · rw [List.length_set, cts_len, cts_len]
  · intro i h1 h2
    have hi : i < 31 := by rw [cts_len] at h1; exact h1
    have e1 : (cts l k)[i]'(by rw [cts_len]; exact hi) = ct l i k := by rw [← getD_at (by rw [cts_len]; exact hi), cts_at hi]
    rw [List.getElem_set, e1, ← getD_at h1, cts_at hi, cts_at hp, ct_succ h, e]
    by_cases q : p = i
    · subst q; rw [if_pos rfl, if_pos rfl]; omega
    · rw [if_neg q, if_neg (by omega)]; omega
end G
end Go.Proofs.Ytmbcdkgnlididaa
