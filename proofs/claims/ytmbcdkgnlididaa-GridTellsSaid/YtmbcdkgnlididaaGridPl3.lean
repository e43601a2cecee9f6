/- Plain facts on settling all at once: behind what is done. -/
import Derived.Test.YtmbcdkgnlididaaGridPl2
namespace Go.Proofs.Ytmbcdkgnlididaa
set_option linter.unusedVariables false
namespace G
/-- the places are places, each behind the one ahead -/
def scn (n : Int) : Int → List Int → Int
  | _, [] => 0
  | last, i :: r => if i < 0 ∨ n ≤ i then 3 else if i ≤ last then 4 else scn n i r
def mk (n : Nat) (done : List Int) : List Bool := (List.range n).map fun (i : Nat) => decide ((i : Int) ∈ done)
theorem mk_len (n : Nat) (done : List Int) : (mk n done).length = n := by simp [mk]
theorem mk_at {n i : Nat} {done : List Int} (h : i < n) : (mk n done).getD i default = decide ((i : Int) ∈ done) := by
  rw [getD_at (by rw [mk_len]; exact h)]; simp [mk]
theorem mk_nil (n : Nat) : mk n [] = List.replicate n false := by
  apply List.ext_getElem <;> simp [mk]
theorem mk_snoc {n i : Nat} {done : List Int} (h : i < n) : mk n (done ++ [(i : Int)]) = (mk n done).set i true := by
  apply List.ext_getElem
  · simp [mk]
  · intro k h1 h2
    simp only [mk, List.getElem_map, List.getElem_range, List.getElem_set, List.mem_append, List.mem_singleton]
    by_cases e : i = k
    · subst e; simp
    · have : ¬ (k : Int) = i := by omega
      simp [e, this]
def lst (done : List Int) (k : Nat) : Int := if k = 0 then -1 else done.getD (k - 1) default
theorem lst_succ (done : List Int) (k : Nat) : lst done (k + 1) = done.getD k default := by
  unfold lst; rw [if_neg (by omega)]; rfl
structure Scan (n : Nat) (done : List Int) (k : Nat) : Prop where
  hk : k ≤ done.length
  e : scn n (-1) done = scn n (lst done k) (done.drop k)
  b : ∀ x ∈ done.take k, (0 ≤ x ∧ x < n) ∧ x ≤ lst done k
  l : -1 ≤ lst done k ∧ lst done k < n ∨ k = 0
theorem scan0 (n : Nat) (done : List Int) : Scan n done 0 := ⟨Nat.zero_le _, rfl, by simp, .inr rfl⟩
theorem scan_at {n : Nat} {done : List Int} {k : Nat} (h : Scan n done k) (hk : k < done.length) :
    scn n (-1) done = if done.getD k default < 0 ∨ n ≤ done.getD k default then 3 else if done.getD k default ≤ lst done k then 4 else scn n (done.getD k default) (done.drop (k + 1)) := by
  rw [h.e, List.drop_eq_getElem_cons hk, getD_at hk]; rfl
theorem scan_on {n : Nat} {done : List Int} {k : Nat} (h : Scan n done k) (hk : k < done.length) (h1 : ¬ (done.getD k default < 0 ∨ n ≤ done.getD k default)) (h2 : ¬ done.getD k default ≤ lst done k) : Scan n done (k + 1) := by
  refine ⟨by omega, ?_, ?_, .inl ?_⟩
  · rw [scan_at h hk, if_neg h1, if_neg h2, lst_succ]
  · rw [lst_succ]
    exact all_snoc hk (fun x hx => by have := h.b x hx; omega) (by omega)
  · rw [lst_succ]; omega
theorem scan_new {n : Nat} {done : List Int} {k : Nat} (h : Scan n done k) (h2 : ¬ done.getD k default ≤ lst done k) : done.getD k default ∉ done.take k := fun q => by
  have := h.b _ q; omega
theorem scan_end {n : Nat} {done : List Int} (h : Scan n done done.length) : scn n (-1) done = 0 := by
  rw [h.e, List.drop_length]; rfl
def aE (has : List Int) (l : List Du) (done : List Int) : Int :=
  if chk has l ≠ 0 then chk has l else if l.length < done.length then 2 else if scn l.length (-1) done ≠ 0 then scn l.length (-1) done else if lmin (aft has l (mk l.length done)) < 0 then 8 else 0
def aV (has : List Int) (l : List Du) (done : List Int) : List Int := if aE has l done = 0 then aft has l (mk l.length done) else []
theorem a_1 {has : List Int} {l : List Du} {done : List Int} (h : chk has l ≠ 0) : aE has l done = chk has l ∧ aV has l done = [] := by
  have e : aE has l done = chk has l := if_pos h
  exact ⟨e, by unfold aV; rw [e, if_neg h]⟩
theorem a_2 {has : List Int} {l : List Du} {done : List Int} (h : chk has l = 0) (h2 : l.length < done.length) : aE has l done = 2 ∧ aV has l done = [] := by
  have e : aE has l done = 2 := by unfold aE; rw [if_neg (by omega), if_pos h2]
  exact ⟨e, by unfold aV; rw [e]; rfl⟩
theorem a_3 {has : List Int} {l : List Du} {done : List Int} {x : Int} (h : chk has l = 0) (h2 : ¬ l.length < done.length) (h3 : scn l.length (-1) done = x) (hx : x ≠ 0) : aE has l done = x ∧ aV has l done = [] := by
  have e : aE has l done = x := by unfold aE; rw [if_neg (by omega), if_neg h2, if_pos (by rw [h3]; exact hx), h3]
  exact ⟨e, by unfold aV; rw [e, if_neg hx]⟩
theorem a_4 {has : List Int} {l : List Du} {done : List Int} (h : chk has l = 0) (h2 : ¬ l.length < done.length) (h3 : scn l.length (-1) done = 0) (h4 : lmin (aft has l (mk l.length done)) < 0) : aE has l done = 8 ∧ aV has l done = [] := by
  have e : aE has l done = 8 := by unfold aE; rw [if_neg (by omega), if_neg h2, if_neg (by omega), if_pos h4]
  exact ⟨e, by unfold aV; rw [e]; rfl⟩
theorem a_5 {has : List Int} {l : List Du} {done : List Int} (h : chk has l = 0) (h2 : ¬ l.length < done.length) (h3 : scn l.length (-1) done = 0) (h4 : ¬ lmin (aft has l (mk l.length done)) < 0) : aE has l done = 0 ∧ aV has l done = aft has l (mk l.length done) := by
  have e : aE has l done = 0 := by unfold aE; rw [if_neg (by omega), if_neg h2, if_neg (by omega), if_neg h4]
  exact ⟨e, by unfold aV; rw [e]; rfl⟩
end G
end Go.Proofs.Ytmbcdkgnlididaa
