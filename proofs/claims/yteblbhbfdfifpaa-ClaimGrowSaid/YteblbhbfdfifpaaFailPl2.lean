/- Plain facts on fails that are looked for. -/
import Derived.Test.YteblbhbfdfifpaaFailPl
namespace Go.Proofs.Yteblbhbfdfifpaa.F
def fndV (id : Int) (l : List Fl) : Int := if checks l ≠ 0 then 0 else if idx id l 0 < 0 then 0 else idx id l 0
def fndE (id : Int) (l : List Fl) : Int := if checks l ≠ 0 then checks l else if idx id l 0 < 0 then 5 else 0
theorem fnd_1 {id : Int} {l : List Fl} (h : checks l ≠ 0) : fndV id l = 0 ∧ fndE id l = checks l := ⟨if_pos h, if_pos h⟩
theorem fnd_2 {id : Int} {l : List Fl} (h : checks l = 0) (k : idx id l 0 < 0) : fndV id l = 0 ∧ fndE id l = 5 := by
  unfold fndV fndE; rw [if_neg (by simpa using h), if_pos k, if_neg (by simpa using h), if_pos k]; exact ⟨rfl, rfl⟩
theorem fnd_3 {id : Int} {l : List Fl} (h : checks l = 0) (k : ¬ idx id l 0 < 0) : fndV id l = idx id l 0 ∧ fndE id l = 0 := by
  unfold fndV fndE; rw [if_neg (by simpa using h), if_neg k, if_neg (by simpa using h), if_neg k]; exact ⟨rfl, rfl⟩
end Go.Proofs.Yteblbhbfdfifpaa.F
