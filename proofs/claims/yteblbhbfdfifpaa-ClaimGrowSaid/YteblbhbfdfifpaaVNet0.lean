/- What is asked of dues: plain, and the functions that check them. -/
import Derived.Test.YteblbhbfdfifpaaVT
import Derived.Test.YteblbhbfdfifpaaVRef
import Derived.Test.YteblbhbfdfifpaaVRet
import Derived.Test.YteblbhbfdfifpaaVOpen
import Derived.Test.YteblbhbfdfifpaaMoneyPl
namespace Go.Proofs.Yteblbhbfdfifpaa
open Go Go.RowKit V
set_option maxRecDepth 100000
set_option linter.unusedVariables false
structure Du where
  fr : Int
  to : Int
  am : Int
instance : Inhabited Du := ⟨⟨0, 0, 0⟩⟩
def encD (d : Du) : List Value := [.int .i64 d.fr, .int .i64 d.to, .int .i64 d.am]
namespace N
def ck1 (d : Du) : Int := if ¬ ((0 ≤ d.fr ∧ d.fr ≤ 30) ∧ (0 ≤ d.to ∧ d.to ≤ 30) ∧ 1 ≤ d.am ∧ d.am ≤ 1152921504606846976) then 3 else if d.fr = d.to then 1 else 0
def chk (l : List Du) : Int := if 60 < l.length then 2 else fb ck1 l
theorem chk_ok {l : List Du} (h : chk l = 0) : l.length ≤ 60 ∧ ∀ d ∈ l, ck1 d = 0 := by
  unfold chk at h
  split at h
  · omega
  · exact ⟨by omega, fb_ok h⟩
theorem ck_ok {d : Du} (h : ck1 d = 0) : (0 ≤ d.fr ∧ d.fr ≤ 30) ∧ (0 ≤ d.to ∧ d.to ≤ 30) ∧ (1 ≤ d.am ∧ d.am ≤ 1152921504606846976) ∧ d.fr ≠ d.to := by
  unfold ck1 at h
  split at h
  · omega
  · split at h <;> omega
end N
end Go.Proofs.Yteblbhbfdfifpaa
