/- Plain facts on lots. -/
import Derived.Test.YteblbhbfdfifpaaLists
import Derived.Test.YteblbhbfdfifpaaBase
namespace Go.Proofs.Yteblbhbfdfifpaa
open Go
structure Lt where
  day : Int
  un : Int
  co : Int
instance : Inhabited Lt := ⟨⟨0, 0, 0⟩⟩
def encL (l : Lt) : List Go.Value := [.int .i64 l.day, .int .i64 l.un, .int .i64 l.co]
end Go.Proofs.Yteblbhbfdfifpaa
