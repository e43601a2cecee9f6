/- Plain facts on fails for the laws. -/
import Derived.Test.YtblibhmmliljgaaFailPl2
namespace Go.Proofs.Ytblibhmmliljgaa.F
theorem paid_ok {f : Fl} (h : less f 1 = 0) : Ok (addPd f (left f)) ∧ left (addPd f (left f)) = 0 ∧ 0 < left f := by
  obtain ⟨⟨a, b, ⟨⟨p1, p2⟩, ⟨p3, p4⟩, p5, p6⟩, d⟩, _, _, u⟩ := less_ok h
  unfold left at u ⊢
  refine ⟨⟨a, b, ⟨⟨p1, p2⟩, ⟨p3, p4⟩, ?_, ?_⟩, ?_⟩, ?_, ?_⟩ <;> (try simp only [addPd]) <;> omega
theorem done_less {f : Fl} (h : less f 1 = 0) (u : Int) : less (addPd f (left f)) u = if 1 ≤ u ∧ u ≤ 1073741824 then 5 else 3 := by
  obtain ⟨a, b, _⟩ := paid_ok h
  by_cases c : 1 ≤ u ∧ u ≤ 1073741824
  · rw [if_pos c, less_3 (chk_of a) c b]
  · rw [if_neg c, less_2 (chk_of a) c]
end Go.Proofs.Ytblibhmmliljgaa.F
