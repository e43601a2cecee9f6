/- Plain facts on fails for the laws. -/
import Derived.Test.YtblibhmmliljgaaFailPl2
namespace Go.Proofs.Ytblibhmmliljgaa.F
theorem paid_ok {f : Fl} (h : less f 1 = 0) : Ok (addPd f (left f)) ∧ left (addPd f (left f)) = 0 ∧ 0 < left f := by
  obtain ⟨⟨a, b, ⟨⟨p1, p2⟩, ⟨p3, p4⟩, p5, p6⟩, d⟩, _, _, u⟩ := less_ok h
  unfold left at u ⊢
  refine ⟨⟨a, b, ⟨⟨p1, p2⟩, ⟨p3, p4⟩, ?_, ?_⟩, ?_⟩, ?_, ?_⟩ <;> (try simp only [addPd]) <;> omega
theorem done_less {f : Fl} (h : less f 1 = 0) (u : Int) : less (addPd f (left f)) u = if 1 ≤ u ∧ u ≤ 1073741824 then 5 else 3 := by
  obtain ⟨a, b, _⟩ := paid_ok h
  by_cases c : 1 ≤ u ∧ u ≤ 1073741824
  · rw [if_pos c, less_3 (chk_of a) c b]
  · rw [if_neg c, less_2 (chk_of a) c]
theorem deliver_ok {f : Fl} {u : Int} (h : less f u = 0) : Ok (addDe f u) ∧ left (addDe f u) = left f - u := by
  obtain ⟨⟨a, b, ⟨⟨p1, p2⟩, ⟨p3, p4⟩, p5, p6⟩, d⟩, _, _, u⟩ := less_ok h
  unfold left at u ⊢
  refine ⟨⟨a, b, ⟨⟨?_, ?_⟩, ⟨p3, p4⟩, p5, p6⟩, ?_⟩, ?_⟩ <;> (try simp only [addDe]) <;> omega
theorem buy_ok {f : Fl} {u : Int} (h : less f u = 0) : Ok (addBo f u) ∧ left (addBo f u) = left f - u := by
  obtain ⟨⟨a, b, ⟨⟨p1, p2⟩, ⟨p3, p4⟩, p5, p6⟩, d⟩, _, _, u⟩ := less_ok h
  unfold left at u ⊢
  refine ⟨⟨a, b, ⟨⟨p1, p2⟩, ⟨?_, ?_⟩, p5, p6⟩, ?_⟩, ?_⟩ <;> (try simp only [addBo]) <;> omega
/-- what becomes of a fail by a step that is tried -/
def tryDe (f : Fl) (u : Int) : Fl := if less f u = 0 then addDe f u else f
def tryBo (f : Fl) (u : Int) : Fl := if less f u = 0 then addBo f u else f
def tryPd (f : Fl) : Fl := if less f 1 = 0 then addPd f (left f) else f
theorem less_one {f : Fl} (h : Ok f) : less f 1 = 0 ∨ (less f 1 = 5 ∧ left f = 0) := by
  have hb := ok_bounds h
  by_cases b : left f = 0
  · exact .inr ⟨less_3 (chk_of h) (by omega) b, b⟩
  · exact .inl (less_5 (chk_of h) (by omega) b (by omega))
theorem sum_left {f : Fl} : f.de + f.bo + f.pd = f.un - left f := by unfold left; omega
/-- delivered, and then some more -/
theorem parts {f : Fl} {a b : Int} (h : less f a = 0) (hb : 1 ≤ b) (hb2 : b ≤ 1073741824) :
    (less (addDe f a) b = 0 ∧ less f (a + b) = 0 ∧ less (addBo f b) a = 0 ∧ less f b = 0) ∨ (less (addDe f a) b ≠ 0 ∧ less f (a + b) ≠ 0) := by
  obtain ⟨hok, a1, a2, a3⟩ := less_ok h
  obtain ⟨k1, k2⟩ := deliver_ok h
  have hbd := ok_bounds hok
  by_cases c : b ≤ left f - a
  · left
    have e4 : less f b = 0 := less_5 (chk_of hok) (by omega) (by omega) (by omega)
    obtain ⟨m1, m2⟩ := buy_ok e4
    refine ⟨less_5 (chk_of k1) (by omega) (by omega) (by omega), less_5 (chk_of hok) (by omega) (by omega) (by omega), less_5 (chk_of m1) (by omega) (by omega) (by omega), e4⟩
  · right
    refine ⟨fun q => ?_, fun q => ?_⟩
    · obtain ⟨_, _, _, q4⟩ := less_ok q; omega
    · obtain ⟨_, _, _, q4⟩ := less_ok q; omega
theorem parts_no {f : Fl} {b : Int} (hb : ¬ (1 ≤ b ∧ b ≤ 1073741824)) : less f b ≠ 0 := fun q => by
  obtain ⟨_, q2, q3, _⟩ := less_ok q; omega
end Go.Proofs.Ytblibhmmliljgaa.F
