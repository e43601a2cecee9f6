/- The walk of the laws' own helper. -/
import Derived.Test.YtblibhmmliljgaaFailL3
namespace Go.Proofs.Ytblibhmmliljgaa
open Go.RowKit Go.Maps
set_option maxRecDepth 100000

theorem some_any (w : World) : Calls Try.prog 26 #[] w fun e w' => e = .returned (.agg #[.int .i64 7, .int .i64 1, .int .i64 2, .int .i64 0, .int .i64 3, .int .i64 739935, .int .i64 100, .int .i64 0, .int .i64 0, .int .i64 0]) ∧ Below w.heap.size w w' := by
  go_enter Try.func26, Try.ntmps26
  go_wp2
  refine bodyPost_ret (v := .agg #[.int .i64 7, .int .i64 1, .int .i64 2, .int .i64 0, .int .i64 3, .int .i64 739935, .int .i64 100, .int .i64 0, .int .i64 0, .int .i64 0]) ?_ rfl ?_
  · simp [results, Try.results26, go_sem]
  · refine ⟨rfl, ?_⟩
    (repeat (first | with_reducible exact Below.refl _ _ | (with_reducible refine bset ?_ ?_ _; focus (first | (simp; done) | (simp; omega) | omega)) | with_reducible refine balloc ?_ _ | with_reducible refine bdrew ?_ | with_reducible refine bthen ?_ (by assumption)))

namespace F
def s0 : Fl := ⟨7, 1, 2, 0, 3, 739935, 100, 0, 0, 0⟩
def s1 : Fl := ⟨7, 1, 2, 0, 3, 739935, 100, 30, 0, 0⟩
def s2 : Fl := ⟨7, 1, 2, 0, 3, 739935, 100, 30, 50, 0⟩
def s3 : Fl := ⟨7, 1, 2, 0, 3, 739935, 100, 30, 50, 20⟩
theorem t1 : F.deliver s0 30 = s1 ∧ F.less s0 30 = 0 := ⟨rfl, rfl⟩
theorem t2 : F.buy s1 50 = s2 ∧ F.less s1 50 = 0 := ⟨rfl, rfl⟩
theorem t3 : F.pay s2 = s3 ∧ F.paid s2 = 20 ∧ F.less s2 1 = 0 := ⟨rfl, rfl, rfl⟩
theorem t4 : F.opn s2 = 20 ∧ F.chk s2 = 0 := ⟨rfl, rfl⟩
theorem t5 : F.fndV 7 [s0] = 0 ∧ F.fndE 7 [s0] = 0 := ⟨rfl, rfl⟩
theorem t6 : F.deliver s2 21 = F.zero ∧ F.less s2 21 = 8 := ⟨rfl, rfl⟩
theorem t7 : F.deliver s3 1 = F.zero ∧ F.less s3 1 = 5 := ⟨rfl, rfl⟩
theorem t8 : F.chk F.zero = 3 ∧ F.checks [s1, s2] = 6 := ⟨rfl, rfl⟩
end F
theorem g1 (w : World) : Calls Try.prog 8 #[.agg #[.int .i64 7, .int .i64 1, .int .i64 2, .int .i64 0, .int .i64 3, .int .i64 739935, .int .i64 100, .int .i64 0, .int .i64 0, .int .i64 0], .int .i64 30] w fun e w' => e = .returned (.tuple #[.agg #[.int .i64 7, .int .i64 1, .int .i64 2, .int .i64 0, .int .i64 3, .int .i64 739935, .int .i64 100, .int .i64 30, .int .i64 0, .int .i64 0], .int .i64 0]) ∧ Below w.heap.size w w' := by
  have h := fdeliver_any F.s0 30 w
  rw [F.t1.1, F.t1.2] at h
  exact h
theorem g2 (w : World) : Calls Try.prog 9 #[.agg #[.int .i64 7, .int .i64 1, .int .i64 2, .int .i64 0, .int .i64 3, .int .i64 739935, .int .i64 100, .int .i64 30, .int .i64 0, .int .i64 0], .int .i64 50] w fun e w' => e = .returned (.tuple #[.agg #[.int .i64 7, .int .i64 1, .int .i64 2, .int .i64 0, .int .i64 3, .int .i64 739935, .int .i64 100, .int .i64 30, .int .i64 50, .int .i64 0], .int .i64 0]) ∧ Below w.heap.size w w' := by
  have h := fbuy_any F.s1 50 w
  rw [F.t2.1, F.t2.2] at h
  exact h
theorem g3 (w : World) : Calls Try.prog 10 #[.agg #[.int .i64 7, .int .i64 1, .int .i64 2, .int .i64 0, .int .i64 3, .int .i64 739935, .int .i64 100, .int .i64 30, .int .i64 50, .int .i64 0]] w fun e w' => e = .returned (.tuple #[.agg #[.int .i64 7, .int .i64 1, .int .i64 2, .int .i64 0, .int .i64 3, .int .i64 739935, .int .i64 100, .int .i64 30, .int .i64 50, .int .i64 20], .int .i64 20, .int .i64 0]) ∧ Below w.heap.size w w' := by
  have h := fpay_any F.s2 w
  rw [F.t3.1, F.t3.2.1, F.t3.2.2] at h
  exact h
theorem g4 (w : World) : Calls Try.prog 11 #[.agg #[.int .i64 7, .int .i64 1, .int .i64 2, .int .i64 0, .int .i64 3, .int .i64 739935, .int .i64 100, .int .i64 30, .int .i64 50, .int .i64 0]] w fun e w' => e = .returned (.tuple #[.int .i64 20, .int .i64 0]) ∧ Below w.heap.size w w' := by
  have h := fopen_any F.s2 w
  rw [F.t4.1, F.t4.2] at h
  exact h
theorem g6 (w : World) : Calls Try.prog 8 #[.agg #[.int .i64 7, .int .i64 1, .int .i64 2, .int .i64 0, .int .i64 3, .int .i64 739935, .int .i64 100, .int .i64 30, .int .i64 50, .int .i64 0], .int .i64 21] w fun e w' => e = .returned (.tuple #[.agg #[.int .i64 0, .int .i64 0, .int .i64 0, .int .i64 0, .int .i64 0, .int .i64 0, .int .i64 0, .int .i64 0, .int .i64 0, .int .i64 0], .int .i64 8]) ∧ Below w.heap.size w w' := by
  have h := fdeliver_any F.s2 21 w
  rw [F.t6.1, F.t6.2] at h
  exact h
theorem g7 (w : World) : Calls Try.prog 8 #[.agg #[.int .i64 7, .int .i64 1, .int .i64 2, .int .i64 0, .int .i64 3, .int .i64 739935, .int .i64 100, .int .i64 30, .int .i64 50, .int .i64 20], .int .i64 1] w fun e w' => e = .returned (.tuple #[.agg #[.int .i64 0, .int .i64 0, .int .i64 0, .int .i64 0, .int .i64 0, .int .i64 0, .int .i64 0, .int .i64 0, .int .i64 0, .int .i64 0], .int .i64 5]) ∧ Below w.heap.size w w' := by
  have h := fdeliver_any F.s3 1 w
  rw [F.t7.1, F.t7.2] at h
  exact h
theorem g8 (w : World) : Calls Try.prog 19 #[.agg #[.int .i64 0, .int .i64 0, .int .i64 0, .int .i64 0, .int .i64 0, .int .i64 0, .int .i64 0, .int .i64 0, .int .i64 0, .int .i64 0]] w fun e w' => e = .returned (.int .i64 3) ∧ Below w.heap.size w w' := by
  have h := fcheck_any F.zero w
  rw [F.t8.1] at h
  exact h
theorem at_one (w : World) (f : Fl) : FailsAt (w.alloc (.cells #[.int .i64 f.id, .int .i64 f.fr, .int .i64 f.to, .int .i64 f.cl, .int .i64 f.pa, .int .i64 f.day, .int .i64 f.un, .int .i64 f.de, .int .i64 f.bo, .int .i64 f.pd] 23)) (w.alloc (.cells #[.int .i64 f.id, .int .i64 f.fr, .int .i64 f.to, .int .i64 f.cl, .int .i64 f.pa, .int .i64 f.day, .int .i64 f.un, .int .i64 f.de, .int .i64 f.bo, .int .i64 f.pd] 23)).heap.size (some ⟨w.heap.size, 0, none⟩) [f] := by
  intro k hk
  have h : k = 0 := by simpa using hk
  subst h
  exact ⟨w.heap.size, 0, rfl, by simp, by simp [go_sem], by simp [go_sem], by simp [go_sem], by simp [go_sem], by simp [go_sem], by simp [go_sem], by simp [go_sem], by simp [go_sem], by simp [go_sem], by simp [go_sem]⟩
theorem g5 (w : World) : Calls Try.prog 12 #[.slice (some ⟨w.heap.size, 0, none⟩) 1 1, .int .i64 7] (w.alloc (.cells #[.int .i64 7, .int .i64 1, .int .i64 2, .int .i64 0, .int .i64 3, .int .i64 739935, .int .i64 100, .int .i64 0, .int .i64 0, .int .i64 0] 23)) fun e w' => e = .returned (.tuple #[.int .i64 0, .int .i64 0]) ∧ Below (w.alloc (.cells #[.int .i64 7, .int .i64 1, .int .i64 2, .int .i64 0, .int .i64 3, .int .i64 739935, .int .i64 100, .int .i64 0, .int .i64 0, .int .i64 0] 23)).heap.size (w.alloc (.cells #[.int .i64 7, .int .i64 1, .int .i64 2, .int .i64 0, .int .i64 3, .int .i64 739935, .int .i64 100, .int .i64 0, .int .i64 0, .int .i64 0] 23)) w' := by
  have h := ffind_any (some ⟨w.heap.size, 0, none⟩) [F.s0] 1 7 _ (by simp) (at_one w F.s0)
  rw [F.t5.1, F.t5.2] at h
  exact h
theorem at_two (w : World) (f g : Fl) : FailsAt (w.alloc (.cells (#[.int .i64 f.id, .int .i64 f.fr, .int .i64 f.to, .int .i64 f.cl, .int .i64 f.pa, .int .i64 f.day, .int .i64 f.un, .int .i64 f.de, .int .i64 f.bo, .int .i64 f.pd] ++ #[.int .i64 g.id, .int .i64 g.fr, .int .i64 g.to, .int .i64 g.cl, .int .i64 g.pa, .int .i64 g.day, .int .i64 g.un, .int .i64 g.de, .int .i64 g.bo, .int .i64 g.pd]) 23)) (w.alloc (.cells (#[.int .i64 f.id, .int .i64 f.fr, .int .i64 f.to, .int .i64 f.cl, .int .i64 f.pa, .int .i64 f.day, .int .i64 f.un, .int .i64 f.de, .int .i64 f.bo, .int .i64 f.pd] ++ #[.int .i64 g.id, .int .i64 g.fr, .int .i64 g.to, .int .i64 g.cl, .int .i64 g.pa, .int .i64 g.day, .int .i64 g.un, .int .i64 g.de, .int .i64 g.bo, .int .i64 g.pd]) 23)).heap.size (some ⟨w.heap.size, 0, none⟩) [f, g] := by
  intro k hk
  have h : k = 0 ∨ k = 1 := by simp at hk; omega
  rcases h with rfl | rfl
  all_goals exact ⟨w.heap.size, 0, rfl, by simp, by simp [go_sem], by simp [go_sem], by simp [go_sem], by simp [go_sem], by simp [go_sem], by simp [go_sem], by simp [go_sem], by simp [go_sem], by simp [go_sem], by simp [go_sem]⟩
theorem g9 (w : World) : Calls Try.prog 20 #[.slice (some ⟨w.heap.size, 0, none⟩) 2 2] (w.alloc (.cells #[.int .i64 7, .int .i64 1, .int .i64 2, .int .i64 0, .int .i64 3, .int .i64 739935, .int .i64 100, .int .i64 30, .int .i64 0, .int .i64 0, .int .i64 7, .int .i64 1, .int .i64 2, .int .i64 0, .int .i64 3, .int .i64 739935, .int .i64 100, .int .i64 30, .int .i64 50, .int .i64 0] 23)) fun e w' => e = .returned (.int .i64 6) ∧ Below (w.alloc (.cells #[.int .i64 7, .int .i64 1, .int .i64 2, .int .i64 0, .int .i64 3, .int .i64 739935, .int .i64 100, .int .i64 30, .int .i64 0, .int .i64 0, .int .i64 7, .int .i64 1, .int .i64 2, .int .i64 0, .int .i64 3, .int .i64 739935, .int .i64 100, .int .i64 30, .int .i64 50, .int .i64 0] 23)).heap.size (w.alloc (.cells #[.int .i64 7, .int .i64 1, .int .i64 2, .int .i64 0, .int .i64 3, .int .i64 739935, .int .i64 100, .int .i64 30, .int .i64 0, .int .i64 0, .int .i64 7, .int .i64 1, .int .i64 2, .int .i64 0, .int .i64 3, .int .i64 739935, .int .i64 100, .int .i64 30, .int .i64 50, .int .i64 0] 23)) w' := by
  have h := fchecks_any (some ⟨w.heap.size, 0, none⟩) [F.s1, F.s2] 2 _ (by simp) (at_two w F.s1 F.s2)
  rw [F.t8.2] at h
  exact h
set_option maxHeartbeats 4000000 in
theorem fbegun_any (w : World) : Calls Try.prog 18 #[] w fun e w' => e = .returned (.bool true) ∧ Below w.heap.size w w' := by
  go_enter Try.func18, Try.ntmps18
  go_wp2_with fail
  refine (some_any _).mono ?_
  rintro e w1 ⟨rfl, hb1⟩
  obtain ⟨hc1, hf1⟩ := bcell hb1
  have hz1 := hb1.size
  (try simp at hz1)
  go_wp2_with fail
  refine (g1 _).mono ?_
  rintro e w2 ⟨rfl, hb2⟩
  obtain ⟨hc2, hf2⟩ := bcell hb2
  have hz2 := hb2.size
  (try simp at hz2)
  go_wp2_with fail
  refine (g2 _).mono ?_
  rintro e w3 ⟨rfl, hb3⟩
  obtain ⟨hc3, hf3⟩ := bcell hb3
  have hz3 := hb3.size
  (try simp at hz3)
  have hy3_0 : w2.heap.size < w3.heap.size := by omega
  go_wp2_with fail
  refine (g3 _).mono ?_
  rintro e w4 ⟨rfl, hb4⟩
  obtain ⟨hc4, hf4⟩ := bcell hb4
  have hz4 := hb4.size
  (try simp at hz4)
  have hy4_0 : w2.heap.size < w4.heap.size := by omega
  have hy4_1 : w3.heap.size < w4.heap.size := by omega
  go_wp2_with fail
  refine (g4 _).mono ?_
  rintro e w5 ⟨rfl, hb5⟩
  obtain ⟨hc5, hf5⟩ := bcell hb5
  have hz5 := hb5.size
  (try simp at hz5)
  have hy5_0 : w2.heap.size < w5.heap.size := by omega
  have hy5_1 : w3.heap.size < w5.heap.size := by omega
  have hy5_2 : w4.heap.size < w5.heap.size := by omega
  go_wp2_with fail
  refine (some_any _).mono ?_
  rintro e w6 ⟨rfl, hb6⟩
  obtain ⟨hc6, hf6⟩ := bcell hb6
  have hz6 := hb6.size
  (try simp at hz6)
  have hy6_0 : w2.heap.size < w6.heap.size := by omega
  have hy6_1 : w3.heap.size < w6.heap.size := by omega
  have hy6_2 : w4.heap.size < w6.heap.size := by omega
  go_wp2_with fail
  refine (g5 _).mono ?_
  rintro e w7 ⟨rfl, hb7⟩
  obtain ⟨hc7, hf7⟩ := bcell hb7
  have hz7 := hb7.size
  (try simp at hz7)
  have hy7_0 : w2.heap.size < w7.heap.size := by omega
  have hy7_1 : w3.heap.size < w7.heap.size := by omega
  have hy7_2 : w4.heap.size < w7.heap.size := by omega
  go_wp2_with fail
  refine (g6 _).mono ?_
  rintro e w8 ⟨rfl, hb8⟩
  obtain ⟨hc8, hf8⟩ := bcell hb8
  have hz8 := hb8.size
  (try simp at hz8)
  have hy8_0 : w2.heap.size < w8.heap.size := by omega
  have hy8_1 : w3.heap.size < w8.heap.size := by omega
  have hy8_2 : w4.heap.size < w8.heap.size := by omega
  go_wp2_with fail
  refine (g7 _).mono ?_
  rintro e w9 ⟨rfl, hb9⟩
  obtain ⟨hc9, hf9⟩ := bcell hb9
  have hz9 := hb9.size
  (try simp at hz9)
  have hy9_0 : w2.heap.size < w9.heap.size := by omega
  have hy9_1 : w3.heap.size < w9.heap.size := by omega
  have hy9_2 : w4.heap.size < w9.heap.size := by omega
  go_wp2_with fail
  refine (g8 _).mono ?_
  rintro e w10 ⟨rfl, hb10⟩
  obtain ⟨hc10, hf10⟩ := bcell hb10
  have hz10 := hb10.size
  (try simp at hz10)
  have hy10_0 : w2.heap.size < w10.heap.size := by omega
  have hy10_1 : w3.heap.size < w10.heap.size := by omega
  have hy10_2 : w4.heap.size < w10.heap.size := by omega
  go_wp2_with fail
  refine (g9 _).mono ?_
  rintro e w11 ⟨rfl, hb11⟩
  go_wp2
  go_ret
  refine ⟨rfl, ?_⟩
  (repeat (first | with_reducible exact Below.refl _ _ | (with_reducible refine bset ?_ ?_ _; focus (first | (simp; done) | (simp; omega) | omega)) | with_reducible refine balloc ?_ _ | with_reducible refine bdrew ?_ | with_reducible refine bthen ?_ (by assumption)))
end Go.Proofs.Ytblibhmmliljgaa
