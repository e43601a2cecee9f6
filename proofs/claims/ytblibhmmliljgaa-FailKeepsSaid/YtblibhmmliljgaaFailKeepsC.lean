/- The walk of FailKeeps: case by case. -/
import Derived.Test.YtblibhmmliljgaaFailB
import Derived.Test.YtblibhmmliljgaaFailO
import Derived.Test.YtblibhmmliljgaaFailPl3
namespace Go.Proofs.Ytblibhmmliljgaa
open Go.RowKit
set_option maxRecDepth 100000
set_option linter.unusedVariables false
set_option maxHeartbeats 2000000
theorem keeps_yyy (f x y z : Fl) (a b : Int) (w : World) (e0 : Hid (F.opn f = F.left f)) (H0 : Hid (F.chk f = 0)) (D1 : Hid (F.deliver f a = x)) (H1 : Hid (F.less f a = 0)) (D2 : Hid (F.buy x b = y)) (H2 : Hid (F.less x b = 0)) (D3 : Hid (F.pay y = z)) (D4 : Hid (F.paid y = F.left y)) (H3 : Hid (F.less y 1 = 0)) (D5 : Hid (F.opn z = 0)) (D6 : Hid (F.chk z = 0)) (q1 : (z.de + z.bo + z.pd == f.un) = true) (q2 : (F.left y == z.pd - f.pd) = true) (q3 : F.left y ≤ F.left f) (s1 : 0 ≤ z.de ∧ z.de ≤ 1073741824) (s2 : 0 ≤ z.bo ∧ z.bo ≤ 1073741824) (s3 : 0 ≤ z.pd ∧ z.pd ≤ 1073741824) (s4 : 0 ≤ f.pd ∧ f.pd ≤ 1073741824) :
    Calls Try.prog 4 #[.agg #[.int .i64 f.id, .int .i64 f.fr, .int .i64 f.to, .int .i64 f.cl, .int .i64 f.pa, .int .i64 f.day, .int .i64 f.un, .int .i64 f.de, .int .i64 f.bo, .int .i64 f.pd], .int .i64 a, .int .i64 b] w fun e w' => e = .returned (.bool true) ∧ Below w.heap.size w w' := by
  go_enter Try.func4, Try.ntmps4
  go_wp2_with fail
  refine (fopen_any f _).mono ?_
  rintro e w1 ⟨rfl, hb1⟩
  rw [e0.out, H0.out]
  obtain ⟨hc1, hf1⟩ := bcell hb1
  have hz1 := hb1.size
  (try simp at hz1)
  have hy1_0 : w.heap.size < w1.heap.size := by omega
  go_wp2_with fail
  refine (fbegun_any _).mono ?_
  rintro e w2 ⟨rfl, hb2⟩
  obtain ⟨hc2, hf2⟩ := bcell hb2
  have hz2 := hb2.size
  (try simp at hz2)
  have hy2_0 : w.heap.size < w2.heap.size := by omega
  go_wp2_with fail
  refine (fdeliver_any f a _).mono ?_
  rintro e w3 ⟨rfl, hb3⟩
  rw [D1.out, H1.out]
  obtain ⟨hc3, hf3⟩ := bcell hb3
  have hz3 := hb3.size
  (try simp at hz3)
  have hy3_0 : w.heap.size < w3.heap.size := by omega
  go_wp2_with fail
  refine (fbuy_any x b _).mono ?_
  rintro e w4 ⟨rfl, hb4⟩
  rw [D2.out, H2.out]
  obtain ⟨hc4, hf4⟩ := bcell hb4
  have hz4 := hb4.size
  (try simp at hz4)
  have hy4_0 : w.heap.size < w4.heap.size := by omega
  have hy4_1 : w3.heap.size < w4.heap.size := by omega
  go_wp2_with fail
  refine (fpay_any y _).mono ?_
  rintro e w5 ⟨rfl, hb5⟩
  rw [D3.out, D4.out, H3.out]
  obtain ⟨hc5, hf5⟩ := bcell hb5
  have hz5 := hb5.size
  (try simp at hz5)
  have hy5_0 : w.heap.size < w5.heap.size := by omega
  have hy5_1 : w3.heap.size < w5.heap.size := by omega
  have hy5_2 : w4.heap.size < w5.heap.size := by omega
  go_wp2_with fail
  refine (fopen_any z _).mono ?_
  rintro e w6 ⟨rfl, hb6⟩
  rw [D5.out, D6.out]
  obtain ⟨hc6, hf6⟩ := bcell hb6
  have hz6 := hb6.size
  (try simp at hz6)
  have hy6_0 : w.heap.size < w6.heap.size := by omega
  have hy6_1 : w3.heap.size < w6.heap.size := by omega
  have hy6_2 : w4.heap.size < w6.heap.size := by omega
  have hy6_3 : w5.heap.size < w6.heap.size := by omega
  go_wp2_with fail
  refine (fcheck_any z _).mono ?_
  rintro e w7 ⟨rfl, hb7⟩
  rw [D6.out]
  obtain ⟨hc7, hf7⟩ := bcell hb7
  have hz7 := hb7.size
  (try simp at hz7)
  have hy7_0 : w.heap.size < w7.heap.size := by omega
  have hy7_1 : w3.heap.size < w7.heap.size := by omega
  have hy7_2 : w4.heap.size < w7.heap.size := by omega
  have hy7_3 : w5.heap.size < w7.heap.size := by omega
  go_wp2
  go_ret
  refine ⟨rfl, ?_⟩
  (repeat (first | with_reducible exact Below.refl _ _ | (with_reducible refine bset ?_ ?_ _; focus (first | (simp; done) | (simp; omega) | omega)) | with_reducible refine balloc ?_ _ | with_reducible refine bdrew ?_ | with_reducible refine bthen ?_ (by assumption)))
theorem keeps_yyn (f x y : Fl) (a b : Int) (w : World) (e0 : Hid (F.opn f = F.left f)) (H0 : Hid (F.chk f = 0)) (D1 : Hid (F.deliver f a = x)) (H1 : Hid (F.less f a = 0)) (D2 : Hid (F.buy x b = y)) (H2 : Hid (F.less x b = 0)) (D3 : Hid (F.pay y = F.zero)) (D4 : Hid (F.paid y = 0)) (H3 : (F.less y 1 != 0) = true) (D5 : Hid (F.opn y = 0)) (D6 : Hid (F.chk y = 0)) (q1 : (y.de + y.bo + y.pd == f.un) = true) (q2 : ((0 : Int) == y.pd - f.pd) = true) (q3 : (0 : Int) ≤ F.left f) (s1 : 0 ≤ y.de ∧ y.de ≤ 1073741824) (s2 : 0 ≤ y.bo ∧ y.bo ≤ 1073741824) (s3 : 0 ≤ y.pd ∧ y.pd ≤ 1073741824) (s4 : 0 ≤ f.pd ∧ f.pd ≤ 1073741824) :
    Calls Try.prog 4 #[.agg #[.int .i64 f.id, .int .i64 f.fr, .int .i64 f.to, .int .i64 f.cl, .int .i64 f.pa, .int .i64 f.day, .int .i64 f.un, .int .i64 f.de, .int .i64 f.bo, .int .i64 f.pd], .int .i64 a, .int .i64 b] w fun e w' => e = .returned (.bool true) ∧ Below w.heap.size w w' := by
  go_enter Try.func4, Try.ntmps4
  go_wp2_with fail
  refine (fopen_any f _).mono ?_
  rintro e w1 ⟨rfl, hb1⟩
  rw [e0.out, H0.out]
  obtain ⟨hc1, hf1⟩ := bcell hb1
  have hz1 := hb1.size
  (try simp at hz1)
  have hy1_0 : w.heap.size < w1.heap.size := by omega
  go_wp2_with fail
  refine (fbegun_any _).mono ?_
  rintro e w2 ⟨rfl, hb2⟩
  obtain ⟨hc2, hf2⟩ := bcell hb2
  have hz2 := hb2.size
  (try simp at hz2)
  have hy2_0 : w.heap.size < w2.heap.size := by omega
  go_wp2_with fail
  refine (fdeliver_any f a _).mono ?_
  rintro e w3 ⟨rfl, hb3⟩
  rw [D1.out, H1.out]
  obtain ⟨hc3, hf3⟩ := bcell hb3
  have hz3 := hb3.size
  (try simp at hz3)
  have hy3_0 : w.heap.size < w3.heap.size := by omega
  go_wp2_with fail
  refine (fbuy_any x b _).mono ?_
  rintro e w4 ⟨rfl, hb4⟩
  rw [D2.out, H2.out]
  obtain ⟨hc4, hf4⟩ := bcell hb4
  have hz4 := hb4.size
  (try simp at hz4)
  have hy4_0 : w.heap.size < w4.heap.size := by omega
  have hy4_1 : w3.heap.size < w4.heap.size := by omega
  go_wp2_with fail
  refine (fpay_any y _).mono ?_
  rintro e w5 ⟨rfl, hb5⟩
  rw [D3.out, D4.out]
  obtain ⟨hc5, hf5⟩ := bcell hb5
  have hz5 := hb5.size
  (try simp at hz5)
  have hy5_0 : w.heap.size < w5.heap.size := by omega
  have hy5_1 : w3.heap.size < w5.heap.size := by omega
  have hy5_2 : w4.heap.size < w5.heap.size := by omega
  go_wp2_with fail
  refine (fopen_any y _).mono ?_
  rintro e w6 ⟨rfl, hb6⟩
  rw [D5.out, D6.out]
  obtain ⟨hc6, hf6⟩ := bcell hb6
  have hz6 := hb6.size
  (try simp at hz6)
  have hy6_0 : w.heap.size < w6.heap.size := by omega
  have hy6_1 : w3.heap.size < w6.heap.size := by omega
  have hy6_2 : w4.heap.size < w6.heap.size := by omega
  have hy6_3 : w5.heap.size < w6.heap.size := by omega
  go_wp2_with fail
  refine (fcheck_any y _).mono ?_
  rintro e w7 ⟨rfl, hb7⟩
  rw [D6.out]
  obtain ⟨hc7, hf7⟩ := bcell hb7
  have hz7 := hb7.size
  (try simp at hz7)
  have hy7_0 : w.heap.size < w7.heap.size := by omega
  have hy7_1 : w3.heap.size < w7.heap.size := by omega
  have hy7_2 : w4.heap.size < w7.heap.size := by omega
  have hy7_3 : w5.heap.size < w7.heap.size := by omega
  go_wp2
  go_ret
  refine ⟨rfl, ?_⟩
  (repeat (first | with_reducible exact Below.refl _ _ | (with_reducible refine bset ?_ ?_ _; focus (first | (simp; done) | (simp; omega) | omega)) | with_reducible refine balloc ?_ _ | with_reducible refine bdrew ?_ | with_reducible refine bthen ?_ (by assumption)))
theorem keeps_yny (f x z : Fl) (a b : Int) (w : World) (e0 : Hid (F.opn f = F.left f)) (H0 : Hid (F.chk f = 0)) (D1 : Hid (F.deliver f a = x)) (H1 : Hid (F.less f a = 0)) (D2 : Hid (F.buy x b = F.zero)) (H2 : (F.less x b != 0) = true) (D3 : Hid (F.pay x = z)) (D4 : Hid (F.paid x = F.left x)) (H3 : Hid (F.less x 1 = 0)) (D5 : Hid (F.opn z = 0)) (D6 : Hid (F.chk z = 0)) (q1 : (z.de + z.bo + z.pd == f.un) = true) (q2 : (F.left x == z.pd - f.pd) = true) (q3 : F.left x ≤ F.left f) (s1 : 0 ≤ z.de ∧ z.de ≤ 1073741824) (s2 : 0 ≤ z.bo ∧ z.bo ≤ 1073741824) (s3 : 0 ≤ z.pd ∧ z.pd ≤ 1073741824) (s4 : 0 ≤ f.pd ∧ f.pd ≤ 1073741824) :
    Calls Try.prog 4 #[.agg #[.int .i64 f.id, .int .i64 f.fr, .int .i64 f.to, .int .i64 f.cl, .int .i64 f.pa, .int .i64 f.day, .int .i64 f.un, .int .i64 f.de, .int .i64 f.bo, .int .i64 f.pd], .int .i64 a, .int .i64 b] w fun e w' => e = .returned (.bool true) ∧ Below w.heap.size w w' := by
  go_enter Try.func4, Try.ntmps4
  go_wp2_with fail
  refine (fopen_any f _).mono ?_
  rintro e w1 ⟨rfl, hb1⟩
  rw [e0.out, H0.out]
  obtain ⟨hc1, hf1⟩ := bcell hb1
  have hz1 := hb1.size
  (try simp at hz1)
  have hy1_0 : w.heap.size < w1.heap.size := by omega
  go_wp2_with fail
  refine (fbegun_any _).mono ?_
  rintro e w2 ⟨rfl, hb2⟩
  obtain ⟨hc2, hf2⟩ := bcell hb2
  have hz2 := hb2.size
  (try simp at hz2)
  have hy2_0 : w.heap.size < w2.heap.size := by omega
  go_wp2_with fail
  refine (fdeliver_any f a _).mono ?_
  rintro e w3 ⟨rfl, hb3⟩
  rw [D1.out, H1.out]
  obtain ⟨hc3, hf3⟩ := bcell hb3
  have hz3 := hb3.size
  (try simp at hz3)
  have hy3_0 : w.heap.size < w3.heap.size := by omega
  go_wp2_with fail
  refine (fbuy_any x b _).mono ?_
  rintro e w4 ⟨rfl, hb4⟩
  rw [D2.out]
  obtain ⟨hc4, hf4⟩ := bcell hb4
  have hz4 := hb4.size
  (try simp at hz4)
  have hy4_0 : w.heap.size < w4.heap.size := by omega
  have hy4_1 : w3.heap.size < w4.heap.size := by omega
  go_wp2_with fail
  refine (fpay_any x _).mono ?_
  rintro e w5 ⟨rfl, hb5⟩
  rw [D3.out, D4.out, H3.out]
  obtain ⟨hc5, hf5⟩ := bcell hb5
  have hz5 := hb5.size
  (try simp at hz5)
  have hy5_0 : w.heap.size < w5.heap.size := by omega
  have hy5_1 : w3.heap.size < w5.heap.size := by omega
  have hy5_2 : w4.heap.size < w5.heap.size := by omega
  go_wp2_with fail
  refine (fopen_any z _).mono ?_
  rintro e w6 ⟨rfl, hb6⟩
  rw [D5.out, D6.out]
  obtain ⟨hc6, hf6⟩ := bcell hb6
  have hz6 := hb6.size
  (try simp at hz6)
  have hy6_0 : w.heap.size < w6.heap.size := by omega
  have hy6_1 : w3.heap.size < w6.heap.size := by omega
  have hy6_2 : w4.heap.size < w6.heap.size := by omega
  have hy6_3 : w5.heap.size < w6.heap.size := by omega
  go_wp2_with fail
  refine (fcheck_any z _).mono ?_
  rintro e w7 ⟨rfl, hb7⟩
  rw [D6.out]
  obtain ⟨hc7, hf7⟩ := bcell hb7
  have hz7 := hb7.size
  (try simp at hz7)
  have hy7_0 : w.heap.size < w7.heap.size := by omega
  have hy7_1 : w3.heap.size < w7.heap.size := by omega
  have hy7_2 : w4.heap.size < w7.heap.size := by omega
  have hy7_3 : w5.heap.size < w7.heap.size := by omega
  go_wp2
  go_ret
  refine ⟨rfl, ?_⟩
  (repeat (first | with_reducible exact Below.refl _ _ | (with_reducible refine bset ?_ ?_ _; focus (first | (simp; done) | (simp; omega) | omega)) | with_reducible refine balloc ?_ _ | with_reducible refine bdrew ?_ | with_reducible refine bthen ?_ (by assumption)))
theorem keeps_ynn (f x : Fl) (a b : Int) (w : World) (e0 : Hid (F.opn f = F.left f)) (H0 : Hid (F.chk f = 0)) (D1 : Hid (F.deliver f a = x)) (H1 : Hid (F.less f a = 0)) (D2 : Hid (F.buy x b = F.zero)) (H2 : (F.less x b != 0) = true) (D3 : Hid (F.pay x = F.zero)) (D4 : Hid (F.paid x = 0)) (H3 : (F.less x 1 != 0) = true) (D5 : Hid (F.opn x = 0)) (D6 : Hid (F.chk x = 0)) (q1 : (x.de + x.bo + x.pd == f.un) = true) (q2 : ((0 : Int) == x.pd - f.pd) = true) (q3 : (0 : Int) ≤ F.left f) (s1 : 0 ≤ x.de ∧ x.de ≤ 1073741824) (s2 : 0 ≤ x.bo ∧ x.bo ≤ 1073741824) (s3 : 0 ≤ x.pd ∧ x.pd ≤ 1073741824) (s4 : 0 ≤ f.pd ∧ f.pd ≤ 1073741824) :
    Calls Try.prog 4 #[.agg #[.int .i64 f.id, .int .i64 f.fr, .int .i64 f.to, .int .i64 f.cl, .int .i64 f.pa, .int .i64 f.day, .int .i64 f.un, .int .i64 f.de, .int .i64 f.bo, .int .i64 f.pd], .int .i64 a, .int .i64 b] w fun e w' => e = .returned (.bool true) ∧ Below w.heap.size w w' := by
  go_enter Try.func4, Try.ntmps4
  go_wp2_with fail
  refine (fopen_any f _).mono ?_
  rintro e w1 ⟨rfl, hb1⟩
  rw [e0.out, H0.out]
  obtain ⟨hc1, hf1⟩ := bcell hb1
  have hz1 := hb1.size
  (try simp at hz1)
  have hy1_0 : w.heap.size < w1.heap.size := by omega
  go_wp2_with fail
  refine (fbegun_any _).mono ?_
  rintro e w2 ⟨rfl, hb2⟩
  obtain ⟨hc2, hf2⟩ := bcell hb2
  have hz2 := hb2.size
  (try simp at hz2)
  have hy2_0 : w.heap.size < w2.heap.size := by omega
  go_wp2_with fail
  refine (fdeliver_any f a _).mono ?_
  rintro e w3 ⟨rfl, hb3⟩
  rw [D1.out, H1.out]
  obtain ⟨hc3, hf3⟩ := bcell hb3
  have hz3 := hb3.size
  (try simp at hz3)
  have hy3_0 : w.heap.size < w3.heap.size := by omega
  go_wp2_with fail
  refine (fbuy_any x b _).mono ?_
  rintro e w4 ⟨rfl, hb4⟩
  rw [D2.out]
  obtain ⟨hc4, hf4⟩ := bcell hb4
  have hz4 := hb4.size
  (try simp at hz4)
  have hy4_0 : w.heap.size < w4.heap.size := by omega
  have hy4_1 : w3.heap.size < w4.heap.size := by omega
  go_wp2_with fail
  refine (fpay_any x _).mono ?_
  rintro e w5 ⟨rfl, hb5⟩
  rw [D3.out, D4.out]
  obtain ⟨hc5, hf5⟩ := bcell hb5
  have hz5 := hb5.size
  (try simp at hz5)
  have hy5_0 : w.heap.size < w5.heap.size := by omega
  have hy5_1 : w3.heap.size < w5.heap.size := by omega
  have hy5_2 : w4.heap.size < w5.heap.size := by omega
  go_wp2_with fail
  refine (fopen_any x _).mono ?_
  rintro e w6 ⟨rfl, hb6⟩
  rw [D5.out, D6.out]
  obtain ⟨hc6, hf6⟩ := bcell hb6
  have hz6 := hb6.size
  (try simp at hz6)
  have hy6_0 : w.heap.size < w6.heap.size := by omega
  have hy6_1 : w3.heap.size < w6.heap.size := by omega
  have hy6_2 : w4.heap.size < w6.heap.size := by omega
  have hy6_3 : w5.heap.size < w6.heap.size := by omega
  go_wp2_with fail
  refine (fcheck_any x _).mono ?_
  rintro e w7 ⟨rfl, hb7⟩
  rw [D6.out]
  obtain ⟨hc7, hf7⟩ := bcell hb7
  have hz7 := hb7.size
  (try simp at hz7)
  have hy7_0 : w.heap.size < w7.heap.size := by omega
  have hy7_1 : w3.heap.size < w7.heap.size := by omega
  have hy7_2 : w4.heap.size < w7.heap.size := by omega
  have hy7_3 : w5.heap.size < w7.heap.size := by omega
  go_wp2
  go_ret
  refine ⟨rfl, ?_⟩
  (repeat (first | with_reducible exact Below.refl _ _ | (with_reducible refine bset ?_ ?_ _; focus (first | (simp; done) | (simp; omega) | omega)) | with_reducible refine balloc ?_ _ | with_reducible refine bdrew ?_ | with_reducible refine bthen ?_ (by assumption)))
theorem keeps_nyy (f y z : Fl) (a b : Int) (w : World) (e0 : Hid (F.opn f = F.left f)) (H0 : Hid (F.chk f = 0)) (D1 : Hid (F.deliver f a = F.zero)) (H1 : (F.less f a != 0) = true) (D2 : Hid (F.buy f b = y)) (H2 : Hid (F.less f b = 0)) (D3 : Hid (F.pay y = z)) (D4 : Hid (F.paid y = F.left y)) (H3 : Hid (F.less y 1 = 0)) (D5 : Hid (F.opn z = 0)) (D6 : Hid (F.chk z = 0)) (q1 : (z.de + z.bo + z.pd == f.un) = true) (q2 : (F.left y == z.pd - f.pd) = true) (q3 : F.left y ≤ F.left f) (s1 : 0 ≤ z.de ∧ z.de ≤ 1073741824) (s2 : 0 ≤ z.bo ∧ z.bo ≤ 1073741824) (s3 : 0 ≤ z.pd ∧ z.pd ≤ 1073741824) (s4 : 0 ≤ f.pd ∧ f.pd ≤ 1073741824) :
    Calls Try.prog 4 #[.agg #[.int .i64 f.id, .int .i64 f.fr, .int .i64 f.to, .int .i64 f.cl, .int .i64 f.pa, .int .i64 f.day, .int .i64 f.un, .int .i64 f.de, .int .i64 f.bo, .int .i64 f.pd], .int .i64 a, .int .i64 b] w fun e w' => e = .returned (.bool true) ∧ Below w.heap.size w w' := by
  go_enter Try.func4, Try.ntmps4
  go_wp2_with fail
  refine (fopen_any f _).mono ?_
  rintro e w1 ⟨rfl, hb1⟩
  rw [e0.out, H0.out]
  obtain ⟨hc1, hf1⟩ := bcell hb1
  have hz1 := hb1.size
  (try simp at hz1)
  have hy1_0 : w.heap.size < w1.heap.size := by omega
  go_wp2_with fail
  refine (fbegun_any _).mono ?_
  rintro e w2 ⟨rfl, hb2⟩
  obtain ⟨hc2, hf2⟩ := bcell hb2
  have hz2 := hb2.size
  (try simp at hz2)
  have hy2_0 : w.heap.size < w2.heap.size := by omega
  go_wp2_with fail
  refine (fdeliver_any f a _).mono ?_
  rintro e w3 ⟨rfl, hb3⟩
  rw [D1.out]
  obtain ⟨hc3, hf3⟩ := bcell hb3
  have hz3 := hb3.size
  (try simp at hz3)
  have hy3_0 : w.heap.size < w3.heap.size := by omega
  go_wp2_with fail
  refine (fbuy_any f b _).mono ?_
  rintro e w4 ⟨rfl, hb4⟩
  rw [D2.out, H2.out]
  obtain ⟨hc4, hf4⟩ := bcell hb4
  have hz4 := hb4.size
  (try simp at hz4)
  have hy4_0 : w.heap.size < w4.heap.size := by omega
  have hy4_1 : w3.heap.size < w4.heap.size := by omega
  go_wp2_with fail
  refine (fpay_any y _).mono ?_
  rintro e w5 ⟨rfl, hb5⟩
  rw [D3.out, D4.out, H3.out]
  obtain ⟨hc5, hf5⟩ := bcell hb5
  have hz5 := hb5.size
  (try simp at hz5)
  have hy5_0 : w.heap.size < w5.heap.size := by omega
  have hy5_1 : w3.heap.size < w5.heap.size := by omega
  have hy5_2 : w4.heap.size < w5.heap.size := by omega
  go_wp2_with fail
  refine (fopen_any z _).mono ?_
  rintro e w6 ⟨rfl, hb6⟩
  rw [D5.out, D6.out]
  obtain ⟨hc6, hf6⟩ := bcell hb6
  have hz6 := hb6.size
  (try simp at hz6)
  have hy6_0 : w.heap.size < w6.heap.size := by omega
  have hy6_1 : w3.heap.size < w6.heap.size := by omega
  have hy6_2 : w4.heap.size < w6.heap.size := by omega
  have hy6_3 : w5.heap.size < w6.heap.size := by omega
  go_wp2_with fail
  refine (fcheck_any z _).mono ?_
  rintro e w7 ⟨rfl, hb7⟩
  rw [D6.out]
  obtain ⟨hc7, hf7⟩ := bcell hb7
  have hz7 := hb7.size
  (try simp at hz7)
  have hy7_0 : w.heap.size < w7.heap.size := by omega
  have hy7_1 : w3.heap.size < w7.heap.size := by omega
  have hy7_2 : w4.heap.size < w7.heap.size := by omega
  have hy7_3 : w5.heap.size < w7.heap.size := by omega
  go_wp2
  go_ret
  refine ⟨rfl, ?_⟩
  (repeat (first | with_reducible exact Below.refl _ _ | (with_reducible refine bset ?_ ?_ _; focus (first | (simp; done) | (simp; omega) | omega)) | with_reducible refine balloc ?_ _ | with_reducible refine bdrew ?_ | with_reducible refine bthen ?_ (by assumption)))
theorem keeps_nyn (f y : Fl) (a b : Int) (w : World) (e0 : Hid (F.opn f = F.left f)) (H0 : Hid (F.chk f = 0)) (D1 : Hid (F.deliver f a = F.zero)) (H1 : (F.less f a != 0) = true) (D2 : Hid (F.buy f b = y)) (H2 : Hid (F.less f b = 0)) (D3 : Hid (F.pay y = F.zero)) (D4 : Hid (F.paid y = 0)) (H3 : (F.less y 1 != 0) = true) (D5 : Hid (F.opn y = 0)) (D6 : Hid (F.chk y = 0)) (q1 : (y.de + y.bo + y.pd == f.un) = true) (q2 : ((0 : Int) == y.pd - f.pd) = true) (q3 : (0 : Int) ≤ F.left f) (s1 : 0 ≤ y.de ∧ y.de ≤ 1073741824) (s2 : 0 ≤ y.bo ∧ y.bo ≤ 1073741824) (s3 : 0 ≤ y.pd ∧ y.pd ≤ 1073741824) (s4 : 0 ≤ f.pd ∧ f.pd ≤ 1073741824) :
    Calls Try.prog 4 #[.agg #[.int .i64 f.id, .int .i64 f.fr, .int .i64 f.to, .int .i64 f.cl, .int .i64 f.pa, .int .i64 f.day, .int .i64 f.un, .int .i64 f.de, .int .i64 f.bo, .int .i64 f.pd], .int .i64 a, .int .i64 b] w fun e w' => e = .returned (.bool true) ∧ Below w.heap.size w w' := by
  go_enter Try.func4, Try.ntmps4
  go_wp2_with fail
  refine (fopen_any f _).mono ?_
  rintro e w1 ⟨rfl, hb1⟩
  rw [e0.out, H0.out]
  obtain ⟨hc1, hf1⟩ := bcell hb1
  have hz1 := hb1.size
  (try simp at hz1)
  have hy1_0 : w.heap.size < w1.heap.size := by omega
  go_wp2_with fail
  refine (fbegun_any _).mono ?_
  rintro e w2 ⟨rfl, hb2⟩
  obtain ⟨hc2, hf2⟩ := bcell hb2
  have hz2 := hb2.size
  (try simp at hz2)
  have hy2_0 : w.heap.size < w2.heap.size := by omega
  go_wp2_with fail
  refine (fdeliver_any f a _).mono ?_
  rintro e w3 ⟨rfl, hb3⟩
  rw [D1.out]
  obtain ⟨hc3, hf3⟩ := bcell hb3
  have hz3 := hb3.size
  (try simp at hz3)
  have hy3_0 : w.heap.size < w3.heap.size := by omega
  go_wp2_with fail
  refine (fbuy_any f b _).mono ?_
  rintro e w4 ⟨rfl, hb4⟩
  rw [D2.out, H2.out]
  obtain ⟨hc4, hf4⟩ := bcell hb4
  have hz4 := hb4.size
  (try simp at hz4)
  have hy4_0 : w.heap.size < w4.heap.size := by omega
  have hy4_1 : w3.heap.size < w4.heap.size := by omega
  go_wp2_with fail
  refine (fpay_any y _).mono ?_
  rintro e w5 ⟨rfl, hb5⟩
  rw [D3.out, D4.out]
  obtain ⟨hc5, hf5⟩ := bcell hb5
  have hz5 := hb5.size
  (try simp at hz5)
  have hy5_0 : w.heap.size < w5.heap.size := by omega
  have hy5_1 : w3.heap.size < w5.heap.size := by omega
  have hy5_2 : w4.heap.size < w5.heap.size := by omega
  go_wp2_with fail
  refine (fopen_any y _).mono ?_
  rintro e w6 ⟨rfl, hb6⟩
  rw [D5.out, D6.out]
  obtain ⟨hc6, hf6⟩ := bcell hb6
  have hz6 := hb6.size
  (try simp at hz6)
  have hy6_0 : w.heap.size < w6.heap.size := by omega
  have hy6_1 : w3.heap.size < w6.heap.size := by omega
  have hy6_2 : w4.heap.size < w6.heap.size := by omega
  have hy6_3 : w5.heap.size < w6.heap.size := by omega
  go_wp2_with fail
  refine (fcheck_any y _).mono ?_
  rintro e w7 ⟨rfl, hb7⟩
  rw [D6.out]
  obtain ⟨hc7, hf7⟩ := bcell hb7
  have hz7 := hb7.size
  (try simp at hz7)
  have hy7_0 : w.heap.size < w7.heap.size := by omega
  have hy7_1 : w3.heap.size < w7.heap.size := by omega
  have hy7_2 : w4.heap.size < w7.heap.size := by omega
  have hy7_3 : w5.heap.size < w7.heap.size := by omega
  go_wp2
  go_ret
  refine ⟨rfl, ?_⟩
  (repeat (first | with_reducible exact Below.refl _ _ | (with_reducible refine bset ?_ ?_ _; focus (first | (simp; done) | (simp; omega) | omega)) | with_reducible refine balloc ?_ _ | with_reducible refine bdrew ?_ | with_reducible refine bthen ?_ (by assumption)))
theorem keeps_nny (f z : Fl) (a b : Int) (w : World) (e0 : Hid (F.opn f = F.left f)) (H0 : Hid (F.chk f = 0)) (D1 : Hid (F.deliver f a = F.zero)) (H1 : (F.less f a != 0) = true) (D2 : Hid (F.buy f b = F.zero)) (H2 : (F.less f b != 0) = true) (D3 : Hid (F.pay f = z)) (D4 : Hid (F.paid f = F.left f)) (H3 : Hid (F.less f 1 = 0)) (D5 : Hid (F.opn z = 0)) (D6 : Hid (F.chk z = 0)) (q1 : (z.de + z.bo + z.pd == f.un) = true) (q2 : (F.left f == z.pd - f.pd) = true) (q3 : F.left f ≤ F.left f) (s1 : 0 ≤ z.de ∧ z.de ≤ 1073741824) (s2 : 0 ≤ z.bo ∧ z.bo ≤ 1073741824) (s3 : 0 ≤ z.pd ∧ z.pd ≤ 1073741824) (s4 : 0 ≤ f.pd ∧ f.pd ≤ 1073741824) :
    Calls Try.prog 4 #[.agg #[.int .i64 f.id, .int .i64 f.fr, .int .i64 f.to, .int .i64 f.cl, .int .i64 f.pa, .int .i64 f.day, .int .i64 f.un, .int .i64 f.de, .int .i64 f.bo, .int .i64 f.pd], .int .i64 a, .int .i64 b] w fun e w' => e = .returned (.bool true) ∧ Below w.heap.size w w' := by
  go_enter Try.func4, Try.ntmps4
  go_wp2_with fail
  refine (fopen_any f _).mono ?_
  rintro e w1 ⟨rfl, hb1⟩
  rw [e0.out, H0.out]
  obtain ⟨hc1, hf1⟩ := bcell hb1
  have hz1 := hb1.size
  (try simp at hz1)
  have hy1_0 : w.heap.size < w1.heap.size := by omega
  go_wp2_with fail
  refine (fbegun_any _).mono ?_
  rintro e w2 ⟨rfl, hb2⟩
  obtain ⟨hc2, hf2⟩ := bcell hb2
  have hz2 := hb2.size
  (try simp at hz2)
  have hy2_0 : w.heap.size < w2.heap.size := by omega
  go_wp2_with fail
  refine (fdeliver_any f a _).mono ?_
  rintro e w3 ⟨rfl, hb3⟩
  rw [D1.out]
  obtain ⟨hc3, hf3⟩ := bcell hb3
  have hz3 := hb3.size
  (try simp at hz3)
  have hy3_0 : w.heap.size < w3.heap.size := by omega
  go_wp2_with fail
  refine (fbuy_any f b _).mono ?_
  rintro e w4 ⟨rfl, hb4⟩
  rw [D2.out]
  obtain ⟨hc4, hf4⟩ := bcell hb4
  have hz4 := hb4.size
  (try simp at hz4)
  have hy4_0 : w.heap.size < w4.heap.size := by omega
  have hy4_1 : w3.heap.size < w4.heap.size := by omega
  go_wp2_with fail
  refine (fpay_any f _).mono ?_
  rintro e w5 ⟨rfl, hb5⟩
  rw [D3.out, D4.out, H3.out]
  obtain ⟨hc5, hf5⟩ := bcell hb5
  have hz5 := hb5.size
  (try simp at hz5)
  have hy5_0 : w.heap.size < w5.heap.size := by omega
  have hy5_1 : w3.heap.size < w5.heap.size := by omega
  have hy5_2 : w4.heap.size < w5.heap.size := by omega
  go_wp2_with fail
  refine (fopen_any z _).mono ?_
  rintro e w6 ⟨rfl, hb6⟩
  rw [D5.out, D6.out]
  obtain ⟨hc6, hf6⟩ := bcell hb6
  have hz6 := hb6.size
  (try simp at hz6)
  have hy6_0 : w.heap.size < w6.heap.size := by omega
  have hy6_1 : w3.heap.size < w6.heap.size := by omega
  have hy6_2 : w4.heap.size < w6.heap.size := by omega
  have hy6_3 : w5.heap.size < w6.heap.size := by omega
  go_wp2_with fail
  refine (fcheck_any z _).mono ?_
  rintro e w7 ⟨rfl, hb7⟩
  rw [D6.out]
  obtain ⟨hc7, hf7⟩ := bcell hb7
  have hz7 := hb7.size
  (try simp at hz7)
  have hy7_0 : w.heap.size < w7.heap.size := by omega
  have hy7_1 : w3.heap.size < w7.heap.size := by omega
  have hy7_2 : w4.heap.size < w7.heap.size := by omega
  have hy7_3 : w5.heap.size < w7.heap.size := by omega
  go_wp2
  go_ret
  refine ⟨rfl, ?_⟩
  (repeat (first | with_reducible exact Below.refl _ _ | (with_reducible refine bset ?_ ?_ _; focus (first | (simp; done) | (simp; omega) | omega)) | with_reducible refine balloc ?_ _ | with_reducible refine bdrew ?_ | with_reducible refine bthen ?_ (by assumption)))
theorem keeps_nnn (f : Fl) (a b : Int) (w : World) (e0 : Hid (F.opn f = F.left f)) (H0 : Hid (F.chk f = 0)) (D1 : Hid (F.deliver f a = F.zero)) (H1 : (F.less f a != 0) = true) (D2 : Hid (F.buy f b = F.zero)) (H2 : (F.less f b != 0) = true) (D3 : Hid (F.pay f = F.zero)) (D4 : Hid (F.paid f = 0)) (H3 : (F.less f 1 != 0) = true) (D5 : Hid (F.opn f = 0)) (D6 : Hid (F.chk f = 0)) (q1 : (f.de + f.bo + f.pd == f.un) = true) (q2 : ((0 : Int) == f.pd - f.pd) = true) (q3 : (0 : Int) ≤ F.left f) (s1 : 0 ≤ f.de ∧ f.de ≤ 1073741824) (s2 : 0 ≤ f.bo ∧ f.bo ≤ 1073741824) (s3 : 0 ≤ f.pd ∧ f.pd ≤ 1073741824) (s4 : 0 ≤ f.pd ∧ f.pd ≤ 1073741824) :
    Calls Try.prog 4 #[.agg #[.int .i64 f.id, .int .i64 f.fr, .int .i64 f.to, .int .i64 f.cl, .int .i64 f.pa, .int .i64 f.day, .int .i64 f.un, .int .i64 f.de, .int .i64 f.bo, .int .i64 f.pd], .int .i64 a, .int .i64 b] w fun e w' => e = .returned (.bool true) ∧ Below w.heap.size w w' := by
  go_enter Try.func4, Try.ntmps4
  go_wp2_with fail
  refine (fopen_any f _).mono ?_
  rintro e w1 ⟨rfl, hb1⟩
  rw [e0.out, H0.out]
  obtain ⟨hc1, hf1⟩ := bcell hb1
  have hz1 := hb1.size
  (try simp at hz1)
  have hy1_0 : w.heap.size < w1.heap.size := by omega
  go_wp2_with fail
  refine (fbegun_any _).mono ?_
  rintro e w2 ⟨rfl, hb2⟩
  obtain ⟨hc2, hf2⟩ := bcell hb2
  have hz2 := hb2.size
  (try simp at hz2)
  have hy2_0 : w.heap.size < w2.heap.size := by omega
  go_wp2_with fail
  refine (fdeliver_any f a _).mono ?_
  rintro e w3 ⟨rfl, hb3⟩
  rw [D1.out]
  obtain ⟨hc3, hf3⟩ := bcell hb3
  have hz3 := hb3.size
  (try simp at hz3)
  have hy3_0 : w.heap.size < w3.heap.size := by omega
  go_wp2_with fail
  refine (fbuy_any f b _).mono ?_
  rintro e w4 ⟨rfl, hb4⟩
  rw [D2.out]
  obtain ⟨hc4, hf4⟩ := bcell hb4
  have hz4 := hb4.size
  (try simp at hz4)
  have hy4_0 : w.heap.size < w4.heap.size := by omega
  have hy4_1 : w3.heap.size < w4.heap.size := by omega
  go_wp2_with fail
  refine (fpay_any f _).mono ?_
  rintro e w5 ⟨rfl, hb5⟩
  rw [D3.out, D4.out]
  obtain ⟨hc5, hf5⟩ := bcell hb5
  have hz5 := hb5.size
  (try simp at hz5)
  have hy5_0 : w.heap.size < w5.heap.size := by omega
  have hy5_1 : w3.heap.size < w5.heap.size := by omega
  have hy5_2 : w4.heap.size < w5.heap.size := by omega
  go_wp2_with fail
  refine (fopen_any f _).mono ?_
  rintro e w6 ⟨rfl, hb6⟩
  rw [D5.out, D6.out]
  obtain ⟨hc6, hf6⟩ := bcell hb6
  have hz6 := hb6.size
  (try simp at hz6)
  have hy6_0 : w.heap.size < w6.heap.size := by omega
  have hy6_1 : w3.heap.size < w6.heap.size := by omega
  have hy6_2 : w4.heap.size < w6.heap.size := by omega
  have hy6_3 : w5.heap.size < w6.heap.size := by omega
  go_wp2_with fail
  refine (fcheck_any f _).mono ?_
  rintro e w7 ⟨rfl, hb7⟩
  rw [D6.out]
  obtain ⟨hc7, hf7⟩ := bcell hb7
  have hz7 := hb7.size
  (try simp at hz7)
  have hy7_0 : w.heap.size < w7.heap.size := by omega
  have hy7_1 : w3.heap.size < w7.heap.size := by omega
  have hy7_2 : w4.heap.size < w7.heap.size := by omega
  have hy7_3 : w5.heap.size < w7.heap.size := by omega
  go_wp2
  go_ret
  refine ⟨rfl, ?_⟩
  (repeat (first | with_reducible exact Below.refl _ _ | (with_reducible refine bset ?_ ?_ _; focus (first | (simp; done) | (simp; omega) | omega)) | with_reducible refine balloc ?_ _ | with_reducible refine bdrew ?_ | with_reducible refine bthen ?_ (by assumption)))
end Go.Proofs.Ytblibhmmliljgaa
