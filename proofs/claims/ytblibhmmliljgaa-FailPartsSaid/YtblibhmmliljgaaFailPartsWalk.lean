/- The walk of FailParts. -/
import Derived.Test.YtblibhmmliljgaaFailB
import Derived.Test.YtblibhmmliljgaaFailO
import Derived.Test.YtblibhmmliljgaaFailPl3
namespace Go.Proofs.Ytblibhmmliljgaa
open Go.RowKit
set_option maxRecDepth 100000
set_option linter.unusedVariables false
set_option maxHeartbeats 4000000
theorem failParts_walk (f : Fl) (wf : WfF f) (a : Int) (wa : (Lit.int .i64 a).wf = true) (b : Int) (wb : (Lit.int .i64 b).wf = true) (w : World) :
    Calls Try.prog 5 #[.agg #[.int .i64 f.id, .int .i64 f.fr, .int .i64 f.to, .int .i64 f.cl, .int .i64 f.pa, .int .i64 f.day, .int .i64 f.un, .int .i64 f.de, .int .i64 f.bo, .int .i64 f.pd], .int .i64 a, .int .i64 b] w fun e w' => e = .returned (.bool true) ∧ Below w.heap.size w w' := by
  obtain ⟨a1, a2⟩ := wf64 wa
  obtain ⟨b1, b2⟩ := wf64 wb
  clear wf wa wb
  by_cases h : F.less f a = 0
  · obtain ⟨_, l1, l2, _⟩ := F.less_ok h
    have e1 := F.deliver_yes h
    obtain ⟨x, hx⟩ : ∃ x, F.addDe f a = x := ⟨_, rfl⟩
    rw [hx] at e1
    have HX := hid hx
    have E1 := hid e1
    clear hx e1
    by_cases c1 : b < 1
    · have g1 := F.parts_no (f := x) (b := b) (by omega)
      have g2 : (F.less x b != 0) = true := by rw [bne_iff_ne]; exact g1
      clear g1
      go_enter Try.func5, Try.ntmps5
      go_wp2_with fail
      refine (fdeliver_any f a _).mono ?_
      rintro e w1 ⟨rfl, hb1⟩
      rw [E1.out, h]
      obtain ⟨hc1, hf1⟩ := bcell hb1
      have hz1 := hb1.size
      (try simp at hz1)
      have hyf1 : w.heap.size < w1.heap.size := by omega
      go_wp2_with fail
      refine (fbegun_any _).mono ?_
      rintro e w2 ⟨rfl, hb2⟩
      obtain ⟨hc2, hf2⟩ := bcell hb2
      have hz2 := hb2.size
      (try simp at hz2)
      have hyf2 : w.heap.size < w2.heap.size := by omega
      have hy2_0 : w1.heap.size < w2.heap.size := by omega
      go_wp2_with fail
      refine (fdeliver_any x b _).mono ?_
      rintro e w3 ⟨rfl, hb3⟩
      obtain ⟨hc3, hf3⟩ := bcell hb3
      have hz3 := hb3.size
      (try simp at hz3)
      have hyf3 : w.heap.size < w3.heap.size := by omega
      have hy3_0 : w1.heap.size < w3.heap.size := by omega
      go_wp2_with fail
      refine (fdeliver_any f _ _).mono ?_
      rintro e w4 ⟨rfl, hb4⟩
      obtain ⟨hc4, hf4⟩ := bcell hb4
      have hz4 := hb4.size
      (try simp at hz4)
      have hyf4 : w.heap.size < w4.heap.size := by omega
      have hy4_0 : w1.heap.size < w4.heap.size := by omega
      have hy4_1 : w3.heap.size < w4.heap.size := by omega
      go_wp2_with fail
      refine (fbuy_any x b _).mono ?_
      rintro e w5 ⟨rfl, hb5⟩
      obtain ⟨hc5, hf5⟩ := bcell hb5
      have hz5 := hb5.size
      (try simp at hz5)
      have hyf5 : w.heap.size < w5.heap.size := by omega
      have hy5_0 : w1.heap.size < w5.heap.size := by omega
      go_wp2_with fail
      refine (fbuy_any f b _).mono ?_
      rintro e w6 ⟨rfl, hb6⟩
      obtain ⟨hc6, hf6⟩ := bcell hb6
      have hz6 := hb6.size
      (try simp at hz6)
      have hyf6 : w.heap.size < w6.heap.size := by omega
      have hy6_0 : w1.heap.size < w6.heap.size := by omega
      go_wp2
      go_ret
      refine ⟨rfl, ?_⟩
      (repeat (first | with_reducible exact Below.refl _ _ | (with_reducible refine bset ?_ ?_ _; focus (first | (simp; done) | (simp; omega) | omega)) | with_reducible refine balloc ?_ _ | with_reducible refine bdrew ?_ | with_reducible refine bthen ?_ (by assumption)))
    by_cases c2 : 1073741824 < b
    · have g1 := F.parts_no (f := x) (b := b) (by omega)
      have g2 : (F.less x b != 0) = true := by rw [bne_iff_ne]; exact g1
      have g3 := F.parts_no (f := f) (b := wrap64 (a + b)) (by unfold wrap64; omega)
      have g4 : (F.less f (wrap64 (a + b)) != 0) = true := by rw [bne_iff_ne]; exact g3
      have HW := hid (rfl : wrap64 (a + b) = wrap64 (a + b))
      clear g1 g3
      go_enter Try.func5, Try.ntmps5
      go_wp2_with fail
      refine (fdeliver_any f a _).mono ?_
      rintro e w1 ⟨rfl, hb1⟩
      rw [E1.out, h]
      obtain ⟨hc1, hf1⟩ := bcell hb1
      have hz1 := hb1.size
      (try simp at hz1)
      have hyf1 : w.heap.size < w1.heap.size := by omega
      go_wp2_with fail
      refine (fbegun_any _).mono ?_
      rintro e w2 ⟨rfl, hb2⟩
      obtain ⟨hc2, hf2⟩ := bcell hb2
      have hz2 := hb2.size
      (try simp at hz2)
      have hyf2 : w.heap.size < w2.heap.size := by omega
      have hy2_0 : w1.heap.size < w2.heap.size := by omega
      go_wp2_with fail
      refine (fdeliver_any x b _).mono ?_
      rintro e w3 ⟨rfl, hb3⟩
      obtain ⟨hc3, hf3⟩ := bcell hb3
      have hz3 := hb3.size
      (try simp at hz3)
      have hyf3 : w.heap.size < w3.heap.size := by omega
      have hy3_0 : w1.heap.size < w3.heap.size := by omega
      go_wp2_with fail
      refine (fdeliver_any f _ _).mono ?_
      rintro e w4 ⟨rfl, hb4⟩
      obtain ⟨hc4, hf4⟩ := bcell hb4
      have hz4 := hb4.size
      (try simp at hz4)
      have hyf4 : w.heap.size < w4.heap.size := by omega
      have hy4_0 : w1.heap.size < w4.heap.size := by omega
      have hy4_1 : w3.heap.size < w4.heap.size := by omega
      go_wp2_with fail
      refine (fbuy_any x b _).mono ?_
      rintro e w5 ⟨rfl, hb5⟩
      obtain ⟨hc5, hf5⟩ := bcell hb5
      have hz5 := hb5.size
      (try simp at hz5)
      have hyf5 : w.heap.size < w5.heap.size := by omega
      have hy5_0 : w1.heap.size < w5.heap.size := by omega
      go_wp2_with fail
      refine (fbuy_any f b _).mono ?_
      rintro e w6 ⟨rfl, hb6⟩
      obtain ⟨hc6, hf6⟩ := bcell hb6
      have hz6 := hb6.size
      (try simp at hz6)
      have hyf6 : w.heap.size < w6.heap.size := by omega
      have hy6_0 : w1.heap.size < w6.heap.size := by omega
      go_wp2
      go_ret
      refine ⟨rfl, ?_⟩
      (repeat (first | with_reducible exact Below.refl _ _ | (with_reducible refine bset ?_ ?_ _; focus (first | (simp; done) | (simp; omega) | omega)) | with_reducible refine balloc ?_ _ | with_reducible refine bdrew ?_ | with_reducible refine bthen ?_ (by assumption)))
    rcases F.parts (b := b) h (by omega) (by omega) with ⟨k1, k2, k3, k4⟩ | ⟨k1, k2⟩
    · rw [HX.out] at k1
      have p1 := hid (F.deliver_yes k1)
      have p2 := hid (F.deliver_yes k2)
      have i0 : F.less x b = 0 := k1
      have p3 := hid (F.buy_yes i0)
      have p4 := hid (F.buy_yes k4)
      have p5 := hid (F.deliver_yes k3)
      have q1 := hid (show F.addDe x b = F.addDe f (a + b) by rw [← HX.out]; unfold F.addDe; simp only; congr 1; omega)
      have q2 := hid (show F.addBo x b = F.addDe (F.addBo f b) a by rw [← HX.out]; rfl)
      obtain ⟨y, hy⟩ : ∃ y, F.addDe f (a + b) = y := ⟨_, rfl⟩
      obtain ⟨q, hq⟩ : ∃ q, F.addBo f b = q := ⟨_, rfl⟩
      rw [hq] at k3
      obtain ⟨r, hr⟩ : ∃ r, F.addDe q a = r := ⟨_, rfl⟩
      have HY := hid hy; have HQ := hid hq; have HR := hid hr
      have K1 := hid k1; have K2 := hid k2; have K3 := hid k3; have K4 := hid k4
      clear hy hq hr k1 k2 k3 k4 i0
      go_enter Try.func5, Try.ntmps5
      go_wp2_with fail
      refine (fdeliver_any f a _).mono ?_
      rintro e w1 ⟨rfl, hb1⟩
      rw [E1.out, h]
      obtain ⟨hc1, hf1⟩ := bcell hb1
      have hz1 := hb1.size
      (try simp at hz1)
      have hyf1 : w.heap.size < w1.heap.size := by omega
      go_wp2_with fail
      refine (fbegun_any _).mono ?_
      rintro e w2 ⟨rfl, hb2⟩
      obtain ⟨hc2, hf2⟩ := bcell hb2
      have hz2 := hb2.size
      (try simp at hz2)
      have hyf2 : w.heap.size < w2.heap.size := by omega
      have hy2_0 : w1.heap.size < w2.heap.size := by omega
      go_wp2_with fail
      refine (fdeliver_any x b _).mono ?_
      rintro e w3 ⟨rfl, hb3⟩
      rw [p1.out, K1.out, q1.out, HY.out]
      obtain ⟨hc3, hf3⟩ := bcell hb3
      have hz3 := hb3.size
      (try simp at hz3)
      have hyf3 : w.heap.size < w3.heap.size := by omega
      have hy3_0 : w1.heap.size < w3.heap.size := by omega
      go_wp2_with fail
      refine (fdeliver_any f _ _).mono ?_
      rintro e w4 ⟨rfl, hb4⟩
      rw [p2.out, K2.out, HY.out]
      obtain ⟨hc4, hf4⟩ := bcell hb4
      have hz4 := hb4.size
      (try simp at hz4)
      have hyf4 : w.heap.size < w4.heap.size := by omega
      have hy4_0 : w1.heap.size < w4.heap.size := by omega
      have hy4_1 : w3.heap.size < w4.heap.size := by omega
      go_wp2_with fail
      refine (fbuy_any x b _).mono ?_
      rintro e w5 ⟨rfl, hb5⟩
      rw [p3.out, K1.out, q2.out, HQ.out, HR.out]
      obtain ⟨hc5, hf5⟩ := bcell hb5
      have hz5 := hb5.size
      (try simp at hz5)
      have hyf5 : w.heap.size < w5.heap.size := by omega
      have hy5_0 : w1.heap.size < w5.heap.size := by omega
      have hy5_1 : w3.heap.size < w5.heap.size := by omega
      have hy5_2 : w4.heap.size < w5.heap.size := by omega
      go_wp2_with fail
      refine (fbuy_any f b _).mono ?_
      rintro e w6 ⟨rfl, hb6⟩
      rw [p4.out, K4.out, HQ.out]
      obtain ⟨hc6, hf6⟩ := bcell hb6
      have hz6 := hb6.size
      (try simp at hz6)
      have hyf6 : w.heap.size < w6.heap.size := by omega
      have hy6_0 : w1.heap.size < w6.heap.size := by omega
      have hy6_1 : w3.heap.size < w6.heap.size := by omega
      have hy6_2 : w4.heap.size < w6.heap.size := by omega
      have hy6_3 : w5.heap.size < w6.heap.size := by omega
      go_wp2_with fail
      refine (fdeliver_any q a _).mono ?_
      rintro e w7 ⟨rfl, hb7⟩
      rw [F.deliver_yes K3.out, K3.out, HR.out]
      obtain ⟨hc7, hf7⟩ := bcell hb7
      have hz7 := hb7.size
      (try simp at hz7)
      have hyf7 : w.heap.size < w7.heap.size := by omega
      have hy7_0 : w1.heap.size < w7.heap.size := by omega
      have hy7_1 : w3.heap.size < w7.heap.size := by omega
      have hy7_2 : w4.heap.size < w7.heap.size := by omega
      have hy7_3 : w5.heap.size < w7.heap.size := by omega
      have hy7_4 : w6.heap.size < w7.heap.size := by omega
      go_wp2
      go_ret
      refine ⟨rfl, ?_⟩
      (repeat (first | with_reducible exact Below.refl _ _ | (with_reducible refine bset ?_ ?_ _; focus (first | (simp; done) | (simp; omega) | omega)) | with_reducible refine balloc ?_ _ | with_reducible refine bdrew ?_ | with_reducible refine bthen ?_ (by assumption)))
    · rw [HX.out] at k1
      have g2 : (F.less x b != 0) = true := by rw [bne_iff_ne]; exact k1
      have g4 : (F.less f (a + b) != 0) = true := by rw [bne_iff_ne]; exact k2
      clear k1 k2
      go_enter Try.func5, Try.ntmps5
      go_wp2_with fail
      refine (fdeliver_any f a _).mono ?_
      rintro e w1 ⟨rfl, hb1⟩
      rw [E1.out, h]
      obtain ⟨hc1, hf1⟩ := bcell hb1
      have hz1 := hb1.size
      (try simp at hz1)
      have hyf1 : w.heap.size < w1.heap.size := by omega
      go_wp2_with fail
      refine (fbegun_any _).mono ?_
      rintro e w2 ⟨rfl, hb2⟩
      obtain ⟨hc2, hf2⟩ := bcell hb2
      have hz2 := hb2.size
      (try simp at hz2)
      have hyf2 : w.heap.size < w2.heap.size := by omega
      have hy2_0 : w1.heap.size < w2.heap.size := by omega
      go_wp2_with fail
      refine (fdeliver_any x b _).mono ?_
      rintro e w3 ⟨rfl, hb3⟩
      obtain ⟨hc3, hf3⟩ := bcell hb3
      have hz3 := hb3.size
      (try simp at hz3)
      have hyf3 : w.heap.size < w3.heap.size := by omega
      have hy3_0 : w1.heap.size < w3.heap.size := by omega
      go_wp2_with fail
      refine (fdeliver_any f _ _).mono ?_
      rintro e w4 ⟨rfl, hb4⟩
      obtain ⟨hc4, hf4⟩ := bcell hb4
      have hz4 := hb4.size
      (try simp at hz4)
      have hyf4 : w.heap.size < w4.heap.size := by omega
      have hy4_0 : w1.heap.size < w4.heap.size := by omega
      have hy4_1 : w3.heap.size < w4.heap.size := by omega
      go_wp2_with fail
      refine (fbuy_any x b _).mono ?_
      rintro e w5 ⟨rfl, hb5⟩
      obtain ⟨hc5, hf5⟩ := bcell hb5
      have hz5 := hb5.size
      (try simp at hz5)
      have hyf5 : w.heap.size < w5.heap.size := by omega
      have hy5_0 : w1.heap.size < w5.heap.size := by omega
      go_wp2_with fail
      refine (fbuy_any f b _).mono ?_
      rintro e w6 ⟨rfl, hb6⟩
      obtain ⟨hc6, hf6⟩ := bcell hb6
      have hz6 := hb6.size
      (try simp at hz6)
      have hyf6 : w.heap.size < w6.heap.size := by omega
      have hy6_0 : w1.heap.size < w6.heap.size := by omega
      go_wp2
      go_ret
      refine ⟨rfl, ?_⟩
      (repeat (first | with_reducible exact Below.refl _ _ | (with_reducible refine bset ?_ ?_ _; focus (first | (simp; done) | (simp; omega) | omega)) | with_reducible refine balloc ?_ _ | with_reducible refine bdrew ?_ | with_reducible refine bthen ?_ (by assumption)))
  · have hb : (F.less f a != 0) = true := by rw [bne_iff_ne]; exact h
    have e1 := F.deliver_no h
    clear h
    go_enter Try.func5, Try.ntmps5
    go_wp2_with fail
    refine (fdeliver_any f a _).mono ?_
    rintro e w1 ⟨rfl, hb1⟩
    rw [e1]
    obtain ⟨hc1, hf1⟩ := bcell hb1
    have hz1 := hb1.size
    (try simp at hz1)
    have hyf1 : w.heap.size < w1.heap.size := by omega
    go_wp2_with fail
    refine (fbegun_any _).mono ?_
    rintro e w2 ⟨rfl, hb2⟩
    obtain ⟨hc2, hf2⟩ := bcell hb2
    have hz2 := hb2.size
    (try simp at hz2)
    have hyf2 : w.heap.size < w2.heap.size := by omega
    have hy2_0 : w1.heap.size < w2.heap.size := by omega
    go_wp2
    go_ret
    refine ⟨rfl, ?_⟩
    (repeat (first | with_reducible exact Below.refl _ _ | (with_reducible refine bset ?_ ?_ _; focus (first | (simp; done) | (simp; omega) | omega)) | with_reducible refine balloc ?_ _ | with_reducible refine bdrew ?_ | with_reducible refine bthen ?_ (by assumption)))
end Go.Proofs.Ytblibhmmliljgaa
