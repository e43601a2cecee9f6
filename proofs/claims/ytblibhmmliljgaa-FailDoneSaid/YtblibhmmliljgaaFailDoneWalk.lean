/- The walk of FailDone. -/
import Derived.Test.YtblibhmmliljgaaFailB
import Derived.Test.YtblibhmmliljgaaFailO
import Derived.Test.YtblibhmmliljgaaFailPl3
namespace Go.Proofs.Ytblibhmmliljgaa
open Go.RowKit
set_option maxRecDepth 100000
set_option linter.unusedVariables false
set_option maxHeartbeats 4000000
theorem failDone_walk (f : Fl) (wf : WfF f) (units : Int) (wu : (Lit.int .i64 units).wf = true) (w : World) :
    Calls Try.prog 7 #[.agg #[.int .i64 f.id, .int .i64 f.fr, .int .i64 f.to, .int .i64 f.cl, .int .i64 f.pa, .int .i64 f.day, .int .i64 f.un, .int .i64 f.de, .int .i64 f.bo, .int .i64 f.pd], .int .i64 units] w fun e w' => e = .returned (.bool true) ∧ Below w.heap.size w w' := by
  by_cases h : F.less f 1 = 0
  · obtain ⟨e1, e2⟩ := F.pay_yes h
    obtain ⟨k1, k2, k3⟩ := F.paid_ok h
    have d1 := F.done_less h units
    have d2 := F.done_less h 1
    rw [if_pos (by omega)] at d2
    have hw : ∀ z : Int, F.less (F.addPd f (F.left f)) units = z → (if 1 ≤ units ∧ units ≤ 1073741824 then (5 : Int) else 3) = z := fun z hz => d1.symm.trans hz
    generalize F.addPd f (F.left f) = p at *
    clear k1 k2 wf
    have main : ∀ z : Int, F.less p units = z → (units < 1 ∨ 1073741824 < units) ∧ z = 3 ∨ (1 ≤ units ∧ units ≤ 1073741824) ∧ z = 5 := by
      intro z hz
      have := hw z hz
      split at this
      · right; exact ⟨by assumption, this.symm⟩
      · left; exact ⟨by omega, this.symm⟩
    have H := hid h
    obtain ⟨z, hz⟩ : ∃ z, F.less p units = z := ⟨_, rfl⟩
    have hm := main z hz
    clear main hw d1
    rcases hm with ⟨hu, rfl⟩ | ⟨hu, rfl⟩
    · rcases hu with hu | hu
      all_goals
        go_enter Try.func7, Try.ntmps7
        go_wp2_with fail
        refine (fpay_any f _).mono ?_
        rintro e w1 ⟨rfl, hb1⟩
        rw [e1, e2]
        obtain ⟨hc1, hf1⟩ := bcell hb1
        have hz1 := hb1.size
        (try simp at hz1)
        go_wp2_with fail
        refine (fbegun_any _).mono ?_
        rintro e w2 ⟨rfl, hb2⟩
        obtain ⟨hc2, hf2⟩ := bcell hb2
        have hz2 := hb2.size
        (try simp at hz2)
        have hy2_0 : w1.heap.size < w2.heap.size := by omega
        go_wp2_with fail
        refine (fdeliver_any p units _).mono ?_
        rintro e w3 ⟨rfl, hb3⟩
        obtain ⟨hc3, hf3⟩ := bcell hb3
        have hz3 := hb3.size
        (try simp at hz3)
        have hy3_0 : w1.heap.size < w3.heap.size := by omega
        go_wp2_with fail
        refine (fbuy_any p units _).mono ?_
        rintro e w4 ⟨rfl, hb4⟩
        obtain ⟨hc4, hf4⟩ := bcell hb4
        have hz4 := hb4.size
        (try simp at hz4)
        have hy4_0 : w1.heap.size < w4.heap.size := by omega
        go_wp2_with fail
        refine (fpay_any p _).mono ?_
        rintro e w5 ⟨rfl, hb5⟩
        obtain ⟨hc5, hf5⟩ := bcell hb5
        have hz5 := hb5.size
        (try simp at hz5)
        have hy5_0 : w1.heap.size < w5.heap.size := by omega
        go_wp2
        go_ret
        refine ⟨rfl, ?_⟩
        (repeat (first | with_reducible exact Below.refl _ _ | (with_reducible refine bset ?_ ?_ _; focus (first | (simp; done) | (simp; omega) | omega)) | with_reducible refine balloc ?_ _ | with_reducible refine bdrew ?_ | with_reducible refine bthen ?_ (by assumption)))
    · obtain ⟨hu1, hu2⟩ := hu
      go_enter Try.func7, Try.ntmps7
      go_wp2_with fail
      refine (fpay_any f _).mono ?_
      rintro e w1 ⟨rfl, hb1⟩
      rw [e1, e2]
      obtain ⟨hc1, hf1⟩ := bcell hb1
      have hz1 := hb1.size
      (try simp at hz1)
      go_wp2_with fail
      refine (fbegun_any _).mono ?_
      rintro e w2 ⟨rfl, hb2⟩
      obtain ⟨hc2, hf2⟩ := bcell hb2
      have hz2 := hb2.size
      (try simp at hz2)
      have hy2_0 : w1.heap.size < w2.heap.size := by omega
      go_wp2_with fail
      refine (fdeliver_any p units _).mono ?_
      rintro e w3 ⟨rfl, hb3⟩
      obtain ⟨hc3, hf3⟩ := bcell hb3
      have hz3 := hb3.size
      (try simp at hz3)
      have hy3_0 : w1.heap.size < w3.heap.size := by omega
      go_wp2_with fail
      refine (fbuy_any p units _).mono ?_
      rintro e w4 ⟨rfl, hb4⟩
      obtain ⟨hc4, hf4⟩ := bcell hb4
      have hz4 := hb4.size
      (try simp at hz4)
      have hy4_0 : w1.heap.size < w4.heap.size := by omega
      go_wp2_with fail
      refine (fpay_any p _).mono ?_
      rintro e w5 ⟨rfl, hb5⟩
      obtain ⟨hc5, hf5⟩ := bcell hb5
      have hz5 := hb5.size
      (try simp at hz5)
      have hy5_0 : w1.heap.size < w5.heap.size := by omega
      go_wp2
      go_ret
      refine ⟨rfl, ?_⟩
      (repeat (first | with_reducible exact Below.refl _ _ | (with_reducible refine bset ?_ ?_ _; focus (first | (simp; done) | (simp; omega) | omega)) | with_reducible refine balloc ?_ _ | with_reducible refine bdrew ?_ | with_reducible refine bthen ?_ (by assumption)))
  · have hb : (F.less f 1 != 0) = true := by rw [bne_iff_ne]; exact h
    obtain ⟨e1, e2⟩ := F.pay_no h
    clear h wf wu
    go_enter Try.func7, Try.ntmps7
    go_wp2_with fail
    refine (fpay_any f _).mono ?_
    rintro e w1 ⟨rfl, hb1⟩
    rw [e1, e2]
    obtain ⟨hc1, hf1⟩ := bcell hb1
    have hz1 := hb1.size
    (try simp at hz1)
    go_wp2_with fail
    refine (fbegun_any _).mono ?_
    rintro e w2 ⟨rfl, hb2⟩
    obtain ⟨hc2, hf2⟩ := bcell hb2
    have hz2 := hb2.size
    (try simp at hz2)
    have hy2 : w1.heap.size < w2.heap.size := by omega
    go_wp2
    go_ret
    refine ⟨rfl, ?_⟩
    (repeat (first | with_reducible exact Below.refl _ _ | (with_reducible refine bset ?_ ?_ _; focus (first | (simp; done) | (simp; omega) | omega)) | with_reducible refine balloc ?_ _ | with_reducible refine bdrew ?_ | with_reducible refine bthen ?_ (by assumption)))
end Go.Proofs.Ytblibhmmliljgaa
