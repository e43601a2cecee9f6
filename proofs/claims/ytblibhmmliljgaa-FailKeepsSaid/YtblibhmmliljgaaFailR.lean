/- The walks of the document's own functions on one fail. -/
import Derived.Test.YtblibhmmliljgaaFailW4
namespace Go.Proofs.Ytblibhmmliljgaa
open Go.RowKit
set_option maxRecDepth 100000

theorem between_any (n a b : Int) (w : World) : Calls Try.prog 25 #[.int .i64 n, .int .i64 a, .int .i64 b] w fun e w' => e = .returned (.bool (decide (a ≤ n ∧ n ≤ b))) ∧ w = w' := by
  go_enter Try.func25, Try.ntmps25
  go_wp2
  all_goals (go_ret; exact ⟨by simp [*] <;> omega, rfl⟩)
theorem rfopen_any (f : Fl) (h : F.Kn f) (h3 : F.Pt f) (w : World) : Calls Try.prog 16 #[.agg #[.int .i64 f.id, .int .i64 f.fr, .int .i64 f.to, .int .i64 f.cl, .int .i64 f.pa, .int .i64 f.day, .int .i64 f.un, .int .i64 f.de, .int .i64 f.bo, .int .i64 f.pd]] w fun e w' => e = .returned (.int .i64 (F.left f)) ∧ Below w.heap.size w w' := by
  have e : F.left f = f.un - (f.de + f.bo + f.pd) := by unfold F.left; omega
  have E := hid e
  obtain ⟨_, _, _, _, _, _, u1, u2⟩ := h
  obtain ⟨⟨p1, p2⟩, ⟨p3, p4⟩, p5, p6⟩ := h3
  clear e
  go_enter Try.func16, Try.ntmps16
  go_wp2
  go_ret
  refine ⟨by rw [E.out]; rfl, ?_⟩
  (repeat (first | with_reducible exact Below.refl _ _ | (with_reducible refine bset ?_ ?_ _; focus (first | (simp; done) | (simp; omega) | omega)) | with_reducible refine balloc ?_ _ | with_reducible refine bdrew ?_ | with_reducible refine bthen ?_ (by assumption)))
theorem rfcheck_1 (f : Fl) (h : ¬ F.Kn f) (w : World) : Calls Try.prog 14 #[.agg #[.int .i64 f.id, .int .i64 f.fr, .int .i64 f.to, .int .i64 f.cl, .int .i64 f.pa, .int .i64 f.day, .int .i64 f.un, .int .i64 f.de, .int .i64 f.bo, .int .i64 f.pd]] w fun e w' => e = .returned (.int .i64 3) ∧ Below w.heap.size w w' := by
  by_cases c1 : 1 ≤ f.id ∧ f.id ≤ 1099511627776
  · have d1 : decide (1 ≤ f.id ∧ f.id ≤ 1099511627776) = true := decide_eq_true c1
    by_cases c2 : 0 ≤ f.fr ∧ f.fr ≤ 30
    · have d2 : decide (0 ≤ f.fr ∧ f.fr ≤ 30) = true := decide_eq_true c2
      by_cases c3 : 0 ≤ f.to ∧ f.to ≤ 30
      · have d3 : decide (0 ≤ f.to ∧ f.to ≤ 30) = true := decide_eq_true c3
        by_cases c4 : 0 ≤ f.cl ∧ f.cl ≤ 5
        · have d4 : decide (0 ≤ f.cl ∧ f.cl ≤ 5) = true := decide_eq_true c4
          by_cases c5 : 1 ≤ f.pa ∧ f.pa ≤ 20
          · have d5 : decide (1 ≤ f.pa ∧ f.pa ≤ 20) = true := decide_eq_true c5
            by_cases c6 : 0 ≤ f.day ∧ f.day ≤ 3652058
            · have d6 : decide (0 ≤ f.day ∧ f.day ≤ 3652058) = true := decide_eq_true c6
              by_cases c7 : 1 ≤ f.un ∧ f.un ≤ 1073741824
              · have d7 : decide (1 ≤ f.un ∧ f.un ≤ 1073741824) = true := decide_eq_true c7
                exact absurd ⟨c1, c2, c3, c4, c5, c6, c7⟩ h
              · have d7 : decide (1 ≤ f.un ∧ f.un ≤ 1073741824) = false := decide_eq_false c7
                clear h c1 c2 c3 c4 c5 c6 c7
                go_enter Try.func14, Try.ntmps14
                go_wp2_with (first | (go_at_call 25; refine (between_any _ _ _ _).mono ?_; rintro e w' ⟨rfl, rfl⟩) | (go_at_call 16; refine (rfopen_any _ (by assumption) (by assumption) _).mono ?_; rintro e w' ⟨rfl, hb2⟩; obtain ⟨hc2, hf2⟩ := bcell hb2; have hz2 := hb2.size; (try simp at hz2); (try (have hy2 : w.heap.size < w'.heap.size := (by omega))); (try (have hx2 : w.heap.size + 1 < w'.heap.size := (by omega))); (try (have hv2 : w.heap.size + 2 < w'.heap.size := (by omega)))))
                go_ret
                refine ⟨rfl, ?_⟩
                (repeat (first | with_reducible exact Below.refl _ _ | (with_reducible refine bset ?_ ?_ _; focus (first | (simp; done) | (simp; omega) | omega)) | with_reducible refine balloc ?_ _ | with_reducible refine bdrew ?_ | with_reducible refine bthen ?_ (by assumption)))
            · have d6 : decide (0 ≤ f.day ∧ f.day ≤ 3652058) = false := decide_eq_false c6
              clear h c1 c2 c3 c4 c5 c6
              go_enter Try.func14, Try.ntmps14
              go_wp2_with (first | (go_at_call 25; refine (between_any _ _ _ _).mono ?_; rintro e w' ⟨rfl, rfl⟩) | (go_at_call 16; refine (rfopen_any _ (by assumption) (by assumption) _).mono ?_; rintro e w' ⟨rfl, hb2⟩; obtain ⟨hc2, hf2⟩ := bcell hb2; have hz2 := hb2.size; (try simp at hz2); (try (have hy2 : w.heap.size < w'.heap.size := (by omega))); (try (have hx2 : w.heap.size + 1 < w'.heap.size := (by omega))); (try (have hv2 : w.heap.size + 2 < w'.heap.size := (by omega)))))
              go_ret
              refine ⟨rfl, ?_⟩
              (repeat (first | with_reducible exact Below.refl _ _ | (with_reducible refine bset ?_ ?_ _; focus (first | (simp; done) | (simp; omega) | omega)) | with_reducible refine balloc ?_ _ | with_reducible refine bdrew ?_ | with_reducible refine bthen ?_ (by assumption)))
          · have d5 : decide (1 ≤ f.pa ∧ f.pa ≤ 20) = false := decide_eq_false c5
            clear h c1 c2 c3 c4 c5
            go_enter Try.func14, Try.ntmps14
            go_wp2_with (first | (go_at_call 25; refine (between_any _ _ _ _).mono ?_; rintro e w' ⟨rfl, rfl⟩) | (go_at_call 16; refine (rfopen_any _ (by assumption) (by assumption) _).mono ?_; rintro e w' ⟨rfl, hb2⟩; obtain ⟨hc2, hf2⟩ := bcell hb2; have hz2 := hb2.size; (try simp at hz2); (try (have hy2 : w.heap.size < w'.heap.size := (by omega))); (try (have hx2 : w.heap.size + 1 < w'.heap.size := (by omega))); (try (have hv2 : w.heap.size + 2 < w'.heap.size := (by omega)))))
            go_ret
            refine ⟨rfl, ?_⟩
            (repeat (first | with_reducible exact Below.refl _ _ | (with_reducible refine bset ?_ ?_ _; focus (first | (simp; done) | (simp; omega) | omega)) | with_reducible refine balloc ?_ _ | with_reducible refine bdrew ?_ | with_reducible refine bthen ?_ (by assumption)))
        · have d4 : decide (0 ≤ f.cl ∧ f.cl ≤ 5) = false := decide_eq_false c4
          clear h c1 c2 c3 c4
          go_enter Try.func14, Try.ntmps14
          go_wp2_with (first | (go_at_call 25; refine (between_any _ _ _ _).mono ?_; rintro e w' ⟨rfl, rfl⟩) | (go_at_call 16; refine (rfopen_any _ (by assumption) (by assumption) _).mono ?_; rintro e w' ⟨rfl, hb2⟩; obtain ⟨hc2, hf2⟩ := bcell hb2; have hz2 := hb2.size; (try simp at hz2); (try (have hy2 : w.heap.size < w'.heap.size := (by omega))); (try (have hx2 : w.heap.size + 1 < w'.heap.size := (by omega))); (try (have hv2 : w.heap.size + 2 < w'.heap.size := (by omega)))))
          go_ret
          refine ⟨rfl, ?_⟩
          (repeat (first | with_reducible exact Below.refl _ _ | (with_reducible refine bset ?_ ?_ _; focus (first | (simp; done) | (simp; omega) | omega)) | with_reducible refine balloc ?_ _ | with_reducible refine bdrew ?_ | with_reducible refine bthen ?_ (by assumption)))
      · have d3 : decide (0 ≤ f.to ∧ f.to ≤ 30) = false := decide_eq_false c3
        clear h c1 c2 c3
        go_enter Try.func14, Try.ntmps14
        go_wp2_with (first | (go_at_call 25; refine (between_any _ _ _ _).mono ?_; rintro e w' ⟨rfl, rfl⟩) | (go_at_call 16; refine (rfopen_any _ (by assumption) (by assumption) _).mono ?_; rintro e w' ⟨rfl, hb2⟩; obtain ⟨hc2, hf2⟩ := bcell hb2; have hz2 := hb2.size; (try simp at hz2); (try (have hy2 : w.heap.size < w'.heap.size := (by omega))); (try (have hx2 : w.heap.size + 1 < w'.heap.size := (by omega))); (try (have hv2 : w.heap.size + 2 < w'.heap.size := (by omega)))))
        go_ret
        refine ⟨rfl, ?_⟩
        (repeat (first | with_reducible exact Below.refl _ _ | (with_reducible refine bset ?_ ?_ _; focus (first | (simp; done) | (simp; omega) | omega)) | with_reducible refine balloc ?_ _ | with_reducible refine bdrew ?_ | with_reducible refine bthen ?_ (by assumption)))
    · have d2 : decide (0 ≤ f.fr ∧ f.fr ≤ 30) = false := decide_eq_false c2
      clear h c1 c2
      go_enter Try.func14, Try.ntmps14
      go_wp2_with (first | (go_at_call 25; refine (between_any _ _ _ _).mono ?_; rintro e w' ⟨rfl, rfl⟩) | (go_at_call 16; refine (rfopen_any _ (by assumption) (by assumption) _).mono ?_; rintro e w' ⟨rfl, hb2⟩; obtain ⟨hc2, hf2⟩ := bcell hb2; have hz2 := hb2.size; (try simp at hz2); (try (have hy2 : w.heap.size < w'.heap.size := (by omega))); (try (have hx2 : w.heap.size + 1 < w'.heap.size := (by omega))); (try (have hv2 : w.heap.size + 2 < w'.heap.size := (by omega)))))
      go_ret
      refine ⟨rfl, ?_⟩
      (repeat (first | with_reducible exact Below.refl _ _ | (with_reducible refine bset ?_ ?_ _; focus (first | (simp; done) | (simp; omega) | omega)) | with_reducible refine balloc ?_ _ | with_reducible refine bdrew ?_ | with_reducible refine bthen ?_ (by assumption)))
  · have d1 : decide (1 ≤ f.id ∧ f.id ≤ 1099511627776) = false := decide_eq_false c1
    clear h c1
    go_enter Try.func14, Try.ntmps14
    go_wp2_with (first | (go_at_call 25; refine (between_any _ _ _ _).mono ?_; rintro e w' ⟨rfl, rfl⟩) | (go_at_call 16; refine (rfopen_any _ (by assumption) (by assumption) _).mono ?_; rintro e w' ⟨rfl, hb2⟩; obtain ⟨hc2, hf2⟩ := bcell hb2; have hz2 := hb2.size; (try simp at hz2); (try (have hy2 : w.heap.size < w'.heap.size := (by omega))); (try (have hx2 : w.heap.size + 1 < w'.heap.size := (by omega))); (try (have hv2 : w.heap.size + 2 < w'.heap.size := (by omega)))))
    go_ret
    refine ⟨rfl, ?_⟩
    (repeat (first | with_reducible exact Below.refl _ _ | (with_reducible refine bset ?_ ?_ _; focus (first | (simp; done) | (simp; omega) | omega)) | with_reducible refine balloc ?_ _ | with_reducible refine bdrew ?_ | with_reducible refine bthen ?_ (by assumption)))
theorem rfcheck_2 (f : Fl) (h : F.Kn f) (h2 : f.fr = f.to) (w : World) : Calls Try.prog 14 #[.agg #[.int .i64 f.id, .int .i64 f.fr, .int .i64 f.to, .int .i64 f.cl, .int .i64 f.pa, .int .i64 f.day, .int .i64 f.un, .int .i64 f.de, .int .i64 f.bo, .int .i64 f.pd]] w fun e w' => e = .returned (.int .i64 1) ∧ Below w.heap.size w w' := by
  have d1 : decide (1 ≤ f.id ∧ f.id ≤ 1099511627776) = true := decide_eq_true h.1
  have d2 : decide (0 ≤ f.fr ∧ f.fr ≤ 30) = true := decide_eq_true h.2.1
  have d3 : decide (0 ≤ f.to ∧ f.to ≤ 30) = true := decide_eq_true h.2.2.1
  have d4 : decide (0 ≤ f.cl ∧ f.cl ≤ 5) = true := decide_eq_true h.2.2.2.1
  have d5 : decide (1 ≤ f.pa ∧ f.pa ≤ 20) = true := decide_eq_true h.2.2.2.2.1
  have d6 : decide (0 ≤ f.day ∧ f.day ≤ 3652058) = true := decide_eq_true h.2.2.2.2.2.1
  have d7 : decide (1 ≤ f.un ∧ f.un ≤ 1073741824) = true := decide_eq_true h.2.2.2.2.2.2
  have e2 : (f.fr == f.to) = true := by rw [beq_iff_eq]; exact h2
  clear h h2
  go_enter Try.func14, Try.ntmps14
  go_wp2_with (first | (go_at_call 25; refine (between_any _ _ _ _).mono ?_; rintro e w' ⟨rfl, rfl⟩) | (go_at_call 16; refine (rfopen_any _ (by assumption) (by assumption) _).mono ?_; rintro e w' ⟨rfl, hb2⟩; obtain ⟨hc2, hf2⟩ := bcell hb2; have hz2 := hb2.size; (try simp at hz2); (try (have hy2 : w.heap.size < w'.heap.size := (by omega))); (try (have hx2 : w.heap.size + 1 < w'.heap.size := (by omega))); (try (have hv2 : w.heap.size + 2 < w'.heap.size := (by omega)))))
  go_ret
  refine ⟨rfl, ?_⟩
  (repeat (first | with_reducible exact Below.refl _ _ | (with_reducible refine bset ?_ ?_ _; focus (first | (simp; done) | (simp; omega) | omega)) | with_reducible refine balloc ?_ _ | with_reducible refine bdrew ?_ | with_reducible refine bthen ?_ (by assumption)))
theorem rfcheck_3 (f : Fl) (h : F.Kn f) (h2 : f.fr ≠ f.to) (h3 : ¬ F.Pt f) (w : World) : Calls Try.prog 14 #[.agg #[.int .i64 f.id, .int .i64 f.fr, .int .i64 f.to, .int .i64 f.cl, .int .i64 f.pa, .int .i64 f.day, .int .i64 f.un, .int .i64 f.de, .int .i64 f.bo, .int .i64 f.pd]] w fun e w' => e = .returned (.int .i64 3) ∧ Below w.heap.size w w' := by
  have d1 : decide (1 ≤ f.id ∧ f.id ≤ 1099511627776) = true := decide_eq_true h.1
  have d2 : decide (0 ≤ f.fr ∧ f.fr ≤ 30) = true := decide_eq_true h.2.1
  have d3 : decide (0 ≤ f.to ∧ f.to ≤ 30) = true := decide_eq_true h.2.2.1
  have d4 : decide (0 ≤ f.cl ∧ f.cl ≤ 5) = true := decide_eq_true h.2.2.2.1
  have d5 : decide (1 ≤ f.pa ∧ f.pa ≤ 20) = true := decide_eq_true h.2.2.2.2.1
  have d6 : decide (0 ≤ f.day ∧ f.day ≤ 3652058) = true := decide_eq_true h.2.2.2.2.2.1
  have d7 : decide (1 ≤ f.un ∧ f.un ≤ 1073741824) = true := decide_eq_true h.2.2.2.2.2.2
  have e2 : (f.fr == f.to) = false := by rw [beq_eq_false_iff_ne]; exact h2
  clear h2 h
  by_cases c1 : 0 ≤ f.de ∧ f.de ≤ f.un
  · have g1 : decide (0 ≤ f.de ∧ f.de ≤ f.un) = true := decide_eq_true c1
    by_cases c2 : 0 ≤ f.bo ∧ f.bo ≤ f.un
    · have g2 : decide (0 ≤ f.bo ∧ f.bo ≤ f.un) = true := decide_eq_true c2
      by_cases c3 : 0 ≤ f.pd ∧ f.pd ≤ f.un
      · have g3 : decide (0 ≤ f.pd ∧ f.pd ≤ f.un) = true := decide_eq_true c3
        exact absurd ⟨c1, c2, c3⟩ h3
      · have g3 : decide (0 ≤ f.pd ∧ f.pd ≤ f.un) = false := decide_eq_false c3
        clear h3 c1 c2 c3
        go_enter Try.func14, Try.ntmps14
        go_wp2_with (first | (go_at_call 25; refine (between_any _ _ _ _).mono ?_; rintro e w' ⟨rfl, rfl⟩) | (go_at_call 16; refine (rfopen_any _ (by assumption) (by assumption) _).mono ?_; rintro e w' ⟨rfl, hb2⟩; obtain ⟨hc2, hf2⟩ := bcell hb2; have hz2 := hb2.size; (try simp at hz2); (try (have hy2 : w.heap.size < w'.heap.size := (by omega))); (try (have hx2 : w.heap.size + 1 < w'.heap.size := (by omega))); (try (have hv2 : w.heap.size + 2 < w'.heap.size := (by omega)))))
        go_ret
        refine ⟨rfl, ?_⟩
        (repeat (first | with_reducible exact Below.refl _ _ | (with_reducible refine bset ?_ ?_ _; focus (first | (simp; done) | (simp; omega) | omega)) | with_reducible refine balloc ?_ _ | with_reducible refine bdrew ?_ | with_reducible refine bthen ?_ (by assumption)))
    · have g2 : decide (0 ≤ f.bo ∧ f.bo ≤ f.un) = false := decide_eq_false c2
      clear h3 c1 c2
      go_enter Try.func14, Try.ntmps14
      go_wp2_with (first | (go_at_call 25; refine (between_any _ _ _ _).mono ?_; rintro e w' ⟨rfl, rfl⟩) | (go_at_call 16; refine (rfopen_any _ (by assumption) (by assumption) _).mono ?_; rintro e w' ⟨rfl, hb2⟩; obtain ⟨hc2, hf2⟩ := bcell hb2; have hz2 := hb2.size; (try simp at hz2); (try (have hy2 : w.heap.size < w'.heap.size := (by omega))); (try (have hx2 : w.heap.size + 1 < w'.heap.size := (by omega))); (try (have hv2 : w.heap.size + 2 < w'.heap.size := (by omega)))))
      go_ret
      refine ⟨rfl, ?_⟩
      (repeat (first | with_reducible exact Below.refl _ _ | (with_reducible refine bset ?_ ?_ _; focus (first | (simp; done) | (simp; omega) | omega)) | with_reducible refine balloc ?_ _ | with_reducible refine bdrew ?_ | with_reducible refine bthen ?_ (by assumption)))
  · have g1 : decide (0 ≤ f.de ∧ f.de ≤ f.un) = false := decide_eq_false c1
    clear h3 c1
    go_enter Try.func14, Try.ntmps14
    go_wp2_with (first | (go_at_call 25; refine (between_any _ _ _ _).mono ?_; rintro e w' ⟨rfl, rfl⟩) | (go_at_call 16; refine (rfopen_any _ (by assumption) (by assumption) _).mono ?_; rintro e w' ⟨rfl, hb2⟩; obtain ⟨hc2, hf2⟩ := bcell hb2; have hz2 := hb2.size; (try simp at hz2); (try (have hy2 : w.heap.size < w'.heap.size := (by omega))); (try (have hx2 : w.heap.size + 1 < w'.heap.size := (by omega))); (try (have hv2 : w.heap.size + 2 < w'.heap.size := (by omega)))))
    go_ret
    refine ⟨rfl, ?_⟩
    (repeat (first | with_reducible exact Below.refl _ _ | (with_reducible refine bset ?_ ?_ _; focus (first | (simp; done) | (simp; omega) | omega)) | with_reducible refine balloc ?_ _ | with_reducible refine bdrew ?_ | with_reducible refine bthen ?_ (by assumption)))
theorem rfcheck_4 (f : Fl) (h : F.Kn f) (h2 : f.fr ≠ f.to) (h3 : F.Pt f) (h4 : f.un < f.de + f.bo + f.pd) (w : World) : Calls Try.prog 14 #[.agg #[.int .i64 f.id, .int .i64 f.fr, .int .i64 f.to, .int .i64 f.cl, .int .i64 f.pa, .int .i64 f.day, .int .i64 f.un, .int .i64 f.de, .int .i64 f.bo, .int .i64 f.pd]] w fun e w' => e = .returned (.int .i64 4) ∧ Below w.heap.size w w' := by
  have d1 : decide (1 ≤ f.id ∧ f.id ≤ 1099511627776) = true := decide_eq_true h.1
  have d2 : decide (0 ≤ f.fr ∧ f.fr ≤ 30) = true := decide_eq_true h.2.1
  have d3 : decide (0 ≤ f.to ∧ f.to ≤ 30) = true := decide_eq_true h.2.2.1
  have d4 : decide (0 ≤ f.cl ∧ f.cl ≤ 5) = true := decide_eq_true h.2.2.2.1
  have d5 : decide (1 ≤ f.pa ∧ f.pa ≤ 20) = true := decide_eq_true h.2.2.2.2.1
  have d6 : decide (0 ≤ f.day ∧ f.day ≤ 3652058) = true := decide_eq_true h.2.2.2.2.2.1
  have d7 : decide (1 ≤ f.un ∧ f.un ≤ 1073741824) = true := decide_eq_true h.2.2.2.2.2.2
  have e2 : (f.fr == f.to) = false := by rw [beq_eq_false_iff_ne]; exact h2
  have g1 : decide (0 ≤ f.de ∧ f.de ≤ f.un) = true := decide_eq_true h3.1
  have g2 : decide (0 ≤ f.bo ∧ f.bo ≤ f.un) = true := decide_eq_true h3.2.1
  have g3 : decide (0 ≤ f.pd ∧ f.pd ≤ f.un) = true := decide_eq_true h3.2.2
  have q : decide (F.left f < 0) = true := by first | (apply decide_eq_true; unfold F.left; omega) | (apply decide_eq_false; unfold F.left; omega)
  clear h2 h4
  go_enter Try.func14, Try.ntmps14
  go_wp2_with (first | (go_at_call 25; refine (between_any _ _ _ _).mono ?_; rintro e w' ⟨rfl, rfl⟩) | (go_at_call 16; refine (rfopen_any _ (by assumption) (by assumption) _).mono ?_; rintro e w' ⟨rfl, hb2⟩; obtain ⟨hc2, hf2⟩ := bcell hb2; have hz2 := hb2.size; (try simp at hz2); (try (have hy2 : w.heap.size < w'.heap.size := (by omega))); (try (have hx2 : w.heap.size + 1 < w'.heap.size := (by omega))); (try (have hv2 : w.heap.size + 2 < w'.heap.size := (by omega)))))
  go_ret
  refine ⟨rfl, ?_⟩
  (repeat (first | with_reducible exact Below.refl _ _ | (with_reducible refine bset ?_ ?_ _; focus (first | (simp; done) | (simp; omega) | omega)) | with_reducible refine balloc ?_ _ | with_reducible refine bdrew ?_ | with_reducible refine bthen ?_ (by assumption)))
theorem rfcheck_0 (f : Fl) (h : F.Kn f) (h2 : f.fr ≠ f.to) (h3 : F.Pt f) (h4 : ¬ f.un < f.de + f.bo + f.pd) (w : World) : Calls Try.prog 14 #[.agg #[.int .i64 f.id, .int .i64 f.fr, .int .i64 f.to, .int .i64 f.cl, .int .i64 f.pa, .int .i64 f.day, .int .i64 f.un, .int .i64 f.de, .int .i64 f.bo, .int .i64 f.pd]] w fun e w' => e = .returned (.int .i64 0) ∧ Below w.heap.size w w' := by
  have d1 : decide (1 ≤ f.id ∧ f.id ≤ 1099511627776) = true := decide_eq_true h.1
  have d2 : decide (0 ≤ f.fr ∧ f.fr ≤ 30) = true := decide_eq_true h.2.1
  have d3 : decide (0 ≤ f.to ∧ f.to ≤ 30) = true := decide_eq_true h.2.2.1
  have d4 : decide (0 ≤ f.cl ∧ f.cl ≤ 5) = true := decide_eq_true h.2.2.2.1
  have d5 : decide (1 ≤ f.pa ∧ f.pa ≤ 20) = true := decide_eq_true h.2.2.2.2.1
  have d6 : decide (0 ≤ f.day ∧ f.day ≤ 3652058) = true := decide_eq_true h.2.2.2.2.2.1
  have d7 : decide (1 ≤ f.un ∧ f.un ≤ 1073741824) = true := decide_eq_true h.2.2.2.2.2.2
  have e2 : (f.fr == f.to) = false := by rw [beq_eq_false_iff_ne]; exact h2
  have g1 : decide (0 ≤ f.de ∧ f.de ≤ f.un) = true := decide_eq_true h3.1
  have g2 : decide (0 ≤ f.bo ∧ f.bo ≤ f.un) = true := decide_eq_true h3.2.1
  have g3 : decide (0 ≤ f.pd ∧ f.pd ≤ f.un) = true := decide_eq_true h3.2.2
  have q : decide (F.left f < 0) = false := by first | (apply decide_eq_true; unfold F.left; omega) | (apply decide_eq_false; unfold F.left; omega)
  clear h2 h4
  go_enter Try.func14, Try.ntmps14
  go_wp2_with (first | (go_at_call 25; refine (between_any _ _ _ _).mono ?_; rintro e w' ⟨rfl, rfl⟩) | (go_at_call 16; refine (rfopen_any _ (by assumption) (by assumption) _).mono ?_; rintro e w' ⟨rfl, hb2⟩; obtain ⟨hc2, hf2⟩ := bcell hb2; have hz2 := hb2.size; (try simp at hz2); (try (have hy2 : w.heap.size < w'.heap.size := (by omega))); (try (have hx2 : w.heap.size + 1 < w'.heap.size := (by omega))); (try (have hv2 : w.heap.size + 2 < w'.heap.size := (by omega)))))
  go_ret
  refine ⟨rfl, ?_⟩
  (repeat (first | with_reducible exact Below.refl _ _ | (with_reducible refine bset ?_ ?_ _; focus (first | (simp; done) | (simp; omega) | omega)) | with_reducible refine balloc ?_ _ | with_reducible refine bdrew ?_ | with_reducible refine bthen ?_ (by assumption)))
theorem rfcheck_any (f : Fl) (w : World) : Calls Try.prog 14 #[.agg #[.int .i64 f.id, .int .i64 f.fr, .int .i64 f.to, .int .i64 f.cl, .int .i64 f.pa, .int .i64 f.day, .int .i64 f.un, .int .i64 f.de, .int .i64 f.bo, .int .i64 f.pd]] w fun e w' => e = .returned (.int .i64 (F.chk f)) ∧ Below w.heap.size w w' := by
  by_cases h : F.Kn f
  · by_cases h2 : f.fr = f.to
    · rw [F.chk_2 h h2]; exact rfcheck_2 f h h2 w
    by_cases h3 : F.Pt f
    · by_cases h4 : f.un < f.de + f.bo + f.pd
      · rw [F.chk_4 h h2 h3 h4]; exact rfcheck_4 f h h2 h3 h4 w
      · rw [F.chk_of ⟨h, h2, h3, by omega⟩]; exact rfcheck_0 f h h2 h3 h4 w
    · rw [F.chk_3 h h2 h3]; exact rfcheck_3 f h h2 h3 w
  · rw [F.chk_1 h]; exact rfcheck_1 f h w
end Go.Proofs.Ytblibhmmliljgaa
