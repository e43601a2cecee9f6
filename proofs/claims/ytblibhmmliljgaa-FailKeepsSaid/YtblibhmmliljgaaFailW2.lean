/- The walks of the check of one fail, of what is left, and of what becomes less. -/
import Derived.Test.YtblibhmmliljgaaFailW
namespace Go.Proofs.Ytblibhmmliljgaa
open Go.RowKit
set_option maxRecDepth 100000

theorem fcheck_1 (f : Fl) (h : ¬ F.Kn f) (w : World) : Calls Try.prog 19 #[.agg #[.int .i64 f.id, .int .i64 f.fr, .int .i64 f.to, .int .i64 f.cl, .int .i64 f.pa, .int .i64 f.day, .int .i64 f.un, .int .i64 f.de, .int .i64 f.bo, .int .i64 f.pd]] w fun e w' => e = .returned (.int .i64 3) ∧ Below w.heap.size w w' := by
  have hk : F.kn f = false := decide_eq_false h
  clear h
  go_enter Try.func19, Try.ntmps19
  go_wp2_with (first | (go_at_call 27; refine (known_any _ _).mono ?_; rintro e w' ⟨rfl, hb1⟩; obtain ⟨hc1, hf1⟩ := bcell hb1; have hz1 := hb1.size; (try simp at hz1); (try (have hy1 : w.heap.size < w'.heap.size := (by omega))); (try (have hx1 : w.heap.size + 1 < w'.heap.size := (by omega))); (try (have hv1 : w.heap.size + 2 < w'.heap.size := (by omega)))))
  go_ret
  refine ⟨rfl, ?_⟩
  exact ((Below.refl _ _).alloc (Nat.le_refl _) _).trans (hb1.mono (by simp))
theorem fcheck_2 (f : Fl) (h : F.Kn f) (h2 : f.fr = f.to) (w : World) : Calls Try.prog 19 #[.agg #[.int .i64 f.id, .int .i64 f.fr, .int .i64 f.to, .int .i64 f.cl, .int .i64 f.pa, .int .i64 f.day, .int .i64 f.un, .int .i64 f.de, .int .i64 f.bo, .int .i64 f.pd]] w fun e w' => e = .returned (.int .i64 1) ∧ Below w.heap.size w w' := by
  have hk : F.kn f = true := decide_eq_true h
  have e2 : (f.fr == f.to) = true := by rw [beq_iff_eq]; exact h2
  clear h h2
  go_enter Try.func19, Try.ntmps19
  go_wp2_with (first | (go_at_call 27; refine (known_any _ _).mono ?_; rintro e w' ⟨rfl, hb1⟩; obtain ⟨hc1, hf1⟩ := bcell hb1; have hz1 := hb1.size; (try simp at hz1); (try (have hy1 : w.heap.size < w'.heap.size := (by omega))); (try (have hx1 : w.heap.size + 1 < w'.heap.size := (by omega))); (try (have hv1 : w.heap.size + 2 < w'.heap.size := (by omega)))))
  go_ret
  refine ⟨rfl, ?_⟩
  exact ((Below.refl _ _).alloc (Nat.le_refl _) _).trans (hb1.mono (by simp))
theorem fcheck_3 (f : Fl) (h : F.Kn f) (h2 : f.fr ≠ f.to) (h3 : ¬ F.Pt f) (w : World) : Calls Try.prog 19 #[.agg #[.int .i64 f.id, .int .i64 f.fr, .int .i64 f.to, .int .i64 f.cl, .int .i64 f.pa, .int .i64 f.day, .int .i64 f.un, .int .i64 f.de, .int .i64 f.bo, .int .i64 f.pd]] w fun e w' => e = .returned (.int .i64 3) ∧ Below w.heap.size w w' := by
  have hk : F.kn f = true := decide_eq_true h
  have e2 : (f.fr == f.to) = false := by rw [beq_eq_false_iff_ne]; exact h2
  obtain ⟨_, _, _, _, _, _, u1, u2⟩ := h
  clear h2
  by_cases c1 : 0 ≤ f.de ∧ f.de ≤ f.un
  · have d1 : decide (0 ≤ f.de ∧ f.de ≤ f.un) = true := decide_eq_true c1
    by_cases c2 : 0 ≤ f.bo ∧ f.bo ≤ f.un
    · have d2 : decide (0 ≤ f.bo ∧ f.bo ≤ f.un) = true := decide_eq_true c2
      by_cases c3 : 0 ≤ f.pd ∧ f.pd ≤ f.un
      · have d3 : decide (0 ≤ f.pd ∧ f.pd ≤ f.un) = true := decide_eq_true c3
        exact absurd ⟨c1, c2, c3⟩ h3
      · have d3 : decide (0 ≤ f.pd ∧ f.pd ≤ f.un) = false := decide_eq_false c3
        clear h3 c1 c2 c3
        go_enter Try.func19, Try.ntmps19
        go_wp2_with (first | (go_at_call 27; refine (known_any _ _).mono ?_; rintro e w' ⟨rfl, hb1⟩; obtain ⟨hc1, hf1⟩ := bcell hb1; have hz1 := hb1.size; (try simp at hz1); (try (have hy1 : w.heap.size < w'.heap.size := (by omega))); (try (have hx1 : w.heap.size + 1 < w'.heap.size := (by omega))); (try (have hv1 : w.heap.size + 2 < w'.heap.size := (by omega)))) | (go_at_call 28; refine (fwithin_any _ _ _ _).mono ?_; rintro e w' ⟨rfl, rfl⟩))
        go_ret
        exact ⟨rfl, ((Below.refl _ _).alloc (Nat.le_refl _) _).trans (hb1.mono (by simp))⟩
    · have d2 : decide (0 ≤ f.bo ∧ f.bo ≤ f.un) = false := decide_eq_false c2
      clear h3 c1 c2
      go_enter Try.func19, Try.ntmps19
      go_wp2_with (first | (go_at_call 27; refine (known_any _ _).mono ?_; rintro e w' ⟨rfl, hb1⟩; obtain ⟨hc1, hf1⟩ := bcell hb1; have hz1 := hb1.size; (try simp at hz1); (try (have hy1 : w.heap.size < w'.heap.size := (by omega))); (try (have hx1 : w.heap.size + 1 < w'.heap.size := (by omega))); (try (have hv1 : w.heap.size + 2 < w'.heap.size := (by omega)))) | (go_at_call 28; refine (fwithin_any _ _ _ _).mono ?_; rintro e w' ⟨rfl, rfl⟩))
      go_ret
      exact ⟨rfl, ((Below.refl _ _).alloc (Nat.le_refl _) _).trans (hb1.mono (by simp))⟩
  · have d1 : decide (0 ≤ f.de ∧ f.de ≤ f.un) = false := decide_eq_false c1
    clear h3 c1
    go_enter Try.func19, Try.ntmps19
    go_wp2_with (first | (go_at_call 27; refine (known_any _ _).mono ?_; rintro e w' ⟨rfl, hb1⟩; obtain ⟨hc1, hf1⟩ := bcell hb1; have hz1 := hb1.size; (try simp at hz1); (try (have hy1 : w.heap.size < w'.heap.size := (by omega))); (try (have hx1 : w.heap.size + 1 < w'.heap.size := (by omega))); (try (have hv1 : w.heap.size + 2 < w'.heap.size := (by omega)))) | (go_at_call 28; refine (fwithin_any _ _ _ _).mono ?_; rintro e w' ⟨rfl, rfl⟩))
    go_ret
    exact ⟨rfl, ((Below.refl _ _).alloc (Nat.le_refl _) _).trans (hb1.mono (by simp))⟩
theorem fcheck_4 (f : Fl) (h : F.Kn f) (h2 : f.fr ≠ f.to) (h3 : F.Pt f) (h4 : f.un < f.de + f.bo + f.pd) (w : World) : Calls Try.prog 19 #[.agg #[.int .i64 f.id, .int .i64 f.fr, .int .i64 f.to, .int .i64 f.cl, .int .i64 f.pa, .int .i64 f.day, .int .i64 f.un, .int .i64 f.de, .int .i64 f.bo, .int .i64 f.pd]] w fun e w' => e = .returned (.int .i64 4) ∧ Below w.heap.size w w' := by
  have hk : F.kn f = true := decide_eq_true h
  have e2 : (f.fr == f.to) = false := by rw [beq_eq_false_iff_ne]; exact h2
  obtain ⟨_, _, _, _, _, _, u1, u2⟩ := h
  clear h2
  have d1 : decide (0 ≤ f.de ∧ f.de ≤ f.un) = true := decide_eq_true h3.1
  have d2 : decide (0 ≤ f.bo ∧ f.bo ≤ f.un) = true := decide_eq_true h3.2.1
  have d3 : decide (0 ≤ f.pd ∧ f.pd ≤ f.un) = true := decide_eq_true h3.2.2
  obtain ⟨⟨p1, p2⟩, ⟨p3, p4⟩, p5, p6⟩ := h3
  go_enter Try.func19, Try.ntmps19
  go_wp2_with (first | (go_at_call 27; refine (known_any _ _).mono ?_; rintro e w' ⟨rfl, hb1⟩; obtain ⟨hc1, hf1⟩ := bcell hb1; have hz1 := hb1.size; (try simp at hz1); (try (have hy1 : w.heap.size < w'.heap.size := (by omega))); (try (have hx1 : w.heap.size + 1 < w'.heap.size := (by omega))); (try (have hv1 : w.heap.size + 2 < w'.heap.size := (by omega)))) | (go_at_call 28; refine (fwithin_any _ _ _ _).mono ?_; rintro e w' ⟨rfl, rfl⟩))
  go_ret
  exact ⟨rfl, ((Below.refl _ _).alloc (Nat.le_refl _) _).trans (hb1.mono (by simp))⟩
theorem fcheck_0 (f : Fl) (h : F.Kn f) (h2 : f.fr ≠ f.to) (h3 : F.Pt f) (h4 : ¬ f.un < f.de + f.bo + f.pd) (w : World) : Calls Try.prog 19 #[.agg #[.int .i64 f.id, .int .i64 f.fr, .int .i64 f.to, .int .i64 f.cl, .int .i64 f.pa, .int .i64 f.day, .int .i64 f.un, .int .i64 f.de, .int .i64 f.bo, .int .i64 f.pd]] w fun e w' => e = .returned (.int .i64 0) ∧ Below w.heap.size w w' := by
  have hk : F.kn f = true := decide_eq_true h
  have e2 : (f.fr == f.to) = false := by rw [beq_eq_false_iff_ne]; exact h2
  obtain ⟨_, _, _, _, _, _, u1, u2⟩ := h
  clear h2
  have d1 : decide (0 ≤ f.de ∧ f.de ≤ f.un) = true := decide_eq_true h3.1
  have d2 : decide (0 ≤ f.bo ∧ f.bo ≤ f.un) = true := decide_eq_true h3.2.1
  have d3 : decide (0 ≤ f.pd ∧ f.pd ≤ f.un) = true := decide_eq_true h3.2.2
  obtain ⟨⟨p1, p2⟩, ⟨p3, p4⟩, p5, p6⟩ := h3
  go_enter Try.func19, Try.ntmps19
  go_wp2_with (first | (go_at_call 27; refine (known_any _ _).mono ?_; rintro e w' ⟨rfl, hb1⟩; obtain ⟨hc1, hf1⟩ := bcell hb1; have hz1 := hb1.size; (try simp at hz1); (try (have hy1 : w.heap.size < w'.heap.size := (by omega))); (try (have hx1 : w.heap.size + 1 < w'.heap.size := (by omega))); (try (have hv1 : w.heap.size + 2 < w'.heap.size := (by omega)))) | (go_at_call 28; refine (fwithin_any _ _ _ _).mono ?_; rintro e w' ⟨rfl, rfl⟩))
  go_ret
  exact ⟨rfl, ((Below.refl _ _).alloc (Nat.le_refl _) _).trans (hb1.mono (by simp))⟩
theorem fcheck_any (f : Fl) (w : World) : Calls Try.prog 19 #[.agg #[.int .i64 f.id, .int .i64 f.fr, .int .i64 f.to, .int .i64 f.cl, .int .i64 f.pa, .int .i64 f.day, .int .i64 f.un, .int .i64 f.de, .int .i64 f.bo, .int .i64 f.pd]] w fun e w' => e = .returned (.int .i64 (F.chk f)) ∧ Below w.heap.size w w' := by
  by_cases h : F.Kn f
  · by_cases h2 : f.fr = f.to
    · rw [F.chk_2 h h2]; exact fcheck_2 f h h2 w
    by_cases h3 : F.Pt f
    · by_cases h4 : f.un < f.de + f.bo + f.pd
      · rw [F.chk_4 h h2 h3 h4]; exact fcheck_4 f h h2 h3 h4 w
      · rw [F.chk_of ⟨h, h2, h3, by omega⟩]; exact fcheck_0 f h h2 h3 h4 w
    · rw [F.chk_3 h h2 h3]; exact fcheck_3 f h h2 h3 w
  · rw [F.chk_1 h]; exact fcheck_1 f h w

theorem fleft_any (f : Fl) (h : F.Ok f) (w : World) : Calls Try.prog 22 #[.agg #[.int .i64 f.id, .int .i64 f.fr, .int .i64 f.to, .int .i64 f.cl, .int .i64 f.pa, .int .i64 f.day, .int .i64 f.un, .int .i64 f.de, .int .i64 f.bo, .int .i64 f.pd]] w fun e w' => e = .returned (.int .i64 (F.left f)) ∧ Below w.heap.size w w' := by
  obtain ⟨_, b2, b3, b4, b5, b6, b7, b8, b9⟩ := F.ok_bounds h
  clear h
  go_enter Try.func22, Try.ntmps22
  go_wp2
  go_ret
  exact ⟨rfl, (Below.refl _ _).alloc (Nat.le_refl _) _⟩

theorem fopen_any (f : Fl) (w : World) : Calls Try.prog 11 #[.agg #[.int .i64 f.id, .int .i64 f.fr, .int .i64 f.to, .int .i64 f.cl, .int .i64 f.pa, .int .i64 f.day, .int .i64 f.un, .int .i64 f.de, .int .i64 f.bo, .int .i64 f.pd]] w fun e w' => e = .returned (.tuple #[.int .i64 (F.opn f), .int .i64 (F.chk f)]) ∧ Below w.heap.size w w' := by
  by_cases h : F.chk f = 0
  · have E := hid (F.opn_yes h)
    have hok := F.chk_ok h
    go_enter Try.func11, Try.ntmps11
    go_wp2_with (first | (go_at_call 19; refine (fcheck_any _ _).mono ?_; rintro e w' ⟨rfl, hb1⟩; obtain ⟨hc1, hf1⟩ := bcell hb1; have hz1 := hb1.size; (try simp at hz1); (try (have hy1 : w.heap.size < w'.heap.size := (by omega))); (try (have hx1 : w.heap.size + 1 < w'.heap.size := (by omega))); (try (have hv1 : w.heap.size + 2 < w'.heap.size := (by omega)))) | (go_at_call 22; refine (fleft_any _ (by assumption) _).mono ?_; rintro e w' ⟨rfl, hb2⟩; obtain ⟨hc2, hf2⟩ := bcell hb2; have hz2 := hb2.size; (try simp at hz2); (try (have hy2 : w.heap.size < w'.heap.size := (by omega))); (try (have hx2 : w.heap.size + 1 < w'.heap.size := (by omega))); (try (have hv2 : w.heap.size + 2 < w'.heap.size := (by omega)))))
    go_ret2
    refine ⟨by rw [E.out, h]; rfl, ?_⟩
    exact (((Below.refl _ _).alloc (Nat.le_refl _) _).trans (hb1.mono (by simp))).trans (hb2.mono (by have := hb1.size; simp at this; omega))
  · have E := hid (F.opn_no h)
    have hb : (F.chk f != 0) = true := by rw [bne_iff_ne]; exact h
    clear h
    go_enter Try.func11, Try.ntmps11
    go_wp2_with (first | (go_at_call 19; refine (fcheck_any _ _).mono ?_; rintro e w' ⟨rfl, hb1⟩; obtain ⟨hc1, hf1⟩ := bcell hb1; have hz1 := hb1.size; (try simp at hz1); (try (have hy1 : w.heap.size < w'.heap.size := (by omega))); (try (have hx1 : w.heap.size + 1 < w'.heap.size := (by omega))); (try (have hv1 : w.heap.size + 2 < w'.heap.size := (by omega)))) | (go_at_call 22; refine (fleft_any _ (by assumption) _).mono ?_; rintro e w' ⟨rfl, hb2⟩; obtain ⟨hc2, hf2⟩ := bcell hb2; have hz2 := hb2.size; (try simp at hz2); (try (have hy2 : w.heap.size < w'.heap.size := (by omega))); (try (have hx2 : w.heap.size + 1 < w'.heap.size := (by omega))); (try (have hv2 : w.heap.size + 2 < w'.heap.size := (by omega)))))
    go_ret2
    refine ⟨by rw [E.out]; rfl, ?_⟩
    exact ((Below.refl _ _).alloc (Nat.le_refl _) _).trans (hb1.mono (by simp))
end Go.Proofs.Ytblibhmmliljgaa
