/- The walks of what becomes less: delivered, bought, paid. -/
import Derived.Test.YtblibhmmliljgaaFailW2
namespace Go.Proofs.Ytblibhmmliljgaa
open Go.RowKit
set_option maxRecDepth 100000

theorem fless_any (f : Fl) (u : Int) (w : World) : Calls Try.prog 21 #[.agg #[.int .i64 f.id, .int .i64 f.fr, .int .i64 f.to, .int .i64 f.cl, .int .i64 f.pa, .int .i64 f.day, .int .i64 f.un, .int .i64 f.de, .int .i64 f.bo, .int .i64 f.pd], .int .i64 u] w fun e w' => e = .returned (.int .i64 (F.less f u)) ∧ Below w.heap.size w w' := by
  by_cases h : F.chk f = 0
  · have hok := F.chk_ok h
    by_cases a : 1 ≤ u ∧ u ≤ 1073741824
    · have d1 : decide (1 ≤ u ∧ u ≤ 1073741824) = true := decide_eq_true a
      by_cases b : F.left f = 0
      · have E := hid (F.less_3 h a b)
        have d2 : (F.left f == 0) = true := beq_iff_eq.2 b
        clear a b
        go_enter Try.func21, Try.ntmps21
        go_wp2_with (first | (go_at_call 19; refine (fcheck_any _ _).mono ?_; rintro e w' ⟨rfl, hb1⟩; obtain ⟨hc1, hf1⟩ := bcell hb1; have hz1 := hb1.size; (try simp at hz1); (try (have hy1 : w.heap.size < w'.heap.size := (by omega))); (try (have hx1 : w.heap.size + 1 < w'.heap.size := (by omega))); (try (have hv1 : w.heap.size + 2 < w'.heap.size := (by omega)))) | (go_at_call 22; refine (fleft_any _ (by assumption) _).mono ?_; rintro e w' ⟨rfl, hb2⟩; obtain ⟨hc2, hf2⟩ := bcell hb2; have hz2 := hb2.size; (try simp at hz2); (try (have hy2 : w.heap.size < w'.heap.size := (by omega))); (try (have hx2 : w.heap.size + 1 < w'.heap.size := (by omega))); (try (have hv2 : w.heap.size + 2 < w'.heap.size := (by omega)))) | (go_at_call 28; refine (fwithin_any _ _ _ _).mono ?_; rintro e w' ⟨rfl, rfl⟩))
        go_ret
        refine ⟨by rw [E.out]; rfl, ?_⟩
        (repeat (first | with_reducible exact Below.refl _ _ | (with_reducible refine bset ?_ ?_ _; focus (first | (simp; done) | (simp; omega) | omega)) | with_reducible refine balloc ?_ _ | with_reducible refine bdrew ?_ | with_reducible refine bthen ?_ (by assumption)))
      · have d2 : (F.left f == 0) = false := beq_eq_false_iff_ne.2 b
        by_cases c : F.left f < u
        · have E := hid (F.less_4 h a b c)
          clear a b
          go_enter Try.func21, Try.ntmps21
          go_wp2_with (first | (go_at_call 19; refine (fcheck_any _ _).mono ?_; rintro e w' ⟨rfl, hb1⟩; obtain ⟨hc1, hf1⟩ := bcell hb1; have hz1 := hb1.size; (try simp at hz1); (try (have hy1 : w.heap.size < w'.heap.size := (by omega))); (try (have hx1 : w.heap.size + 1 < w'.heap.size := (by omega))); (try (have hv1 : w.heap.size + 2 < w'.heap.size := (by omega)))) | (go_at_call 22; refine (fleft_any _ (by assumption) _).mono ?_; rintro e w' ⟨rfl, hb2⟩; obtain ⟨hc2, hf2⟩ := bcell hb2; have hz2 := hb2.size; (try simp at hz2); (try (have hy2 : w.heap.size < w'.heap.size := (by omega))); (try (have hx2 : w.heap.size + 1 < w'.heap.size := (by omega))); (try (have hv2 : w.heap.size + 2 < w'.heap.size := (by omega)))) | (go_at_call 28; refine (fwithin_any _ _ _ _).mono ?_; rintro e w' ⟨rfl, rfl⟩))
          go_ret
          refine ⟨by rw [E.out]; rfl, ?_⟩
          (repeat (first | with_reducible exact Below.refl _ _ | (with_reducible refine bset ?_ ?_ _; focus (first | (simp; done) | (simp; omega) | omega)) | with_reducible refine balloc ?_ _ | with_reducible refine bdrew ?_ | with_reducible refine bthen ?_ (by assumption)))
        · have E := hid (F.less_5 h a b (by omega))
          clear a b
          go_enter Try.func21, Try.ntmps21
          go_wp2_with (first | (go_at_call 19; refine (fcheck_any _ _).mono ?_; rintro e w' ⟨rfl, hb1⟩; obtain ⟨hc1, hf1⟩ := bcell hb1; have hz1 := hb1.size; (try simp at hz1); (try (have hy1 : w.heap.size < w'.heap.size := (by omega))); (try (have hx1 : w.heap.size + 1 < w'.heap.size := (by omega))); (try (have hv1 : w.heap.size + 2 < w'.heap.size := (by omega)))) | (go_at_call 22; refine (fleft_any _ (by assumption) _).mono ?_; rintro e w' ⟨rfl, hb2⟩; obtain ⟨hc2, hf2⟩ := bcell hb2; have hz2 := hb2.size; (try simp at hz2); (try (have hy2 : w.heap.size < w'.heap.size := (by omega))); (try (have hx2 : w.heap.size + 1 < w'.heap.size := (by omega))); (try (have hv2 : w.heap.size + 2 < w'.heap.size := (by omega)))) | (go_at_call 28; refine (fwithin_any _ _ _ _).mono ?_; rintro e w' ⟨rfl, rfl⟩))
          go_ret
          refine ⟨by rw [E.out]; rfl, ?_⟩
          (repeat (first | with_reducible exact Below.refl _ _ | (with_reducible refine bset ?_ ?_ _; focus (first | (simp; done) | (simp; omega) | omega)) | with_reducible refine balloc ?_ _ | with_reducible refine bdrew ?_ | with_reducible refine bthen ?_ (by assumption)))
    · have E := hid (F.less_2 h a)
      have d1 : decide (1 ≤ u ∧ u ≤ 1073741824) = false := decide_eq_false a
      clear a
      go_enter Try.func21, Try.ntmps21
      go_wp2_with (first | (go_at_call 19; refine (fcheck_any _ _).mono ?_; rintro e w' ⟨rfl, hb1⟩; obtain ⟨hc1, hf1⟩ := bcell hb1; have hz1 := hb1.size; (try simp at hz1); (try (have hy1 : w.heap.size < w'.heap.size := (by omega))); (try (have hx1 : w.heap.size + 1 < w'.heap.size := (by omega))); (try (have hv1 : w.heap.size + 2 < w'.heap.size := (by omega)))) | (go_at_call 22; refine (fleft_any _ (by assumption) _).mono ?_; rintro e w' ⟨rfl, hb2⟩; obtain ⟨hc2, hf2⟩ := bcell hb2; have hz2 := hb2.size; (try simp at hz2); (try (have hy2 : w.heap.size < w'.heap.size := (by omega))); (try (have hx2 : w.heap.size + 1 < w'.heap.size := (by omega))); (try (have hv2 : w.heap.size + 2 < w'.heap.size := (by omega)))) | (go_at_call 28; refine (fwithin_any _ _ _ _).mono ?_; rintro e w' ⟨rfl, rfl⟩))
      go_ret
      refine ⟨by rw [E.out]; rfl, ?_⟩
      (repeat (first | with_reducible exact Below.refl _ _ | (with_reducible refine bset ?_ ?_ _; focus (first | (simp; done) | (simp; omega) | omega)) | with_reducible refine balloc ?_ _ | with_reducible refine bdrew ?_ | with_reducible refine bthen ?_ (by assumption)))
  · have E := hid (F.less_1 (u := u) h)
    have hb : (F.chk f != 0) = true := by rw [bne_iff_ne]; exact h
    clear h
    go_enter Try.func21, Try.ntmps21
    go_wp2_with (first | (go_at_call 19; refine (fcheck_any _ _).mono ?_; rintro e w' ⟨rfl, hb1⟩; obtain ⟨hc1, hf1⟩ := bcell hb1; have hz1 := hb1.size; (try simp at hz1); (try (have hy1 : w.heap.size < w'.heap.size := (by omega))); (try (have hx1 : w.heap.size + 1 < w'.heap.size := (by omega))); (try (have hv1 : w.heap.size + 2 < w'.heap.size := (by omega)))) | (go_at_call 22; refine (fleft_any _ (by assumption) _).mono ?_; rintro e w' ⟨rfl, hb2⟩; obtain ⟨hc2, hf2⟩ := bcell hb2; have hz2 := hb2.size; (try simp at hz2); (try (have hy2 : w.heap.size < w'.heap.size := (by omega))); (try (have hx2 : w.heap.size + 1 < w'.heap.size := (by omega))); (try (have hv2 : w.heap.size + 2 < w'.heap.size := (by omega)))) | (go_at_call 28; refine (fwithin_any _ _ _ _).mono ?_; rintro e w' ⟨rfl, rfl⟩))
    go_ret
    refine ⟨by rw [E.out]; rfl, ?_⟩
    (repeat (first | with_reducible exact Below.refl _ _ | (with_reducible refine bset ?_ ?_ _; focus (first | (simp; done) | (simp; omega) | omega)) | with_reducible refine balloc ?_ _ | with_reducible refine bdrew ?_ | with_reducible refine bthen ?_ (by assumption)))

set_option maxHeartbeats 1000000 in
theorem fdeliver_any (f : Fl) (u : Int) (w : World) : Calls Try.prog 8 #[.agg #[.int .i64 f.id, .int .i64 f.fr, .int .i64 f.to, .int .i64 f.cl, .int .i64 f.pa, .int .i64 f.day, .int .i64 f.un, .int .i64 f.de, .int .i64 f.bo, .int .i64 f.pd], .int .i64 u] w fun e w' => e = .returned (.tuple #[.agg #[.int .i64 (F.deliver f u).id, .int .i64 (F.deliver f u).fr, .int .i64 (F.deliver f u).to, .int .i64 (F.deliver f u).cl, .int .i64 (F.deliver f u).pa, .int .i64 (F.deliver f u).day, .int .i64 (F.deliver f u).un, .int .i64 (F.deliver f u).de, .int .i64 (F.deliver f u).bo, .int .i64 (F.deliver f u).pd], .int .i64 (F.less f u)]) ∧ Below w.heap.size w w' := by
  by_cases h : F.less f u = 0
  · have FIN := hid (show Ending.returned (.tuple #[.agg #[.int .i64 (F.addDe f u).id, .int .i64 (F.addDe f u).fr, .int .i64 (F.addDe f u).to, .int .i64 (F.addDe f u).cl, .int .i64 (F.addDe f u).pa, .int .i64 (F.addDe f u).day, .int .i64 (F.addDe f u).un, .int .i64 (F.addDe f u).de, .int .i64 (F.addDe f u).bo, .int .i64 (F.addDe f u).pd], .int .i64 0]) = Ending.returned (.tuple #[.agg #[.int .i64 (F.deliver f u).id, .int .i64 (F.deliver f u).fr, .int .i64 (F.deliver f u).to, .int .i64 (F.deliver f u).cl, .int .i64 (F.deliver f u).pa, .int .i64 (F.deliver f u).day, .int .i64 (F.deliver f u).un, .int .i64 (F.deliver f u).de, .int .i64 (F.deliver f u).bo, .int .i64 (F.deliver f u).pd], .int .i64 (F.less f u)]) by rw [F.deliver_yes h, h])
    obtain ⟨hok, hu1, hu2, hu3⟩ := F.less_ok h
    obtain ⟨b1, b2, b3, b4, b5, b6, b7, b8, b9⟩ := F.ok_bounds hok
    clear hok
    go_enter Try.func8, Try.ntmps8
    go_wp2_with (go_at_call 21; refine (fless_any _ _ _).mono ?_; rintro e w' ⟨rfl, hb1⟩; obtain ⟨hc1, hf1⟩ := bcell hb1; have hz1 := hb1.size; (try simp at hz1); have hy1 : w.heap.size < w'.heap.size := (by omega); have hx1 : w.heap.size + 1 < w'.heap.size := (by omega); have hs7 := own_some hb1 (b := w.heap.size) (o := 7) (by simp; omega) (by simp [go_sem]); have hs8 := own_somes hb1 (b := w.heap.size + 1) (n := 10) (by simp) (lt10 (by simp [go_sem]) (by simp [go_sem]) (by simp [go_sem]) (by simp [go_sem]) (by simp [go_sem]) (by simp [go_sem]) (by simp [go_sem]) (by simp [go_sem]) (by simp [go_sem]) (by simp [go_sem])))
    refine bodyPost_ret (v := .tuple #[.agg #[.int .i64 (F.addDe f u).id, .int .i64 (F.addDe f u).fr, .int .i64 (F.addDe f u).to, .int .i64 (F.addDe f u).cl, .int .i64 (F.addDe f u).pa, .int .i64 (F.addDe f u).day, .int .i64 (F.addDe f u).un, .int .i64 (F.addDe f u).de, .int .i64 (F.addDe f u).bo, .int .i64 (F.addDe f u).pd], .int .i64 0]) ?_ rfl ?_
    · simp [results, Try.results8, go_sem, F.addDe, hs8]
    · refine ⟨FIN.out, ?_⟩
      (repeat (first | with_reducible exact Below.refl _ _ | (with_reducible refine bset ?_ ?_ _; focus (first | (simp; done) | (simp; omega) | omega)) | with_reducible refine balloc ?_ _ | with_reducible refine bdrew ?_ | with_reducible refine bthen ?_ (by assumption)))
  · have FIN := hid (show Ending.returned (.tuple #[.agg #[.int .i64 (F.zero).id, .int .i64 (F.zero).fr, .int .i64 (F.zero).to, .int .i64 (F.zero).cl, .int .i64 (F.zero).pa, .int .i64 (F.zero).day, .int .i64 (F.zero).un, .int .i64 (F.zero).de, .int .i64 (F.zero).bo, .int .i64 (F.zero).pd], .int .i64 (F.less f u)]) = Ending.returned (.tuple #[.agg #[.int .i64 (F.deliver f u).id, .int .i64 (F.deliver f u).fr, .int .i64 (F.deliver f u).to, .int .i64 (F.deliver f u).cl, .int .i64 (F.deliver f u).pa, .int .i64 (F.deliver f u).day, .int .i64 (F.deliver f u).un, .int .i64 (F.deliver f u).de, .int .i64 (F.deliver f u).bo, .int .i64 (F.deliver f u).pd], .int .i64 (F.less f u)]) by rw [F.deliver_no h])
    have hb : (F.less f u != 0) = true := by rw [bne_iff_ne]; exact h
    clear h
    go_enter Try.func8, Try.ntmps8
    go_wp2_with (go_at_call 21; refine (fless_any _ _ _).mono ?_; rintro e w' ⟨rfl, hb1⟩; obtain ⟨hc1, hf1⟩ := bcell hb1; have hz1 := hb1.size; (try simp at hz1); have hy1 : w.heap.size < w'.heap.size := (by omega); have hx1 : w.heap.size + 1 < w'.heap.size := (by omega); have hs7 := own_some hb1 (b := w.heap.size) (o := 7) (by simp; omega) (by simp [go_sem]); have hs8 := own_somes hb1 (b := w.heap.size + 1) (n := 10) (by simp) (lt10 (by simp [go_sem]) (by simp [go_sem]) (by simp [go_sem]) (by simp [go_sem]) (by simp [go_sem]) (by simp [go_sem]) (by simp [go_sem]) (by simp [go_sem]) (by simp [go_sem]) (by simp [go_sem])))
    refine bodyPost_ret (v := .tuple #[.agg #[.int .i64 (F.zero).id, .int .i64 (F.zero).fr, .int .i64 (F.zero).to, .int .i64 (F.zero).cl, .int .i64 (F.zero).pa, .int .i64 (F.zero).day, .int .i64 (F.zero).un, .int .i64 (F.zero).de, .int .i64 (F.zero).bo, .int .i64 (F.zero).pd], .int .i64 (F.less f u)]) ?_ rfl ?_
    · simp [results, Try.results8, go_sem, F.zero, hs8]
    · refine ⟨FIN.out, ?_⟩
      (repeat (first | with_reducible exact Below.refl _ _ | (with_reducible refine bset ?_ ?_ _; focus (first | (simp; done) | (simp; omega) | omega)) | with_reducible refine balloc ?_ _ | with_reducible refine bdrew ?_ | with_reducible refine bthen ?_ (by assumption)))

set_option maxHeartbeats 1000000 in
theorem fbuy_any (f : Fl) (u : Int) (w : World) : Calls Try.prog 9 #[.agg #[.int .i64 f.id, .int .i64 f.fr, .int .i64 f.to, .int .i64 f.cl, .int .i64 f.pa, .int .i64 f.day, .int .i64 f.un, .int .i64 f.de, .int .i64 f.bo, .int .i64 f.pd], .int .i64 u] w fun e w' => e = .returned (.tuple #[.agg #[.int .i64 (F.buy f u).id, .int .i64 (F.buy f u).fr, .int .i64 (F.buy f u).to, .int .i64 (F.buy f u).cl, .int .i64 (F.buy f u).pa, .int .i64 (F.buy f u).day, .int .i64 (F.buy f u).un, .int .i64 (F.buy f u).de, .int .i64 (F.buy f u).bo, .int .i64 (F.buy f u).pd], .int .i64 (F.less f u)]) ∧ Below w.heap.size w w' := by
  by_cases h : F.less f u = 0
  · have FIN := hid (show Ending.returned (.tuple #[.agg #[.int .i64 (F.addBo f u).id, .int .i64 (F.addBo f u).fr, .int .i64 (F.addBo f u).to, .int .i64 (F.addBo f u).cl, .int .i64 (F.addBo f u).pa, .int .i64 (F.addBo f u).day, .int .i64 (F.addBo f u).un, .int .i64 (F.addBo f u).de, .int .i64 (F.addBo f u).bo, .int .i64 (F.addBo f u).pd], .int .i64 0]) = Ending.returned (.tuple #[.agg #[.int .i64 (F.buy f u).id, .int .i64 (F.buy f u).fr, .int .i64 (F.buy f u).to, .int .i64 (F.buy f u).cl, .int .i64 (F.buy f u).pa, .int .i64 (F.buy f u).day, .int .i64 (F.buy f u).un, .int .i64 (F.buy f u).de, .int .i64 (F.buy f u).bo, .int .i64 (F.buy f u).pd], .int .i64 (F.less f u)]) by rw [F.buy_yes h, h])
    obtain ⟨hok, hu1, hu2, hu3⟩ := F.less_ok h
    obtain ⟨b1, b2, b3, b4, b5, b6, b7, b8, b9⟩ := F.ok_bounds hok
    clear hok
    go_enter Try.func9, Try.ntmps9
    go_wp2_with (go_at_call 21; refine (fless_any _ _ _).mono ?_; rintro e w' ⟨rfl, hb1⟩; obtain ⟨hc1, hf1⟩ := bcell hb1; have hz1 := hb1.size; (try simp at hz1); have hy1 : w.heap.size < w'.heap.size := (by omega); have hx1 : w.heap.size + 1 < w'.heap.size := (by omega); have hs7 := own_some hb1 (b := w.heap.size) (o := 8) (by simp; omega) (by simp [go_sem]); have hs8 := own_somes hb1 (b := w.heap.size + 1) (n := 10) (by simp) (lt10 (by simp [go_sem]) (by simp [go_sem]) (by simp [go_sem]) (by simp [go_sem]) (by simp [go_sem]) (by simp [go_sem]) (by simp [go_sem]) (by simp [go_sem]) (by simp [go_sem]) (by simp [go_sem])))
    refine bodyPost_ret (v := .tuple #[.agg #[.int .i64 (F.addBo f u).id, .int .i64 (F.addBo f u).fr, .int .i64 (F.addBo f u).to, .int .i64 (F.addBo f u).cl, .int .i64 (F.addBo f u).pa, .int .i64 (F.addBo f u).day, .int .i64 (F.addBo f u).un, .int .i64 (F.addBo f u).de, .int .i64 (F.addBo f u).bo, .int .i64 (F.addBo f u).pd], .int .i64 0]) ?_ rfl ?_
    · simp [results, Try.results9, go_sem, F.addBo, hs8]
    · refine ⟨FIN.out, ?_⟩
      (repeat (first | with_reducible exact Below.refl _ _ | (with_reducible refine bset ?_ ?_ _; focus (first | (simp; done) | (simp; omega) | omega)) | with_reducible refine balloc ?_ _ | with_reducible refine bdrew ?_ | with_reducible refine bthen ?_ (by assumption)))
  · have FIN := hid (show Ending.returned (.tuple #[.agg #[.int .i64 (F.zero).id, .int .i64 (F.zero).fr, .int .i64 (F.zero).to, .int .i64 (F.zero).cl, .int .i64 (F.zero).pa, .int .i64 (F.zero).day, .int .i64 (F.zero).un, .int .i64 (F.zero).de, .int .i64 (F.zero).bo, .int .i64 (F.zero).pd], .int .i64 (F.less f u)]) = Ending.returned (.tuple #[.agg #[.int .i64 (F.buy f u).id, .int .i64 (F.buy f u).fr, .int .i64 (F.buy f u).to, .int .i64 (F.buy f u).cl, .int .i64 (F.buy f u).pa, .int .i64 (F.buy f u).day, .int .i64 (F.buy f u).un, .int .i64 (F.buy f u).de, .int .i64 (F.buy f u).bo, .int .i64 (F.buy f u).pd], .int .i64 (F.less f u)]) by rw [F.buy_no h])
    have hb : (F.less f u != 0) = true := by rw [bne_iff_ne]; exact h
    clear h
    go_enter Try.func9, Try.ntmps9
    go_wp2_with (go_at_call 21; refine (fless_any _ _ _).mono ?_; rintro e w' ⟨rfl, hb1⟩; obtain ⟨hc1, hf1⟩ := bcell hb1; have hz1 := hb1.size; (try simp at hz1); have hy1 : w.heap.size < w'.heap.size := (by omega); have hx1 : w.heap.size + 1 < w'.heap.size := (by omega); have hs7 := own_some hb1 (b := w.heap.size) (o := 8) (by simp; omega) (by simp [go_sem]); have hs8 := own_somes hb1 (b := w.heap.size + 1) (n := 10) (by simp) (lt10 (by simp [go_sem]) (by simp [go_sem]) (by simp [go_sem]) (by simp [go_sem]) (by simp [go_sem]) (by simp [go_sem]) (by simp [go_sem]) (by simp [go_sem]) (by simp [go_sem]) (by simp [go_sem])))
    refine bodyPost_ret (v := .tuple #[.agg #[.int .i64 (F.zero).id, .int .i64 (F.zero).fr, .int .i64 (F.zero).to, .int .i64 (F.zero).cl, .int .i64 (F.zero).pa, .int .i64 (F.zero).day, .int .i64 (F.zero).un, .int .i64 (F.zero).de, .int .i64 (F.zero).bo, .int .i64 (F.zero).pd], .int .i64 (F.less f u)]) ?_ rfl ?_
    · simp [results, Try.results9, go_sem, F.zero, hs8]
    · refine ⟨FIN.out, ?_⟩
      (repeat (first | with_reducible exact Below.refl _ _ | (with_reducible refine bset ?_ ?_ _; focus (first | (simp; done) | (simp; omega) | omega)) | with_reducible refine balloc ?_ _ | with_reducible refine bdrew ?_ | with_reducible refine bthen ?_ (by assumption)))

end Go.Proofs.Ytblibhmmliljgaa
