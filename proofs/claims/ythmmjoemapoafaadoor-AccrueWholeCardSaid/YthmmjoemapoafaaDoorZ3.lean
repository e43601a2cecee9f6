/- Shared texts, one behind the other: DateRW, DateRM, VDate, Lists, VRef, MoneyPl, DivPl, DivPl2, DivPl3, DivW2, DivW3, MoneyW, MoneyW2, VMoney, AccPl, VAcc, MoneyPl2, VMoneyR, VMoneyB, VAccB, Laid -/
import Derived.Lib.BitFns
import Derived.Test.YthmmjoemapoafaaDoorShelf
import Derived.WalkLawsBesides
import Derived.Laws.Bits64b
import Derived.Deep.QuietTactic
import Derived.BigQuiet
import Derived.Test.YthmmjoemapoafaaDoorRows
import Derived.ProofKit
import Derived.LaidMore
import Derived.OpenShut
import Derived.Stop.Joined
import Derived.Lib.LaidTab
import Derived.Test.YthmmjoemapoafaaDoorZ1
import Derived.Test.YthmmjoemapoafaaDoorZ2

/- The walks of the document's own functions on dates, and of the law's own helper. -/
namespace Go.Proofs.YthmmjoemapoafaaDoor
open Go.RowKit
set_option maxRecDepth 100000

theorem between_any (n a b : Int) (w : World) : Calls Tryd.prog 31 #[.int .i64 n, .int .i64 a, .int .i64 b] w fun e w' => e = .returned (.bool (decide (a ≤ n ∧ n ≤ b))) ∧ w = w' := by
  go_enter Tryd.func31, Tryd.ntmps31
  go_wp2
  all_goals (go_ret; exact ⟨by simp [*] <;> omega, rfl⟩)

theorem rleap_any (y : Int) (h0 : 1 ≤ y) (h1 : y ≤ 20000) (w : World) : Calls Tryd.prog 33 #[.int .i64 y] w fun e w' => e = .returned (.bool (D.lp y)) ∧ w = w' := by
  by_cases c : y % 400 = 0
  · have E := hid (show D.lp y = true by simp [D.lp, c]; omega)
    go_enter Tryd.func33, Tryd.ntmps33
    go_wp2
    go_ret
    exact ⟨by rw [E.out]; rfl, rfl⟩
  · have c' : (y % 400 == 0) = false := by simpa using c
    have E := hid (show D.lp y = (y % 4 == 0 && y % 100 != 0) by simp [D.lp, c', bne])
    go_enter Tryd.func33, Tryd.ntmps33
    go_wp2
    all_goals (go_ret; exact ⟨ret_bool (by rw [E.out]; simp [*]), rfl⟩)

theorem rml_any (y m : Int) (h0 : 1 ≤ y) (h1 : y ≤ 20000) (w : World) : Calls Tryd.prog 32 #[.int .i64 y, .int .i64 m] w fun e w' => e = .returned (.int .i64 (D.ml y m)) ∧ w = w' := by
  by_cases hm : m = 2
  · subst hm
    by_cases hy : D.lp y = true
    · have e := hid (D.L_of hy)
      go_enter Tryd.func32, Tryd.ntmps32
      go_wp2_with (go_at_call 33; refine (rleap_any _ (by omega) (by omega) _).mono ?_; rintro e w' ⟨rfl, rfl⟩)
      go_ret
      exact ⟨ret_int (by simp [D.ml, e.out]), rfl⟩
    · have hy' : D.lp y = false := by simpa using hy
      have e := hid (D.L_not hy')
      go_enter Tryd.func32, Tryd.ntmps32
      go_wp2_with (go_at_call 33; refine (rleap_any _ (by omega) (by omega) _).mono ?_; rintro e w' ⟨rfl, rfl⟩)
      go_ret
      exact ⟨ret_int (by simp [D.ml, e.out]), rfl⟩
  · have hb : (m == 2) = false := by simpa using hm
    by_cases h : m = 4 ∨ m = 6 ∨ m = 9 ∨ m = 11
    · have E := hid (show D.ml y m = 30 by unfold D.ml; rw [if_neg hm, if_pos h])
      rcases h with h | h | h | h <;> subst h <;> (go_enter Tryd.func32, Tryd.ntmps32; go_wp2; go_ret; exact ⟨ret_int (by rw [E.out]), rfl⟩)
    · have E := hid (show D.ml y m = 31 by unfold D.ml; rw [if_neg hm, if_neg h])
      have h4 : (m == 4) = false := by rw [beq_eq_false_iff_ne]; omega
      have h6 : (m == 6) = false := by rw [beq_eq_false_iff_ne]; omega
      have h9 : (m == 9) = false := by rw [beq_eq_false_iff_ne]; omega
      have h11 : (m == 11) = false := by rw [beq_eq_false_iff_ne]; omega
      go_enter Tryd.func32, Tryd.ntmps32
      go_wp2
      go_ret
      exact ⟨ret_int (by rw [E.out]), rfl⟩

theorem rfrom_any (y m d : Int) (w : World) : Calls Tryd.prog 13 #[.int .i64 y, .int .i64 m, .int .i64 d] w fun e w' => e = .returned (.tuple #[.int .i64 (D.fromV y m d), .int .i64 (D.fromE y m d)]) ∧ w = w' := by
  have hml := D.ml_bd y m
  by_cases h1 : 1 ≤ y ∧ y ≤ 9999
  · have a1 : decide (1 ≤ y ∧ y ≤ 9999) = true := by simpa using h1
    by_cases h2 : 1 ≤ m ∧ m ≤ 12
    · have a2 : decide (1 ≤ m ∧ m ≤ 12) = true := by simpa using h2
      by_cases h3 : 1 ≤ d ∧ d ≤ D.ml y m
      · have hv : D.Valid y m d := ⟨h1.1, h1.2, h2.1, h2.2, h3.1, h3.2⟩
        have E1 := hid (D.fromV_yes hv)
        have E2 := hid (D.fromE_yes hv)
        clear hv
        have a3 : decide (1 ≤ d ∧ d ≤ D.ml y m) = true := by simpa using h3
        go_enter Tryd.func13, Tryd.ntmps13
        go_wp2_with (first | (go_at_call 31; refine (between_any _ _ _ _).mono ?_; rintro e w' ⟨rfl, rfl⟩) | (go_at_call 32; refine (rml_any _ _ (by omega) (by omega) _).mono ?_; rintro e w' ⟨rfl, rfl⟩))
        go_loop [8, 9] (fun n i => ∃ k : Int, 1 ≤ k ∧ k ≤ y ∧ i = .int .i64 k ∧ n = .int .i64 (D.dby k)) (fun _ i => (y - intOf i).toNat)
        case atStart => exact ⟨(y - 1) / 400 * 400 + 1, by omega, by omega, rfl, by rw [D.dby_start]⟩
        case round =>
          obtain ⟨k, hk0, hk1, rfl, rfl⟩ := hrel
          have hb := D.dby_bd k hk0 (by omega)
          have hs := hid (D.dby_succ k)
          by_cases hlt : k < y
          · by_cases hy : D.lp k = true
            · have e := hid (D.L_of hy)
              go_wp2_with (first | (go_at_call 33; refine (rleap_any _ (by omega) (by omega) _).mono ?_; rintro e w' ⟨rfl, rfl⟩))
              go_round
              case rel => exact ⟨k + 1, by omega, by omega, rfl, by rw [hs.out, e.out]; first | done | go_num⟩
              case measure => simp [intOf]; omega
            · have hy' : D.lp k = false := by simpa using hy
              have e := hid (D.L_not hy')
              clear hy
              go_wp2_with (first | (go_at_call 33; refine (rleap_any _ (by omega) (by omega) _).mono ?_; rintro e w' ⟨rfl, rfl⟩))
              go_round
              case rel => exact ⟨k + 1, by omega, by omega, rfl, by rw [hs.out, e.out]; first | done | go_num⟩
              case measure => simp [intOf]; omega
          · obtain rfl : k = y := by omega
            go_wp2
            go_loop [8, 10] (fun n i => ∃ j : Int, 1 ≤ j ∧ j ≤ m ∧ i = .int .i64 j ∧ n = .int .i64 (D.dby k + D.cum k j)) (fun _ i => (m - intOf i).toNat)
            case atStart => exact ⟨1, by omega, by omega, rfl, by rw [D.cum_one]; simp⟩
            case round =>
              obtain ⟨j, hj0, hj1, rfl, rfl⟩ := hrel
              have hcb := D.cum_bd k j hj0 (by omega)
              have hmj := D.ml_bd k j
              have hL := D.L_01 k
              by_cases hlt : j < m
              · have hs := hid (D.cum_succ k j hj0 (by omega))
                go_wp2_with (first | (go_at_call 32; refine (rml_any _ _ (by omega) (by omega) _).mono ?_; rintro e w' ⟨rfl, rfl⟩))
                go_round
                case rel => exact ⟨j + 1, by omega, by omega, rfl, by rw [hs.out]; go_num⟩
                case measure => simp [intOf]; omega
              · obtain rfl : j = m := by omega
                go_wp2
                go_ret2
                exact ⟨by rw [E1.out, E2.out]; rfl, rfl⟩
      · have hv : ¬ D.Valid y m d := fun h => h3 ⟨h.2.2.2.2.1, h.2.2.2.2.2⟩
        have a3 : decide (1 ≤ d ∧ d ≤ D.ml y m) = false := by simpa using h3
        have E1 := hid (D.fromV_no hv)
        have E2 := hid (D.fromE_no hv)
        clear hv
        go_enter Tryd.func13, Tryd.ntmps13
        go_wp2_with (first | (go_at_call 31; refine (between_any _ _ _ _).mono ?_; rintro e w' ⟨rfl, rfl⟩) | (go_at_call 32; refine (rml_any _ _ (by omega) (by omega) _).mono ?_; rintro e w' ⟨rfl, rfl⟩))
        all_goals (go_ret2; exact ⟨by rw [E1.out, E2.out]; rfl, rfl⟩)
    · have hv : ¬ D.Valid y m d := fun h => h2 ⟨h.2.2.1, h.2.2.2.1⟩
      have a2 : decide (1 ≤ m ∧ m ≤ 12) = false := by simpa using h2
      have E1 := hid (D.fromV_no hv)
      have E2 := hid (D.fromE_no hv)
      clear hv
      go_enter Tryd.func13, Tryd.ntmps13
      go_wp2_with (first | (go_at_call 31; refine (between_any _ _ _ _).mono ?_; rintro e w' ⟨rfl, rfl⟩) | (go_at_call 32; refine (rml_any _ _ (by omega) (by omega) _).mono ?_; rintro e w' ⟨rfl, rfl⟩))
      all_goals (go_ret2; exact ⟨by rw [E1.out, E2.out]; rfl, rfl⟩)
  · have hv : ¬ D.Valid y m d := fun h => h1 ⟨h.1, h.2.1⟩
    have a1 : decide (1 ≤ y ∧ y ≤ 9999) = false := by simpa using h1
    have E1 := hid (D.fromV_no hv)
    have E2 := hid (D.fromE_no hv)
    clear hv
    go_enter Tryd.func13, Tryd.ntmps13
    go_wp2_with (first | (go_at_call 31; refine (between_any _ _ _ _).mono ?_; rintro e w' ⟨rfl, rfl⟩) | (go_at_call 32; refine (rml_any _ _ (by omega) (by omega) _).mono ?_; rintro e w' ⟨rfl, rfl⟩))
    all_goals (go_ret2; exact ⟨by rw [E1.out, E2.out]; rfl, rfl⟩)

end Go.Proofs.YthmmjoemapoafaaDoor

/- The walk of the document's function on months, and of the law's own helper. -/
namespace Go.Proofs.YthmmjoemapoafaaDoor
open Go.RowKit
set_option maxRecDepth 100000

theorem dbegun_any (w : World) (hl : LongIs w) : Calls Tryd.prog 6 #[] w fun e w' => e = .returned (.bool true) ∧ w = w' := by
  have f1 := D.b1
  have f2 := D.b2
  have f3 := D.b3
  have f4 := D.b4
  have f5 := D.b5
  have f6 := D.b6
  have f7 := D.b7
  go_enter Tryd.func6, Tryd.ntmps6
  go_wp2_with (first | (go_at_call 15; refine (from_any _ _ _ _ hl).mono ?_; rintro e w' ⟨rfl, rfl⟩) | (go_at_call 8; refine (of_any _ _ hl).mono ?_; rintro e w' ⟨rfl, rfl⟩) | (go_at_call 16; refine (week_any _ _).mono ?_; rintro e w' ⟨rfl, rfl⟩) | (go_at_call 17; refine (Leap_any _ _).mono ?_; rintro e w' ⟨rfl, rfl⟩) | (go_at_call 7; refine (months_any _ _ (by omega) (by omega) _ hl).mono ?_; rintro e w' ⟨rfl, rfl⟩))
  go_ret
  exact ⟨rfl, rfl⟩
end Go.Proofs.YthmmjoemapoafaaDoor

/- The elder contracts of the functions on dates, as contracts for the walk by verification conditions. -/
namespace Go.Proofs.YthmmjoemapoafaaDoor
open Go Go.RowKit V
set_option maxRecDepth 100000
set_option linter.unusedVariables false
namespace V
theorem Svs.vals_ {ρ : Rho} : ∀ {vs xs : List Value}, Svs ρ (vs.map fun v => SV.one (.val v)) xs → xs = vs
  | [], _, h => h
  | v :: l, _, ⟨x, r, e, hv, hr⟩ => by
    have : x = v := hv
    subst this
    rw [e, Svs.vals_ hr]
/-- an elder contract -/
theorem Fn.old {P : Program} {f : FuncId} {os : List Ob} {x : Value} (vs : List Value) (hb : hasBody P f = true) (h : ∀ w, (∀ (i : Nat) o, os[i]? = some o → ∃ v, Ro w v o) → Calls P f vs.toArray w fun e w' => e = .returned x ∧ w = w') : Fn P f os (vs.map fun v => SV.one (.val v)) x :=
  ⟨hb, fun w ρ xs ho hs => by
    rw [Svs.vals_ hs]
    refine (h w fun i o e => by obtain ⟨v, _, q⟩ := ho i o e; exact ⟨v, q⟩).mono ?_
    rintro e w' ⟨rfl, rfl⟩
    exact ⟨rfl, Below.refl _ _⟩⟩
end V
/-- the package's table of the months' lengths -/
def dtL : List Value := [31, 28, 31, 30, 31, 30, 31, 31, 30, 31, 30, 31].map (Value.int .i64)
def dt : V.Ob := .tab 0 dtL
theorem long_of_tab {w : World} (h : TabIs w 0 dtL) : LongIs w := by
  intro m h1 h2
  obtain ⟨_, h⟩ := h
  have hm : m = 1 ∨ m = 2 ∨ m = 3 ∨ m = 4 ∨ m = 5 ∨ m = 6 ∨ m = 7 ∨ m = 8 ∨ m = 9 ∨ m = 10 ∨ m = 11 ∨ m = 12 := by omega
  rcases hm with rfl | rfl | rfl | rfl | rfl | rfl | rfl | rfl | rfl | rfl | rfl | rfl <;> exact h _ _ rfl
theorem tab_of_long {w : World} (h : LongIs w) : TabIs w 0 dtL := by
  have h0 := h 1 (by omega) (by omega)
  refine ⟨?_, fun j u hu => ?_⟩
  · rcases Nat.lt_or_ge 0 w.heap.size with hlt | hge
    · exact hlt
    · unfold World.cell? at h0; rw [Array.getElem?_eq_none hge] at h0; cases h0
  · have hj : j < 12 := (List.getElem?_eq_some_iff.1 hu).1
    have e := h (j + 1) (by omega) (by omega)
    rw [show ((j : Int) + 1).toNat - 1 = j by omega] at e
    rw [e, ← hu]
    have hm : j = 0 ∨ j = 1 ∨ j = 2 ∨ j = 3 ∨ j = 4 ∨ j = 5 ∨ j = 6 ∨ j = 7 ∨ j = 8 ∨ j = 9 ∨ j = 10 ∨ j = 11 := by omega
    rcases hm with rfl | rfl | rfl | rfl | rfl | rfl | rfl | rfl | rfl | rfl | rfl | rfl <;> rfl
theorem long_ro {w : World} (h : ∀ (i : Nat) o, [dt][i]? = some o → ∃ v, V.Ro w v o) : LongIs w := by
  obtain ⟨v, _, q⟩ := h 0 _ rfl
  exact long_of_tab q
theorem v_dOf (n : Int) : V.Fn Tryd.prog 8 [dt] [.one (.val (.int .i64 n))] (.tuple #[.int .i64 (D.yO' n), .int .i64 (D.mO' n), .int .i64 (D.dO' n), .int .i64 (D.chk n)]) :=
  V.Fn.old [.int .i64 n] (by kernel_rfl) fun w h => of_any n w (long_ro h)
theorem v_dFrom (y m d : Int) : V.Fn Tryd.prog 15 [dt] [.one (.val (.int .i64 y)), .one (.val (.int .i64 m)), .one (.val (.int .i64 d))] (.tuple #[.int .i64 (D.fromV y m d), .int .i64 (D.fromE y m d)]) :=
  V.Fn.old [.int .i64 y, .int .i64 m, .int .i64 d] (by kernel_rfl) fun w h => from_any y m d w (long_ro h)
theorem v_dMonths (n many : Int) (h0 : -9223372036854775808 ≤ many) (h1 : many ≤ 9223372036854775807) : V.Fn Tryd.prog 7 [dt] [.one (.val (.int .i64 n)), .one (.val (.int .i64 many))] (.tuple #[.int .i64 (D.moV n many), .int .i64 (D.moE n many)]) :=
  V.Fn.old [.int .i64 n, .int .i64 many] (by kernel_rfl) fun w h => months_any n many h0 h1 w (long_ro h)
theorem v_rFrom (y m d : Int) : V.Fn Tryd.prog 13 [] [.one (.val (.int .i64 y)), .one (.val (.int .i64 m)), .one (.val (.int .i64 d))] (.tuple #[.int .i64 (D.fromV y m d), .int .i64 (D.fromE y m d)]) :=
  V.Fn.old [.int .i64 y, .int .i64 m, .int .i64 d] (by kernel_rfl) fun w h => rfrom_any y m d w
theorem v_rLong (y m : Int) (h0 : 1 ≤ y) (h1 : y ≤ 20000) : V.Fn Tryd.prog 32 [] [.one (.val (.int .i64 y)), .one (.val (.int .i64 m))] (.int .i64 (D.ml y m)) :=
  V.Fn.old [.int .i64 y, .int .i64 m] (by kernel_rfl) fun w h => rml_any y m h0 h1 w
theorem v_rLeap (y : Int) (h0 : 1 ≤ y) (h1 : y ≤ 20000) : V.Fn Tryd.prog 33 [] [.one (.val (.int .i64 y))] (.bool (D.lp y)) :=
  V.Fn.old [.int .i64 y] (by kernel_rfl) fun w h => rleap_any y h0 h1 w
theorem v_dBegun : V.Fn Tryd.prog 6 [dt] [] (.bool true) :=
  V.Fn.old [] (by kernel_rfl) fun w h => dbegun_any w (long_ro h)
end Go.Proofs.YthmmjoemapoafaaDoor

/- Plain facts on lists that are gone through one by one. -/
namespace Go.Proofs.YthmmjoemapoafaaDoor
theorem getD_at {α : Type} [Inhabited α] {l : List α} {k : Nat} (h : k < l.length) : l.getD k default = l[k] := by simp [List.getD, List.getElem?_eq_getElem h]
theorem getD_mem {α : Type} [Inhabited α] {l : List α} {k : Nat} (h : k < l.length) : l.getD k default ∈ l := by rw [getD_at h]; exact List.getElem_mem h
/-- the first answer that is not 0 -/
def fb {α : Type} (f : α → Int) : List α → Int
  | [] => 0
  | x :: r => if f x ≠ 0 then f x else fb f r
theorem fb_ok {α : Type} {f : α → Int} : ∀ {l : List α}, fb f l = 0 → ∀ d ∈ l, f d = 0
  | [], _, _, h => by simp at h
  | d :: r, h, x, hx => by
    unfold fb at h
    split at h
    · rename_i k; exact absurd h k
    · rename_i k
      rcases List.mem_cons.1 hx with rfl | q
      · omega
      · exact fb_ok h x q
theorem fb_yes {α : Type} {f : α → Int} : ∀ {l : List α}, (∀ d ∈ l, f d = 0) → fb f l = 0
  | [], _ => rfl
  | d :: r, h => by unfold fb; rw [if_neg (by have := h d (by simp); omega)]; exact fb_yes fun x hx => h x (by simp [hx])
theorem fb_at {α : Type} {f : α → Int} : ∀ {l : List α} {k : Nat} (hk : k < l.length), (∀ d ∈ l.take k, f d = 0) → f l[k] ≠ 0 → fb f l = f l[k]
  | d :: r, 0, _, _, h => by unfold fb; rw [if_pos (by simpa using h)]; rfl
  | d :: r, k + 1, hk, h1, h => by
    unfold fb
    rw [if_neg (by have := h1 d (by simp); omega)]
    exact fb_at (l := r) (by simpa using hk) (fun x hx => h1 x (by simp [hx])) (by simpa using h)
theorem fb_get {α : Type} [Inhabited α] {f : α → Int} {l : List α} {k : Nat} (hk : k < l.length) (h1 : ∀ d ∈ l.take k, f d = 0) (h : f (l.getD k default) ≠ 0) : fb f l = f (l.getD k default) := by
  rw [getD_at hk] at *
  exact fb_at hk h1 h
theorem all_snoc {α : Type} [Inhabited α] {p : α → Prop} {l : List α} {k : Nat} (hk : k < l.length) (h1 : ∀ d ∈ l.take k, p d) (h : p (l.getD k default)) : ∀ d ∈ l.take (k + 1), p d := by
  intro a ha
  rw [List.take_succ_eq_append_getElem hk] at ha
  rcases List.mem_append.1 ha with q | q
  · exact h1 a q
  · rw [List.mem_singleton.1 q, ← getD_at hk]; exact h
theorem all_whole {α : Type} {p : α → Prop} {l : List α} {k : Nat} (hk : l.length ≤ k) (h1 : ∀ d ∈ l.take k, p d) : ∀ d ∈ l, p d := by
  rwa [List.take_of_length_le hk] at h1
/-- where the first one is; -1: nowhere -/
def ixf {α : Type} (p : α → Bool) : List α → Int
  | [] => -1
  | x :: r => if p x then 0 else if ixf p r < 0 then -1 else ixf p r + 1
theorem ixf_no {α : Type} {p : α → Bool} : ∀ {l : List α}, (∀ d ∈ l, p d = false) → ixf p l = -1
  | [], _ => rfl
  | d :: r, h => by unfold ixf; rw [if_neg (by rw [h d (by simp)]; decide), ixf_no fun x hx => h x (by simp [hx])]; rfl
theorem ixf_at {α : Type} {p : α → Bool} : ∀ {l : List α} {k : Nat} (hk : k < l.length), (∀ d ∈ l.take k, p d = false) → p l[k] = true → ixf p l = k
  | d :: r, 0, _, _, h => by unfold ixf; rw [if_pos (by simpa using h)]; rfl
  | d :: r, k + 1, hk, h1, h => by
    unfold ixf
    have e := ixf_at (l := r) (k := k) (by simpa using hk) (fun x hx => h1 x (by simp [hx])) (by simpa using h)
    rw [if_neg (by rw [h1 d (by simp)]; decide), e, if_neg (by omega)]
    omega
theorem ixf_get {α : Type} [Inhabited α] {p : α → Bool} {l : List α} {k : Nat} (hk : k < l.length) (h1 : ∀ d ∈ l.take k, p d = false) (h : p (l.getD k default) = true) : ixf p l = k := by
  rw [getD_at hk] at h
  exact ixf_at hk h1 h
theorem ixf_cases {α : Type} [Inhabited α] (p : α → Bool) (l : List α) : (ixf p l = -1 ∧ ∀ d ∈ l, p d = false) ∨ ∃ k : Nat, ixf p l = k ∧ k < l.length ∧ p (l.getD k default) = true ∧ ∀ d ∈ l.take k, p d = false := by
  induction l with
  | nil => left; exact ⟨rfl, by simp⟩
  | cons d r ih =>
    by_cases h : p d
    · right; exact ⟨0, by unfold ixf; rw [if_pos h]; rfl, by simp, by simpa using h, by simp⟩
    · have hf : p d = false := by simpa using h
      rcases ih with ⟨e, a⟩ | ⟨k, e, hk, hp, ha⟩
      · left
        refine ⟨by unfold ixf; rw [if_neg h, e]; rfl, fun x hx => ?_⟩
        rcases List.mem_cons.1 hx with rfl | q
        · exact hf
        · exact a x q
      · right
        refine ⟨k + 1, by unfold ixf; rw [if_neg h, e, if_neg (by omega)]; omega, by simpa using hk, by simpa [List.getD] using hp, fun x hx => ?_⟩
        rcases List.mem_cons.1 (by simpa using hx) with rfl | q
        · exact hf
        · exact ha x q
/-- the least -/
def lmin (l : List Int) : Int := (l.drop 1).foldl (fun a b => if b < a then b else a) (l.getD 0 default)
theorem foldmin (l : List Int) : ∀ a : Int, (l.foldl (fun a b => if b < a then b else a) a ≤ a) ∧ ∀ x ∈ l, l.foldl (fun a b => if b < a then b else a) a ≤ x := by
  induction l with
  | nil => intro a; simp
  | cons y r ih =>
    intro a
    obtain ⟨h1, h2⟩ := ih (if y < a then y else a)
    simp only [List.foldl_cons, List.mem_cons]
    have q1 : (if y < a then y else a) ≤ a := by split <;> omega
    have q2 : (if y < a then y else a) ≤ y := by split <;> omega
    refine ⟨Int.le_trans h1 q1, ?_⟩
    rintro x (rfl | hx)
    · exact Int.le_trans h1 q2
    · exact h2 x hx
theorem foldmin_in (l : List Int) : ∀ a : Int, l.foldl (fun a b => if b < a then b else a) a = a ∨ l.foldl (fun a b => if b < a then b else a) a ∈ l := by
  induction l with
  | nil => intro a; simp
  | cons y r ih =>
    intro a
    simp only [List.foldl_cons, List.mem_cons]
    rcases ih (if y < a then y else a) with h | h
    · rw [h]; split <;> simp
    · exact .inr (.inr h)
theorem lmin_neg {l : List Int} (h : l ≠ []) : lmin l < 0 ↔ ∃ x ∈ l, x < 0 := by
  cases l with
  | nil => exact absurd rfl h
  | cons a r =>
    unfold lmin
    simp only [List.drop_succ_cons, List.drop_zero, List.getD_cons_zero, List.mem_cons]
    obtain ⟨h1, h2⟩ := foldmin r a
    constructor
    · intro q
      rcases foldmin_in r a with e | e
      · exact ⟨a, .inl rfl, by omega⟩
      · exact ⟨_, .inr e, q⟩
    · rintro ⟨x, rfl | hx, q⟩
      · omega
      · have := h2 x hx; omega
theorem fb_end {α : Type} [Inhabited α] {f : α → Int} {l : List α} {k : Nat} (hk : l.length ≤ k) (h1 : ∀ d ∈ l.take k, f d = 0) : fb f l = 0 := fb_yes (all_whole hk h1)
end Go.Proofs.YthmmjoemapoafaaDoor

/- What the document's answers call, all of them. -/
namespace Go.Proofs.YthmmjoemapoafaaDoor
open Go Go.RowKit V
set_option maxRecDepth 100000
theorem v_rbetween (n a b : Int) : V.Fn Tryd.prog 31 [] [.one (.val (.int .i64 n)), .one (.val (.int .i64 a)), .one (.val (.int .i64 b))] (.bool (decide (a ≤ n ∧ n ≤ b))) := by
  refine V.Fn.mk_ V.Tok V.mixed Tryd.func31 rfl Tryd.ntmps31 (by kernel_rfl) rfl rfl ?_
  repeat' ((conv => whnf); first | refine V.NCond.mk ?_ | refine V.NIf.not_ ?_ | refine V.NIf.dec_ ?_ | refine V.NIf.no (by omega) ?_ | refine V.NIf.yes (by omega) ?_ | refine V.NIf.mk (fun _ => ?_) (fun _ => ?_) | refine V.NWrap.ok (by omega) (by omega) ?_ | refine V.NWrap.u64 (by omega) (by omega) ?_ | refine V.NLt.mk (by omega) ?_ | refine V.NBoth.mk ?_ ?_ | refine V.NTF.yes (by omega) ?_ | refine V.NTF.no (by omega) ?_ | refine V.NTF.dec ?_ | refine V.NDraw.q (by exact rfl) (by kernel_rfl) ?_ | refine V.NApp.one (by first | omega | (simp; omega)) (by first | omega | (simp; omega)) ?_ | (refine V.NDraw.any (by kernel_rfl) ?_) | fail)
  · exact ⟨_, rfl, by simp_all⟩
  · exact congrArg Value.bool (by simp_all; omega)
end Go.Proofs.YthmmjoemapoafaaDoor

/- Plain facts on amounts: sums, parts, near parts, totals. -/
namespace Go.Proofs.YthmmjoemapoafaaDoor.M

def Amt (a : Int) : Prop := -1152921504606846976 ≤ a ∧ a ≤ 1152921504606846976
instance (a : Int) : Decidable (Amt a) := by unfold Amt; exact inferInstance
def chk (a : Int) : Int := if Amt a then 0 else 3
theorem chk_yes {a : Int} (h : Amt a) : chk a = 0 := if_pos h
theorem chk_no {a : Int} (h : ¬ Amt a) : chk a = 3 := if_neg h
def addE (a b : Int) : Int := if ¬ (Amt a ∧ Amt b) then 3 else if ¬ Amt (a + b) then 8 else 0
def addV (a b : Int) : Int := if Amt a ∧ Amt b ∧ Amt (a + b) then a + b else 0
theorem add_1 {a b : Int} (h : ¬ (Amt a ∧ Amt b)) : addE a b = 3 ∧ addV a b = 0 := ⟨if_pos h, if_neg fun q => h ⟨q.1, q.2.1⟩⟩
theorem add_2 {a b : Int} (h : Amt a ∧ Amt b) (k : ¬ Amt (a + b)) : addE a b = 8 ∧ addV a b = 0 := ⟨by unfold addE; rw [if_neg (by simpa using h), if_pos k], if_neg fun q => k q.2.2⟩
theorem add_3 {a b : Int} (h : Amt a ∧ Amt b) (k : Amt (a + b)) : addE a b = 0 ∧ addV a b = a + b := ⟨by unfold addE; rw [if_neg (by simpa using h), if_neg (by simpa using k)], if_pos ⟨h.1, h.2, k⟩⟩

def POk (a b c : Int) : Prop := Amt a ∧ (0 ≤ b ∧ b ≤ 1099511627776) ∧ (1 ≤ c ∧ c ≤ 1099511627776)
instance (a b c : Int) : Decidable (POk a b c) := by unfold POk; exact inferInstance
def ckE (a b c : Int) : Int := if POk a b c then 0 else 3
theorem ck_yes {a b c : Int} (h : POk a b c) : ckE a b c = 0 := if_pos h
theorem ck_no {a b c : Int} (h : ¬ POk a b c) : ckE a b c = 3 := if_neg h
def prE (a b c : Int) : Int := if ¬ POk a b c then 3 else if ¬ Amt (a * b / c) then 8 else 0
def prQ (a b c : Int) : Int := if POk a b c ∧ Amt (a * b / c) then a * b / c else 0
def prR (a b c : Int) : Int := if POk a b c ∧ Amt (a * b / c) then a * b % c else 0
theorem pr_1 {a b c : Int} (h : ¬ POk a b c) : prE a b c = 3 ∧ prQ a b c = 0 ∧ prR a b c = 0 := ⟨if_pos h, if_neg fun q => h q.1, if_neg fun q => h q.1⟩
theorem pr_2 {a b c : Int} (h : POk a b c) (k : ¬ Amt (a * b / c)) : prE a b c = 8 ∧ prQ a b c = 0 ∧ prR a b c = 0 := ⟨by unfold prE; rw [if_neg (by simpa using h), if_pos k], if_neg fun q => k q.2, if_neg fun q => k q.2⟩
theorem pr_3 {a b c : Int} (h : POk a b c) (k : Amt (a * b / c)) : prE a b c = 0 ∧ prQ a b c = a * b / c ∧ prR a b c = a * b % c := ⟨by unfold prE; rw [if_neg (by simpa using h), if_neg (by simpa using k)], if_pos ⟨h, k⟩, if_pos ⟨h, k⟩⟩
theorem pr_ok {a b c : Int} (h : prE a b c = 0) : POk a b c ∧ Amt (a * b / c) := by
  by_cases p : POk a b c
  · by_cases k : Amt (a * b / c)
    · exact ⟨p, k⟩
    · rw [(pr_2 p k).1] at h; omega
  · rw [(pr_1 p).1] at h; omega
theorem pr_cases (a b c : Int) : (prE a b c = 3 ∧ ¬ POk a b c) ∨ (prE a b c = 8 ∧ POk a b c ∧ ¬ Amt (a * b / c)) ∨ (prE a b c = 0 ∧ POk a b c ∧ Amt (a * b / c)) := by
  by_cases p : POk a b c
  · by_cases k : Amt (a * b / c)
    · exact .inr (.inr ⟨(pr_3 p k).1, p, k⟩)
    · exact .inr (.inl ⟨(pr_2 p k).1, p, k⟩)
  · exact .inl ⟨(pr_1 p).1, p⟩
theorem pr_z {a b c : Int} (h : prE a b c ≠ 0) : prQ a b c = 0 ∧ prR a b c = 0 := by
  rcases pr_cases a b c with ⟨_, p⟩ | ⟨_, p, k⟩ | ⟨e, _⟩
  · exact (pr_1 p).2
  · exact (pr_2 p k).2
  · exact absurd e h
theorem r_bd {x c : Int} (h : 1 ≤ c) : 0 ≤ x % c ∧ x % c < c := ⟨Int.emod_nonneg _ (by omega), Int.emod_lt_of_pos _ (by omega)⟩
theorem qr (x c : Int) : c * (x / c) + x % c = x := Int.mul_ediv_add_emod x c

/-- near: the part, or one more -/
def up (q r c : Int) : Int := if c < 2 * r ∨ (2 * r = c ∧ q % 2 ≠ 0) then q + 1 else q
def neE (a b c : Int) : Int := if prE a b c ≠ 0 then prE a b c else if ¬ Amt (up (a * b / c) (a * b % c) c) then 8 else 0
def neV (a b c : Int) : Int := if prE a b c = 0 ∧ Amt (up (a * b / c) (a * b % c) c) then up (a * b / c) (a * b % c) c else 0
theorem ne_1 {a b c : Int} (h : prE a b c ≠ 0) : neE a b c = prE a b c ∧ neV a b c = 0 := ⟨if_pos h, if_neg fun q => h q.1⟩
theorem ne_2 {a b c : Int} (h : prE a b c = 0) (k : ¬ Amt (up (a * b / c) (a * b % c) c)) : neE a b c = 8 ∧ neV a b c = 0 := ⟨by unfold neE; rw [if_neg (by simpa using h), if_pos k], if_neg fun q => k q.2⟩
theorem ne_3 {a b c : Int} (h : prE a b c = 0) (k : Amt (up (a * b / c) (a * b % c) c)) : neE a b c = 0 ∧ neV a b c = up (a * b / c) (a * b % c) c := ⟨by unfold neE; rw [if_neg (by simpa using h), if_neg (by simpa using k)], if_pos ⟨h, k⟩⟩

def sum : List Int → Int
  | [] => 0
  | a :: r => a + sum r
theorem sum_append (l r : List Int) : sum (l ++ r) = sum l + sum r := by
  induction l with
  | nil => simp [sum]
  | cons a l ih => simp only [List.cons_append, sum, ih]; omega
theorem sum_reverse (l : List Int) : sum l.reverse = sum l := by
  induction l with
  | nil => rfl
  | cons a l ih => simp only [List.reverse_cons, sum_append, sum, ih]; omega
/-- the checks of some amounts -/
def chks (l : List Int) : Int := if ∀ a ∈ l, Amt a then 0 else 3
theorem chks_yes {l : List Int} (h : ∀ a ∈ l, Amt a) : chks l = 0 := if_pos h
theorem chks_no {l : List Int} (h : ¬ ∀ a ∈ l, Amt a) : chks l = 3 := if_neg h
def toE (l : List Int) : Int := if 40 < l.length then 2 else if chks l ≠ 0 then chks l else if ¬ Amt (sum l) then 8 else 0
def toV (l : List Int) : Int := if toE l = 0 then sum l else 0
theorem to_ok {l : List Int} (h : toE l = 0) : l.length ≤ 40 ∧ (∀ a ∈ l, Amt a) ∧ Amt (sum l) := by
  unfold toE at h
  by_cases a : 40 < l.length
  · rw [if_pos a] at h; omega
  rw [if_neg a] at h
  by_cases b : ∀ a ∈ l, Amt a
  · rw [if_neg (by rw [chks_yes b]; simp)] at h
    by_cases c : Amt (sum l)
    · exact ⟨by omega, b, c⟩
    · rw [if_pos c] at h; omega
  · rw [if_pos (by rw [chks_no b]; omega), chks_no b] at h; omega
theorem to_of {l : List Int} (h1 : l.length ≤ 40) (h2 : ∀ a ∈ l, Amt a) (h3 : Amt (sum l)) : toE l = 0 ∧ toV l = sum l := by
  have e : toE l = 0 := by unfold toE; rw [if_neg (by omega), if_neg (by rw [chks_yes h2]; simp), if_neg (by simpa using h3)]
  exact ⟨e, if_pos e⟩
theorem sum_bd : ∀ {l : List Int}, (∀ a ∈ l, Amt a) → -(1152921504606846976 * (l.length : Int)) ≤ sum l ∧ sum l ≤ 1152921504606846976 * (l.length : Int)
  | [], _ => by simp [sum]
  | a :: r, h => by
    obtain ⟨h1, h2⟩ := sum_bd (l := r) fun x hx => h x (by simp [hx])
    have h3 : Amt a := h a (by simp)
    unfold Amt at h3
    simp only [sum, List.length_cons, Int.natCast_add, Int.mul_add]
    omega

/-! ### what the laws say -/
theorem rises {x y c : Int} (hc : 1 ≤ c) (h : x ≤ y) : x / c ≤ y / c := Int.ediv_le_ediv (by omega) h
theorem two {x y c : Int} (hc : 1 ≤ c) : x / c + y / c ≤ (x + y) / c ∧ (x + y) / c ≤ x / c + y / c + 1 := by
  have h1 := qr x c
  have h2 := qr y c
  have h3 := r_bd (x := x) hc
  have h4 := r_bd (x := y) hc
  refine ⟨(Int.le_ediv_iff_mul_le (by omega)).2 ?_, ?_⟩
  · have : (x / c + y / c) * c = c * (x / c) + c * (y / c) := by rw [Int.add_mul, Int.mul_comm, Int.mul_comm (y / c)]
    omega
  · apply Int.le_of_lt_add_one
    apply Int.ediv_lt_of_lt_mul (by omega)
    have : (x / c + y / c + 1 + 1) * c = c * (x / c) + c * (y / c) + c + c := by
      rw [Int.add_mul, Int.add_mul, Int.add_mul, Int.mul_comm, Int.mul_comm (y / c)]; omega
    omega
theorem neg_part {x c : Int} (hc : 1 ≤ c) : (x % c = 0 ∧ (-x) / c = -(x / c) ∧ (-x) % c = 0) ∨ (0 < x % c ∧ (-x) / c = -(x / c) - 1 ∧ (-x) % c = c - x % c) := by
  have h1 := qr x c
  have h3 := r_bd (x := x) hc
  by_cases h : x % c = 0
  · left
    have e : -x = c * (-(x / c)) := by rw [Int.mul_neg]; omega
    exact ⟨h, by rw [e]; exact Int.mul_ediv_cancel_left _ (by omega), by rw [e]; exact Int.mul_emod_right _ _⟩
  · right
    have e : -x = (c - x % c) + c * (-(x / c) - 1) := by
      rw [Int.mul_sub, Int.mul_neg]; omega
    refine ⟨by omega, ?_, ?_⟩
    · rw [e, Int.add_mul_ediv_left _ _ (by omega), Int.ediv_eq_zero_of_lt (by omega) (by omega)]; omega
    · rw [e, Int.add_mul_emod_self_left]; exact Int.emod_eq_of_lt (by omega) (by omega)
theorem near_neg {x c : Int} (hc : 1 ≤ c) : up ((-x) / c) ((-x) % c) c = -(up (x / c) (x % c) c) := by
  have h3 := r_bd (x := x) hc
  unfold up
  rcases neg_part (x := x) hc with ⟨h, e1, e2⟩ | ⟨h, e1, e2⟩
  · rw [e1, e2, h, if_neg (by omega), if_neg (by omega)]
  · rw [e1, e2]
    split <;> split <;> omega
end Go.Proofs.YthmmjoemapoafaaDoor.M

/- Plain facts on division by halves: one step of the school's long division of a number of two words. -/
namespace Go.Proofs.YthmmjoemapoafaaDoor.V

/-- the guess of one digit: 'q' and 'r' with q * a + r = u, q no less than the true digit -/
def Guess (a u q r : Nat) : Prop := q * a + r = u
/-- is the guess too great? just if q * (a * 2^32 + b) is above u * 2^32 + d -/
theorem too_great {a b u d q r : Nat} (h : q * a + r = u) : (r * 4294967296 + d < q * b) ↔ (u * 4294967296 + d < q * (a * 4294967296 + b)) := by
  have e : q * (a * 4294967296 + b) = q * a * 4294967296 + q * b := by rw [Nat.mul_add, Nat.mul_assoc]
  rw [e, ← h, Nat.add_mul]
  omega
theorem digit_le {V N q : Nat} (hb : N < q * V) : N / V ≤ q - 1 := by
  have h1 : N / V < q := Nat.div_lt_of_lt_mul (by rw [Nat.mul_comm]; exact hb)
  omega
theorem digit_eq {V N q : Nat} (h : N / V ≤ q) (hb : ¬ N < q * V) (hV : 0 < V) : q = N / V := by
  have h1 : q ≤ N / V := (Nat.le_div_iff_mul_le hV).2 (by omega)
  omega
theorem guess_ge {a b u d : Nat} (ha : 0 < a) (hd : d < 4294967296) : (u * 4294967296 + d) / (a * 4294967296 + b) ≤ u / a := by
  apply Nat.le_of_lt_succ
  apply Nat.div_lt_of_lt_mul
  have h1 : u < a * (u / a + 1) := by have := Nat.lt_mul_div_succ u ha; exact this
  have h2 : (u + 1) * 4294967296 ≤ a * (u / a + 1) * 4294967296 := Nat.mul_le_mul_right _ h1
  have h3 : (a * 4294967296 + b) * (u / a + 1) = a * (u / a + 1) * 4294967296 + b * (u / a + 1) := by
    rw [Nat.add_mul]; congr 1; rw [Nat.mul_assoc, Nat.mul_comm 4294967296, ← Nat.mul_assoc]
  show u * 4294967296 + d < (a * 4294967296 + b) * (u / a + 1)
  rw [h3]; omega
/-- a digit is below 2^32 -/
theorem digit_lt {V u d : Nat} (hu : u < V) (hd : d < 4294967296) : (u * 4294967296 + d) / V < 4294967296 := by
  apply Nat.div_lt_of_lt_mul
  have : (u + 1) * 4294967296 ≤ V * 4294967296 := Nat.mul_le_mul_right _ hu
  omega
/-- a guess of 2^32 or more is too great -/
theorem wide_great {V u d q : Nat} (hu : u < V) (hd : d < 4294967296) (hq : 4294967296 ≤ q) : u * 4294967296 + d < q * V := by
  have h1 : (u + 1) * 4294967296 ≤ V * 4294967296 := Nat.mul_le_mul_right _ hu
  have h2 : 4294967296 * V ≤ q * V := Nat.mul_le_mul_right _ hq
  have h3 : 4294967296 * V = V * 4294967296 := Nat.mul_comm _ _
  omega
/-- where what is left is 2^32 or more the guess is right -/
theorem wide_rest {a b u d q r : Nat} (h : q * a + r = u) (hu : u < a * 4294967296 + b) (hb : b < 4294967296) (hr : 4294967296 ≤ r) : q < 4294967296 ∧ ¬ u * 4294967296 + d < q * (a * 4294967296 + b) := by
  have hq : q < 4294967296 := by
    apply Classical.byContradiction; intro hc
    have h1 : 4294967296 * a ≤ q * a := Nat.mul_le_mul_right _ (by omega)
    have h2 : 4294967296 * a = a * 4294967296 := Nat.mul_comm _ _
    omega
  refine ⟨hq, ?_⟩
  rw [← too_great h]
  have h3 : q * b ≤ 4294967295 * b := Nat.mul_le_mul_right _ (by omega)
  omega
theorem two_digits_ {K V N d0 : Nat} (hV : 0 < V) : (N / V) * K + ((N % V) * K + d0) / V = (N * K + d0) / V ∧ ((N % V) * K + d0) % V = (N * K + d0) % V := by
  have h := Nat.div_add_mod N V
  generalize N / V = q1 at *
  generalize N % V = r1 at *
  have e : N * K + d0 = (r1 * K + d0) + V * (q1 * K) := by
    rw [← h, Nat.add_mul, Nat.mul_assoc]; omega
  rw [e, Nat.add_mul_div_left _ _ hV, Nat.add_mul_mod_self_left]
  exact ⟨by omega, rfl⟩
theorem two_digits {V u d1 d0 : Nat} (hV : 0 < V) :
    ((u * 4294967296 + d1) / V) * 4294967296 + (((u * 4294967296 + d1) % V) * 4294967296 + d0) / V = ((u * 4294967296 + d1) * 4294967296 + d0) / V ∧
    (((u * 4294967296 + d1) % V) * 4294967296 + d0) % V = ((u * 4294967296 + d1) * 4294967296 + d0) % V := two_digits_ hV
/-- shifted both, the part is the same and what is left is shifted -/
theorem shift_div {N y s : Nat} (hs : 0 < s) : (N * s) / (y * s) = N / y ∧ (N * s) % (y * s) / s = N % y := by
  refine ⟨Nat.mul_div_mul_right _ _ hs, ?_⟩
  rw [Nat.mul_mod_mul_right]
  exact Nat.mul_div_cancel _ hs
end Go.Proofs.YthmmjoemapoafaaDoor.V

/- How many bits a number has, and the shift that brings its highest bit to the front. -/
namespace Go.Proofs.YthmmjoemapoafaaDoor.V
open Go.Lib
theorem bl : ∀ (f x : Nat), x ≠ 0 → x < 2 ^ f → f ≤ 64 → 1 ≤ Lib.bitLen x ∧ Lib.bitLen x ≤ f ∧ 2 ^ (Lib.bitLen x - 1) ≤ x ∧ x < 2 ^ Lib.bitLen x
  | 0, x, h0, h, _ => by simp at h; exact absurd h h0
  | f + 1, x, h0, h, hf => by
    have h64 : x < 2 ^ 64 := Nat.lt_of_lt_of_le h (Nat.pow_le_pow_right (by omega) hf)
    rw [Lib.bitLen_half x h0 h64]
    by_cases hx : x / 2 = 0
    · have : x = 1 := by omega
      subst this
      rw [hx]
      have e : Lib.bitLen 0 = 0 := rfl
      rw [e]
      exact ⟨by omega, by omega, by decide, by decide⟩
    · have hlt : x / 2 < 2 ^ f := by rw [Nat.pow_succ] at h; omega
      obtain ⟨a, b, c, d⟩ := bl f (x / 2) hx hlt (by omega)
      generalize Lib.bitLen (x / 2) = k at *
      obtain ⟨j, rfl⟩ : ∃ j, k = j + 1 := ⟨k - 1, by omega⟩
      have e1 : 1 + (j + 1) - 1 = j + 1 := by omega
      have e2 : j + 1 - 1 = j := by omega
      rw [e1]
      rw [e2] at c
      have e3 : (2 : Nat) ^ (1 + (j + 1)) = 2 ^ (j + 1) * 2 := by rw [Nat.add_comm, Nat.pow_succ]
      rw [e3]
      have e4 : (2 : Nat) ^ (j + 1) = 2 ^ j * 2 := Nat.pow_succ ..
      refine ⟨by omega, by omega, by omega, by omega⟩
/-- the shift that brings the highest bit to the front -/
theorem lead {y : Nat} (h0 : y ≠ 0) (h : y < 18446744073709551616) : Lib.bitLen y ≤ 64 ∧ 1 ≤ Lib.bitLen y ∧ 9223372036854775808 ≤ y * 2 ^ (64 - Lib.bitLen y) ∧ y * 2 ^ (64 - Lib.bitLen y) < 18446744073709551616 := by
  obtain ⟨a, b, c, d⟩ := bl 64 y h0 h (Nat.le_refl _)
  have e1 : 2 ^ (Lib.bitLen y - 1) * 2 ^ (64 - Lib.bitLen y) = 9223372036854775808 := by
    rw [← Nat.pow_add, show Lib.bitLen y - 1 + (64 - Lib.bitLen y) = 63 from by omega]
  have e2 : 2 ^ Lib.bitLen y * 2 ^ (64 - Lib.bitLen y) = 18446744073709551616 := by
    rw [← Nat.pow_add, show Lib.bitLen y + (64 - Lib.bitLen y) = 64 from by omega]
  have hp : 0 < 2 ^ (64 - Lib.bitLen y) := Nat.pow_pos (by omega)
  refine ⟨b, a, ?_, ?_⟩
  · rw [← e1]; exact Nat.mul_le_mul_right _ c
  · rw [← e2]; exact Nat.mul_lt_mul_of_pos_right d hp
end Go.Proofs.YthmmjoemapoafaaDoor.V

/- Plain facts: a number of two words, shifted so that the divisor's highest bit stands in front. -/
namespace Go.Proofs.YthmmjoemapoafaaDoor.V
theorem step_eq {a u q r q' r' : Nat} (h : q * a + r = u) (hq : 1 ≤ q) (e1 : q' = q - 1) (e2 : r' = r + a) : q' * a + r' = u := by
  obtain ⟨k, rfl⟩ : ∃ k, q = k + 1 := ⟨q - 1, by omega⟩
  have : q' = k := by omega
  subst this
  rw [e2, ← h, Nat.add_mul]
  omega
theorem rem_wrap {u d Q Y : Nat} (hq : Q = (u * 4294967296 + d) / Y) (hY : 0 < Y) (hY2 : Y < 18446744073709551616) :
    ((((u : Int) * 4294967296 % 18446744073709551616 + (d : Int)) % 18446744073709551616 - (Q : Int) * (Y : Int) % 18446744073709551616) % 18446744073709551616) = (((u * 4294967296 + d) % Y : Nat) : Int) := by
  have h := Nat.div_add_mod (u * 4294967296 + d) Y
  have h2 := Nat.mod_lt (u * 4294967296 + d) hY
  rw [← hq] at h
  generalize (u * 4294967296 + d) % Y = m at *
  have e : (Q : Int) * (Y : Int) = ((Y * Q : Nat) : Int) := by simp [Int.mul_comm]
  rw [e]
  generalize Y * Q = z at *
  omega
theorem final_ {K W hi lo y s u d1 d0 V' Y : Nat} (hW : W = K * K) (hY : Y = y * 2 ^ s) (hy : 0 < Y) (hU : u * W + V' = (hi * W + lo) * 2 ^ s) (hV : V' = d1 * K + d0) :
    ((u * K + d1) / Y) * K + (((u * K + d1) % Y) * K + d0) / Y = (hi * W + lo) / y ∧ ((((u * K + d1) % Y) * K + d0) % Y) / 2 ^ s = (hi * W + lo) % y := by
  obtain ⟨t1, t2⟩ := two_digits_ (K := K) (V := Y) (N := u * K + d1) (d0 := d0) hy
  have e : (u * K + d1) * K + d0 = (hi * W + lo) * 2 ^ s := by rw [← hU, hV, hW, Nat.add_mul, Nat.mul_assoc]; omega
  rw [e, hY] at t1 t2
  obtain ⟨g1, g2⟩ := shift_div (N := hi * W + lo) (y := y) (s := 2 ^ s) (Nat.pow_pos (by omega))
  rw [hY]
  exact ⟨t1.trans g1, by rw [t2]; exact g2⟩
theorem final {hi lo y s u d1 d0 V' Y : Nat} (hY : Y = y * 2 ^ s) (hy : 0 < Y) (hU : u * 18446744073709551616 + V' = (hi * 18446744073709551616 + lo) * 2 ^ s) (hV : V' = d1 * 4294967296 + d0) :
    ((u * 4294967296 + d1) / Y) * 4294967296 + (((u * 4294967296 + d1) % Y) * 4294967296 + d0) / Y = (hi * 18446744073709551616 + lo) / y ∧
    ((((u * 4294967296 + d1) % Y) * 4294967296 + d0) % Y) / 2 ^ s = (hi * 18446744073709551616 + lo) % y := final_ (by omega) hY hy hU hV
theorem lt_words_ {K hi lo y : Nat} (h1 : hi < y) (h2 : lo < K) : hi * K + lo < y * K := by
  have h : (hi + 1) * K ≤ y * K := Nat.mul_le_mul_right _ h1
  rw [Nat.add_mul] at h; omega
theorem lt_words {hi lo y : Nat} (h1 : hi < y) (h2 : lo < 18446744073709551616) : hi * 18446744073709551616 + lo < y * 18446744073709551616 := lt_words_ h1 h2
theorem or_add {h l s : Nat} (hl : l < 2 ^ s) : (h * 2 ^ s) ||| l = h * 2 ^ s + l := by
  have := Nat.shiftLeft_add_eq_or_of_lt hl h
  rw [Nat.shiftLeft_eq] at this
  exact this.symm
theorem words_ {hi lo A B K : Nat} (hp : 0 < B) (e : A * B = K) : (hi * B + lo / A) * K + lo * B % K = (hi * K + lo) * B := by
  have hd : lo * B / K = lo / A := by rw [← e]; exact Nat.mul_div_mul_right _ _ hp
  have hdm := Nat.div_add_mod (lo * B) K
  rw [hd] at hdm
  rw [Nat.add_mul, Nat.add_mul, Nat.mul_assoc hi K B, Nat.mul_comm K B, ← Nat.mul_assoc hi B K, Nat.mul_comm (lo / A) K]
  omega
/-- the upper word, and the lower one, of the shifted number -/
theorem words {hi lo y s : Nat} (hs : s ≤ 63) (h1 : hi < y) (h2 : lo < 18446744073709551616) (h4 : y * 2 ^ s < 18446744073709551616) :
    hi * 2 ^ s < 18446744073709551616 ∧ lo / 2 ^ (64 - s) < 2 ^ s ∧ hi * 2 ^ s + lo / 2 ^ (64 - s) < y * 2 ^ s ∧
    (hi * 2 ^ s + lo / 2 ^ (64 - s)) * 18446744073709551616 + lo * 2 ^ s % 18446744073709551616 = (hi * 18446744073709551616 + lo) * 2 ^ s := by
  have hp : 0 < 2 ^ s := Nat.pow_pos (by omega)
  have e : 2 ^ (64 - s) * 2 ^ s = 18446744073709551616 := by rw [← Nat.pow_add, show 64 - s + s = 64 from by omega]
  have hl : lo / 2 ^ (64 - s) < 2 ^ s := Nat.div_lt_of_lt_mul (by rw [e]; exact h2)
  have hm : (hi + 1) * 2 ^ s ≤ y * 2 ^ s := Nat.mul_le_mul_right _ h1
  rw [Nat.add_mul] at hm
  exact ⟨by omega, hl, by omega, words_ hp e⟩
end Go.Proofs.YthmmjoemapoafaaDoor.V

/- The walk of math/bits.Div64: a number of two words is divided by one word. -/
namespace Go.Proofs.YthmmjoemapoafaaDoor
open Go.RowKit
set_option maxRecDepth 100000
set_option maxHeartbeats 2000000

theorem wrapn {a : Nat} (h : a < 18446744073709551616) : IntKind.u64.wrap (a : Int) = (a : Int) := by rw [IntKind.wrap_u64]; omega
theorem wrapm (a : Nat) : IntKind.u64.wrap (a : Int) = ((a % 18446744073709551616 : Nat) : Int) := by rw [IntKind.wrap_u64]; omega
theorem maskn {a : Nat} (ha : a < 18446744073709551616) : bits .and .u64 (a : Int) 4294967295 = ((a % 4294967296 : Nat) : Int) := by
  have h := bits_and_u64_nat a 4294967295 ha (by omega)
  have e : a &&& 4294967295 = a % 4294967296 := Nat.and_two_pow_sub_one_eq_mod a 32
  rw [e] at h
  exact h
theorem castpow (a s : Nat) : (a : Int) * 2 ^ s = ((a * 2 ^ s : Nat) : Int) := by simp
theorem castdiv (a s : Nat) : (a : Int) / 2 ^ s = ((a / 2 ^ s : Nat) : Int) := by simp
theorem div64_yes (hi lo y R1 R2 : Nat) (g1 : R1 = (hi * 18446744073709551616 + lo) / y) (g2 : R2 = (hi * 18446744073709551616 + lo) % y) (h0 : ¬ hi = 0) (h1 : hi < y) (h2 : lo < 18446744073709551616) (h3 : y < 18446744073709551616) (w : World) : Calls Tryd.prog 40 #[.int .u64 hi, .int .u64 lo, .int .u64 y] w fun e w' => e = .returned (.tuple #[.int .u64 R1, .int .u64 R2]) ∧ w' = w := by
  · have HR1 := hid g1
    have HR2 := hid g2
    clear g1 g2
    obtain ⟨l1, l2, l3, l4⟩ := V.lead (y := y) (by omega) h3
    have hs : ∃ s : Nat, s = 64 - Lib.bitLen y := ⟨_, rfl⟩
    obtain ⟨s, hs⟩ := hs
    rw [← hs] at l3 l4
    have r1 : IntKind.u64.wrap (64 - (Lib.bitLen y : Int)) = (s : Int) := by rw [IntKind.wrap_u64]; omega
    have hs63 : s ≤ 63 := by omega
    have r2 : min s 64 = s := by omega
    have HS := hid hs
    clear hs l1 l2
    obtain ⟨Y, hY⟩ : ∃ Y, Y = y * 2 ^ s := ⟨_, rfl⟩
    rw [← hY] at l3 l4
    have r3 : IntKind.u64.wrap ((y : Int) * 2 ^ s) = (Y : Int) := by
      have : ((y : Int) * 2 ^ s) = ((Y : Nat) : Int) := by rw [hY]; simp
      rw [this, IntKind.wrap_u64]; omega
    have HY := hid hY
    clear hY
    obtain ⟨w1, w2, w3, w4⟩ := V.words (hi := hi) (lo := lo) (y := y) (s := s) hs63 h1 h2 (by rw [← HY.out]; exact l4)
    have r4 : IntKind.u64.wrap ((hi : Int) * 2 ^ s) = ((hi * 2 ^ s : Nat) : Int) := by rw [castpow, wrapn w1]
    have r5 : (lo : Int) / 2 ^ (64 - s) = ((lo / 2 ^ (64 - s) : Nat) : Int) := castdiv _ _
    have r6 : IntKind.u64.wrap ((lo : Int) * 2 ^ s) = ((lo * 2 ^ s % 18446744073709551616 : Nat) : Int) := by rw [castpow, wrapm]
    rw [← HY.out] at w3
    have l5 : lo / 2 ^ (64 - s) < 18446744073709551616 := by omega
    have r7 : bits .or .u64 ((hi * 2 ^ s : Nat) : Int) ((lo / 2 ^ (64 - s) : Nat) : Int) = ((hi * 2 ^ s + lo / 2 ^ (64 - s) : Nat) : Int) := by rw [bits_or_u64_nat _ _ w1 l5, V.or_add w2]
    have l6 : lo * 2 ^ s % 18446744073709551616 < 18446744073709551616 := Nat.mod_lt _ (by omega)
    have HU := hid w4
    clear w4 w2
    generalize hi * 2 ^ s = H at *
    generalize lo / 2 ^ (64 - s) = L at *
    generalize lo * 2 ^ s % 18446744073709551616 = V' at *
    obtain ⟨u, hu⟩ : ∃ u, u = H + L := ⟨_, rfl⟩
    rw [← hu] at r7 w3
    have HU2 : Hid (u * 18446744073709551616 + V' = (hi * 18446744073709551616 + lo) * 2 ^ s) := by rw [hu]; exact HU.out
    clear hu HU
    obtain ⟨a, ha⟩ : ∃ a, a = Y / 4294967296 := ⟨_, rfl⟩
    obtain ⟨b, hb⟩ : ∃ b, b = Y % 4294967296 := ⟨_, rfl⟩
    obtain ⟨d1, hd1⟩ : ∃ d, d = V' / 4294967296 := ⟨_, rfl⟩
    obtain ⟨d0, hd0⟩ : ∃ d, d = V' % 4294967296 := ⟨_, rfl⟩
    have r8 : (Y : Int) / 4294967296 = (a : Int) := by omega
    have r9 : bits .and .u64 (Y : Int) 4294967295 = (b : Int) := by rw [maskn l4, ← hb]
    have r10 : (V' : Int) / 4294967296 = (d1 : Int) := by omega
    have r11 : bits .and .u64 (V' : Int) 4294967295 = (d0 : Int) := by rw [maskn l6, ← hd0]
    have HAB : Hid (Y = a * 4294967296 + b) := show Y = a * 4294967296 + b by omega
    have HD : Hid (V' = d1 * 4294967296 + d0) := show V' = d1 * 4294967296 + d0 by omega
    have ka : 2147483648 ≤ a := by omega
    have ka2 : a < 4294967296 := by omega
    have kb : b < 4294967296 := by omega
    have kd1 : d1 < 4294967296 := by omega
    have kd0 : d0 < 4294967296 := by omega
    have ku : u < 18446744073709551616 := by omega
    clear ha hb hd1 hd0 w1 l5 l6
    obtain ⟨q0, hq0⟩ : ∃ q, q = u / a := ⟨_, rfl⟩
    obtain ⟨m0, hm0⟩ : ∃ r, r = u % a := ⟨_, rfl⟩
    have e0 : q0 * a + m0 = u := by rw [hq0, hm0, Nat.mul_comm]; exact Nat.div_add_mod u a
    have em : m0 < a := by rw [hm0]; exact Nat.mod_lt _ (by omega)
    have kq : q0 < 18446744073709551616 := by rw [hq0]; exact Nat.lt_of_le_of_lt (Nat.div_le_self _ _) ku
    have r12 : IntKind.u64.wrap ((u : Int) / (a : Int)) = (q0 : Int) := by
      have : (u : Int) / (a : Int) = ((u / a : Nat) : Int) := by simp
      rw [this, ← hq0, wrapn kq]
    have r13 : (q0 : Int) * (a : Int) = ((u - m0 : Nat) : Int) := by
      have : q0 * a = u - m0 := by omega
      rw [← this]; simp
    have r14 : IntKind.u64.wrap (((u - m0 : Nat) : Int)) = ((u - m0 : Nat) : Int) := wrapn (by omega)
    have r15 : IntKind.u64.wrap ((u : Int) - ((u - m0 : Nat) : Int)) = (m0 : Int) := by
      have : (u : Int) - ((u - m0 : Nat) : Int) = (m0 : Int) := by omega
      rw [this]; exact wrapn (by omega)
    have G0 := hid (V.guess_ge (a := a) (b := b) (u := u) (d := d1) (by omega) kd1)
    rw [← hq0] at G0
    have E0 := hid e0
    clear hq0 hm0 e0
    generalize hK : u - m0 = K at *
    clear hK
    have hby : ((y : Int) == 0) = false := beq_eq_false_iff_ne.2 (by omega)
    have hc : ((hi : Int) == 0) = false := beq_eq_false_iff_ne.2 (by omega)
    go_enter Tryd.func40, Tryd.ntmps40
    go_wp2_with (go_at_call 41; refine (Tryd.bits_LeadingZeros64 _ _ (by omega) (by omega)).mono ?_; rintro e w' ⟨rfl, rfl⟩)
    clear r1 r2 r3 r4 r5 r6 r7 r8 r9 r10 r11 r12 r13 r14 r15
    have BD : Hid (2147483648 ≤ a ∧ a < 4294967296 ∧ b < 4294967296 ∧ d1 < 4294967296 ∧ d0 < 4294967296 ∧ u < 18446744073709551616 ∧ u < Y ∧ Y < 18446744073709551616 ∧ 0 < Y) := ⟨ka, ka2, kb, kd1, kd0, ku, w3, l4, by omega⟩
    have B0 : Hid (q0 < 18446744073709551616 ∧ m0 < 4294967296) := ⟨kq, by omega⟩
    have S0 : Hid (s ≤ 63 ∧ hi < y ∧ lo < 18446744073709551616 ∧ y < 18446744073709551616) := ⟨hs63, h1, h2, h3⟩
    have ia : (2147483648 : Int) ≤ (a : Int) := by omega
    have HUY : Hid (u < Y) := w3
    clear ka ka2 kb kd1 kd0 ku w3 l3 l4 hs63 h1 h2 h3 kq em
    go_loop [15, 16] (fun t1 t2 => ∃ q r : Nat, t1 = .int .u64 q ∧ t2 = .int .u64 r ∧ Hid (q < 18446744073709551616 ∧ r < 4294967296) ∧ Hid (q * a + r = u) ∧ Hid ((u * 4294967296 + d1) / (a * 4294967296 + b) ≤ q)) (fun t1 _ => (intOf t1).toNat)
    case atStart => exact ⟨q0, m0, rfl, rfl, B0, E0, G0⟩
    case round =>
      obtain ⟨q, r, rfl, rfl, B1, E1, G1⟩ := hrel
      clear E0 G0 B0
      by_cases c1 : 4294967296 ≤ q
      · obtain ⟨q', hq'⟩ : ∃ q', q' = q - 1 := ⟨_, rfl⟩
        obtain ⟨r', hr'⟩ : ∃ r', r' = r + a := ⟨_, rfl⟩
        have q1 : IntKind.u64.wrap ((q : Int) - 1) = (q' : Int) := by have := B1.out; rw [IntKind.wrap_u64]; omega
        have q2 : IntKind.u64.wrap ((r : Int) + (a : Int)) = (r' : Int) := by have := B1.out; have := BD.out; rw [IntKind.wrap_u64]; omega
        have C1 : (4294967296 : Int) ≤ (q : Int) := by omega
        have HQ := hid hq'
        have E2 : Hid (q' * a + r' = u) := V.step_eq E1.out (by omega) hq' hr'
        have G2 : Hid ((u * 4294967296 + d1) / (a * 4294967296 + b) ≤ q') := by
          have hbd := BD.out
          have hh := HAB.out
          have hu2 := HUY.out
          have hlt := V.wide_great (V := a * 4294967296 + b) (u := u) (d := d1) (q := q) (by omega) (by omega) c1
          have := V.digit_le hlt
          rw [hq']; exact this
        by_cases c2 : 4294967296 ≤ r'
        · have C2 : decide ((4294967296 : Int) ≤ (r' : Int)) = true := decide_eq_true (by omega)
          have QE : Hid (q' = (u * 4294967296 + d1) / (a * 4294967296 + b)) := by
            have hbd := BD.out
            have hh := HAB.out
            have hu2 := HUY.out
            exact V.digit_eq G2.out (V.wide_rest E2.out (by omega) (by omega) c2).2 (by omega)
          clear hq' hr' c1 c2
          generalize q' = Q at *
          obtain ⟨u2, hu2⟩ : ∃ u2, u2 = (u * 4294967296 + d1) % Y := ⟨_, rfl⟩
          have hQY : Q = (u * 4294967296 + d1) / Y := by rw [HAB.out]; exact QE.out
          have k1 : u2 < Y := by rw [hu2]; exact Nat.mod_lt _ BD.out.2.2.2.2.2.2.2.2
          have k2 : Y < 18446744073709551616 := BD.out.2.2.2.2.2.2.2.1
          have s1 : IntKind.u64.wrap (IntKind.u64.wrap (IntKind.u64.wrap ((u : Int) * 4294967296) + (d1 : Int)) - IntKind.u64.wrap ((Q : Int) * (Y : Int))) = (u2 : Int) := by
            rw [IntKind.wrap_u64, IntKind.wrap_u64, IntKind.wrap_u64, IntKind.wrap_u64, hu2]
            exact V.rem_wrap hQY (by omega) k2
          obtain ⟨p0, hp0⟩ : ∃ q, q = u2 / a := ⟨_, rfl⟩
          obtain ⟨n0, hn0⟩ : ∃ r, r = u2 % a := ⟨_, rfl⟩
          have e0 : p0 * a + n0 = u2 := by rw [hp0, hn0, Nat.mul_comm]; exact Nat.div_add_mod u2 a
          have em : n0 < a := by rw [hn0]; exact Nat.mod_lt _ (by have := BD.out; omega)
          have kp : p0 < 18446744073709551616 := by rw [hp0]; exact Nat.lt_of_le_of_lt (Nat.div_le_self _ _) (by omega)
          have s2 : IntKind.u64.wrap ((u2 : Int) / (a : Int)) = (p0 : Int) := by
            have : (u2 : Int) / (a : Int) = ((u2 / a : Nat) : Int) := by simp
            rw [this, ← hp0, wrapn kp]
          obtain ⟨K2, hK2⟩ : ∃ k, k = u2 - n0 := ⟨_, rfl⟩
          have s3 : (p0 : Int) * (a : Int) = (K2 : Int) := by
            have : p0 * a = K2 := by omega
            rw [← this]; simp
          have s4 : IntKind.u64.wrap (K2 : Int) = (K2 : Int) := wrapn (by omega)
          have s5 : IntKind.u64.wrap ((u2 : Int) - (K2 : Int)) = (n0 : Int) := by
            have : (u2 : Int) - (K2 : Int) = (n0 : Int) := by omega
            rw [this]; exact wrapn (by omega)
          have G0 := hid (V.guess_ge (a := a) (b := b) (u := u2) (d := d0) (by omega) BD.out.2.2.2.2.1)
          rw [← hp0] at G0
          have E0 := hid e0
          have B0 : Hid (p0 < 18446744073709551616 ∧ n0 < 4294967296) := ⟨kp, by have := BD.out; omega⟩
          have HUY : Hid (u2 < Y) := k1
          have HU3 := hid hu2
          have HQY := hid hQY
          clear hu2 hQY k1 k2 hp0 hn0 e0 em kp hK2
          go_wp2_with fail
          clear s1 s2 s3 s4 s5
          go_loop [18, 16] (fun t1 t2 => ∃ q r : Nat, t1 = .int .u64 q ∧ t2 = .int .u64 r ∧ Hid (q < 18446744073709551616 ∧ r < 4294967296) ∧ Hid (q * a + r = u2) ∧ Hid ((u2 * 4294967296 + d0) / (a * 4294967296 + b) ≤ q)) (fun t1 _ => (intOf t1).toNat)
          case atStart => exact ⟨p0, n0, rfl, rfl, B0, E0, G0⟩
          case round =>
            obtain ⟨q, r, rfl, rfl, B1, E1, G1⟩ := hrel
            clear E0 G0 B0
            by_cases c1 : 4294967296 ≤ q
            · obtain ⟨q', hq'⟩ : ∃ q', q' = q - 1 := ⟨_, rfl⟩
              obtain ⟨r', hr'⟩ : ∃ r', r' = r + a := ⟨_, rfl⟩
              have q1 : IntKind.u64.wrap ((q : Int) - 1) = (q' : Int) := by have := B1.out; rw [IntKind.wrap_u64]; omega
              have q2 : IntKind.u64.wrap ((r : Int) + (a : Int)) = (r' : Int) := by have := B1.out; have := BD.out; rw [IntKind.wrap_u64]; omega
              have C1 : (4294967296 : Int) ≤ (q : Int) := by omega
              have HQ := hid hq'
              have E2 : Hid (q' * a + r' = u2) := V.step_eq E1.out (by omega) hq' hr'
              have G2 : Hid ((u2 * 4294967296 + d0) / (a * 4294967296 + b) ≤ q') := by
                have hbd := BD.out
                have hh := HAB.out
                have hu2 := HUY.out
                have hlt := V.wide_great (V := a * 4294967296 + b) (u := u2) (d := d0) (q := q) (by omega) (by omega) c1
                have := V.digit_le hlt
                rw [hq']; exact this
              by_cases c2 : 4294967296 ≤ r'
              · have C2 : decide ((4294967296 : Int) ≤ (r' : Int)) = true := decide_eq_true (by omega)
                have QE : Hid (q' = (u2 * 4294967296 + d0) / (a * 4294967296 + b)) := by
                  have hbd := BD.out
                  have hh := HAB.out
                  have hu2 := HUY.out
                  exact V.digit_eq G2.out (V.wide_rest E2.out (by omega) (by omega) c2).2 (by omega)
                clear hq' hr' c1 c2
                have FF := V.final HY.out BD.out.2.2.2.2.2.2.2.2 HU2.out HD.out
                rw [← HQY.out, ← HU3.out] at FF
                have hq2 : q' = (u2 * 4294967296 + d0) / Y := by rw [HAB.out]; exact QE.out
                rw [← hq2] at FF
                have hR1 := HR1.out
                have hR2 := HR2.out
                obtain ⟨e2, he2⟩ : ∃ R, R = (u2 * 4294967296 + d0) % Y := ⟨_, rfl⟩
                rw [← hR1, ← hR2, ← he2] at FF
                have hR3 : R1 < 18446744073709551616 := by
                  rw [hR1]
                  have := S0.out
                  exact Nat.div_lt_of_lt_mul (V.lt_words this.2.1 this.2.2.1)
                have f1 : IntKind.u64.wrap (IntKind.u64.wrap ((Q : Int) * 4294967296) + (q' : Int)) = (R1 : Int) := by
                  have := FF.1
                  rw [IntKind.wrap_u64, IntKind.wrap_u64]; omega
                have f2 : IntKind.u64.wrap (IntKind.u64.wrap (IntKind.u64.wrap ((u2 : Int) * 4294967296) + (d0 : Int)) - IntKind.u64.wrap ((q' : Int) * (Y : Int))) = (e2 : Int) := by
                  rw [IntKind.wrap_u64, IntKind.wrap_u64, IntKind.wrap_u64, IntKind.wrap_u64, he2]
                  exact V.rem_wrap hq2 BD.out.2.2.2.2.2.2.2.2 BD.out.2.2.2.2.2.2.2.1
                have f3 : (e2 : Int) / 2 ^ s = (R2 : Int) := by rw [castdiv, FF.2]
                have f4 : min s 64 = s := by have := S0.out; omega
                clear hR1 hR2 he2 hq2 FF hR3
                go_wp2_with fail
                go_ret2
                exact ⟨rfl, rfl⟩
              · have C2 : decide ((4294967296 : Int) ≤ (r' : Int)) = false := decide_eq_false (by omega)
                have B2 : Hid (q' < 18446744073709551616 ∧ r' < 4294967296) := by have := B1.out; exact ⟨by omega, by omega⟩
                clear hq' hr' c1 c2
                go_wp2_with fail
                go_round
                case rel => exact ⟨q', r', rfl, rfl, B2, E2, G2⟩
                case measure => have := HQ.out; simp [intOf]; omega
            · have D1 : decide ((4294967296 : Int) ≤ (q : Int)) = false := decide_eq_false (by omega)
              obtain ⟨x, hx⟩ : ∃ x, x = q * b := ⟨_, rfl⟩
              obtain ⟨z, hz⟩ : ∃ z, z = 4294967296 * r := ⟨_, rfl⟩
              obtain ⟨t, ht⟩ : ∃ t, t = z + d0 := ⟨_, rfl⟩
              have hxb : x ≤ 4294967295 * 4294967295 := by rw [hx]; have := BD.out; exact Nat.mul_le_mul (by omega) (by omega)
              have p1 : (q : Int) * (b : Int) = (x : Int) := by rw [hx]; simp
              have p1' : IntKind.u64.wrap (x : Int) = (x : Int) := wrapn (by omega)
              have p2 : IntKind.u64.wrap (4294967296 * (r : Int)) = (z : Int) := by have := B1.out; rw [IntKind.wrap_u64]; omega
              have p3 : IntKind.u64.wrap ((z : Int) + (d0 : Int)) = (t : Int) := by have := B1.out; have := BD.out; rw [IntKind.wrap_u64]; omega
              have TG : Hid ((t < x) ↔ (u2 * 4294967296 + d0 < q * (a * 4294967296 + b))) := by
                have := V.too_great (b := b) (d := d0) E1.out
                rw [← hx] at this
                rw [ht, hz, Nat.mul_comm 4294967296 r]; exact this
              by_cases c3 : t < x
              · have hlt := TG.out.1 c3
                obtain ⟨q', hq'⟩ : ∃ q', q' = q - 1 := ⟨_, rfl⟩
                obtain ⟨r', hr'⟩ : ∃ r', r' = r + a := ⟨_, rfl⟩
                have hq1 : 1 ≤ q := by
                  rcases Nat.eq_zero_or_pos q with h | h
                  · rw [h, Nat.zero_mul] at hlt; omega
                  · exact h
                have q1 : IntKind.u64.wrap ((q : Int) - 1) = (q' : Int) := by have := B1.out; rw [IntKind.wrap_u64]; omega
                have q2 : IntKind.u64.wrap ((r : Int) + (a : Int)) = (r' : Int) := by have := B1.out; have := BD.out; rw [IntKind.wrap_u64]; omega
                have HQ : Hid (q' = q - 1 ∧ 1 ≤ q) := ⟨hq', hq1⟩
                have E2 : Hid (q' * a + r' = u2) := V.step_eq E1.out hq1 hq' hr'
                have G2 : Hid ((u2 * 4294967296 + d0) / (a * 4294967296 + b) ≤ q') := by
                  have := V.digit_le hlt
                  rw [hq']; exact this
                by_cases c2 : 4294967296 ≤ r'
                · have C2 : decide ((4294967296 : Int) ≤ (r' : Int)) = true := decide_eq_true (by omega)
                  have QE : Hid (q' = (u2 * 4294967296 + d0) / (a * 4294967296 + b)) := by
                    have hbd := BD.out
                    have hh := HAB.out
                    have hu2 := HUY.out
                    exact V.digit_eq G2.out (V.wide_rest E2.out (by omega) (by omega) c2).2 (by omega)
                  clear hq' hr' c1 c2 hx hz ht hxb hlt hq1
                  have FF := V.final HY.out BD.out.2.2.2.2.2.2.2.2 HU2.out HD.out
                  rw [← HQY.out, ← HU3.out] at FF
                  have hq2 : q' = (u2 * 4294967296 + d0) / Y := by rw [HAB.out]; exact QE.out
                  rw [← hq2] at FF
                  have hR1 := HR1.out
                  have hR2 := HR2.out
                  obtain ⟨e2, he2⟩ : ∃ R, R = (u2 * 4294967296 + d0) % Y := ⟨_, rfl⟩
                  rw [← hR1, ← hR2, ← he2] at FF
                  have hR3 : R1 < 18446744073709551616 := by
                    rw [hR1]
                    have := S0.out
                    exact Nat.div_lt_of_lt_mul (V.lt_words this.2.1 this.2.2.1)
                  have f1 : IntKind.u64.wrap (IntKind.u64.wrap ((Q : Int) * 4294967296) + (q' : Int)) = (R1 : Int) := by
                    have := FF.1
                    rw [IntKind.wrap_u64, IntKind.wrap_u64]; omega
                  have f2 : IntKind.u64.wrap (IntKind.u64.wrap (IntKind.u64.wrap ((u2 : Int) * 4294967296) + (d0 : Int)) - IntKind.u64.wrap ((q' : Int) * (Y : Int))) = (e2 : Int) := by
                    rw [IntKind.wrap_u64, IntKind.wrap_u64, IntKind.wrap_u64, IntKind.wrap_u64, he2]
                    exact V.rem_wrap hq2 BD.out.2.2.2.2.2.2.2.2 BD.out.2.2.2.2.2.2.2.1
                  have f3 : (e2 : Int) / 2 ^ s = (R2 : Int) := by rw [castdiv, FF.2]
                  have f4 : min s 64 = s := by have := S0.out; omega
                  clear hR1 hR2 he2 hq2 FF hR3
                  go_wp2_with fail
                  go_ret2
                  exact ⟨rfl, rfl⟩
                · have C2 : decide ((4294967296 : Int) ≤ (r' : Int)) = false := decide_eq_false (by omega)
                  have B2 : Hid (q' < 18446744073709551616 ∧ r' < 4294967296) := by have := B1.out; exact ⟨by omega, by omega⟩
                  clear hq' hr' c1 c2 hx hz ht hxb hlt hq1
                  go_wp2_with fail
                  go_round
                  case rel => exact ⟨q', r', rfl, rfl, B2, E2, G2⟩
                  case measure => have := HQ.out; simp [intOf]; omega
              · have QE : Hid (q = (u2 * 4294967296 + d0) / (a * 4294967296 + b)) := V.digit_eq G1.out (fun h => c3 (TG.out.2 h)) (by have := BD.out; omega)
                clear c1 hx hz ht hxb
                have FF := V.final HY.out BD.out.2.2.2.2.2.2.2.2 HU2.out HD.out
                rw [← HQY.out, ← HU3.out] at FF
                have hq2 : q = (u2 * 4294967296 + d0) / Y := by rw [HAB.out]; exact QE.out
                rw [← hq2] at FF
                have hR1 := HR1.out
                have hR2 := HR2.out
                obtain ⟨e2, he2⟩ : ∃ R, R = (u2 * 4294967296 + d0) % Y := ⟨_, rfl⟩
                rw [← hR1, ← hR2, ← he2] at FF
                have hR3 : R1 < 18446744073709551616 := by
                  rw [hR1]
                  have := S0.out
                  exact Nat.div_lt_of_lt_mul (V.lt_words this.2.1 this.2.2.1)
                have f1 : IntKind.u64.wrap (IntKind.u64.wrap ((Q : Int) * 4294967296) + (q : Int)) = (R1 : Int) := by
                  have := FF.1
                  rw [IntKind.wrap_u64, IntKind.wrap_u64]; omega
                have f2 : IntKind.u64.wrap (IntKind.u64.wrap (IntKind.u64.wrap ((u2 : Int) * 4294967296) + (d0 : Int)) - IntKind.u64.wrap ((q : Int) * (Y : Int))) = (e2 : Int) := by
                  rw [IntKind.wrap_u64, IntKind.wrap_u64, IntKind.wrap_u64, IntKind.wrap_u64, he2]
                  exact V.rem_wrap hq2 BD.out.2.2.2.2.2.2.2.2 BD.out.2.2.2.2.2.2.2.1
                have f3 : (e2 : Int) / 2 ^ s = (R2 : Int) := by rw [castdiv, FF.2]
                have f4 : min s 64 = s := by have := S0.out; omega
                clear hR1 hR2 he2 hq2 FF hR3
                go_wp2_with fail
                go_ret2
                exact ⟨rfl, rfl⟩
        · have C2 : decide ((4294967296 : Int) ≤ (r' : Int)) = false := decide_eq_false (by omega)
          have B2 : Hid (q' < 18446744073709551616 ∧ r' < 4294967296) := by have := B1.out; exact ⟨by omega, by omega⟩
          clear hq' hr' c1 c2
          go_wp2_with fail
          go_round
          case rel => exact ⟨q', r', rfl, rfl, B2, E2, G2⟩
          case measure => have := HQ.out; simp [intOf]; omega
      · have D1 : decide ((4294967296 : Int) ≤ (q : Int)) = false := decide_eq_false (by omega)
        obtain ⟨x, hx⟩ : ∃ x, x = q * b := ⟨_, rfl⟩
        obtain ⟨z, hz⟩ : ∃ z, z = 4294967296 * r := ⟨_, rfl⟩
        obtain ⟨t, ht⟩ : ∃ t, t = z + d1 := ⟨_, rfl⟩
        have hxb : x ≤ 4294967295 * 4294967295 := by rw [hx]; have := BD.out; exact Nat.mul_le_mul (by omega) (by omega)
        have p1 : (q : Int) * (b : Int) = (x : Int) := by rw [hx]; simp
        have p1' : IntKind.u64.wrap (x : Int) = (x : Int) := wrapn (by omega)
        have p2 : IntKind.u64.wrap (4294967296 * (r : Int)) = (z : Int) := by have := B1.out; rw [IntKind.wrap_u64]; omega
        have p3 : IntKind.u64.wrap ((z : Int) + (d1 : Int)) = (t : Int) := by have := B1.out; have := BD.out; rw [IntKind.wrap_u64]; omega
        have TG : Hid ((t < x) ↔ (u * 4294967296 + d1 < q * (a * 4294967296 + b))) := by
          have := V.too_great (b := b) (d := d1) E1.out
          rw [← hx] at this
          rw [ht, hz, Nat.mul_comm 4294967296 r]; exact this
        by_cases c3 : t < x
        · have hlt := TG.out.1 c3
          obtain ⟨q', hq'⟩ : ∃ q', q' = q - 1 := ⟨_, rfl⟩
          obtain ⟨r', hr'⟩ : ∃ r', r' = r + a := ⟨_, rfl⟩
          have hq1 : 1 ≤ q := by
            rcases Nat.eq_zero_or_pos q with h | h
            · rw [h, Nat.zero_mul] at hlt; omega
            · exact h
          have q1 : IntKind.u64.wrap ((q : Int) - 1) = (q' : Int) := by have := B1.out; rw [IntKind.wrap_u64]; omega
          have q2 : IntKind.u64.wrap ((r : Int) + (a : Int)) = (r' : Int) := by have := B1.out; have := BD.out; rw [IntKind.wrap_u64]; omega
          have HQ : Hid (q' = q - 1 ∧ 1 ≤ q) := ⟨hq', hq1⟩
          have E2 : Hid (q' * a + r' = u) := V.step_eq E1.out hq1 hq' hr'
          have G2 : Hid ((u * 4294967296 + d1) / (a * 4294967296 + b) ≤ q') := by
            have := V.digit_le hlt
            rw [hq']; exact this
          by_cases c2 : 4294967296 ≤ r'
          · have C2 : decide ((4294967296 : Int) ≤ (r' : Int)) = true := decide_eq_true (by omega)
            have QE : Hid (q' = (u * 4294967296 + d1) / (a * 4294967296 + b)) := by
              have hbd := BD.out
              have hh := HAB.out
              have hu2 := HUY.out
              exact V.digit_eq G2.out (V.wide_rest E2.out (by omega) (by omega) c2).2 (by omega)
            clear hq' hr' c1 c2 hx hz ht hxb hlt hq1
            generalize q' = Q at *
            obtain ⟨u2, hu2⟩ : ∃ u2, u2 = (u * 4294967296 + d1) % Y := ⟨_, rfl⟩
            have hQY : Q = (u * 4294967296 + d1) / Y := by rw [HAB.out]; exact QE.out
            have k1 : u2 < Y := by rw [hu2]; exact Nat.mod_lt _ BD.out.2.2.2.2.2.2.2.2
            have k2 : Y < 18446744073709551616 := BD.out.2.2.2.2.2.2.2.1
            have s1 : IntKind.u64.wrap (IntKind.u64.wrap (IntKind.u64.wrap ((u : Int) * 4294967296) + (d1 : Int)) - IntKind.u64.wrap ((Q : Int) * (Y : Int))) = (u2 : Int) := by
              rw [IntKind.wrap_u64, IntKind.wrap_u64, IntKind.wrap_u64, IntKind.wrap_u64, hu2]
              exact V.rem_wrap hQY (by omega) k2
            obtain ⟨p0, hp0⟩ : ∃ q, q = u2 / a := ⟨_, rfl⟩
            obtain ⟨n0, hn0⟩ : ∃ r, r = u2 % a := ⟨_, rfl⟩
            have e0 : p0 * a + n0 = u2 := by rw [hp0, hn0, Nat.mul_comm]; exact Nat.div_add_mod u2 a
            have em : n0 < a := by rw [hn0]; exact Nat.mod_lt _ (by have := BD.out; omega)
            have kp : p0 < 18446744073709551616 := by rw [hp0]; exact Nat.lt_of_le_of_lt (Nat.div_le_self _ _) (by omega)
            have s2 : IntKind.u64.wrap ((u2 : Int) / (a : Int)) = (p0 : Int) := by
              have : (u2 : Int) / (a : Int) = ((u2 / a : Nat) : Int) := by simp
              rw [this, ← hp0, wrapn kp]
            obtain ⟨K2, hK2⟩ : ∃ k, k = u2 - n0 := ⟨_, rfl⟩
            have s3 : (p0 : Int) * (a : Int) = (K2 : Int) := by
              have : p0 * a = K2 := by omega
              rw [← this]; simp
            have s4 : IntKind.u64.wrap (K2 : Int) = (K2 : Int) := wrapn (by omega)
            have s5 : IntKind.u64.wrap ((u2 : Int) - (K2 : Int)) = (n0 : Int) := by
              have : (u2 : Int) - (K2 : Int) = (n0 : Int) := by omega
              rw [this]; exact wrapn (by omega)
            have G0 := hid (V.guess_ge (a := a) (b := b) (u := u2) (d := d0) (by omega) BD.out.2.2.2.2.1)
            rw [← hp0] at G0
            have E0 := hid e0
            have B0 : Hid (p0 < 18446744073709551616 ∧ n0 < 4294967296) := ⟨kp, by have := BD.out; omega⟩
            have HUY : Hid (u2 < Y) := k1
            have HU3 := hid hu2
            have HQY := hid hQY
            clear hu2 hQY k1 k2 hp0 hn0 e0 em kp hK2
            go_wp2_with fail
            clear s1 s2 s3 s4 s5
            go_loop [18, 16] (fun t1 t2 => ∃ q r : Nat, t1 = .int .u64 q ∧ t2 = .int .u64 r ∧ Hid (q < 18446744073709551616 ∧ r < 4294967296) ∧ Hid (q * a + r = u2) ∧ Hid ((u2 * 4294967296 + d0) / (a * 4294967296 + b) ≤ q)) (fun t1 _ => (intOf t1).toNat)
            case atStart => exact ⟨p0, n0, rfl, rfl, B0, E0, G0⟩
            case round =>
              obtain ⟨q, r, rfl, rfl, B1, E1, G1⟩ := hrel
              clear E0 G0 B0
              by_cases c1 : 4294967296 ≤ q
              · obtain ⟨q', hq'⟩ : ∃ q', q' = q - 1 := ⟨_, rfl⟩
                obtain ⟨r', hr'⟩ : ∃ r', r' = r + a := ⟨_, rfl⟩
                have q1 : IntKind.u64.wrap ((q : Int) - 1) = (q' : Int) := by have := B1.out; rw [IntKind.wrap_u64]; omega
                have q2 : IntKind.u64.wrap ((r : Int) + (a : Int)) = (r' : Int) := by have := B1.out; have := BD.out; rw [IntKind.wrap_u64]; omega
                have C1 : (4294967296 : Int) ≤ (q : Int) := by omega
                have HQ := hid hq'
                have E2 : Hid (q' * a + r' = u2) := V.step_eq E1.out (by omega) hq' hr'
                have G2 : Hid ((u2 * 4294967296 + d0) / (a * 4294967296 + b) ≤ q') := by
                  have hbd := BD.out
                  have hh := HAB.out
                  have hu2 := HUY.out
                  have hlt := V.wide_great (V := a * 4294967296 + b) (u := u2) (d := d0) (q := q) (by omega) (by omega) c1
                  have := V.digit_le hlt
                  rw [hq']; exact this
                by_cases c2 : 4294967296 ≤ r'
                · have C2 : decide ((4294967296 : Int) ≤ (r' : Int)) = true := decide_eq_true (by omega)
                  have QE : Hid (q' = (u2 * 4294967296 + d0) / (a * 4294967296 + b)) := by
                    have hbd := BD.out
                    have hh := HAB.out
                    have hu2 := HUY.out
                    exact V.digit_eq G2.out (V.wide_rest E2.out (by omega) (by omega) c2).2 (by omega)
                  clear hq' hr' c1 c2
                  have FF := V.final HY.out BD.out.2.2.2.2.2.2.2.2 HU2.out HD.out
                  rw [← HQY.out, ← HU3.out] at FF
                  have hq2 : q' = (u2 * 4294967296 + d0) / Y := by rw [HAB.out]; exact QE.out
                  rw [← hq2] at FF
                  have hR1 := HR1.out
                  have hR2 := HR2.out
                  obtain ⟨e2, he2⟩ : ∃ R, R = (u2 * 4294967296 + d0) % Y := ⟨_, rfl⟩
                  rw [← hR1, ← hR2, ← he2] at FF
                  have hR3 : R1 < 18446744073709551616 := by
                    rw [hR1]
                    have := S0.out
                    exact Nat.div_lt_of_lt_mul (V.lt_words this.2.1 this.2.2.1)
                  have f1 : IntKind.u64.wrap (IntKind.u64.wrap ((Q : Int) * 4294967296) + (q' : Int)) = (R1 : Int) := by
                    have := FF.1
                    rw [IntKind.wrap_u64, IntKind.wrap_u64]; omega
                  have f2 : IntKind.u64.wrap (IntKind.u64.wrap (IntKind.u64.wrap ((u2 : Int) * 4294967296) + (d0 : Int)) - IntKind.u64.wrap ((q' : Int) * (Y : Int))) = (e2 : Int) := by
                    rw [IntKind.wrap_u64, IntKind.wrap_u64, IntKind.wrap_u64, IntKind.wrap_u64, he2]
                    exact V.rem_wrap hq2 BD.out.2.2.2.2.2.2.2.2 BD.out.2.2.2.2.2.2.2.1
                  have f3 : (e2 : Int) / 2 ^ s = (R2 : Int) := by rw [castdiv, FF.2]
                  have f4 : min s 64 = s := by have := S0.out; omega
                  clear hR1 hR2 he2 hq2 FF hR3
                  go_wp2_with fail
                  go_ret2
                  exact ⟨rfl, rfl⟩
                · have C2 : decide ((4294967296 : Int) ≤ (r' : Int)) = false := decide_eq_false (by omega)
                  have B2 : Hid (q' < 18446744073709551616 ∧ r' < 4294967296) := by have := B1.out; exact ⟨by omega, by omega⟩
                  clear hq' hr' c1 c2
                  go_wp2_with fail
                  go_round
                  case rel => exact ⟨q', r', rfl, rfl, B2, E2, G2⟩
                  case measure => have := HQ.out; simp [intOf]; omega
              · have D1 : decide ((4294967296 : Int) ≤ (q : Int)) = false := decide_eq_false (by omega)
                obtain ⟨x, hx⟩ : ∃ x, x = q * b := ⟨_, rfl⟩
                obtain ⟨z, hz⟩ : ∃ z, z = 4294967296 * r := ⟨_, rfl⟩
                obtain ⟨t, ht⟩ : ∃ t, t = z + d0 := ⟨_, rfl⟩
                have hxb : x ≤ 4294967295 * 4294967295 := by rw [hx]; have := BD.out; exact Nat.mul_le_mul (by omega) (by omega)
                have p1 : (q : Int) * (b : Int) = (x : Int) := by rw [hx]; simp
                have p1' : IntKind.u64.wrap (x : Int) = (x : Int) := wrapn (by omega)
                have p2 : IntKind.u64.wrap (4294967296 * (r : Int)) = (z : Int) := by have := B1.out; rw [IntKind.wrap_u64]; omega
                have p3 : IntKind.u64.wrap ((z : Int) + (d0 : Int)) = (t : Int) := by have := B1.out; have := BD.out; rw [IntKind.wrap_u64]; omega
                have TG : Hid ((t < x) ↔ (u2 * 4294967296 + d0 < q * (a * 4294967296 + b))) := by
                  have := V.too_great (b := b) (d := d0) E1.out
                  rw [← hx] at this
                  rw [ht, hz, Nat.mul_comm 4294967296 r]; exact this
                by_cases c3 : t < x
                · have hlt := TG.out.1 c3
                  obtain ⟨q', hq'⟩ : ∃ q', q' = q - 1 := ⟨_, rfl⟩
                  obtain ⟨r', hr'⟩ : ∃ r', r' = r + a := ⟨_, rfl⟩
                  have hq1 : 1 ≤ q := by
                    rcases Nat.eq_zero_or_pos q with h | h
                    · rw [h, Nat.zero_mul] at hlt; omega
                    · exact h
                  have q1 : IntKind.u64.wrap ((q : Int) - 1) = (q' : Int) := by have := B1.out; rw [IntKind.wrap_u64]; omega
                  have q2 : IntKind.u64.wrap ((r : Int) + (a : Int)) = (r' : Int) := by have := B1.out; have := BD.out; rw [IntKind.wrap_u64]; omega
                  have HQ : Hid (q' = q - 1 ∧ 1 ≤ q) := ⟨hq', hq1⟩
                  have E2 : Hid (q' * a + r' = u2) := V.step_eq E1.out hq1 hq' hr'
                  have G2 : Hid ((u2 * 4294967296 + d0) / (a * 4294967296 + b) ≤ q') := by
                    have := V.digit_le hlt
                    rw [hq']; exact this
                  by_cases c2 : 4294967296 ≤ r'
                  · have C2 : decide ((4294967296 : Int) ≤ (r' : Int)) = true := decide_eq_true (by omega)
                    have QE : Hid (q' = (u2 * 4294967296 + d0) / (a * 4294967296 + b)) := by
                      have hbd := BD.out
                      have hh := HAB.out
                      have hu2 := HUY.out
                      exact V.digit_eq G2.out (V.wide_rest E2.out (by omega) (by omega) c2).2 (by omega)
                    clear hq' hr' c1 c2 hx hz ht hxb hlt hq1
                    have FF := V.final HY.out BD.out.2.2.2.2.2.2.2.2 HU2.out HD.out
                    rw [← HQY.out, ← HU3.out] at FF
                    have hq2 : q' = (u2 * 4294967296 + d0) / Y := by rw [HAB.out]; exact QE.out
                    rw [← hq2] at FF
                    have hR1 := HR1.out
                    have hR2 := HR2.out
                    obtain ⟨e2, he2⟩ : ∃ R, R = (u2 * 4294967296 + d0) % Y := ⟨_, rfl⟩
                    rw [← hR1, ← hR2, ← he2] at FF
                    have hR3 : R1 < 18446744073709551616 := by
                      rw [hR1]
                      have := S0.out
                      exact Nat.div_lt_of_lt_mul (V.lt_words this.2.1 this.2.2.1)
                    have f1 : IntKind.u64.wrap (IntKind.u64.wrap ((Q : Int) * 4294967296) + (q' : Int)) = (R1 : Int) := by
                      have := FF.1
                      rw [IntKind.wrap_u64, IntKind.wrap_u64]; omega
                    have f2 : IntKind.u64.wrap (IntKind.u64.wrap (IntKind.u64.wrap ((u2 : Int) * 4294967296) + (d0 : Int)) - IntKind.u64.wrap ((q' : Int) * (Y : Int))) = (e2 : Int) := by
                      rw [IntKind.wrap_u64, IntKind.wrap_u64, IntKind.wrap_u64, IntKind.wrap_u64, he2]
                      exact V.rem_wrap hq2 BD.out.2.2.2.2.2.2.2.2 BD.out.2.2.2.2.2.2.2.1
                    have f3 : (e2 : Int) / 2 ^ s = (R2 : Int) := by rw [castdiv, FF.2]
                    have f4 : min s 64 = s := by have := S0.out; omega
                    clear hR1 hR2 he2 hq2 FF hR3
                    go_wp2_with fail
                    go_ret2
                    exact ⟨rfl, rfl⟩
                  · have C2 : decide ((4294967296 : Int) ≤ (r' : Int)) = false := decide_eq_false (by omega)
                    have B2 : Hid (q' < 18446744073709551616 ∧ r' < 4294967296) := by have := B1.out; exact ⟨by omega, by omega⟩
                    clear hq' hr' c1 c2 hx hz ht hxb hlt hq1
                    go_wp2_with fail
                    go_round
                    case rel => exact ⟨q', r', rfl, rfl, B2, E2, G2⟩
                    case measure => have := HQ.out; simp [intOf]; omega
                · have QE : Hid (q = (u2 * 4294967296 + d0) / (a * 4294967296 + b)) := V.digit_eq G1.out (fun h => c3 (TG.out.2 h)) (by have := BD.out; omega)
                  clear c1 hx hz ht hxb
                  have FF := V.final HY.out BD.out.2.2.2.2.2.2.2.2 HU2.out HD.out
                  rw [← HQY.out, ← HU3.out] at FF
                  have hq2 : q = (u2 * 4294967296 + d0) / Y := by rw [HAB.out]; exact QE.out
                  rw [← hq2] at FF
                  have hR1 := HR1.out
                  have hR2 := HR2.out
                  obtain ⟨e2, he2⟩ : ∃ R, R = (u2 * 4294967296 + d0) % Y := ⟨_, rfl⟩
                  rw [← hR1, ← hR2, ← he2] at FF
                  have hR3 : R1 < 18446744073709551616 := by
                    rw [hR1]
                    have := S0.out
                    exact Nat.div_lt_of_lt_mul (V.lt_words this.2.1 this.2.2.1)
                  have f1 : IntKind.u64.wrap (IntKind.u64.wrap ((Q : Int) * 4294967296) + (q : Int)) = (R1 : Int) := by
                    have := FF.1
                    rw [IntKind.wrap_u64, IntKind.wrap_u64]; omega
                  have f2 : IntKind.u64.wrap (IntKind.u64.wrap (IntKind.u64.wrap ((u2 : Int) * 4294967296) + (d0 : Int)) - IntKind.u64.wrap ((q : Int) * (Y : Int))) = (e2 : Int) := by
                    rw [IntKind.wrap_u64, IntKind.wrap_u64, IntKind.wrap_u64, IntKind.wrap_u64, he2]
                    exact V.rem_wrap hq2 BD.out.2.2.2.2.2.2.2.2 BD.out.2.2.2.2.2.2.2.1
                  have f3 : (e2 : Int) / 2 ^ s = (R2 : Int) := by rw [castdiv, FF.2]
                  have f4 : min s 64 = s := by have := S0.out; omega
                  clear hR1 hR2 he2 hq2 FF hR3
                  go_wp2_with fail
                  go_ret2
                  exact ⟨rfl, rfl⟩
          · have C2 : decide ((4294967296 : Int) ≤ (r' : Int)) = false := decide_eq_false (by omega)
            have B2 : Hid (q' < 18446744073709551616 ∧ r' < 4294967296) := by have := B1.out; exact ⟨by omega, by omega⟩
            clear hq' hr' c1 c2 hx hz ht hxb hlt hq1
            go_wp2_with fail
            go_round
            case rel => exact ⟨q', r', rfl, rfl, B2, E2, G2⟩
            case measure => have := HQ.out; simp [intOf]; omega
        · have QE : Hid (q = (u * 4294967296 + d1) / (a * 4294967296 + b)) := V.digit_eq G1.out (fun h => c3 (TG.out.2 h)) (by have := BD.out; omega)
          clear c1 hx hz ht hxb
          generalize q = Q at *
          obtain ⟨u2, hu2⟩ : ∃ u2, u2 = (u * 4294967296 + d1) % Y := ⟨_, rfl⟩
          have hQY : Q = (u * 4294967296 + d1) / Y := by rw [HAB.out]; exact QE.out
          have k1 : u2 < Y := by rw [hu2]; exact Nat.mod_lt _ BD.out.2.2.2.2.2.2.2.2
          have k2 : Y < 18446744073709551616 := BD.out.2.2.2.2.2.2.2.1
          have s1 : IntKind.u64.wrap (IntKind.u64.wrap (IntKind.u64.wrap ((u : Int) * 4294967296) + (d1 : Int)) - IntKind.u64.wrap ((Q : Int) * (Y : Int))) = (u2 : Int) := by
            rw [IntKind.wrap_u64, IntKind.wrap_u64, IntKind.wrap_u64, IntKind.wrap_u64, hu2]
            exact V.rem_wrap hQY (by omega) k2
          obtain ⟨p0, hp0⟩ : ∃ q, q = u2 / a := ⟨_, rfl⟩
          obtain ⟨n0, hn0⟩ : ∃ r, r = u2 % a := ⟨_, rfl⟩
          have e0 : p0 * a + n0 = u2 := by rw [hp0, hn0, Nat.mul_comm]; exact Nat.div_add_mod u2 a
          have em : n0 < a := by rw [hn0]; exact Nat.mod_lt _ (by have := BD.out; omega)
          have kp : p0 < 18446744073709551616 := by rw [hp0]; exact Nat.lt_of_le_of_lt (Nat.div_le_self _ _) (by omega)
          have s2 : IntKind.u64.wrap ((u2 : Int) / (a : Int)) = (p0 : Int) := by
            have : (u2 : Int) / (a : Int) = ((u2 / a : Nat) : Int) := by simp
            rw [this, ← hp0, wrapn kp]
          obtain ⟨K2, hK2⟩ : ∃ k, k = u2 - n0 := ⟨_, rfl⟩
          have s3 : (p0 : Int) * (a : Int) = (K2 : Int) := by
            have : p0 * a = K2 := by omega
            rw [← this]; simp
          have s4 : IntKind.u64.wrap (K2 : Int) = (K2 : Int) := wrapn (by omega)
          have s5 : IntKind.u64.wrap ((u2 : Int) - (K2 : Int)) = (n0 : Int) := by
            have : (u2 : Int) - (K2 : Int) = (n0 : Int) := by omega
            rw [this]; exact wrapn (by omega)
          have G0 := hid (V.guess_ge (a := a) (b := b) (u := u2) (d := d0) (by omega) BD.out.2.2.2.2.1)
          rw [← hp0] at G0
          have E0 := hid e0
          have B0 : Hid (p0 < 18446744073709551616 ∧ n0 < 4294967296) := ⟨kp, by have := BD.out; omega⟩
          have HUY : Hid (u2 < Y) := k1
          have HU3 := hid hu2
          have HQY := hid hQY
          clear hu2 hQY k1 k2 hp0 hn0 e0 em kp hK2
          go_wp2_with fail
          clear s1 s2 s3 s4 s5
          go_loop [18, 16] (fun t1 t2 => ∃ q r : Nat, t1 = .int .u64 q ∧ t2 = .int .u64 r ∧ Hid (q < 18446744073709551616 ∧ r < 4294967296) ∧ Hid (q * a + r = u2) ∧ Hid ((u2 * 4294967296 + d0) / (a * 4294967296 + b) ≤ q)) (fun t1 _ => (intOf t1).toNat)
          case atStart => exact ⟨p0, n0, rfl, rfl, B0, E0, G0⟩
          case round =>
            obtain ⟨q, r, rfl, rfl, B1, E1, G1⟩ := hrel
            clear E0 G0 B0
            by_cases c1 : 4294967296 ≤ q
            · obtain ⟨q', hq'⟩ : ∃ q', q' = q - 1 := ⟨_, rfl⟩
              obtain ⟨r', hr'⟩ : ∃ r', r' = r + a := ⟨_, rfl⟩
              have q1 : IntKind.u64.wrap ((q : Int) - 1) = (q' : Int) := by have := B1.out; rw [IntKind.wrap_u64]; omega
              have q2 : IntKind.u64.wrap ((r : Int) + (a : Int)) = (r' : Int) := by have := B1.out; have := BD.out; rw [IntKind.wrap_u64]; omega
              have C1 : (4294967296 : Int) ≤ (q : Int) := by omega
              have HQ := hid hq'
              have E2 : Hid (q' * a + r' = u2) := V.step_eq E1.out (by omega) hq' hr'
              have G2 : Hid ((u2 * 4294967296 + d0) / (a * 4294967296 + b) ≤ q') := by
                have hbd := BD.out
                have hh := HAB.out
                have hu2 := HUY.out
                have hlt := V.wide_great (V := a * 4294967296 + b) (u := u2) (d := d0) (q := q) (by omega) (by omega) c1
                have := V.digit_le hlt
                rw [hq']; exact this
              by_cases c2 : 4294967296 ≤ r'
              · have C2 : decide ((4294967296 : Int) ≤ (r' : Int)) = true := decide_eq_true (by omega)
                have QE : Hid (q' = (u2 * 4294967296 + d0) / (a * 4294967296 + b)) := by
                  have hbd := BD.out
                  have hh := HAB.out
                  have hu2 := HUY.out
                  exact V.digit_eq G2.out (V.wide_rest E2.out (by omega) (by omega) c2).2 (by omega)
                clear hq' hr' c1 c2
                have FF := V.final HY.out BD.out.2.2.2.2.2.2.2.2 HU2.out HD.out
                rw [← HQY.out, ← HU3.out] at FF
                have hq2 : q' = (u2 * 4294967296 + d0) / Y := by rw [HAB.out]; exact QE.out
                rw [← hq2] at FF
                have hR1 := HR1.out
                have hR2 := HR2.out
                obtain ⟨e2, he2⟩ : ∃ R, R = (u2 * 4294967296 + d0) % Y := ⟨_, rfl⟩
                rw [← hR1, ← hR2, ← he2] at FF
                have hR3 : R1 < 18446744073709551616 := by
                  rw [hR1]
                  have := S0.out
                  exact Nat.div_lt_of_lt_mul (V.lt_words this.2.1 this.2.2.1)
                have f1 : IntKind.u64.wrap (IntKind.u64.wrap ((Q : Int) * 4294967296) + (q' : Int)) = (R1 : Int) := by
                  have := FF.1
                  rw [IntKind.wrap_u64, IntKind.wrap_u64]; omega
                have f2 : IntKind.u64.wrap (IntKind.u64.wrap (IntKind.u64.wrap ((u2 : Int) * 4294967296) + (d0 : Int)) - IntKind.u64.wrap ((q' : Int) * (Y : Int))) = (e2 : Int) := by
                  rw [IntKind.wrap_u64, IntKind.wrap_u64, IntKind.wrap_u64, IntKind.wrap_u64, he2]
                  exact V.rem_wrap hq2 BD.out.2.2.2.2.2.2.2.2 BD.out.2.2.2.2.2.2.2.1
                have f3 : (e2 : Int) / 2 ^ s = (R2 : Int) := by rw [castdiv, FF.2]
                have f4 : min s 64 = s := by have := S0.out; omega
                clear hR1 hR2 he2 hq2 FF hR3
                go_wp2_with fail
                go_ret2
                exact ⟨rfl, rfl⟩
              · have C2 : decide ((4294967296 : Int) ≤ (r' : Int)) = false := decide_eq_false (by omega)
                have B2 : Hid (q' < 18446744073709551616 ∧ r' < 4294967296) := by have := B1.out; exact ⟨by omega, by omega⟩
                clear hq' hr' c1 c2
                go_wp2_with fail
                go_round
                case rel => exact ⟨q', r', rfl, rfl, B2, E2, G2⟩
                case measure => have := HQ.out; simp [intOf]; omega
            · have D1 : decide ((4294967296 : Int) ≤ (q : Int)) = false := decide_eq_false (by omega)
              obtain ⟨x, hx⟩ : ∃ x, x = q * b := ⟨_, rfl⟩
              obtain ⟨z, hz⟩ : ∃ z, z = 4294967296 * r := ⟨_, rfl⟩
              obtain ⟨t, ht⟩ : ∃ t, t = z + d0 := ⟨_, rfl⟩
              have hxb : x ≤ 4294967295 * 4294967295 := by rw [hx]; have := BD.out; exact Nat.mul_le_mul (by omega) (by omega)
              have p1 : (q : Int) * (b : Int) = (x : Int) := by rw [hx]; simp
              have p1' : IntKind.u64.wrap (x : Int) = (x : Int) := wrapn (by omega)
              have p2 : IntKind.u64.wrap (4294967296 * (r : Int)) = (z : Int) := by have := B1.out; rw [IntKind.wrap_u64]; omega
              have p3 : IntKind.u64.wrap ((z : Int) + (d0 : Int)) = (t : Int) := by have := B1.out; have := BD.out; rw [IntKind.wrap_u64]; omega
              have TG : Hid ((t < x) ↔ (u2 * 4294967296 + d0 < q * (a * 4294967296 + b))) := by
                have := V.too_great (b := b) (d := d0) E1.out
                rw [← hx] at this
                rw [ht, hz, Nat.mul_comm 4294967296 r]; exact this
              by_cases c3 : t < x
              · have hlt := TG.out.1 c3
                obtain ⟨q', hq'⟩ : ∃ q', q' = q - 1 := ⟨_, rfl⟩
                obtain ⟨r', hr'⟩ : ∃ r', r' = r + a := ⟨_, rfl⟩
                have hq1 : 1 ≤ q := by
                  rcases Nat.eq_zero_or_pos q with h | h
                  · rw [h, Nat.zero_mul] at hlt; omega
                  · exact h
                have q1 : IntKind.u64.wrap ((q : Int) - 1) = (q' : Int) := by have := B1.out; rw [IntKind.wrap_u64]; omega
                have q2 : IntKind.u64.wrap ((r : Int) + (a : Int)) = (r' : Int) := by have := B1.out; have := BD.out; rw [IntKind.wrap_u64]; omega
                have HQ : Hid (q' = q - 1 ∧ 1 ≤ q) := ⟨hq', hq1⟩
                have E2 : Hid (q' * a + r' = u2) := V.step_eq E1.out hq1 hq' hr'
                have G2 : Hid ((u2 * 4294967296 + d0) / (a * 4294967296 + b) ≤ q') := by
                  have := V.digit_le hlt
                  rw [hq']; exact this
                by_cases c2 : 4294967296 ≤ r'
                · have C2 : decide ((4294967296 : Int) ≤ (r' : Int)) = true := decide_eq_true (by omega)
                  have QE : Hid (q' = (u2 * 4294967296 + d0) / (a * 4294967296 + b)) := by
                    have hbd := BD.out
                    have hh := HAB.out
                    have hu2 := HUY.out
                    exact V.digit_eq G2.out (V.wide_rest E2.out (by omega) (by omega) c2).2 (by omega)
                  clear hq' hr' c1 c2 hx hz ht hxb hlt hq1
                  have FF := V.final HY.out BD.out.2.2.2.2.2.2.2.2 HU2.out HD.out
                  rw [← HQY.out, ← HU3.out] at FF
                  have hq2 : q' = (u2 * 4294967296 + d0) / Y := by rw [HAB.out]; exact QE.out
                  rw [← hq2] at FF
                  have hR1 := HR1.out
                  have hR2 := HR2.out
                  obtain ⟨e2, he2⟩ : ∃ R, R = (u2 * 4294967296 + d0) % Y := ⟨_, rfl⟩
                  rw [← hR1, ← hR2, ← he2] at FF
                  have hR3 : R1 < 18446744073709551616 := by
                    rw [hR1]
                    have := S0.out
                    exact Nat.div_lt_of_lt_mul (V.lt_words this.2.1 this.2.2.1)
                  have f1 : IntKind.u64.wrap (IntKind.u64.wrap ((Q : Int) * 4294967296) + (q' : Int)) = (R1 : Int) := by
                    have := FF.1
                    rw [IntKind.wrap_u64, IntKind.wrap_u64]; omega
                  have f2 : IntKind.u64.wrap (IntKind.u64.wrap (IntKind.u64.wrap ((u2 : Int) * 4294967296) + (d0 : Int)) - IntKind.u64.wrap ((q' : Int) * (Y : Int))) = (e2 : Int) := by
                    rw [IntKind.wrap_u64, IntKind.wrap_u64, IntKind.wrap_u64, IntKind.wrap_u64, he2]
                    exact V.rem_wrap hq2 BD.out.2.2.2.2.2.2.2.2 BD.out.2.2.2.2.2.2.2.1
                  have f3 : (e2 : Int) / 2 ^ s = (R2 : Int) := by rw [castdiv, FF.2]
                  have f4 : min s 64 = s := by have := S0.out; omega
                  clear hR1 hR2 he2 hq2 FF hR3
                  go_wp2_with fail
                  go_ret2
                  exact ⟨rfl, rfl⟩
                · have C2 : decide ((4294967296 : Int) ≤ (r' : Int)) = false := decide_eq_false (by omega)
                  have B2 : Hid (q' < 18446744073709551616 ∧ r' < 4294967296) := by have := B1.out; exact ⟨by omega, by omega⟩
                  clear hq' hr' c1 c2 hx hz ht hxb hlt hq1
                  go_wp2_with fail
                  go_round
                  case rel => exact ⟨q', r', rfl, rfl, B2, E2, G2⟩
                  case measure => have := HQ.out; simp [intOf]; omega
              · have QE : Hid (q = (u2 * 4294967296 + d0) / (a * 4294967296 + b)) := V.digit_eq G1.out (fun h => c3 (TG.out.2 h)) (by have := BD.out; omega)
                clear c1 hx hz ht hxb
                have FF := V.final HY.out BD.out.2.2.2.2.2.2.2.2 HU2.out HD.out
                rw [← HQY.out, ← HU3.out] at FF
                have hq2 : q = (u2 * 4294967296 + d0) / Y := by rw [HAB.out]; exact QE.out
                rw [← hq2] at FF
                have hR1 := HR1.out
                have hR2 := HR2.out
                obtain ⟨e2, he2⟩ : ∃ R, R = (u2 * 4294967296 + d0) % Y := ⟨_, rfl⟩
                rw [← hR1, ← hR2, ← he2] at FF
                have hR3 : R1 < 18446744073709551616 := by
                  rw [hR1]
                  have := S0.out
                  exact Nat.div_lt_of_lt_mul (V.lt_words this.2.1 this.2.2.1)
                have f1 : IntKind.u64.wrap (IntKind.u64.wrap ((Q : Int) * 4294967296) + (q : Int)) = (R1 : Int) := by
                  have := FF.1
                  rw [IntKind.wrap_u64, IntKind.wrap_u64]; omega
                have f2 : IntKind.u64.wrap (IntKind.u64.wrap (IntKind.u64.wrap ((u2 : Int) * 4294967296) + (d0 : Int)) - IntKind.u64.wrap ((q : Int) * (Y : Int))) = (e2 : Int) := by
                  rw [IntKind.wrap_u64, IntKind.wrap_u64, IntKind.wrap_u64, IntKind.wrap_u64, he2]
                  exact V.rem_wrap hq2 BD.out.2.2.2.2.2.2.2.2 BD.out.2.2.2.2.2.2.2.1
                have f3 : (e2 : Int) / 2 ^ s = (R2 : Int) := by rw [castdiv, FF.2]
                have f4 : min s 64 = s := by have := S0.out; omega
                clear hR1 hR2 he2 hq2 FF hR3
                go_wp2_with fail
                go_ret2
                exact ⟨rfl, rfl⟩
end Go.Proofs.YthmmjoemapoafaaDoor

/- math/bits.Div64, whole. -/
namespace Go.Proofs.YthmmjoemapoafaaDoor
open Go.RowKit
set_option maxRecDepth 100000
set_option maxHeartbeats 2000000
theorem div64_any (hi lo y R1 R2 : Nat) (g1 : R1 = (hi * 18446744073709551616 + lo) / y) (g2 : R2 = (hi * 18446744073709551616 + lo) % y) (h1 : hi < y) (h2 : lo < 18446744073709551616) (h3 : y < 18446744073709551616) (w : World) : Calls Tryd.prog 40 #[.int .u64 hi, .int .u64 lo, .int .u64 y] w fun e w' => e = .returned (.tuple #[.int .u64 R1, .int .u64 R2]) ∧ Below w.heap.size w w' := by
  by_cases h0 : hi = 0
  · subst h0
    rw [Nat.zero_mul, Nat.zero_add] at g1 g2
    have r1 : IntKind.u64.wrap ((lo : Int) / (y : Int)) = (R1 : Int) := by
      have : (lo : Int) / (y : Int) = ((lo / y : Nat) : Int) := by simp
      rw [this, ← g1, wrapn (by rw [g1]; exact Nat.lt_of_le_of_lt (Nat.div_le_self _ _) h2)]
    have r2 : (lo : Int) % (y : Int) = (R2 : Int) := by rw [g2]; simp
    have r3 : IntKind.u64.wrap ((lo : Int).tdiv (y : Int)) = (R1 : Int) := by rw [Int.tdiv_eq_ediv_of_nonneg (by omega)]; exact r1
    have r4 : (lo : Int).tmod (y : Int) = (R2 : Int) := by rw [Int.tmod_eq_emod_of_nonneg (by omega)]; exact r2
    have hby : ((y : Int) == 0) = false := beq_eq_false_iff_ne.2 (by omega)
    have hle : ¬ ((y : Int) ≤ 0) := by omega
    clear g1 g2 h3
    go_enter Tryd.func40, Tryd.ntmps40
    go_wp2_with fail
    go_quiet (fail)
    go_wp2_with fail
    go_ret2
    exact ⟨rfl, below_drewN (Below.refl _ _) _⟩
  · refine (div64_yes hi lo y R1 R2 g1 g2 h0 h1 h2 h3 w).mono ?_
    rintro e w' ⟨rfl, rfl⟩
    exact ⟨rfl, Below.refl _ _⟩
end Go.Proofs.YthmmjoemapoafaaDoor

/- The walks of the package 'money': amounts and parts. -/
namespace Go.Proofs.YthmmjoemapoafaaDoor
open Go.RowKit
set_option maxRecDepth 100000

theorem mwithin_any (n a b : Int) (w : World) : Calls Tryd.prog 37 #[.int .i64 n, .int .i64 a, .int .i64 b] w fun e w' => e = .returned (.bool (decide (a ≤ n ∧ n ≤ b))) ∧ w = w' := by
  go_enter Tryd.func37, Tryd.ntmps37
  go_wp2
  all_goals (go_ret; exact ⟨by simp [*] <;> omega, rfl⟩)
theorem mcheck_any (a : Int) (w : World) : Calls Tryd.prog 28 #[.int .i64 a] w fun e w' => e = .returned (.int .i64 (M.chk a)) ∧ w = w' := by
  by_cases h : -1152921504606846976 ≤ a ∧ a ≤ 1152921504606846976
  · have E := hid (M.chk_yes h)
    have d : decide (-1152921504606846976 ≤ a ∧ a ≤ 1152921504606846976) = true := decide_eq_true h
    clear h
    go_enter Tryd.func28, Tryd.ntmps28
    go_wp2_with (go_at_call 37; refine (mwithin_any _ _ _ _).mono ?_; rintro e w' ⟨rfl, rfl⟩)
    go_ret
    exact ⟨ret_int (by rw [E.out]), rfl⟩
  · have E := hid (M.chk_no h)
    have d : decide (-1152921504606846976 ≤ a ∧ a ≤ 1152921504606846976) = false := decide_eq_false h
    clear h
    go_enter Tryd.func28, Tryd.ntmps28
    go_wp2_with (go_at_call 37; refine (mwithin_any _ _ _ _).mono ?_; rintro e w' ⟨rfl, rfl⟩)
    go_ret
    exact ⟨ret_int (by rw [E.out]), rfl⟩
end Go.Proofs.YthmmjoemapoafaaDoor

/- The walk of split: a product is divided. -/
namespace Go.Proofs.YthmmjoemapoafaaDoor
open Go.RowKit
set_option maxRecDepth 100000
theorem msplit_no (a b c : Nat) (ha : a < 18446744073709551616) (hb : b < 18446744073709551616) (h : c ≤ a * b / 18446744073709551616) (w : World) :
    Calls Tryd.prog 38 #[.int .u64 a, .int .u64 b, .int .u64 c] w fun e w' => e = .returned (.tuple #[.int .u64 0, .int .u64 0, .bool false]) ∧ w = w' := by
  have m := Tryd.bits_Mul64 a b ha hb
  obtain ⟨hi, hh⟩ : ∃ x, x = a * b / 18446744073709551616 := ⟨_, rfl⟩
  obtain ⟨lo, hl⟩ : ∃ x, x = a * b % 18446744073709551616 := ⟨_, rfl⟩
  rw [← hh, ← hl] at m
  rw [← hh] at h
  have M0 := hid m
  clear m hh hl ha hb
  go_enter Tryd.func38, Tryd.ntmps38
  go_wp2_with fail
  refine (M0.out _).mono ?_
  rintro e w' ⟨rfl, rfl⟩
  go_wp2_with fail
  go_ret3
  exact ⟨rfl, rfl⟩
theorem msplit_yes (a b c R1 R2 : Nat) (ha : a < 18446744073709551616) (hb : b < 18446744073709551616) (hc : c < 18446744073709551616) (h : a * b / 18446744073709551616 < c) (g1 : R1 = a * b / c) (g2 : R2 = a * b % c) (w : World) :
    Calls Tryd.prog 38 #[.int .u64 a, .int .u64 b, .int .u64 c] w fun e w' => e = .returned (.tuple #[.int .u64 R1, .int .u64 R2, .bool (decide ((R1 : Int) ≤ 1152921504606846976))]) ∧ Below w.heap.size w w' := by
  have m := Tryd.bits_Mul64 a b ha hb
  have e := Nat.div_add_mod (a * b) 18446744073709551616
  have hl2 : a * b % 18446744073709551616 < 18446744073709551616 := Nat.mod_lt _ (by omega)
  obtain ⟨hi, hh⟩ : ∃ x, x = a * b / 18446744073709551616 := ⟨_, rfl⟩
  obtain ⟨lo, hl⟩ : ∃ x, x = a * b % 18446744073709551616 := ⟨_, rfl⟩
  rw [← hh, ← hl] at m e
  rw [← hh] at h
  rw [← hl] at hl2
  rw [Nat.mul_comm] at e
  rw [← e] at g1 g2
  have D0 := hid (div64_any hi lo c R1 R2 g1 g2 h hl2 hc)
  have M0 := hid m
  clear m hh hl ha hb g1 g2 e hl2 hc
  go_enter Tryd.func38, Tryd.ntmps38
  go_wp2_with fail
  refine (M0.out _).mono ?_
  rintro e w' ⟨rfl, rfl⟩
  go_wp2_with fail
  refine (D0.out _).mono ?_
  rintro e w2 ⟨rfl, hb2⟩
  go_wp2_with fail
  go_ret3
  exact ⟨rfl, hb2⟩
end Go.Proofs.YthmmjoemapoafaaDoor

/- What the functions of the package 'money' answer. -/
namespace Go.Proofs.YthmmjoemapoafaaDoor
open Go Go.RowKit V
set_option maxRecDepth 100000
set_option linter.unusedVariables false
namespace M
theorem chk_ok {a : Int} (h : chk a = 0) : Amt a := by
  by_cases q : Amt a
  · exact q
  · rw [chk_no q] at h; omega
theorem chks_ok {l : List Int} (h : chks l = 0) : ∀ a ∈ l, Amt a := by
  by_cases q : ∀ a ∈ l, Amt a
  · exact q
  · rw [chks_no q] at h; omega
theorem chks_two {a b : Int} (h : chks [a, b] = 0) : Amt a ∧ Amt b := ⟨chks_ok h a (by simp), chks_ok h b (by simp)⟩
theorem chks_bad {l : List Int} (h : ¬ chks l = 0) : chks l = 3 := by unfold chks at h ⊢; split <;> simp_all
theorem chks_ntwo {a b : Int} (h : ¬ chks [a, b] = 0) : ¬ (Amt a ∧ Amt b) := fun q => h (chks_yes (by simp [q.1, q.2]))
theorem chk_nok {a : Int} (h : ¬ chk a = 0) : ¬ Amt a := fun q => h (chk_yes q)
theorem ck_ok {a b c : Int} (h : ckE a b c = 0) : POk a b c := by
  by_cases q : POk a b c
  · exact q
  · rw [ck_no q] at h; omega
theorem ck_nok {a b c : Int} (h : ¬ ckE a b c = 0) : ¬ POk a b c := fun q => h (ck_yes q)
def spQ (a b c : Int) : Int := if c ≤ a * b / 18446744073709551616 then 0 else a * b / c
def spR (a b c : Int) : Int := if c ≤ a * b / 18446744073709551616 then 0 else a * b % c
def spB (a b c : Int) : Bool := if c ≤ a * b / 18446744073709551616 then false else decide (a * b / c ≤ 1152921504606846976)
end M
theorem v_mwithin (n a b : Int) : V.Fn Tryd.prog 37 [] [.one (.val (.int .i64 n)), .one (.val (.int .i64 a)), .one (.val (.int .i64 b))] (.bool (decide (a ≤ n ∧ n ≤ b))) := by
  refine V.Fn.mk_ V.Tok V.mixed Tryd.func37 rfl Tryd.ntmps37 (by kernel_rfl) rfl rfl ?_
  repeat' ((conv => whnf); first | refine V.NCond.mk ?_ | refine V.NIf.not_ ?_ | refine V.NIf.dec_ ?_ | refine V.NIf.no (by omega) ?_ | refine V.NIf.yes (by omega) ?_ | refine V.NIf.mk (fun _ => ?_) (fun _ => ?_) | refine V.NWrap.ok (by omega) (by omega) ?_ | refine V.NWrap.u64 (by omega) (by omega) ?_ | refine V.NLt.mk (by omega) ?_ | refine V.NBoth.mk ?_ ?_ | refine V.NTF.yes (by omega) ?_ | refine V.NTF.no (by omega) ?_ | refine V.NTF.dec ?_ | refine V.NDraw.q (by exact rfl) (by kernel_rfl) ?_ | refine V.NApp.one (by first | omega | (simp; omega)) (by first | omega | (simp; omega)) ?_ | (refine V.NDraw.any (by kernel_rfl) ?_) | fail)
  · exact ⟨_, rfl, by simp_all⟩
  · exact congrArg Value.bool (by simp_all; omega)
theorem v_check (a : Int) : V.Fn Tryd.prog 28 [] [.one (.val (.int .i64 a))] (.int .i64 (M.chk a)) := by
  refine V.Fn.mk_ V.Tok V.mixed Tryd.func28 rfl Tryd.ntmps28 (by kernel_rfl) rfl rfl ?_
  repeat' ((conv => whnf); first | refine V.NCond.mk ?_ | refine V.NIf.not_ ?_ | refine V.NIf.dec_ ?_ | refine V.NIf.no (by omega) ?_ | refine V.NIf.yes (by omega) ?_ | refine V.NIf.mk (fun _ => ?_) (fun _ => ?_) | refine V.NWrap.ok (by omega) (by omega) ?_ | refine V.NWrap.u64 (by omega) (by omega) ?_ | refine V.NLt.mk (by omega) ?_ | refine V.NBoth.mk ?_ ?_ | refine V.NTF.yes (by omega) ?_ | refine V.NTF.no (by omega) ?_ | refine V.NTF.dec ?_ | refine V.NDraw.q (by exact rfl) (by kernel_rfl) ?_ | refine V.NApp.one (by first | omega | (simp; omega)) (by first | omega | (simp; omega)) ?_ | (first | refine V.Fn.k0 (v_mwithin _ _ _) rfl ?_ | refine V.Fn.q0 (v_mwithin _ _ _) rfl ?_ | refine V.Fn.a0 (v_mwithin _ _ _) rfl ?_) | (refine V.NDraw.any (by kernel_rfl) ?_) | fail)
  all_goals ((conv => whnf); refine congrArg _ ?_; unfold M.chk M.Amt; (repeat' split) <;> first | rfl | omega | (exfalso; omega) | (simp_all; done) | (simp_all; omega))
theorem v_split (a b c : Int) (ha : 0 ≤ a ∧ a < 18446744073709551616) (hb : 0 ≤ b ∧ b < 18446744073709551616) (hc : 0 ≤ c ∧ c < 18446744073709551616) :
    V.Fn Tryd.prog 38 [] [.one (.val (.int .u64 a)), .one (.val (.int .u64 b)), .one (.val (.int .u64 c))] (.tuple #[.int .u64 (M.spQ a b c), .int .u64 (M.spR a b c), .bool (M.spB a b c)]) := by
  obtain ⟨x, rfl⟩ := Int.eq_ofNat_of_zero_le ha.1
  obtain ⟨y, rfl⟩ := Int.eq_ofNat_of_zero_le hb.1
  obtain ⟨z, rfl⟩ := Int.eq_ofNat_of_zero_le hc.1
  have e : (x : Int) * y / 18446744073709551616 = ((x * y / 18446744073709551616 : Nat) : Int) := by simp
  by_cases h : z ≤ x * y / 18446744073709551616
  · have h' : (z : Int) ≤ (x : Int) * y / 18446744073709551616 := by rw [e]; exact Int.ofNat_le.2 h
    rw [show M.spQ x y z = 0 from if_pos h', show M.spR x y z = 0 from if_pos h', show M.spB x y z = false from if_pos h']
    refine Fn.of_calls (xs := [.int .u64 x, .int .u64 y, .int .u64 z]) (by kernel_rfl) (by repeat' (first | exact rfl | exact Iff.rfl | exact trivial | exact (fun _ _ => rfl) | exact (fun _ h => absurd h (Nat.not_lt_zero _)) | refine ⟨?_, ?_⟩ | exact Iff.rfl | exact congrArg (fun z => V.SV.one (V.At.val (Value.int .i64 z))) (by omega))) fun w => ?_
    refine (msplit_no x y z (by omega) (by omega) h w).mono ?_
    rintro e w' ⟨rfl, rfl⟩
    exact ⟨rfl, Below.refl _ _⟩
  · have h' : ¬ (z : Int) ≤ (x : Int) * y / 18446744073709551616 := by rw [e]; exact fun q => h (Int.ofNat_le.1 q)
    rw [show M.spQ x y z = _ from if_neg h', show M.spR x y z = _ from if_neg h', show M.spB x y z = _ from if_neg h']
    refine Fn.of_calls (xs := [.int .u64 x, .int .u64 y, .int .u64 z]) (by kernel_rfl) (by repeat' (first | exact rfl | exact Iff.rfl | exact trivial | exact (fun _ _ => rfl) | exact (fun _ h => absurd h (Nat.not_lt_zero _)) | refine ⟨?_, ?_⟩ | exact Iff.rfl | exact congrArg (fun z => V.SV.one (V.At.val (Value.int .i64 z))) (by omega))) fun w => ?_
    refine (msplit_yes x y z (x * y / z) (x * y % z) (by omega) (by omega) (by omega) (by omega) rfl rfl w).mono ?_
    rintro e w' ⟨rfl, hb⟩
    exact ⟨by simp, hb⟩
namespace M
def rawQ (a b c : Int) : Int := if 0 ≤ a then IntKind.i64.wrap (spQ a b c) else if spR (0 - a) b c = 0 then IntKind.i64.wrap (0 - IntKind.i64.wrap (spQ (0 - a) b c)) else IntKind.i64.wrap (IntKind.i64.wrap (0 - IntKind.i64.wrap (spQ (0 - a) b c)) - 1)
def rawR (a b c : Int) : Int := if 0 ≤ a then spR a b c else if spR (0 - a) b c = 0 then 0 else c - spR (0 - a) b c
def rawB (a b c : Int) : Bool := if 0 ≤ a then spB a b c else if spR (0 - a) b c = 0 then spB (0 - a) b c else (spB (0 - a) b c && decide (spQ (0 - a) b c < 1152921504606846976))
theorem raw_1 {a b c : Int} (h : 0 ≤ a) : rawQ a b c = IntKind.i64.wrap (spQ a b c) ∧ rawR a b c = spR a b c ∧ rawB a b c = spB a b c := ⟨if_pos h, if_pos h, if_pos h⟩
theorem raw_2 {a b c : Int} (h : ¬ 0 ≤ a) (k : spR (0 - a) b c = 0) : rawQ a b c = IntKind.i64.wrap (0 - IntKind.i64.wrap (spQ (0 - a) b c)) ∧ rawR a b c = 0 ∧ rawB a b c = spB (0 - a) b c := by
  unfold rawQ rawR rawB; rw [if_neg h, if_pos k, if_neg h, if_pos k, if_neg h, if_pos k]; exact ⟨rfl, rfl, rfl⟩
theorem raw_3 {a b c : Int} (h : ¬ 0 ≤ a) (k : ¬ spR (0 - a) b c = 0) : rawQ a b c = IntKind.i64.wrap (IntKind.i64.wrap (0 - IntKind.i64.wrap (spQ (0 - a) b c)) - 1) ∧ rawR a b c = c - spR (0 - a) b c ∧ rawB a b c = (spB (0 - a) b c && decide (spQ (0 - a) b c < 1152921504606846976)) := by
  unfold rawQ rawR rawB; rw [if_neg h, if_neg k, if_neg h, if_neg k, if_neg h, if_neg k]; exact ⟨rfl, rfl, rfl⟩
theorem spR_bd {a b c : Int} (hc : 1 ≤ c) : 0 ≤ spR a b c ∧ spR a b c < c := by
  unfold spR; split
  · omega
  · exact r_bd hc
theorem tmod2 (x : Int) : x.tmod 2 = 0 ↔ x % 2 = 0 := by rw [← Int.dvd_iff_tmod_eq_zero, ← Int.dvd_iff_emod_eq_zero]
theorem ne_yes {a b c v : Int} (h : prE a b c = 0) (hv : v = up (prQ a b c) (prR a b c) c) (k : chk v = 0) : neV a b c = v ∧ neE a b c = 0 := by
  obtain ⟨p, q⟩ := pr_ok h
  rw [(pr_3 p q).2.1, (pr_3 p q).2.2] at hv
  have k2 := chk_ok k
  rw [hv] at k2
  rw [(ne_3 h k2).1, (ne_3 h k2).2, hv]; exact ⟨rfl, rfl⟩
theorem ne_no {a b c v : Int} (h : prE a b c = 0) (hv : v = up (prQ a b c) (prR a b c) c) (k : ¬ chk v = 0) : neV a b c = 0 ∧ neE a b c = 8 := by
  obtain ⟨p, q⟩ := pr_ok h
  rw [(pr_3 p q).2.1, (pr_3 p q).2.2] at hv
  have k2 := chk_nok k
  rw [hv] at k2
  rw [(ne_2 h k2).1, (ne_2 h k2).2]; exact ⟨rfl, rfl⟩
theorem to_1 {l : List Int} (h : 40 < l.length) : toV l = 0 ∧ toE l = 2 := by
  have e : toE l = 2 := if_pos h
  exact ⟨by unfold toV; rw [if_neg (by omega)], e⟩
theorem to_2 {l : List Int} (h : ¬ 40 < l.length) (k : ¬ chks l = 0) : toV l = 0 ∧ toE l = chks l := by
  have e : toE l = chks l := by unfold toE; rw [if_neg h, if_pos k]
  exact ⟨by unfold toV; rw [if_neg (by omega)], e⟩
theorem to_3 {l : List Int} (h : ¬ 40 < l.length) (k : chks l = 0) (q : ¬ Amt (sum l)) : toV l = 0 ∧ toE l = 8 := by
  have e : toE l = 8 := by unfold toE; rw [if_neg h, if_neg (by omega), if_pos q]
  exact ⟨by unfold toV; rw [if_neg (by omega)], e⟩
theorem i64w {e : Int} (h : -9223372036854775808 ≤ e ∧ e ≤ 9223372036854775807) : IntKind.i64.wrap e = e := IntWalk.i64_in e h
theorem sp_in {a b c : Int} (hc : 1 ≤ c ∧ c ≤ 1099511627776) (ha : 0 ≤ a) (hb : 0 ≤ b) (k : a * b / c ≤ 1152921504606846976) : spQ a b c = a * b / c ∧ spR a b c = a * b % c ∧ spB a b c = true := by
  have hab : 0 ≤ a * b := Int.mul_nonneg ha hb
  have e := qr (a * b) c
  have r := r_bd (x := a * b) hc.1
  have lt : ¬ c ≤ a * b / 18446744073709551616 := by
    intro q
    have h1 : c * 18446744073709551616 ≤ a * b := (Int.le_ediv_iff_mul_le (by omega)).1 q
    have h2 : c * (a * b / c) ≤ c * 1152921504606846976 := Int.mul_le_mul_of_nonneg_left k (by omega)
    omega
  exact ⟨if_neg lt, if_neg lt, (if_neg lt).trans (decide_eq_true k)⟩
theorem sp_out {a b c : Int} (hc : 1 ≤ c ∧ c ≤ 1099511627776) (ha : 0 ≤ a) (hb : 0 ≤ b) (k : spB a b c = true) : a * b / c ≤ 1152921504606846976 := by
  unfold spB at k
  split at k
  · cases k
  · exact of_decide_eq_true k
theorem raw_at {a b c : Int} (h : POk a b c) : (rawB a b c = true ↔ Amt (a * b / c)) ∧ (Amt (a * b / c) → rawQ a b c = a * b / c ∧ rawR a b c = a * b % c) := by
  obtain ⟨⟨a0, a1⟩, ⟨b0, b1⟩, hc⟩ := h
  by_cases ha : 0 ≤ a
  · obtain ⟨e1, e2, e3⟩ := raw_1 (b := b) (c := c) ha
    have q0 : 0 ≤ a * b / c := Int.ediv_nonneg (Int.mul_nonneg ha b0) (by omega)
    rw [e1, e2, e3]
    refine ⟨⟨fun k => ⟨by omega, sp_out hc ha b0 k⟩, fun k => (sp_in hc ha b0 k.2).2.2⟩, fun k => ?_⟩
    obtain ⟨s1, s2, _⟩ := sp_in hc ha b0 k.2
    have k2 := k.2
    rw [s1, s2, i64w (by omega)]; exact ⟨rfl, rfl⟩
  · have hn : 0 ≤ 0 - a := by omega
    have em : a * b = -((0 - a) * b) := by rw [Int.zero_sub, Int.neg_mul, Int.neg_neg]
    have q0 : 0 ≤ (0 - a) * b / c := Int.ediv_nonneg (Int.mul_nonneg hn b0) (by omega)
    rw [em]
    by_cases k : (0 - a) * b / c ≤ 1152921504606846976
    · obtain ⟨s1, s2, s3⟩ := sp_in hc hn b0 k
      rcases neg_part (x := (0 - a) * b) hc.1 with ⟨z, n1, n2⟩ | ⟨z, n1, n2⟩
      · obtain ⟨e1, e2, e3⟩ := raw_2 (b := b) (c := c) ha (by rw [s2]; exact z)
        rw [e1, e2, e3, n1, n2, s1, s3, i64w (e := (0 - a) * b / c) (by omega), i64w (by omega)]
        refine ⟨⟨fun _ => ⟨by omega, by omega⟩, fun _ => rfl⟩, fun _ => ⟨by omega, rfl⟩⟩
      · obtain ⟨e1, e2, e3⟩ := raw_3 (b := b) (c := c) ha (by rw [s2]; omega)
        rw [e1, e2, e3, n1, n2, s1, s2, s3, i64w (e := (0 - a) * b / c) (by omega), i64w (e := 0 - _) (by omega), i64w (by omega)]
        refine ⟨?_, fun _ => ⟨by omega, rfl⟩⟩
        unfold Amt
        simp only [Bool.true_and, decide_eq_true_eq]
        omega
    · have sb : spB (0 - a) b c = false := by
        rw [Bool.eq_false_iff]; exact fun q => k (sp_out hc hn b0 q)
      have na : ¬ Amt (-((0 - a) * b) / c) := by
        unfold Amt
        rcases neg_part (x := (0 - a) * b) hc.1 with ⟨z, n1, n2⟩ | ⟨z, n1, n2⟩ <;> omega
      have rb : rawB a b c = false := by
        by_cases z : spR (0 - a) b c = 0
        · rw [(raw_2 (b := b) (c := c) ha z).2.2]; exact sb
        · rw [(raw_3 (b := b) (c := c) ha z).2.2, sb]; rfl
      rw [rb]
      exact ⟨⟨fun q => (nomatch q), fun q => absurd q na⟩, fun q => absurd q na⟩
theorem raw_ok {a b c : Int} (h : POk a b c) (k : rawB a b c = true) : Amt (a * b / c) ∧ rawQ a b c = a * b / c ∧ rawR a b c = a * b % c := ⟨(raw_at h).1.1 k, (raw_at h).2 ((raw_at h).1.1 k)⟩
theorem raw_nok {a b c : Int} (h : POk a b c) (k : ¬ rawB a b c = true) : ¬ Amt (a * b / c) := fun q => k ((raw_at h).1.2 q)
end M
set_option maxHeartbeats 1000000 in
theorem v_raw (a b c : Int) (h : M.POk a b c) : V.Fn Tryd.prog 30 [] [.one (.val (.int .i64 a)), .one (.val (.int .i64 b)), .one (.val (.int .i64 c))] (.tuple #[.int .i64 (M.rawQ a b c), .int .i64 (M.rawR a b c), .bool (M.rawB a b c)]) := by
  obtain ⟨⟨a0, a1⟩, ⟨b0, b1⟩, c0, c1⟩ := h
  have r1 := M.spR_bd (a := a) (b := b) c0
  have r2 := M.spR_bd (a := 0 - a) (b := b) c0
  refine V.Fn.mk_ V.Tok V.mixed Tryd.func30 rfl Tryd.ntmps30 (by kernel_rfl) rfl rfl ?_
  repeat' ((conv => whnf); first | refine V.NCond.mk ?_ | refine V.NIf.not_ ?_ | refine V.NIf.dec_ ?_ | refine V.NIf.no (by omega) ?_ | refine V.NIf.yes (by omega) ?_ | refine V.NIf.mk (fun _ => ?_) (fun _ => ?_) | refine V.NWrap.ok (by omega) (by omega) ?_ | refine V.NWrap.u64 (by omega) (by omega) ?_ | refine V.NLt.mk (by omega) ?_ | refine V.NBoth.mk ?_ ?_ | refine V.NTF.yes (by omega) ?_ | refine V.NTF.no (by omega) ?_ | refine V.NTF.dec ?_ | refine V.NDraw.q (by exact rfl) (by kernel_rfl) ?_ | refine V.NApp.one (by first | omega | (simp; omega)) (by first | omega | (simp; omega)) ?_ | (first | refine V.Fn.k0 (v_split a b c (by omega) (by omega) (by omega)) rfl ?_ | refine V.Fn.q0 (v_split a b c (by omega) (by omega) (by omega)) rfl ?_ | refine V.Fn.a0 (v_split a b c (by omega) (by omega) (by omega)) rfl ?_) | (first | refine V.Fn.k0 (v_split (0 - a) b c (by omega) (by omega) (by omega)) rfl ?_ | refine V.Fn.q0 (v_split (0 - a) b c (by omega) (by omega) (by omega)) rfl ?_ | refine V.Fn.a0 (v_split (0 - a) b c (by omega) (by omega) (by omega)) rfl ?_) | (refine NWrap.mk ?_) | (refine V.NDraw.any (by kernel_rfl) ?_) | fail)
  · obtain ⟨e1, e2, e3⟩ := M.raw_1 (a := a) (b := b) (c := c) (by assumption)
    rw [e1, e2, e3]; exact (by repeat' (first | exact rfl | exact Iff.rfl | exact trivial | exact (fun _ _ => rfl) | exact (fun _ h => absurd h (Nat.not_lt_zero _)) | refine ⟨?_, ?_⟩ | exact Iff.rfl | exact congrArg (fun z => V.SV.one (V.At.val (Value.int .i64 z))) (by omega)))
  · obtain ⟨e1, e2, e3⟩ := M.raw_2 (a := a) (b := b) (c := c) (by assumption) (by assumption)
    rw [e1, e2, e3]; exact (by repeat' (first | exact rfl | exact Iff.rfl | exact trivial | exact (fun _ _ => rfl) | exact (fun _ h => absurd h (Nat.not_lt_zero _)) | refine ⟨?_, ?_⟩ | exact Iff.rfl | exact congrArg (fun z => V.SV.one (V.At.val (Value.int .i64 z))) (by omega)))
  all_goals obtain ⟨e1, e2, e3⟩ := M.raw_3 (a := a) (b := b) (c := c) (by assumption) (by assumption)
  all_goals rw [e1, e2, e3]
  all_goals (conv => whnf)
  all_goals (repeat' (first | exact rfl | exact trivial | (refine ⟨_, rfl, ?_⟩; simp_all; done) | (refine ⟨?_, ?_⟩) | exact congrArg Value.bool (by simp_all) | (simp_all; done)))
theorem v_checks (l : List Int) (hn : l.length ≤ 9223372036854775807) : V.Fn Tryd.prog 36 [.arr 1 l.length (ga e1 l)] [.one (.ref 0)] (.int .i64 (M.chks l)) := by
  refine V.Fn.mk_ V.Tok V.mixed Tryd.func36 rfl Tryd.ntmps36 (by kernel_rfl) rfl rfl ?_
  (conv => whnf)
  refine V.NLoop.go (fun (k : Nat) => [(8, .one (.val (.int .i64 k)))]) (fun (k : Nat) => []) [0, 2, 6, 7] [0] (fun (k : Nat) => l.length - k) (fun (k : Nat) => k ≤ l.length ∧ ∀ a ∈ l.take k, M.Amt a) 0 ⟨by omega, by simp⟩ (by repeat' (first | exact rfl | exact Iff.rfl | exact trivial | exact (fun _ _ => rfl) | exact (fun _ h => absurd h (Nat.not_lt_zero _)) | refine ⟨?_, ?_⟩ | exact Iff.rfl | exact congrArg (fun z => V.SV.one (V.At.val (Value.int .i64 z))) (by omega))) (by repeat' (first | exact rfl | exact Iff.rfl | exact trivial | exact (fun _ _ => rfl) | exact (fun _ h => absurd h (Nat.not_lt_zero _)) | refine ⟨?_, ?_⟩ | exact Iff.rfl | exact congrArg (fun z => V.SV.one (V.At.val (Value.int .i64 z))) (by omega))) (fun _ => ⟨rfl, rfl⟩) ?_; (conv => whnf); refine ⟨⟨rfl, rfl⟩, ?_⟩
  rintro k ⟨hk, hJ⟩
  repeat' ((conv => whnf); first | refine V.NCond.mk ?_ | refine V.NIf.not_ ?_ | refine V.NIf.dec_ ?_ | refine V.NIf.no (by omega) ?_ | refine V.NIf.yes (by omega) ?_ | refine V.NIf.mk (fun _ => ?_) (fun _ => ?_) | refine V.NWrap.ok (by omega) (by omega) ?_ | refine V.NWrap.u64 (by omega) (by omega) ?_ | refine V.NLt.mk (by omega) ?_ | refine V.NBoth.mk ?_ ?_ | refine V.NTF.yes (by omega) ?_ | refine V.NTF.no (by omega) ?_ | refine V.NTF.dec ?_ | refine V.NDraw.q (by exact rfl) (by kernel_rfl) ?_ | refine V.NApp.one (by first | omega | (simp; omega)) (by first | omega | (simp; omega)) ?_ | (refine NIdx.mk ⟨_, rfl, by omega, ?_⟩) | (first | refine V.Fn.k0 (v_check _) rfl ?_ | refine V.Fn.q0 (v_check _) rfl ?_ | refine V.Fn.a0 (v_check _) rfl ?_) | (refine V.NDraw.any (by kernel_rfl) ?_) | fail)
  · (conv => whnf)
    refine V.NBack.at_ (k + 1) [] ⟨by omega, ?_⟩ (by omega) (by repeat' (first | exact rfl | exact Iff.rfl | exact trivial | exact (fun _ _ => rfl) | exact (fun _ h => absurd h (Nat.not_lt_zero _)) | refine ⟨?_, ?_⟩ | exact Iff.rfl | exact congrArg (fun z => V.SV.one (V.At.val (Value.int .i64 z))) (by omega))) rfl (by repeat' (first | exact rfl | exact Iff.rfl | exact trivial | exact (fun _ _ => rfl) | exact (fun _ h => absurd h (Nat.not_lt_zero _)) | refine ⟨?_, ?_⟩ | exact Iff.rfl | exact congrArg (fun z => V.SV.one (V.At.val (Value.int .i64 z))) (by omega))) (by repeat' (first | exact rfl | exact Iff.rfl | exact trivial | exact (fun _ _ => rfl) | exact (fun _ h => absurd h (Nat.not_lt_zero _)) | refine ⟨?_, ?_⟩ | exact Iff.rfl | exact congrArg (fun z => V.SV.one (V.At.val (Value.int .i64 z))) (by omega))) (by repeat' (first | exact rfl | exact Iff.rfl | exact trivial | exact (fun _ _ => rfl) | exact (fun _ h => absurd h (Nat.not_lt_zero _)) | refine ⟨?_, ?_⟩ | exact Iff.rfl | exact congrArg (fun z => V.SV.one (V.At.val (Value.int .i64 z))) (by omega)))
    have hlt : k < l.length := by omega
    rename_i h
    rw [getD_at hlt] at h
    intro a ha
    rw [List.take_succ_eq_append_getElem hlt] at ha
    rcases List.mem_append.1 ha with q | q
    · exact hJ a q
    · rw [List.mem_singleton.1 q]; exact M.chk_ok h
  · have hlt : k < l.length := by omega
    rename_i h
    rw [getD_at hlt] at h
    have : M.chk l[k] = 3 ∧ ¬ M.Amt l[k] := by
      by_cases q : M.Amt l[k]
      · exact absurd (M.chk_yes q) h
      · exact ⟨M.chk_no q, q⟩
    rw [getD_at hlt, this.1, M.chks_no fun q => this.2 (q _ (List.getElem_mem hlt))]; exact (by repeat' (first | exact rfl | exact Iff.rfl | exact trivial | exact (fun _ _ => rfl) | exact (fun _ h => absurd h (Nat.not_lt_zero _)) | refine ⟨?_, ?_⟩ | exact Iff.rfl | exact congrArg (fun z => V.SV.one (V.At.val (Value.int .i64 z))) (by omega)))
  · obtain rfl : k = l.length := by omega
    rw [List.take_length] at hJ
    rw [M.chks_yes hJ]; exact (by repeat' (first | exact rfl | exact Iff.rfl | exact trivial | exact (fun _ _ => rfl) | exact (fun _ h => absurd h (Nat.not_lt_zero _)) | refine ⟨?_, ?_⟩ | exact Iff.rfl | exact congrArg (fun z => V.SV.one (V.At.val (Value.int .i64 z))) (by omega)))
theorem v_add (a b : Int) : V.Fn Tryd.prog 25 [] [.one (.val (.int .i64 a)), .one (.val (.int .i64 b))] (.tuple #[.int .i64 (M.addV a b), .int .i64 (M.addE a b)]) := by
  have kr : M.chks [a, b] = 0 → (-1152921504606846976 ≤ a ∧ a ≤ 1152921504606846976) ∧ -1152921504606846976 ≤ b ∧ b ≤ 1152921504606846976 := fun h => by
    have := M.chks_ok h; exact ⟨this a (by simp), this b (by simp)⟩
  refine V.Fn.mk_ V.Tok V.mixed Tryd.func25 rfl Tryd.ntmps25 (by kernel_rfl) rfl rfl ?_
  repeat' ((conv => whnf); first | refine V.NCond.mk ?_ | refine V.NIf.not_ ?_ | refine V.NIf.dec_ ?_ | refine V.NIf.no (by omega) ?_ | refine V.NIf.yes (by omega) ?_ | refine V.NIf.mk (fun _ => ?_) (fun _ => ?_) | refine V.NWrap.ok (by omega) (by omega) ?_ | refine V.NWrap.u64 (by omega) (by omega) ?_ | refine V.NLt.mk (by omega) ?_ | refine V.NBoth.mk ?_ ?_ | refine V.NTF.yes (by omega) ?_ | refine V.NTF.no (by omega) ?_ | refine V.NTF.dec ?_ | refine V.NDraw.q (by exact rfl) (by kernel_rfl) ?_ | refine V.NApp.one (by first | omega | (simp; omega)) (by first | omega | (simp; omega)) ?_ | (first | refine V.Fn.k0 (v_check _) rfl ?_ | refine V.Fn.q0 (v_check _) rfl ?_ | refine V.Fn.a0 (v_check _) rfl ?_) | ((first | refine V.Fn.k (v_checks [a, b] (by simp)) [0] rfl ?_ ?_ | refine V.Fn.q (v_checks [a, b] (by simp)) [0] rfl ?_ ?_ | refine V.Fn.a (v_checks [a, b] (by simp)) [0] rfl ?_ ?_); · ((repeat' (first | exact rfl | exact Iff.rfl | exact trivial | exact (fun _ _ => rfl) | exact (fun _ h => absurd h (Nat.not_lt_zero _)) | refine ⟨?_, ?_⟩ | exact Iff.rfl | exact congrArg (fun z => V.SV.one (V.At.val (Value.int .i64 z))) (by omega))); done)) | (refine V.NDraw.any (by kernel_rfl) ?_) | fail)
  · rw [(M.add_3 (M.chks_two (by assumption)) (M.chk_ok (by assumption))).1, (M.add_3 (M.chks_two (by assumption)) (M.chk_ok (by assumption))).2]; exact (by repeat' (first | exact rfl | exact Iff.rfl | exact trivial | exact (fun _ _ => rfl) | exact (fun _ h => absurd h (Nat.not_lt_zero _)) | refine ⟨?_, ?_⟩ | exact Iff.rfl | exact congrArg (fun z => V.SV.one (V.At.val (Value.int .i64 z))) (by omega)))
  · rw [(M.add_2 (M.chks_two (by assumption)) (M.chk_nok (by assumption))).1, (M.add_2 (M.chks_two (by assumption)) (M.chk_nok (by assumption))).2]; exact (by repeat' (first | exact rfl | exact Iff.rfl | exact trivial | exact (fun _ _ => rfl) | exact (fun _ h => absurd h (Nat.not_lt_zero _)) | refine ⟨?_, ?_⟩ | exact Iff.rfl | exact congrArg (fun z => V.SV.one (V.At.val (Value.int .i64 z))) (by omega)))
  · have q : ¬ (M.Amt a ∧ M.Amt b) := M.chks_ntwo (by assumption)
    rw [(M.add_1 q).1, (M.add_1 q).2, M.chks_bad (by assumption)]; exact (by repeat' (first | exact rfl | exact Iff.rfl | exact trivial | exact (fun _ _ => rfl) | exact (fun _ h => absurd h (Nat.not_lt_zero _)) | refine ⟨?_, ?_⟩ | exact Iff.rfl | exact congrArg (fun z => V.SV.one (V.At.val (Value.int .i64 z))) (by omega)))
theorem v_mcheck (a b c : Int) : V.Fn Tryd.prog 29 [] [.one (.val (.int .i64 a)), .one (.val (.int .i64 b)), .one (.val (.int .i64 c))] (.int .i64 (M.ckE a b c)) := by
  refine V.Fn.mk_ V.Tok V.mixed Tryd.func29 rfl Tryd.ntmps29 (by kernel_rfl) rfl rfl ?_
  repeat' ((conv => whnf); first | refine V.NCond.mk ?_ | refine V.NIf.not_ ?_ | refine V.NIf.dec_ ?_ | refine V.NIf.no (by omega) ?_ | refine V.NIf.yes (by omega) ?_ | refine V.NIf.mk (fun _ => ?_) (fun _ => ?_) | refine V.NWrap.ok (by omega) (by omega) ?_ | refine V.NWrap.u64 (by omega) (by omega) ?_ | refine V.NLt.mk (by omega) ?_ | refine V.NBoth.mk ?_ ?_ | refine V.NTF.yes (by omega) ?_ | refine V.NTF.no (by omega) ?_ | refine V.NTF.dec ?_ | refine V.NDraw.q (by exact rfl) (by kernel_rfl) ?_ | refine V.NApp.one (by first | omega | (simp; omega)) (by first | omega | (simp; omega)) ?_ | (first | refine V.Fn.k0 (v_check _) rfl ?_ | refine V.Fn.q0 (v_check _) rfl ?_ | refine V.Fn.a0 (v_check _) rfl ?_) | (first | refine V.Fn.k0 (v_mwithin _ _ _) rfl ?_ | refine V.Fn.q0 (v_mwithin _ _ _) rfl ?_ | refine V.Fn.a0 (v_mwithin _ _ _) rfl ?_) | (refine V.NDraw.any (by kernel_rfl) ?_) | fail)
  all_goals (conv => whnf)
  all_goals refine congrArg (Value.int .i64) ?_
  all_goals first
    | exact (M.ck_yes ⟨M.chk_ok (by assumption), by omega, by omega⟩).symm
    | exact (M.ck_no fun q => by have := q.2; omega).symm
    | (have k := M.chk_nok (a := a) (by assumption); rw [M.ck_no fun q => k q.1, M.chk_no k])
theorem v_part (a b c : Int) : V.Fn Tryd.prog 12 [] [.one (.val (.int .i64 a)), .one (.val (.int .i64 b)), .one (.val (.int .i64 c))] (.tuple #[.int .i64 (M.prQ a b c), .int .i64 (M.prR a b c), .int .i64 (M.prE a b c)]) := by
  refine V.Fn.mk_ V.Tok V.mixed Tryd.func12 rfl Tryd.ntmps12 (by kernel_rfl) rfl rfl ?_
  repeat' ((conv => whnf); first | refine V.NCond.mk ?_ | refine V.NIf.not_ ?_ | refine V.NIf.dec_ ?_ | refine V.NIf.no (by omega) ?_ | refine V.NIf.yes (by omega) ?_ | refine V.NIf.mk (fun _ => ?_) (fun _ => ?_) | refine V.NWrap.ok (by omega) (by omega) ?_ | refine V.NWrap.u64 (by omega) (by omega) ?_ | refine V.NLt.mk (by omega) ?_ | refine V.NBoth.mk ?_ ?_ | refine V.NTF.yes (by omega) ?_ | refine V.NTF.no (by omega) ?_ | refine V.NTF.dec ?_ | refine V.NDraw.q (by exact rfl) (by kernel_rfl) ?_ | refine V.NApp.one (by first | omega | (simp; omega)) (by first | omega | (simp; omega)) ?_ | (first | refine V.Fn.k0 (v_mcheck _ _ _) rfl ?_ | refine V.Fn.q0 (v_mcheck _ _ _) rfl ?_ | refine V.Fn.a0 (v_mcheck _ _ _) rfl ?_) | (first | refine V.Fn.k0 (v_raw a b c (M.ck_ok (by assumption))) rfl ?_ | refine V.Fn.q0 (v_raw a b c (M.ck_ok (by assumption))) rfl ?_ | refine V.Fn.a0 (v_raw a b c (M.ck_ok (by assumption))) rfl ?_) | (refine V.NDraw.any (by kernel_rfl) ?_) | fail)
  · have h := M.ck_ok (by assumption)
    obtain ⟨k, e1, e2⟩ := M.raw_ok h (by assumption)
    rw [e1, e2, (M.pr_3 h k).1, (M.pr_3 h k).2.1, (M.pr_3 h k).2.2]; exact (by repeat' (first | exact rfl | exact Iff.rfl | exact trivial | exact (fun _ _ => rfl) | exact (fun _ h => absurd h (Nat.not_lt_zero _)) | refine ⟨?_, ?_⟩ | exact Iff.rfl | exact congrArg (fun z => V.SV.one (V.At.val (Value.int .i64 z))) (by omega)))
  · have h := M.ck_ok (by assumption)
    have k := M.raw_nok h (by assumption)
    rw [(M.pr_2 h k).1, (M.pr_2 h k).2.1, (M.pr_2 h k).2.2]; exact (by repeat' (first | exact rfl | exact Iff.rfl | exact trivial | exact (fun _ _ => rfl) | exact (fun _ h => absurd h (Nat.not_lt_zero _)) | refine ⟨?_, ?_⟩ | exact Iff.rfl | exact congrArg (fun z => V.SV.one (V.At.val (Value.int .i64 z))) (by omega)))
  · have h := M.ck_nok (by assumption)
    rw [(M.pr_1 h).1, (M.pr_1 h).2.1, (M.pr_1 h).2.2, M.ck_no h]; exact (by repeat' (first | exact rfl | exact Iff.rfl | exact trivial | exact (fun _ _ => rfl) | exact (fun _ h => absurd h (Nat.not_lt_zero _)) | refine ⟨?_, ?_⟩ | exact Iff.rfl | exact congrArg (fun z => V.SV.one (V.At.val (Value.int .i64 z))) (by omega)))
theorem v_near (a b c : Int) : V.Fn Tryd.prog 26 [] [.one (.val (.int .i64 a)), .one (.val (.int .i64 b)), .one (.val (.int .i64 c))] (.tuple #[.int .i64 (M.neV a b c), .int .i64 (M.neE a b c)]) := by
  have kp : M.prE a b c = 0 → ((0 ≤ M.prR a b c ∧ M.prR a b c < c) ∧ c ≤ 1099511627776) ∧ -1152921504606846976 ≤ M.prQ a b c ∧ M.prQ a b c ≤ 1152921504606846976 := fun h => by
    obtain ⟨p, k⟩ := M.pr_ok h
    rw [(M.pr_3 p k).2.1, (M.pr_3 p k).2.2]
    exact ⟨⟨M.r_bd p.2.2.1, p.2.2.2⟩, k⟩
  have t2 := M.tmod2 (M.prQ a b c)
  refine V.Fn.mk_ V.Tok V.mixed Tryd.func26 rfl Tryd.ntmps26 (by kernel_rfl) rfl rfl ?_
  repeat' ((conv => whnf); first | refine V.NCond.mk ?_ | refine V.NIf.not_ ?_ | refine V.NIf.dec_ ?_ | refine V.NIf.no (by omega) ?_ | refine V.NIf.yes (by omega) ?_ | refine V.NIf.mk (fun _ => ?_) (fun _ => ?_) | refine V.NWrap.ok (by omega) (by omega) ?_ | refine V.NWrap.u64 (by omega) (by omega) ?_ | refine V.NLt.mk (by omega) ?_ | refine V.NBoth.mk ?_ ?_ | refine V.NTF.yes (by omega) ?_ | refine V.NTF.no (by omega) ?_ | refine V.NTF.dec ?_ | refine V.NDraw.q (by exact rfl) (by kernel_rfl) ?_ | refine V.NApp.one (by first | omega | (simp; omega)) (by first | omega | (simp; omega)) ?_ | (first | refine V.Fn.k0 (v_part _ _ _) rfl ?_ | refine V.Fn.q0 (v_part _ _ _) rfl ?_ | refine V.Fn.a0 (v_part _ _ _) rfl ?_) | (first | refine V.Fn.k0 (v_check _) rfl ?_ | refine V.Fn.q0 (v_check _) rfl ?_ | refine V.Fn.a0 (v_check _) rfl ?_) | (refine NRem.mk (by decide) ?_) | (refine V.NDraw.any (by kernel_rfl) ?_) | fail)
  all_goals (conv => whnf)
  all_goals first
    | (refine V.fin2 (M.ne_yes ?_ ?_ ?_) <;> first | assumption | (unfold M.up; split <;> omega))
    | (refine V.fin2 (M.ne_no (v := M.prQ a b c + 1) ?_ ?_ ?_) <;> first | assumption | (unfold M.up; split <;> omega))
    | (refine V.fin2 (M.ne_no (v := M.prQ a b c) ?_ ?_ ?_) <;> first | assumption | (unfold M.up; split <;> omega))
    | (refine V.fin2 (And.symm (M.ne_1 ?_)); assumption)
set_option maxHeartbeats 2000000 in
theorem v_total (l : List Int) : V.Fn Tryd.prog 27 [.arr 1 l.length (ga e1 l)] [.one (.ref 0)] (.tuple #[.int .i64 (M.toV l), .int .i64 (M.toE l)]) := by
  refine V.Fn.mk_ V.Tok V.mixed Tryd.func27 rfl Tryd.ntmps27 (by kernel_rfl) rfl rfl ?_
  repeat' ((conv => whnf); first | refine V.NCond.mk ?_ | refine V.NIf.not_ ?_ | refine V.NIf.dec_ ?_ | refine V.NIf.no (by omega) ?_ | refine V.NIf.yes (by omega) ?_ | refine V.NIf.mk (fun _ => ?_) (fun _ => ?_) | refine V.NWrap.ok (by omega) (by omega) ?_ | refine V.NWrap.u64 (by omega) (by omega) ?_ | refine V.NLt.mk (by omega) ?_ | refine V.NBoth.mk ?_ ?_ | refine V.NTF.yes (by omega) ?_ | refine V.NTF.no (by omega) ?_ | refine V.NTF.dec ?_ | refine V.NDraw.q (by exact rfl) (by kernel_rfl) ?_ | refine V.NApp.one (by first | omega | (simp; omega)) (by first | omega | (simp; omega)) ?_ | ((first | refine V.Fn.k (v_checks l (by omega)) [0] rfl ?_ ?_ | refine V.Fn.q (v_checks l (by omega)) [0] rfl ?_ ?_ | refine V.Fn.a (v_checks l (by omega)) [0] rfl ?_ ?_); · ((repeat' (first | exact rfl | exact Iff.rfl | exact trivial | exact (fun _ _ => rfl) | exact (fun _ h => absurd h (Nat.not_lt_zero _)) | refine ⟨?_, ?_⟩ | exact Iff.rfl | exact congrArg (fun z => V.SV.one (V.At.val (Value.int .i64 z))) (by omega))); done)) | (refine V.NDraw.any (by kernel_rfl) ?_) | fail)
  all_goals (conv => whnf)
  · exact V.fin2 (M.to_1 (by omega))
  · have hc := M.chks_ok (by assumption)
    have hn : l.length ≤ 40 := by omega
    refine V.NLoop.go (fun (⟨k, s, t⟩ : Nat × Int × Int) => [(2, .one (.val (.int .i64 s))), (5, .one (.val (.int .i64 t))), (18, .one (.val (.int .i64 k)))]) (fun (⟨k, s, t⟩ : Nat × Int × Int) => []) [0, 3, 16, 17] [0] (fun (⟨k, s, t⟩ : Nat × Int × Int) => l.length - k) (fun (⟨k, s, t⟩ : Nat × Int × Int) => k ≤ l.length ∧ t * 1152921504606846976 + s = M.sum (l.take k) ∧ -1152921504606846976 < s ∧ s < 1152921504606846976 ∧ -(k : Int) ≤ t ∧ t ≤ k) (0, 0, 0) ⟨by omega, by simp [M.sum], by omega, by omega, by omega, by omega⟩ (by repeat' (first | exact rfl | exact Iff.rfl | exact trivial | exact (fun _ _ => rfl) | exact (fun _ h => absurd h (Nat.not_lt_zero _)) | refine ⟨?_, ?_⟩ | exact Iff.rfl | exact congrArg (fun z => V.SV.one (V.At.val (Value.int .i64 z))) (by omega))) (by repeat' (first | exact rfl | exact Iff.rfl | exact trivial | exact (fun _ _ => rfl) | exact (fun _ h => absurd h (Nat.not_lt_zero _)) | refine ⟨?_, ?_⟩ | exact Iff.rfl | exact congrArg (fun z => V.SV.one (V.At.val (Value.int .i64 z))) (by omega))) (fun _ => ⟨rfl, rfl⟩) ?_; (conv => whnf); refine ⟨⟨rfl, rfl⟩, ?_⟩
    rintro ⟨k, s, t⟩ ⟨hk, hJ, s1, s2, t1, t2⟩
    have hb : ∀ k : Nat, k < l.length → -1152921504606846976 ≤ l.getD k default ∧ l.getD k default ≤ 1152921504606846976 := fun k h => by rw [getD_at h]; exact hc _ (List.getElem_mem h)
    have tq := V.tq (s + l.getD k default) (y := 1152921504606846976) (by omega)
    repeat' ((conv => whnf); first | refine V.NCond.mk ?_ | refine V.NIf.not_ ?_ | refine V.NIf.dec_ ?_ | refine V.NIf.no (by omega) ?_ | refine V.NIf.yes (by omega) ?_ | refine V.NIf.mk (fun _ => ?_) (fun _ => ?_) | refine V.NWrap.ok (by omega) (by omega) ?_ | refine V.NWrap.u64 (by omega) (by omega) ?_ | refine V.NLt.mk (by omega) ?_ | refine V.NBoth.mk ?_ ?_ | refine V.NTF.yes (by omega) ?_ | refine V.NTF.no (by omega) ?_ | refine V.NTF.dec ?_ | refine V.NDraw.q (by exact rfl) (by kernel_rfl) ?_ | refine V.NApp.one (by first | omega | (simp; omega)) (by first | omega | (simp; omega)) ?_ | (refine NIdx.mk ⟨_, rfl, by omega, ?_⟩) | (refine V.NWrap.ok (by have := hb k (by omega); omega) (by have := hb k (by omega); omega) ?_) | (refine NQuo.ok (by decide) (by have := hb k (by omega); omega) (by have := hb k (by omega); omega) ?_) | (refine NRem.mk (by decide) ?_) | (first | refine V.Fn.k0 (v_check _) rfl ?_ | refine V.Fn.q0 (v_check _) rfl ?_ | refine V.Fn.a0 (v_check _) rfl ?_) | (first | refine V.Fn.k0 (v_mwithin _ _ _) rfl ?_ | refine V.Fn.q0 (v_mwithin _ _ _) rfl ?_ | refine V.Fn.a0 (v_mwithin _ _ _) rfl ?_) | (refine V.NDraw.any (by kernel_rfl) ?_) | fail)
    all_goals (conv => whnf)
    · have hlt : k < l.length := by omega
      have e := getD_at (l := l) hlt
      refine V.NBack.at_ (k + 1, (s + l.getD k default).tmod 1152921504606846976, t + (s + l.getD k default).tdiv 1152921504606846976) [] ⟨by omega, ?_, by omega, by omega, ?_, ?_⟩ (by show l.length - (k + 1) < l.length - k; omega) (by repeat' (first | exact rfl | exact Iff.rfl | exact trivial | exact (fun _ _ => rfl) | exact (fun _ h => absurd h (Nat.not_lt_zero _)) | refine ⟨?_, ?_⟩ | exact Iff.rfl | exact congrArg (fun z => V.SV.one (V.At.val (Value.int .i64 z))) (by omega))) rfl (by repeat' (first | exact rfl | exact Iff.rfl | exact trivial | exact (fun _ _ => rfl) | exact (fun _ h => absurd h (Nat.not_lt_zero _)) | refine ⟨?_, ?_⟩ | exact Iff.rfl | exact congrArg (fun z => V.SV.one (V.At.val (Value.int .i64 z))) (by omega))) (by repeat' (first | exact rfl | exact Iff.rfl | exact trivial | exact (fun _ _ => rfl) | exact (fun _ h => absurd h (Nat.not_lt_zero _)) | refine ⟨?_, ?_⟩ | exact Iff.rfl | exact congrArg (fun z => V.SV.one (V.At.val (Value.int .i64 z))) (by omega))) (by repeat' (first | exact rfl | exact Iff.rfl | exact trivial | exact (fun _ _ => rfl) | exact (fun _ h => absurd h (Nat.not_lt_zero _)) | refine ⟨?_, ?_⟩ | exact Iff.rfl | exact congrArg (fun z => V.SV.one (V.At.val (Value.int .i64 z))) (by omega)))
      · rw [List.take_succ_eq_append_getElem hlt, M.sum_append, ← hJ, ← e]; simp only [M.sum]; omega
      · have := hb k hlt; omega
      · have := hb k hlt; omega
    all_goals obtain rfl : k = l.length := by omega
    all_goals rw [List.take_length] at hJ
    · exact V.fin2 (by obtain ⟨e1, e2⟩ := M.to_of hn hc (by rw [← hJ]; exact M.chk_ok (by assumption)); rw [e1, e2]; exact ⟨hJ.symm, rfl⟩)
    · exact V.fin2 (M.to_3 (by omega) (by assumption) (by rw [← hJ]; exact M.chk_nok (by assumption)))
    · exact V.fin2 (M.to_3 (by omega) (by assumption) (by unfold M.Amt; omega))
  · exact V.fin2 (M.to_2 (by omega) (by assumption))
end Go.Proofs.YthmmjoemapoafaaDoor

/- Plain facts on what time costs: days by a kind, a year, interest. -/
namespace Go.Proofs.YthmmjoemapoafaaDoor
set_option linter.unusedVariables false
namespace Ac
open D
def Day (n : Int) : Prop := 0 ≤ n ∧ n ≤ 3652058
instance (n : Int) : Decidable (Day n) := by unfold Day; exact inferInstance
def at_ (n : Int) : Int := 360 * yO n + 30 * mO n + (if 30 < dO n then 30 else dO n)
def dd (kind a b : Int) : Int := if kind = 3 then at_ b - at_ a else b - a
def dE (kind a b : Int) : Int := if kind < 1 ∨ 3 < kind then 7 else if ¬ (Day a ∧ Day b) then 3 else if b < a then 1 else 0
def dV (kind a b : Int) : Int := if dE kind a b = 0 then dd kind a b else 0
def yr (kind : Int) : Int := if kind = 2 then 365 else 360
def yV (kind : Int) : Int := if kind < 1 ∨ 3 < kind then 0 else yr kind
def yE (kind : Int) : Int := if kind < 1 ∨ 3 < kind then 7 else 0
def iE (kind am ra a b : Int) : Int := if dE kind a b ≠ 0 then dE kind a b else if ¬ M.Amt am then 3 else if ra < 0 ∨ 10000 < ra then 3 else M.prE am (ra * dd kind a b) (10000 * yr kind)
def iV (kind am ra a b : Int) : Int := if dE kind a b ≠ 0 then 0 else if ¬ M.Amt am then 0 else if ra < 0 ∨ 10000 < ra then 0 else M.prQ am (ra * dd kind a b) (10000 * yr kind)
theorem dE_1 {kind a b : Int} (h : kind < 1 ∨ 3 < kind) : dE kind a b = 7 := if_pos h
theorem dE_2 {kind a b : Int} (h : ¬ (kind < 1 ∨ 3 < kind)) (k : ¬ (Day a ∧ Day b)) : dE kind a b = 3 := (if_neg h).trans (if_pos k)
theorem dE_3 {kind a b : Int} (h : ¬ (kind < 1 ∨ 3 < kind)) (k : Day a ∧ Day b) (q : b < a) : dE kind a b = 1 := (if_neg h).trans ((if_neg (fun z => z k)).trans (if_pos q))
theorem dE_4 {kind a b : Int} (h : ¬ (kind < 1 ∨ 3 < kind)) (k : Day a ∧ Day b) (q : ¬ b < a) : dE kind a b = 0 := (if_neg h).trans ((if_neg (fun z => z k)).trans (if_neg q))
theorem dE_ok {kind a b : Int} (h : dE kind a b = 0) : (1 ≤ kind ∧ kind ≤ 3) ∧ Day a ∧ Day b ∧ a ≤ b := by
  by_cases k : kind < 1 ∨ 3 < kind
  · rw [dE_1 k] at h; omega
  by_cases q : Day a ∧ Day b
  · by_cases z : b < a
    · rw [dE_3 k q z] at h; omega
    · exact ⟨by omega, q.1, q.2, by omega⟩
  · rw [dE_2 k q] at h; omega
theorem dE_of {kind a b : Int} (h : 1 ≤ kind ∧ kind ≤ 3) (ha : Day a) (hb : Day b) (k : a ≤ b) : dE kind a b = 0 := dE_4 (by omega) ⟨ha, hb⟩ (by omega)
theorem dV_yes {kind a b : Int} (h : dE kind a b = 0) : dV kind a b = dd kind a b := if_pos h
theorem dV_no {kind a b : Int} (h : ¬ dE kind a b = 0) : dV kind a b = 0 := if_neg h
theorem at_bd {n : Int} (h : Day n) : 391 ≤ at_ n ∧ at_ n ≤ 3600030 := by
  obtain ⟨b1, b2, b3, b4, b5, b6, _⟩ := of_bds h.1 h.2
  unfold at_
  split <;> omega
theorem at_mono {a b : Int} (ha : Day a) (hb : Day b) (h : a ≤ b) : at_ a ≤ at_ b := by
  have o := order ha hb
  obtain ⟨a1, a2, a3⟩ := o_yes ha
  obtain ⟨c1, c2, c3⟩ := o_yes hb
  rw [a1, a2, a3, c1, c2, c3] at o
  obtain ⟨b1, b2, b3, b4, b5, b6, _⟩ := of_bds ha.1 ha.2
  obtain ⟨d1, d2, d3, d4, d5, d6, _⟩ := of_bds hb.1 hb.2
  by_cases e : a = b
  · subst e; exact Int.le_refl _
  unfold at_
  split <;> split <;> omega
theorem dd_bd {kind a b : Int} (h : dE kind a b = 0) : 0 ≤ dd kind a b ∧ dd kind a b ≤ 3652058 := by
  obtain ⟨_, ha, hb, k⟩ := dE_ok h
  have := at_mono ha hb k
  have := at_bd ha
  have := at_bd hb
  unfold Day at ha hb
  unfold dd
  split <;> omega
theorem dd_add (kind a b c : Int) : dd kind a b + dd kind b c = dd kind a c := by unfold dd; split <;> omega
theorem dd_self (kind a : Int) : dd kind a a = 0 := by unfold dd; split <;> omega
theorem yr_bd (kind : Int) : 360 ≤ yr kind ∧ yr kind ≤ 365 := by unfold yr; split <;> omega
/-- where interest is told -/
theorem i_ok {kind am ra a b : Int} (h : iE kind am ra a b = 0) : dE kind a b = 0 ∧ M.Amt am ∧ (0 ≤ ra ∧ ra ≤ 10000) ∧ M.Amt (am * (ra * dd kind a b) / (10000 * yr kind)) ∧ iV kind am ra a b = am * (ra * dd kind a b) / (10000 * yr kind) := by
  unfold iE at h
  unfold iV
  split at h
  · rename_i q; exact absurd h q
  rename_i q
  split at h
  · omega
  rename_i q2
  split at h
  · omega
  rename_i q3
  obtain ⟨p, k⟩ := M.pr_ok h
  rw [if_neg q, if_neg q2, if_neg q3]
  exact ⟨Classical.not_not.1 q, Classical.not_not.1 q2, by omega, k, (M.pr_3 p k).2.1⟩
theorem i_no {kind am ra a b : Int} (h : ¬ iE kind am ra a b = 0) : iV kind am ra a b = 0 := by
  unfold iE at h
  unfold iV
  by_cases q : dE kind a b ≠ 0
  · exact if_pos q
  rw [if_neg q] at h ⊢
  by_cases q2 : ¬ M.Amt am
  · exact if_pos q2
  rw [if_neg q2] at h ⊢
  by_cases q3 : ra < 0 ∨ 10000 < ra
  · exact if_pos q3
  rw [if_neg q3] at h ⊢
  exact (M.pr_z h).1
theorem rate_bd {ra d : Int} (h : 0 ≤ ra ∧ ra ≤ 10000) (k : 0 ≤ d ∧ d ≤ 3652058) : 0 ≤ ra * d ∧ ra * d ≤ 36520580000 := by
  have : ra * d ≤ 10000 * 3652058 := Int.mul_le_mul h.2 k.2 k.1 (by omega)
  exact ⟨Int.mul_nonneg h.1 k.1, by omega⟩
theorem i_1 {kind am ra a b : Int} (h : ¬ dE kind a b = 0) : iE kind am ra a b = dE kind a b ∧ iV kind am ra a b = 0 := ⟨if_pos h, if_pos h⟩
theorem i_2 {kind am ra a b : Int} (h : dE kind a b = 0) (k : ¬ M.Amt am) : iE kind am ra a b = 3 ∧ iV kind am ra a b = 0 := ⟨(if_neg (fun q => q h)).trans (if_pos k), (if_neg (fun q => q h)).trans (if_pos k)⟩
theorem i_3 {kind am ra a b : Int} (h : dE kind a b = 0) (k : M.Amt am) (q : ra < 0 ∨ 10000 < ra) : iE kind am ra a b = 3 ∧ iV kind am ra a b = 0 := ⟨(if_neg (fun q => q h)).trans ((if_neg (fun q => q k)).trans (if_pos q)), (if_neg (fun q => q h)).trans ((if_neg (fun q => q k)).trans (if_pos q))⟩
theorem i_4 {kind am ra a b : Int} (h : dE kind a b = 0) (k : M.Amt am) (q : ¬ (ra < 0 ∨ 10000 < ra)) : iE kind am ra a b = M.prE am (ra * dd kind a b) (10000 * yr kind) ∧ iV kind am ra a b = M.prQ am (ra * dd kind a b) (10000 * yr kind) := ⟨(if_neg (fun q => q h)).trans ((if_neg (fun q => q k)).trans (if_neg q)), (if_neg (fun q => q h)).trans ((if_neg (fun q => q k)).trans (if_neg q))⟩
/-- parts of two -/
theorem fl2 (x y c : Int) (hc : 0 < c) : x / c + y / c ≤ (x + y) / c ∧ (x + y) / c ≤ x / c + y / c + 1 := by
  have a1 := Int.mul_ediv_add_emod x c
  have a2 := Int.emod_nonneg x (b := c) (by omega)
  have a3 := Int.emod_lt_of_pos x hc
  have b1 := Int.mul_ediv_add_emod y c
  have b2 := Int.emod_nonneg y (b := c) (by omega)
  have b3 := Int.emod_lt_of_pos y hc
  generalize x / c = p at *
  generalize y / c = q at *
  constructor
  · refine Int.le_ediv_of_mul_le hc ?_
    have : (p + q) * c = c * p + c * q := by grind
    omega
  · have : (x + y) / c < p + q + 2 := Int.ediv_lt_of_lt_mul hc (by
      have : (p + q + 2) * c = c * p + c * q + c + c := by grind
      omega)
    omega
theorem parts {kind am ra a b c : Int} (h : iE kind am ra a b = 0) (k : iE kind am ra b c = 0) (q : iE kind am ra a c = 0) :
    iV kind am ra a b + iV kind am ra b c ≤ iV kind am ra a c ∧ iV kind am ra a c ≤ iV kind am ra a b + iV kind am ra b c + 1 := by
  rw [(i_ok h).2.2.2.2, (i_ok k).2.2.2.2, (i_ok q).2.2.2.2, ← dd_add kind a b c]
  have y := yr_bd kind
  have := fl2 (am * (ra * dd kind a b)) (am * (ra * dd kind b c)) (10000 * yr kind) (by omega)
  have e : am * (ra * (dd kind a b + dd kind b c)) = am * (ra * dd kind a b) + am * (ra * dd kind b c) := by grind
  rw [e]
  exact this
theorem iV_bd (kind am ra a b : Int) : -1152921504606846976 ≤ iV kind am ra a b ∧ iV kind am ra a b ≤ 1152921504606846976 := by
  by_cases h : iE kind am ra a b = 0
  · have := (i_ok h)
    rw [this.2.2.2.2]
    exact this.2.2.2.1
  · rw [i_no h]; omega
theorem i_pos {kind am ra a b : Int} (h : iE kind am ra a b = 0) (h0 : 0 ≤ am) : 0 ≤ iV kind am ra a b ∧ (am = 0 ∨ ra = 0 ∨ a = b → iV kind am ra a b = 0) := by
  obtain ⟨h1, h2, h3, h4, h5⟩ := i_ok h
  have y := yr_bd kind
  have d := dd_bd h1
  have r := rate_bd h3 d
  rw [h5]
  refine ⟨Int.ediv_nonneg (Int.mul_nonneg h0 r.1) (by omega), ?_⟩
  rintro (rfl | rfl | rfl)
  · rw [Int.zero_mul, Int.zero_ediv]
  · rw [Int.zero_mul, Int.mul_zero, Int.zero_ediv]
  · rw [dd_self, Int.mul_zero, Int.mul_zero, Int.zero_ediv]
theorem i_am {kind am ra a b x : Int} (h : iE kind am ra a b = 0) (h0 : 0 ≤ am) (hx : 0 ≤ x) (k : iE kind (am + x) ra a b = 0) : iV kind am ra a b ≤ iV kind (am + x) ra a b := by
  obtain ⟨h1, h2, h3, h4, h5⟩ := i_ok h
  have y := yr_bd kind
  have r := rate_bd h3 (dd_bd h1)
  rw [h5, (i_ok k).2.2.2.2]
  exact Int.ediv_le_ediv (by omega) (Int.mul_le_mul_of_nonneg_right (by omega) r.1)
theorem i_ra {kind am ra a b x : Int} (h : iE kind am ra a b = 0) (h0 : 0 ≤ am) (hx : 0 ≤ x) (k : iE kind am (ra + x) a b = 0) : iV kind am ra a b ≤ iV kind am (ra + x) a b := by
  obtain ⟨h1, h2, h3, h4, h5⟩ := i_ok h
  have y := yr_bd kind
  have d := dd_bd h1
  rw [h5, (i_ok k).2.2.2.2]
  exact Int.ediv_le_ediv (by omega) (Int.mul_le_mul_of_nonneg_left (Int.mul_le_mul_of_nonneg_right (by omega) d.1) h0)
theorem i_to {kind am ra a b x : Int} (h : iE kind am ra a b = 0) (h0 : 0 ≤ am) (hx : 0 ≤ x) (k : iE kind am ra a (b + x) = 0) : iV kind am ra a b ≤ iV kind am ra a (b + x) := by
  obtain ⟨h1, h2, h3, h4, h5⟩ := i_ok h
  obtain ⟨k1, k2, k3, k4, k5⟩ := i_ok k
  have y := yr_bd kind
  obtain ⟨hk, ha, hb, hab⟩ := dE_ok h1
  obtain ⟨_, _, hb', _⟩ := dE_ok k1
  have d := dd_bd (dE_of hk hb hb' (by omega : b ≤ b + x))
  have e := dd_add kind a b (b + x)
  rw [h5, k5]
  exact Int.ediv_le_ediv (by omega) (Int.mul_le_mul_of_nonneg_left (Int.mul_le_mul_of_nonneg_left (by omega) h3.1) h0)
/-- months later -/
theorem mo_at {n many : Int} (e : moE n many = 0) : Day n ∧ Day (moV n many) ∧ 12 * yO (moV n many) + mO (moV n many) = 12 * yO n + mO n + many ∧ dO (moV n many) ≤ dO n ∧ (dO (moV n many) = dO n ∨ 28 ≤ dO (moV n many)) ∧ 1 ≤ dO n ∧ dO n ≤ 31 := by
  have h : Day n := Classical.byContradiction fun q => by rw [(mo_no q).2] at e; omega
  have h2 : ¬ (many < -120000 ∨ 120000 < many) := fun q => by rw [(mo_wide1 h q).2] at e; omega
  have h4 : 12 ≤ 12 * yO n + mO n - 1 + many ∧ 12 * yO n + mO n - 1 + many < 120000 := Classical.byContradiction fun q => by
    rw [(mo_err h (fun z => q ⟨z.2.2.1, z.2.2.2⟩)).2] at e; omega
  obtain ⟨e1, e2⟩ := (mo_yes (many := many) h (by omega) (by omega)).2 h4
  obtain ⟨b1, b2, b3, b4, b5, b6, b7, b8, b9⟩ := of_bds h.1 h.2
  have hml := ml_bd ((12 * yO n + mO n - 1 + many) / 12) ((12 * yO n + mO n - 1 + many) % 12 + 1)
  have hml2 := ml_bd (yO n) (mO n)
  have hv : Valid ((12 * yO n + mO n - 1 + many) / 12) ((12 * yO n + mO n - 1 + many) % 12 + 1) (min (dO n) (ml ((12 * yO n + mO n - 1 + many) / 12) ((12 * yO n + mO n - 1 + many) % 12 + 1))) := ⟨by omega, by omega, by omega, by omega, by omega, by omega⟩
  have hb := raw_bd hv
  rw [← e1] at hb
  obtain ⟨g1, g2, g3⟩ := of_uniq hv e1.symm
  rw [g1, g2, g3]
  exact ⟨h, hb, by omega, by omega, by omega, by omega, by omega⟩
theorem at_mo {n many : Int} (e : moE n many = 0) (h0 : 0 ≤ many) : dE 3 n (moV n many) = 0 ∧ dE 2 n (moV n many) = 0 ∧ (dO n ≤ 28 → dd 3 n (moV n many) = 30 * many) ∧ dd 3 n (moV n many) ≤ 30 * many ∧ 30 * many - 2 ≤ dd 3 n (moV n many) := by
  obtain ⟨h1, h2, h3, h4, h5, h6, h7⟩ := mo_at e
  obtain ⟨b1, b2, b3, b4, b5, b6, _⟩ := of_bds h1.1 h1.2
  obtain ⟨c1, c2, c3, c4, c5, c6, _⟩ := of_bds h2.1 h2.2
  have le : n ≤ moV n many := by
    have o := order h1 h2
    obtain ⟨o1, o2, o3⟩ := o_yes h1
    obtain ⟨p1, p2, p3⟩ := o_yes h2
    rw [o1, o2, o3, p1, p2, p3] at o
    by_cases z : many = 0
    · subst z
      have : yO (moV n 0) = yO n ∧ mO (moV n 0) = mO n := by omega
      have hm := ml_bd (yO n) (mO n)
      have em : moV n 0 = n := by
        obtain ⟨e1, e2⟩ := (mo_yes (many := 0) h1 (by omega) (by omega)).2 (by omega)
        have y1 : (12 * yO n + mO n - 1 + 0) / 12 = yO n := by omega
        have m1 : (12 * yO n + mO n - 1 + 0) % 12 + 1 = mO n := by omega
        rw [y1, m1, show min (dO n) (ml (yO n) (mO n)) = dO n by omega, (of_ok n h1.1 h1.2).2] at e1
        exact e1
      omega
    · omega
  refine ⟨dE_of (by omega) h1 h2 le, dE_of (by omega) h1 h2 le, ?_, ?_, ?_⟩
  all_goals
    unfold dd at_
    rw [if_pos rfl]
    split <;> split <;> omega
theorem whole {am ra n years : Int} (e : moE n (12 * years) = 0) (h0 : 1 ≤ years) (h1 : years ≤ 50) (hd : dO n ≤ 28) (h : iE 3 am ra n (moV n (12 * years)) = 0) :
    M.prE am (ra * years) 10000 = 0 ∧ M.prQ am (ra * years) 10000 = iV 3 am ra n (moV n (12 * years)) := by
  obtain ⟨k1, k2, k3, k4, k5⟩ := i_ok h
  have a := (at_mo e (by omega)).2.2.1 hd
  rw [a, show yr 3 = 360 from rfl] at k4 k5
  have eq : am * (ra * (30 * (12 * years))) / (10000 * 360) = am * (ra * years) / 10000 := by
    rw [show am * (ra * (30 * (12 * years))) = am * (ra * years) * 360 by grind]
    exact Int.mul_ediv_mul_of_pos_left _ _ (by omega)
  rw [eq] at k4 k5
  have r : 0 ≤ ra * years ∧ ra * years ≤ 500000 := ⟨Int.mul_nonneg k3.1 (by omega), by
    have : ra * years ≤ 10000 * 50 := Int.mul_le_mul k3.2 h1 (by omega) (by omega)
    omega⟩
  have p : M.POk am (ra * years) 10000 := ⟨k2, by omega, by omega⟩
  have q := M.pr_3 p k4
  rw [k5]
  exact ⟨q.1, q.2.1⟩
end Ac
end Go.Proofs.YthmmjoemapoafaaDoor

/- What time costs: the functions over the kinds' counters (interface values). -/
namespace Go.Proofs.YthmmjoemapoafaaDoor
open Go Go.RowKit V
set_option maxRecDepth 100000
set_option linter.unusedVariables false
set_option linter.unusedSimpArgs false
def I1 : Value := .iface (61) (.int .i64 360)
def I2 : Value := .iface (61) (.int .i64 365)
def I3 : Value := .iface (63) (.agg #[])
def ifc (kind : Int) : Value := if kind = 1 then I1 else if kind = 2 then I2 else if kind = 3 then I3 else .nilIface
theorem ifc_no {kind : Int} (h : kind < 1 ∨ 3 < kind) : ifc kind = .nilIface := by
  unfold ifc
  rw [if_neg (by omega), if_neg (by omega), if_neg (by omega)]
theorem kinds_any (w : World) : Calls Tryd.prog 35 #[] w fun e w' => ∃ b, e = .returned (.slice (some ⟨b, 0, none⟩) 3 3) ∧ Below w.heap.size w w' ∧ w'.cell? ⟨b, 0, none⟩ = some I1 ∧ w'.cell? ⟨b, 1, none⟩ = some I2 ∧ w'.cell? ⟨b, 2, none⟩ = some I3 := by
  go_enter Tryd.func35, Tryd.ntmps35
  go_wp2
  go_ret
  refine ⟨_, rfl, balloc (Below.refl _ _) _, ?_, ?_, ?_⟩
  all_goals (rw [(Blk.new w _ _).cell]; rfl)
theorem known_any (kind : Int) (w : World) : Calls Tryd.prog 23 #[.int .i64 kind] w fun e w' => e = .returned (ifc kind) ∧ Below w.heap.size w w' := by
  by_cases h1 : kind = 1
  · subst h1
    go_enter Tryd.func23, Tryd.ntmps23
    go_wp2_with (go_at_call 35; refine (kinds_any _).mono ?_; rintro e w1 ⟨b, rfl, hb1, k1, k2, k3⟩)
    go_ret
    exact ⟨rfl, bthen (by assumption) (by assumption)⟩
  by_cases h2 : kind = 2
  · subst h2
    go_enter Tryd.func23, Tryd.ntmps23
    go_wp2_with (go_at_call 35; refine (kinds_any _).mono ?_; rintro e w1 ⟨b, rfl, hb1, k1, k2, k3⟩)
    go_ret
    exact ⟨rfl, bthen (by assumption) (by assumption)⟩
  by_cases h3 : kind = 3
  · subst h3
    go_enter Tryd.func23, Tryd.ntmps23
    go_wp2_with (go_at_call 35; refine (kinds_any _).mono ?_; rintro e w1 ⟨b, rfl, hb1, k1, k2, k3⟩)
    go_ret
    exact ⟨rfl, bthen (by assumption) (by assumption)⟩
  rw [ifc_no (kind := kind) (by omega)]
  by_cases h : kind < 1
  · go_enter Tryd.func23, Tryd.ntmps23
    go_wp2_with (go_at_call 35; refine (kinds_any _).mono ?_; rintro e w1 ⟨b, rfl, hb1, k1, k2, k3⟩)
    go_ret
    exact ⟨rfl, Below.refl _ _⟩
  · have h4 : 3 < kind := by omega
    go_enter Tryd.func23, Tryd.ntmps23
    go_wp2_with (go_at_call 35; refine (kinds_any _).mono ?_; rintro e w1 ⟨b, rfl, hb1, k1, k2, k3⟩)
    go_ret
    exact ⟨rfl, by assumption⟩
theorem acCheck_any (kind a b : Int) (w : World) : Calls Tryd.prog 24 #[ifc kind, .int .i64 a, .int .i64 b] w fun e w' => e = .returned (.int .i64 (Ac.dE kind a b)) ∧ w = w' := by
  have c0 : ∀ n, D.chk n = 0 → Ac.Day n := fun n h => Classical.byContradiction fun q => by rw [D.chk_no q] at h; omega
  have c1 : ∀ n, ¬ D.chk n = 0 → ¬ Ac.Day n := fun n h q => h (D.chk_yes q.1 q.2)
  have c2 : ∀ n, (D.chk n != 0) = true → ¬ Ac.Day n := fun n h => c1 n (by simpa using h)
  have c3 : ∀ n, (D.chk n != 0) = false → Ac.Day n := fun n h => c0 n (by simpa using h)
  by_cases hk : kind < 1 ∨ 3 < kind
  · rw [ifc_no hk, Ac.dE_1 hk]
    clear c0 c1 c2 c3
    go_enter Tryd.func24, Tryd.ntmps24
    go_wp2
    go_ret
    exact ⟨rfl, rfl⟩
  have G1 := Ac.dE_2 (a := a) (b := b) hk
  have G2 := Ac.dE_3 (a := a) (b := b) hk
  have G3 := Ac.dE_4 (a := a) (b := b) hk
  by_cases h1 : kind = 1
  · subst h1
    have e : ifc 1 = I1 := rfl
    rw [e]
    unfold I1
    have H0 := hid c0
    have H1 := hid c1
    have H2 := hid c2
    have H3 := hid c3
    have K1 := hid G1
    have K2 := hid G2
    have K3 := hid G3
    clear c0 c1 c2 c3 G1 G2 G3
    generalize Ac.dE 1 a b = E at *
    go_enter Tryd.func24, Tryd.ntmps24
    go_wp2_with (go_at_call 18; refine (check_any _ _).mono ?_; rintro e w1 ⟨rfl, rfl⟩)
    all_goals (go_ret; refine ⟨?_, rfl⟩)
    · rename_i x y; exact ret_int (K1.out (fun q => H2.out _ y q.2)).symm
    · rename_i x y z; exact ret_int (K2.out ⟨H0.out _ x, H3.out _ y⟩ z).symm
    · rename_i x y z; exact ret_int (K3.out ⟨H0.out _ x, H3.out _ y⟩ (by omega)).symm
    · rename_i x; exact ret_int (K1.out (fun q => H1.out _ x q.1)).symm
  by_cases h2 : kind = 2
  · subst h2
    have e : ifc 2 = I2 := rfl
    rw [e]
    unfold I2
    have H0 := hid c0
    have H1 := hid c1
    have H2 := hid c2
    have H3 := hid c3
    have K1 := hid G1
    have K2 := hid G2
    have K3 := hid G3
    clear c0 c1 c2 c3 G1 G2 G3
    generalize Ac.dE 2 a b = E at *
    go_enter Tryd.func24, Tryd.ntmps24
    go_wp2_with (go_at_call 18; refine (check_any _ _).mono ?_; rintro e w1 ⟨rfl, rfl⟩)
    all_goals (go_ret; refine ⟨?_, rfl⟩)
    · rename_i x y; exact ret_int (K1.out (fun q => H2.out _ y q.2)).symm
    · rename_i x y z; exact ret_int (K2.out ⟨H0.out _ x, H3.out _ y⟩ z).symm
    · rename_i x y z; exact ret_int (K3.out ⟨H0.out _ x, H3.out _ y⟩ (by omega)).symm
    · rename_i x; exact ret_int (K1.out (fun q => H1.out _ x q.1)).symm
  by_cases h3 : kind = 3
  · subst h3
    have e : ifc 3 = I3 := rfl
    rw [e]
    unfold I3
    have H0 := hid c0
    have H1 := hid c1
    have H2 := hid c2
    have H3 := hid c3
    have K1 := hid G1
    have K2 := hid G2
    have K3 := hid G3
    clear c0 c1 c2 c3 G1 G2 G3
    generalize Ac.dE 3 a b = E at *
    go_enter Tryd.func24, Tryd.ntmps24
    go_wp2_with (go_at_call 18; refine (check_any _ _).mono ?_; rintro e w1 ⟨rfl, rfl⟩)
    all_goals (go_ret; refine ⟨?_, rfl⟩)
    · rename_i x y; exact ret_int (K1.out (fun q => H2.out _ y q.2)).symm
    · rename_i x y z; exact ret_int (K2.out ⟨H0.out _ x, H3.out _ y⟩ z).symm
    · rename_i x y z; exact ret_int (K3.out ⟨H0.out _ x, H3.out _ y⟩ (by omega)).symm
    · rename_i x; exact ret_int (K1.out (fun q => H1.out _ x q.1)).symm
  omega
theorem rdays_any (r a b : Int) (ha : Ac.Day a) (hb : Ac.Day b) (w : World) : Calls Tryd.prog 58 #[.int .i64 r, .int .i64 a, .int .i64 b] w fun e w' => e = .returned (.int .i64 (b - a)) ∧ Below w.heap.size w w' := by
  unfold Ac.Day at ha hb
  go_enter Tryd.func58, Tryd.ntmps58
  go_wp2
  go_ret
  exact ⟨rfl, Below.refl _ _⟩
theorem ryear_any (r : Int) (w : World) : Calls Tryd.prog 59 #[.int .i64 r] w fun e w' => e = .returned (.int .i64 r) ∧ Below w.heap.size w w' := by
  go_enter Tryd.func59, Tryd.ntmps59
  go_wp2
  go_ret
  exact ⟨rfl, Below.refl _ _⟩
theorem fyear_any (w : World) : Calls Tryd.prog 61 #[.agg #[]] w fun e w' => e = .returned (.int .i64 360) ∧ Below w.heap.size w w' := by
  go_enter Tryd.func61, Tryd.ntmps61
  go_wp2
  go_ret
  exact ⟨rfl, balloc (Below.refl _ _) _⟩
theorem v_acat (n : Int) (h : Ac.Day n) : V.Fn Tryd.prog 62 [dt] [.one (.val (.int .i64 n))] (.int .i64 (Ac.at_ n)) := by
  have b := D.of_bds h.1 h.2
  obtain ⟨b1, b2, b3, b4, b5, b6, _⟩ := b
  have o := v_dOf n
  obtain ⟨e1, e2, e3⟩ := D.o_yes h
  rw [e1, e2, e3] at o
  have E : Ac.at_ n = 360 * D.yO n + 30 * D.mO n + (if 30 < D.dO n then 30 else D.dO n) := rfl
  have hml := D.ml_bd (D.yO n) (D.mO n)
  generalize Ac.at_ n = A at *
  generalize D.ml (D.yO n) (D.mO n) = ML at *
  generalize D.yO n = y at *
  generalize D.mO n = m at *
  generalize D.dO n = d at *
  refine V.Fn.mk_ V.Tok V.mixed Tryd.func62 rfl Tryd.ntmps62 (by kernel_rfl) rfl rfl ?_
  repeat' ((conv => whnf); first | refine V.NCond.mk ?_ | refine V.NIf.not_ ?_ | refine V.NIf.dec_ ?_ | refine V.NIf.no (by omega) ?_ | refine V.NIf.yes (by omega) ?_ | refine V.NIf.mk (fun _ => ?_) (fun _ => ?_) | refine V.NWrap.ok (by omega) (by omega) ?_ | refine V.NWrap.u64 (by omega) (by omega) ?_ | refine V.NLt.mk (by omega) ?_ | refine V.NBoth.mk ?_ ?_ | refine V.NTF.yes (by omega) ?_ | refine V.NTF.no (by omega) ?_ | refine V.NTF.dec ?_ | refine V.NDraw.q (by exact rfl) (by kernel_rfl) ?_ | refine V.NApp.one (by first | omega | (simp; omega)) (by first | omega | (simp; omega)) ?_ | ((first | refine V.Fn.k (o) [0] rfl ?_ ?_ | refine V.Fn.q (o) [0] rfl ?_ ?_ | refine V.Fn.a (o) [0] rfl ?_ ?_); · ((repeat' (first | exact rfl | exact Iff.rfl | exact trivial | exact (fun _ _ => rfl) | exact (fun _ h => absurd h (Nat.not_lt_zero _)) | refine ⟨?_, ?_⟩ | exact Iff.rfl | exact congrArg (fun z => V.SV.one (V.At.val (Value.int .i64 z))) (by omega))); done)) | (refine V.NDraw.any (by kernel_rfl) ?_) | fail)
  all_goals (conv => whnf)
  all_goals exact congrArg (Value.int .i64) E.symm
theorem at_any (n : Int) (h : Ac.Day n) (w : World) (hl : LongIs w) : Calls Tryd.prog 62 #[.int .i64 n] w fun e w' => e = .returned (.int .i64 (Ac.at_ n)) ∧ Below w.heap.size w w' :=
  (v_acat n h).c w (fun i => [Value.pointer (some ⟨0, 0, none⟩)][i]?) [.int .i64 n] (fun i o ho => by
    rcases i with _ | i
    · obtain rfl := Option.some.inj ho
      exact ⟨_, rfl, rfl, tab_of_long hl⟩
    · simp at ho) ⟨_, _, rfl, rfl, rfl⟩
theorem long_below {w w' : World} (h : LongIs w) (hb : Below w.heap.size w w') : LongIs w' := fun m h1 h2 => by
  have c := h m h1 h2
  refine (hb.cell ?_).trans c
  rcases Nat.lt_or_ge 0 w.heap.size with q | q
  · exact q
  · unfold World.cell? at c
    rw [Array.getElem?_eq_none (by exact q)] at c
    cases c
theorem fdays_any (a b : Int) (ha : Ac.Day a) (hb : Ac.Day b) (w : World) (hl : LongIs w) : Calls Tryd.prog 60 #[.agg #[], .int .i64 a, .int .i64 b] w fun e w' => e = .returned (.int .i64 (Ac.at_ b - Ac.at_ a)) ∧ Below w.heap.size w w' := by
  have A1 := Ac.at_bd ha
  have A2 := Ac.at_bd hb
  have c1 := fun w q => at_any b hb w q
  have c2 := fun w q => at_any a ha w q
  clear ha hb
  generalize Ac.at_ a = X at *
  generalize Ac.at_ b = Y at *
  have L0 := hid (long_below hl (balloc (Below.refl _ _) (.cells #[] (63))))
  clear hl
  have C1 := hid c1
  have C2 := hid c2
  clear c1 c2
  go_enter Tryd.func60, Tryd.ntmps60
  go_wp2_with (go_at_call 62; first | (refine (C2.out _ L1.out).mono ?_; rintro e w2 ⟨rfl, hb2⟩) | (refine (C1.out _ L0.out).mono ?_; rintro e w1 ⟨rfl, hb1⟩; have L1 := hid (long_below L0.out hb1)))
  go_ret
  exact ⟨rfl, bthen (bthen (balloc (Below.refl _ _) _) hb1) hb2⟩
theorem Days_any (kind a b : Int) (w : World) (hl : LongIs w) : Calls Tryd.prog 9 #[.int .i64 kind, .int .i64 a, .int .i64 b] w fun e w' => e = .returned (.tuple #[.int .i64 (Ac.dV kind a b), .int .i64 (Ac.dE kind a b)]) ∧ Below w.heap.size w w' := by
  by_cases h : Ac.dE kind a b = 0
  · obtain ⟨hk, ha, hb, hab⟩ := Ac.dE_ok h
    rw [Ac.dV_yes h, h]
    by_cases h1 : kind = 1
    · subst h1
      have c1 : ∀ w : World, Calls Tryd.prog 23 #[.int .i64 1] w fun e w' => e = .returned (.iface (61) (.int .i64 360)) ∧ Below w.heap.size w w' := fun w => known_any 1 w
      have c2 : ∀ w : World, Calls Tryd.prog 24 #[.iface (61) (.int .i64 360), .int .i64 a, .int .i64 b] w fun e w' => e = .returned (.int .i64 0) ∧ w = w' := fun w => by have := acCheck_any 1 a b w; rw [h] at this; exact this
      have hm : ∀ w : World, (method 191 (61) (.int .i64 360) "demurrage/accrue.days").run Tryd.prog w = .ok (58, .int .i64 360) w := fun _ => by kernel_rfl
      go_enter Tryd.func9, Tryd.ntmps9
      go_wp2_with (first | (go_at_call 23; refine (c1 _).mono ?_; rintro e w1 ⟨rfl, hb1⟩) | (go_at_call 24; refine (c2 _).mono ?_; rintro e w2 ⟨rfl, rfl⟩) | (go_at_call 58; refine (rdays_any _ _ _ ha hb _).mono ?_; rintro e w3 ⟨rfl, hb3⟩))
      go_ret2
      exact ⟨rfl, bthen hb1 hb3⟩
    by_cases h2 : kind = 2
    · subst h2
      have c1 : ∀ w : World, Calls Tryd.prog 23 #[.int .i64 2] w fun e w' => e = .returned (.iface (61) (.int .i64 365)) ∧ Below w.heap.size w w' := fun w => known_any 2 w
      have c2 : ∀ w : World, Calls Tryd.prog 24 #[.iface (61) (.int .i64 365), .int .i64 a, .int .i64 b] w fun e w' => e = .returned (.int .i64 0) ∧ w = w' := fun w => by have := acCheck_any 2 a b w; rw [h] at this; exact this
      have hm : ∀ w : World, (method 191 (61) (.int .i64 365) "demurrage/accrue.days").run Tryd.prog w = .ok (58, .int .i64 365) w := fun _ => by kernel_rfl
      go_enter Tryd.func9, Tryd.ntmps9
      go_wp2_with (first | (go_at_call 23; refine (c1 _).mono ?_; rintro e w1 ⟨rfl, hb1⟩) | (go_at_call 24; refine (c2 _).mono ?_; rintro e w2 ⟨rfl, rfl⟩) | (go_at_call 58; refine (rdays_any _ _ _ ha hb _).mono ?_; rintro e w3 ⟨rfl, hb3⟩))
      go_ret2
      exact ⟨rfl, bthen hb1 hb3⟩
    obtain rfl : kind = 3 := by omega
    have c1 : ∀ w : World, Calls Tryd.prog 23 #[.int .i64 3] w fun e w' => e = .returned (.iface (63) (.agg #[])) ∧ Below w.heap.size w w' := fun w => known_any 3 w
    have c2 : ∀ w : World, Calls Tryd.prog 24 #[.iface (63) (.agg #[]), .int .i64 a, .int .i64 b] w fun e w' => e = .returned (.int .i64 0) ∧ w = w' := fun w => by have := acCheck_any 3 a b w; rw [h] at this; exact this
    have hm : ∀ w : World, (method 191 (63) (.agg #[]) "demurrage/accrue.days").run Tryd.prog w = .ok (60, .agg #[]) w := fun _ => by kernel_rfl
    have HL := hid hl
    clear hl
    have c3 : ∀ w' : World, Below w.heap.size w w' → Calls Tryd.prog 60 #[.agg #[], .int .i64 a, .int .i64 b] w' fun e w2 => e = .returned (.int .i64 (Ac.dd 3 a b)) ∧ Below w'.heap.size w' w2 := fun w' hb' => fdays_any a b ha hb w' (long_below HL.out hb')
    go_enter Tryd.func9, Tryd.ntmps9
    go_wp2_with (first | (go_at_call 23; refine (c1 _).mono ?_; rintro e w1 ⟨rfl, hb1⟩) | (go_at_call 24; refine (c2 _).mono ?_; rintro e w2 ⟨rfl, rfl⟩) | (go_at_call 60; refine (c3 _ hb1).mono ?_; rintro e w3 ⟨rfl, hb3⟩))
    go_ret2
    exact ⟨rfl, bthen hb1 hb3⟩
  · rw [Ac.dV_no h]
    go_enter Tryd.func9, Tryd.ntmps9
    go_wp2_with (first | (go_at_call 23; refine (known_any _ _).mono ?_; rintro e w1 ⟨rfl, hb1⟩) | (go_at_call 24; refine (acCheck_any _ _ _ _).mono ?_; rintro e w2 ⟨rfl, rfl⟩))
    go_ret2
    exact ⟨rfl, hb1⟩
theorem Year_any (kind : Int) (w : World) : Calls Tryd.prog 14 #[.int .i64 kind] w fun e w' => e = .returned (.tuple #[.int .i64 (Ac.yV kind), .int .i64 (Ac.yE kind)]) ∧ Below w.heap.size w w' := by
  by_cases h : kind < 1 ∨ 3 < kind
  · have e1 : Ac.yV kind = 0 := if_pos h
    have e2 : Ac.yE kind = 7 := if_pos h
    rw [e1, e2]
    have c1 : ∀ w : World, Calls Tryd.prog 23 #[.int .i64 kind] w fun e w' => e = .returned .nilIface ∧ Below w.heap.size w w' := fun w => by have := known_any kind w; rw [ifc_no h] at this; exact this
    clear e1 e2 h
    go_enter Tryd.func14, Tryd.ntmps14
    go_wp2_with (go_at_call 23; refine (c1 _).mono ?_; rintro e w1 ⟨rfl, hb1⟩)
    go_ret2
    exact ⟨rfl, hb1⟩
  by_cases h1 : kind = 1
  · subst h1
    clear h
    have c1 : ∀ w : World, Calls Tryd.prog 23 #[.int .i64 1] w fun e w' => e = .returned (.iface (61) (.int .i64 360)) ∧ Below w.heap.size w w' := fun w => known_any 1 w
    have hm : ∀ w : World, (method 191 (61) (.int .i64 360) "demurrage/accrue.year").run Tryd.prog w = .ok (59, (.int .i64 360)) w := fun _ => by kernel_rfl
    go_enter Tryd.func14, Tryd.ntmps14
    go_wp2_with (first | (go_at_call 23; refine (c1 _).mono ?_; rintro e w1 ⟨rfl, hb1⟩) | (go_at_call 59; refine (ryear_any 360 _).mono ?_; rintro e w3 ⟨rfl, hb3⟩))
    go_ret2
    exact ⟨rfl, bthen hb1 hb3⟩
  by_cases h2 : kind = 2
  · subst h2
    clear h
    have c1 : ∀ w : World, Calls Tryd.prog 23 #[.int .i64 2] w fun e w' => e = .returned (.iface (61) (.int .i64 365)) ∧ Below w.heap.size w w' := fun w => known_any 2 w
    have hm : ∀ w : World, (method 191 (61) (.int .i64 365) "demurrage/accrue.year").run Tryd.prog w = .ok (59, (.int .i64 365)) w := fun _ => by kernel_rfl
    go_enter Tryd.func14, Tryd.ntmps14
    go_wp2_with (first | (go_at_call 23; refine (c1 _).mono ?_; rintro e w1 ⟨rfl, hb1⟩) | (go_at_call 59; refine (ryear_any 365 _).mono ?_; rintro e w3 ⟨rfl, hb3⟩))
    go_ret2
    exact ⟨rfl, bthen hb1 hb3⟩
  obtain rfl : kind = 3 := by omega
  · clear h
    have c1 : ∀ w : World, Calls Tryd.prog 23 #[.int .i64 3] w fun e w' => e = .returned (.iface (63) (.agg #[])) ∧ Below w.heap.size w w' := fun w => known_any 3 w
    have hm : ∀ w : World, (method 191 (63) (.agg #[]) "demurrage/accrue.year").run Tryd.prog w = .ok (61, (.agg #[])) w := fun _ => by kernel_rfl
    go_enter Tryd.func14, Tryd.ntmps14
    go_wp2_with (first | (go_at_call 23; refine (c1 _).mono ?_; rintro e w1 ⟨rfl, hb1⟩) | (go_at_call 61; refine (fyear_any _).mono ?_; rintro e w3 ⟨rfl, hb3⟩))
    go_ret2
    exact ⟨rfl, bthen hb1 hb3⟩
theorem mchk_any (a : Int) (w : World) : Calls Tryd.prog 28 #[.int .i64 a] w fun e w' => e = .returned (.int .i64 (M.chk a)) ∧ Below w.heap.size w w' :=
  (v_check a).c w (fun _ => none) [.int .i64 a] (fun i o ho => by simp at ho) ⟨_, _, rfl, rfl, rfl⟩
theorem part_any (a b c : Int) (w : World) : Calls Tryd.prog 12 #[.int .i64 a, .int .i64 b, .int .i64 c] w fun e w' => e = .returned (.tuple #[.int .i64 (M.prQ a b c), .int .i64 (M.prR a b c), .int .i64 (M.prE a b c)]) ∧ Below w.heap.size w w' :=
  (v_part a b c).c w (fun _ => none) [.int .i64 a, .int .i64 b, .int .i64 c] (fun i o ho => by simp at ho) ⟨_, _, rfl, rfl, _, _, rfl, rfl, _, _, rfl, rfl, rfl⟩
theorem int_err (kind am ra a b : Int) (w : World) (h : ¬ Ac.dE kind a b = 0) : Calls Tryd.prog 11 #[.int .i64 kind, .int .i64 am, .int .i64 ra, .int .i64 a, .int .i64 b] w fun e w' => e = .returned (.tuple #[.int .i64 0, .int .i64 (Ac.dE kind a b)]) ∧ Below w.heap.size w w' := by
  have c1 := fun w => known_any kind w
  have c2 := fun w => acCheck_any kind a b w
  generalize ifc kind = I at *
  generalize Ac.dE kind a b = E at *
  go_enter Tryd.func11, Tryd.ntmps11
  go_wp2_with (first | (go_at_call 23; refine (c1 _).mono ?_; rintro e w1 ⟨rfl, hb1⟩) | (go_at_call 24; refine (c2 _).mono ?_; rintro e w2 ⟨rfl, rfl⟩))
  go_ret2
  exact ⟨rfl, hb1⟩
theorem int_am (kind am ra a b : Int) (w : World) (h : Ac.dE kind a b = 0) (k : ¬ M.chk am = 0) : Calls Tryd.prog 11 #[.int .i64 kind, .int .i64 am, .int .i64 ra, .int .i64 a, .int .i64 b] w fun e w' => e = .returned (.tuple #[.int .i64 0, .int .i64 (M.chk am)]) ∧ Below w.heap.size w w' := by
  have c1 := fun w => known_any kind w
  have c2 := fun w => acCheck_any kind a b w
  have c4 := fun w => mchk_any am w
  rw [h] at c2
  clear h
  generalize ifc kind = I at *
  generalize M.chk am = E at *
  go_enter Tryd.func11, Tryd.ntmps11
  go_wp2_with (first | (go_at_call 23; refine (c1 _).mono ?_; rintro e w1 ⟨rfl, hb1⟩) | (go_at_call 24; refine (c2 _).mono ?_; rintro e w2 ⟨rfl, rfl⟩) | (go_at_call 28; refine (c4 _).mono ?_; rintro e w4 ⟨rfl, hb4⟩))
  go_ret2
  exact ⟨rfl, bthen hb1 hb4⟩
theorem int_ra (kind am ra a b : Int) (w : World) (h : Ac.dE kind a b = 0) (k : M.chk am = 0) (q : ra < 0 ∨ 10000 < ra) : Calls Tryd.prog 11 #[.int .i64 kind, .int .i64 am, .int .i64 ra, .int .i64 a, .int .i64 b] w fun e w' => e = .returned (.tuple #[.int .i64 0, .int .i64 3]) ∧ Below w.heap.size w w' := by
  have c1 := fun w => known_any kind w
  have c2 := fun w => acCheck_any kind a b w
  have c4 := fun w => mchk_any am w
  rw [h] at c2
  rw [k] at c4
  clear h k
  generalize ifc kind = I at *
  by_cases q1 : ra < 0
  · go_enter Tryd.func11, Tryd.ntmps11
    go_wp2_with (first | (go_at_call 23; refine (c1 _).mono ?_; rintro e w1 ⟨rfl, hb1⟩) | (go_at_call 24; refine (c2 _).mono ?_; rintro e w2 ⟨rfl, rfl⟩) | (go_at_call 28; refine (c4 _).mono ?_; rintro e w4 ⟨rfl, hb4⟩))
    go_ret2
    exact ⟨rfl, bthen hb1 hb4⟩
  · have q2 : 10000 < ra := by omega
    go_enter Tryd.func11, Tryd.ntmps11
    go_wp2_with (first | (go_at_call 23; refine (c1 _).mono ?_; rintro e w1 ⟨rfl, hb1⟩) | (go_at_call 24; refine (c2 _).mono ?_; rintro e w2 ⟨rfl, rfl⟩) | (go_at_call 28; refine (c4 _).mono ?_; rintro e w4 ⟨rfl, hb4⟩))
    go_ret2
    exact ⟨rfl, bthen hb1 hb4⟩
theorem int_1 (am ra a b : Int) (w : World) (hl : LongIs w) (h : Ac.dE 1 a b = 0) (k : M.chk am = 0) (q : 0 ≤ ra ∧ ra ≤ 10000) : Calls Tryd.prog 11 #[.int .i64 1, .int .i64 am, .int .i64 ra, .int .i64 a, .int .i64 b] w fun e w' => e = .returned (.tuple #[.int .i64 (M.prQ am (ra * Ac.dd 1 a b) 3600000), .int .i64 (M.prE am (ra * Ac.dd 1 a b) 3600000)]) ∧ Below w.heap.size w w' := by
  have c1 : ∀ w : World, Calls Tryd.prog 23 #[.int .i64 1] w fun e w' => e = .returned (.iface (61) (.int .i64 360)) ∧ Below w.heap.size w w' := fun w => known_any 1 w
  have c2 : ∀ w : World, Calls Tryd.prog 24 #[.iface (61) (.int .i64 360), .int .i64 a, .int .i64 b] w fun e w' => e = .returned (.int .i64 0) ∧ w = w' := fun w => by have := acCheck_any 1 a b w; rw [h] at this; exact this
  have c4 := fun w => mchk_any am w
  have hm : ∀ w : World, (method 191 (61) (.int .i64 360) "demurrage/accrue.days").run Tryd.prog w = .ok (58, (.int .i64 360)) w := fun _ => by kernel_rfl
  have hn : ∀ w : World, (method 191 (61) (.int .i64 360) "demurrage/accrue.year").run Tryd.prog w = .ok (59, (.int .i64 360)) w := fun _ => by kernel_rfl
  have HL := hid hl
  obtain ⟨_, ha, hb, _⟩ := Ac.dE_ok h
  have c5 : ∀ w' : World, Below w.heap.size w w' → Calls Tryd.prog 58 #[.int .i64 360, .int .i64 a, .int .i64 b] w' fun e w2 => e = .returned (.int .i64 (Ac.dd 1 a b)) ∧ Below w'.heap.size w' w2 := fun w' hb' => rdays_any 360 a b ha hb w'
  have d := Ac.dd_bd h
  have r := Ac.rate_bd q d
  rw [k] at c4
  clear h k hl ha hb
  generalize Ac.dd 1 a b = dd at *
  have c6 := fun w => part_any am (ra * dd) 3600000 w
  have W1 : IntKind.i64.wrap (ra * dd) = ra * dd := by rw [IntKind.wrap_i64]; omega
  go_enter Tryd.func11, Tryd.ntmps11
  go_wp2_with (first | (go_at_call 23; refine (c1 _).mono ?_; rintro e w1 ⟨rfl, hb1⟩) | (go_at_call 24; refine (c2 _).mono ?_; rintro e w2 ⟨rfl, rfl⟩) | (go_at_call 28; refine (c4 _).mono ?_; rintro e w4 ⟨rfl, hb4⟩) | (go_at_call 58; refine (c5 _ (bthen hb1 hb4)).mono ?_; rintro e w5 ⟨rfl, hb5⟩) | (go_at_call 59; refine (ryear_any 360 _).mono ?_; rintro e w6 ⟨rfl, hb6⟩) | (go_at_call 12; refine (c6 _).mono ?_; rintro e w7 ⟨rfl, hb7⟩))
  go_ret2
  exact ⟨rfl, bthen (bthen (bthen (bthen hb1 hb4) hb5) hb6) hb7⟩
theorem int_2 (am ra a b : Int) (w : World) (hl : LongIs w) (h : Ac.dE 2 a b = 0) (k : M.chk am = 0) (q : 0 ≤ ra ∧ ra ≤ 10000) : Calls Tryd.prog 11 #[.int .i64 2, .int .i64 am, .int .i64 ra, .int .i64 a, .int .i64 b] w fun e w' => e = .returned (.tuple #[.int .i64 (M.prQ am (ra * Ac.dd 2 a b) 3650000), .int .i64 (M.prE am (ra * Ac.dd 2 a b) 3650000)]) ∧ Below w.heap.size w w' := by
  have c1 : ∀ w : World, Calls Tryd.prog 23 #[.int .i64 2] w fun e w' => e = .returned (.iface (61) (.int .i64 365)) ∧ Below w.heap.size w w' := fun w => known_any 2 w
  have c2 : ∀ w : World, Calls Tryd.prog 24 #[.iface (61) (.int .i64 365), .int .i64 a, .int .i64 b] w fun e w' => e = .returned (.int .i64 0) ∧ w = w' := fun w => by have := acCheck_any 2 a b w; rw [h] at this; exact this
  have c4 := fun w => mchk_any am w
  have hm : ∀ w : World, (method 191 (61) (.int .i64 365) "demurrage/accrue.days").run Tryd.prog w = .ok (58, (.int .i64 365)) w := fun _ => by kernel_rfl
  have hn : ∀ w : World, (method 191 (61) (.int .i64 365) "demurrage/accrue.year").run Tryd.prog w = .ok (59, (.int .i64 365)) w := fun _ => by kernel_rfl
  have HL := hid hl
  obtain ⟨_, ha, hb, _⟩ := Ac.dE_ok h
  have c5 : ∀ w' : World, Below w.heap.size w w' → Calls Tryd.prog 58 #[.int .i64 365, .int .i64 a, .int .i64 b] w' fun e w2 => e = .returned (.int .i64 (Ac.dd 2 a b)) ∧ Below w'.heap.size w' w2 := fun w' hb' => rdays_any 365 a b ha hb w'
  have d := Ac.dd_bd h
  have r := Ac.rate_bd q d
  rw [k] at c4
  clear h k hl ha hb
  generalize Ac.dd 2 a b = dd at *
  have c6 := fun w => part_any am (ra * dd) 3650000 w
  have W1 : IntKind.i64.wrap (ra * dd) = ra * dd := by rw [IntKind.wrap_i64]; omega
  go_enter Tryd.func11, Tryd.ntmps11
  go_wp2_with (first | (go_at_call 23; refine (c1 _).mono ?_; rintro e w1 ⟨rfl, hb1⟩) | (go_at_call 24; refine (c2 _).mono ?_; rintro e w2 ⟨rfl, rfl⟩) | (go_at_call 28; refine (c4 _).mono ?_; rintro e w4 ⟨rfl, hb4⟩) | (go_at_call 58; refine (c5 _ (bthen hb1 hb4)).mono ?_; rintro e w5 ⟨rfl, hb5⟩) | (go_at_call 59; refine (ryear_any 365 _).mono ?_; rintro e w6 ⟨rfl, hb6⟩) | (go_at_call 12; refine (c6 _).mono ?_; rintro e w7 ⟨rfl, hb7⟩))
  go_ret2
  exact ⟨rfl, bthen (bthen (bthen (bthen hb1 hb4) hb5) hb6) hb7⟩
theorem int_3 (am ra a b : Int) (w : World) (hl : LongIs w) (h : Ac.dE 3 a b = 0) (k : M.chk am = 0) (q : 0 ≤ ra ∧ ra ≤ 10000) : Calls Tryd.prog 11 #[.int .i64 3, .int .i64 am, .int .i64 ra, .int .i64 a, .int .i64 b] w fun e w' => e = .returned (.tuple #[.int .i64 (M.prQ am (ra * Ac.dd 3 a b) 3600000), .int .i64 (M.prE am (ra * Ac.dd 3 a b) 3600000)]) ∧ Below w.heap.size w w' := by
  have c1 : ∀ w : World, Calls Tryd.prog 23 #[.int .i64 3] w fun e w' => e = .returned (.iface (63) (.agg #[])) ∧ Below w.heap.size w w' := fun w => known_any 3 w
  have c2 : ∀ w : World, Calls Tryd.prog 24 #[.iface (63) (.agg #[]), .int .i64 a, .int .i64 b] w fun e w' => e = .returned (.int .i64 0) ∧ w = w' := fun w => by have := acCheck_any 3 a b w; rw [h] at this; exact this
  have c4 := fun w => mchk_any am w
  have hm : ∀ w : World, (method 191 (63) (.agg #[]) "demurrage/accrue.days").run Tryd.prog w = .ok (60, (.agg #[])) w := fun _ => by kernel_rfl
  have hn : ∀ w : World, (method 191 (63) (.agg #[]) "demurrage/accrue.year").run Tryd.prog w = .ok (61, (.agg #[])) w := fun _ => by kernel_rfl
  have HL := hid hl
  obtain ⟨_, ha, hb, _⟩ := Ac.dE_ok h
  have c5 : ∀ w' : World, Below w.heap.size w w' → Calls Tryd.prog 60 #[.agg #[], .int .i64 a, .int .i64 b] w' fun e w2 => e = .returned (.int .i64 (Ac.dd 3 a b)) ∧ Below w'.heap.size w' w2 := fun w' hb' => fdays_any a b ha hb w' (long_below HL.out hb')
  have d := Ac.dd_bd h
  have r := Ac.rate_bd q d
  rw [k] at c4
  clear h k hl ha hb
  generalize Ac.dd 3 a b = dd at *
  have c6 := fun w => part_any am (ra * dd) 3600000 w
  have W1 : IntKind.i64.wrap (ra * dd) = ra * dd := by rw [IntKind.wrap_i64]; omega
  go_enter Tryd.func11, Tryd.ntmps11
  go_wp2_with (first | (go_at_call 23; refine (c1 _).mono ?_; rintro e w1 ⟨rfl, hb1⟩) | (go_at_call 24; refine (c2 _).mono ?_; rintro e w2 ⟨rfl, rfl⟩) | (go_at_call 28; refine (c4 _).mono ?_; rintro e w4 ⟨rfl, hb4⟩) | (go_at_call 60; refine (c5 _ (bthen hb1 hb4)).mono ?_; rintro e w5 ⟨rfl, hb5⟩) | (go_at_call 61; refine (fyear_any _).mono ?_; rintro e w6 ⟨rfl, hb6⟩) | (go_at_call 12; refine (c6 _).mono ?_; rintro e w7 ⟨rfl, hb7⟩))
  go_ret2
  exact ⟨rfl, bthen (bthen (bthen (bthen hb1 hb4) hb5) hb6) hb7⟩
theorem Interest_any (kind am ra a b : Int) (w : World) (hl : LongIs w) : Calls Tryd.prog 11 #[.int .i64 kind, .int .i64 am, .int .i64 ra, .int .i64 a, .int .i64 b] w fun e w' => e = .returned (.tuple #[.int .i64 (Ac.iV kind am ra a b), .int .i64 (Ac.iE kind am ra a b)]) ∧ Below w.heap.size w w' := by
  by_cases h : Ac.dE kind a b = 0
  · by_cases k : M.Amt am
    · have k' : M.chk am = 0 := if_pos k
      by_cases q : ra < 0 ∨ 10000 < ra
      · rw [(Ac.i_3 h k q).1, (Ac.i_3 h k q).2]
        exact int_ra kind am ra a b w h k' q
      · rw [(Ac.i_4 h k q).1, (Ac.i_4 h k q).2]
        obtain ⟨hk, _⟩ := Ac.dE_ok h
        rcases (by omega : kind = 1 ∨ kind = 2 ∨ kind = 3) with rfl | rfl | rfl
        · exact int_1 am ra a b w hl h k' (by omega)
        · exact int_2 am ra a b w hl h k' (by omega)
        · exact int_3 am ra a b w hl h k' (by omega)
    · have k' : M.chk am = 3 := if_neg k
      rw [(Ac.i_2 h k).1, (Ac.i_2 h k).2, ← k']
      exact int_am kind am ra a b w h (by omega)
  · rw [(Ac.i_1 h).1, (Ac.i_1 h).2]
    exact int_err kind am ra a b w h
theorem V.Fn.oldB {P : Program} {f : FuncId} {os : List Ob} {x : Value} (vs : List Value) (hb : hasBody P f = true) (h : ∀ w, (∀ (i : Nat) o, os[i]? = some o → ∃ v, Ro w v o) → Calls P f vs.toArray w fun e w' => e = .returned x ∧ Below w.heap.size w w') : Fn P f os (vs.map fun v => SV.one (.val v)) x :=
  ⟨hb, fun w ρ xs ho hs => by
    rw [Svs.vals_ hs]
    exact h w fun i o e => by obtain ⟨v, _, q⟩ := ho i o e; exact ⟨v, q⟩⟩
theorem v_Days (kind a b : Int) : V.Fn Tryd.prog 9 [dt] [.one (.val (.int .i64 kind)), .one (.val (.int .i64 a)), .one (.val (.int .i64 b))] (.tuple #[.int .i64 (Ac.dV kind a b), .int .i64 (Ac.dE kind a b)]) :=
  V.Fn.oldB [.int .i64 kind, .int .i64 a, .int .i64 b] (by kernel_rfl) fun w h => Days_any kind a b w (long_ro h)
theorem v_Year (kind : Int) : V.Fn Tryd.prog 14 [] [.one (.val (.int .i64 kind))] (.tuple #[.int .i64 (Ac.yV kind), .int .i64 (Ac.yE kind)]) :=
  V.Fn.oldB [.int .i64 kind] (by kernel_rfl) fun w h => Year_any kind w
theorem v_Interest (kind am ra a b : Int) : V.Fn Tryd.prog 11 [dt] [.one (.val (.int .i64 kind)), .one (.val (.int .i64 am)), .one (.val (.int .i64 ra)), .one (.val (.int .i64 a)), .one (.val (.int .i64 b))] (.tuple #[.int .i64 (Ac.iV kind am ra a b), .int .i64 (Ac.iE kind am ra a b)]) :=
  V.Fn.oldB [.int .i64 kind, .int .i64 am, .int .i64 ra, .int .i64 a, .int .i64 b] (by kernel_rfl) fun w h => Interest_any kind am ra a b w (long_ro h)
end Go.Proofs.YthmmjoemapoafaaDoor

/- Plain facts on sums that are taken from above and below. -/
namespace Go.Proofs.YthmmjoemapoafaaDoor
namespace M
def mo (l : List Int) : List Int := l.filter fun a => decide (0 ≤ a)
def le (l : List Int) : List Int := l.filter fun a => !decide (0 ≤ a)
theorem mo_snoc {l : List Int} {k : Nat} (h : k < l.length) : mo (l.take (k + 1)) = if 0 ≤ l[k] then mo (l.take k) ++ [l[k]] else mo (l.take k) := by
  unfold mo; rw [List.take_succ_eq_append_getElem h, List.filter_append]; split <;> simp_all
theorem le_snoc {l : List Int} {k : Nat} (h : k < l.length) : le (l.take (k + 1)) = if 0 ≤ l[k] then le (l.take k) else le (l.take k) ++ [l[k]] := by
  unfold le; rw [List.take_succ_eq_append_getElem h, List.filter_append]; split <;> simp_all
theorem mole_len (l : List Int) (k : Nat) (h : k ≤ l.length) : (mo (l.take k)).length ≤ k ∧ (le (l.take k)).length ≤ k := by
  have h1 := List.length_filter_le (fun a : Int => decide (0 ≤ a)) (l.take k)
  have h2 := List.length_filter_le (fun a : Int => !decide (0 ≤ a)) (l.take k)
  rw [List.length_take_of_le h] at h1 h2
  exact ⟨h1, h2⟩
theorem mole_sum : ∀ l : List Int, sum (mo l) + sum (le l) = sum l
  | [] => rfl
  | a :: r => by
    have := mole_sum r
    unfold mo le at *
    by_cases h : 0 ≤ a <;> simp [h, sum] <;> omega
theorem sum_take_drop (l : List Int) (i : Nat) : sum (l.take i) + sum (l.drop i) = sum l := by rw [← sum_append, List.take_append_drop]
theorem sum_take_succ {l : List Int} {i : Nat} (h : i < l.length) : sum (l.take (i + 1)) = sum (l.take i) + l[i] := by
  rw [List.take_succ_eq_append_getElem h, sum_append]; simp [sum]
theorem sum_pos {l : List Int} (h : ∀ a ∈ l, 0 ≤ a) : 0 ≤ sum l := by
  induction l with
  | nil => simp [sum]
  | cons a r ih => have := h a (by simp); have := ih fun x hx => h x (by simp [hx]); simp only [sum]; omega
theorem sum_neg {l : List Int} (h : ∀ a ∈ l, a ≤ 0) : sum l ≤ 0 := by
  induction l with
  | nil => simp [sum]
  | cons a r ih => have := h a (by simp); have := ih fun x hx => h x (by simp [hx]); simp only [sum]; omega
theorem sum_drop_pos {l : List Int} (h : ∀ a ∈ l, 0 ≤ a) (i : Nat) : sum (l.take i) + sum (l.drop i) = sum l ∧ 0 ≤ sum (l.drop i) ∧ (l.length ≤ i → sum (l.drop i) = 0) ∧ (i < l.length → l.getD (0 + i) default ≤ sum (l.drop i) ∧ sum (l.take (i + 1)) = sum (l.take i) + l.getD (0 + i) default) := by
  refine ⟨sum_take_drop l i, sum_pos fun a ha => h a (List.mem_of_mem_drop ha), fun hi => by rw [List.drop_eq_nil_of_le hi]; rfl, fun hi => ?_⟩
  rw [Nat.zero_add, getD_at hi]
  refine ⟨?_, sum_take_succ hi⟩
  rw [List.drop_eq_getElem_cons hi]
  have := sum_pos (l := l.drop (i + 1)) fun a ha => h a (List.mem_of_mem_drop ha)
  simp only [sum]; omega
theorem sum_drop_neg {l : List Int} (h : ∀ a ∈ l, a ≤ 0) (i : Nat) : sum (l.take i) + sum (l.drop i) = sum l ∧ sum (l.drop i) ≤ 0 ∧ (l.length ≤ i → sum (l.drop i) = 0) ∧ (i < l.length → sum (l.drop i) ≤ l.getD (0 + i) default ∧ sum (l.take (i + 1)) = sum (l.take i) + l.getD (0 + i) default) := by
  refine ⟨sum_take_drop l i, sum_neg fun a ha => h a (List.mem_of_mem_drop ha), fun hi => by rw [List.drop_eq_nil_of_le hi]; rfl, fun hi => ?_⟩
  rw [Nat.zero_add, getD_at hi]
  refine ⟨?_, sum_take_succ hi⟩
  rw [List.drop_eq_getElem_cons hi]
  have := sum_neg (l := l.drop (i + 1)) fun a ha => h a (List.mem_of_mem_drop ha)
  simp only [sum]; omega
theorem mo_pos (l : List Int) : ∀ a ∈ mo l, 0 ≤ a := fun a h => by simpa using (List.mem_filter.1 h).2
theorem le_neg (l : List Int) : ∀ a ∈ le l, a ≤ 0 := fun a h => by have := (List.mem_filter.1 h).2; simp at this; omega
end M
namespace M
def sofV (l : List Int) : Int := if -2305843009213693952 ≤ sum l ∧ sum l ≤ 2305843009213693952 then sum l else 0
end M
end Go.Proofs.YthmmjoemapoafaaDoor

/- What the document's answers on amounts are. -/
namespace Go.Proofs.YthmmjoemapoafaaDoor
open Go Go.RowKit V
set_option maxRecDepth 100000
set_option linter.unusedVariables false
namespace M
theorem chk0 {a : Int} : chk a = 0 ↔ (-1152921504606846976 ≤ a ∧ a ≤ 1152921504606846976) := ⟨chk_ok, chk_yes⟩
end M
namespace M
def poQ (a b c : Int) : Int := if 2305843009213693952 < a * b / c then -1 else a * b / c
def poR (a b c : Int) : Int := if 2305843009213693952 < a * b / c then 0 else a * b % c
theorem bit2 (b : Int) (m : Nat) : b / 2 ^ m = 2 * (b / 2 ^ (m + 1)) + b / 2 ^ m % 2 := by
  have p : (0 : Int) ≤ 2 ^ m := Int.le_of_lt (Int.pow_pos (by omega))
  rw [Int.pow_succ, ← Int.ediv_ediv_of_nonneg p]
  omega
theorem po1 {a b c q r t : Int} {m : Nat} (hJ : q * c + r = a * (b / 2 ^ (m + 1))) (ht : t = b / 2 ^ m % 2) (h1 : t = 1) : (2 * q + a / c + (2 * r + a % c) / c) * c + (2 * r + a % c) % c = a * (b / 2 ^ m) := by
  have h2 := qr a c
  have h3 := qr (2 * r + a % c) c
  have h4 := bit2 b m
  generalize b / 2 ^ m = X at *
  generalize b / 2 ^ (m + 1) = Y at *
  have h5 : X = 2 * Y + 1 := by omega
  clear h4 ht
  grind
theorem po0 {a b c q r t : Int} {m : Nat} (hJ : q * c + r = a * (b / 2 ^ (m + 1))) (ht : t = b / 2 ^ m % 2) (h0 : 0 ≤ t) (h2 : t < 2) (h1 : ¬ t = 1) : (2 * q + (2 * r) / c) * c + (2 * r) % c = a * (b / 2 ^ m) := by
  have h3 := qr (2 * r) c
  have h4 := bit2 b m
  generalize b / 2 ^ m = X at *
  generalize b / 2 ^ (m + 1) = Y at *
  have h5 : X = 2 * Y := by omega
  clear h4 ht
  grind
theorem po_big {a b c Q R : Int} {m : Nat} (ha : 0 ≤ a) (hb : 0 ≤ b) (hc : 1 ≤ c) (h : Q * c + R = a * (b / 2 ^ m)) (hR : 0 ≤ R) (hQ : 2305843009213693952 < Q) : -1 = poQ a b c ∧ 0 = poR a b c := by
  have h1 : b / 2 ^ m ≤ b := Int.ediv_le_self _ hb
  have h2 : a * (b / 2 ^ m) ≤ a * b := Int.mul_le_mul_of_nonneg_left h1 ha
  have h3 : Q ≤ a * b / c := (Int.le_ediv_iff_mul_le (by omega)).2 (by omega)
  unfold poQ poR
  rw [if_pos (by omega), if_pos (by omega)]; exact ⟨rfl, rfl⟩
theorem po_end {a b c q r : Int} (hc : 1 ≤ c) (h : q * c + r = a * (b / 2 ^ 0)) (hr : 0 ≤ r ∧ r < c) (hq : q ≤ 2305843009213693952) : q = poQ a b c ∧ r = poR a b c := by
  have e : b / 2 ^ 0 = b := by simp
  rw [e] at h
  have h1 : a * b / c = q := by
    rw [← h, Int.add_comm, Int.add_mul_ediv_right _ _ (by omega), Int.ediv_eq_zero_of_lt hr.1 hr.2]; omega
  have h2 : a * b % c = r := by
    rw [← h, Int.add_comm, Int.add_mul_emod_self_right]; exact Int.emod_eq_of_lt hr.1 hr.2
  unfold poQ poR
  rw [if_neg (by omega), if_neg (by omega), h1, h2]; exact ⟨rfl, rfl⟩
end M
namespace M
theorem po_at {a b c : Int} (ha : 0 ≤ a) (hb : 0 ≤ b) (hc : 1 ≤ c) : (poQ a b c = -1 ∧ 2305843009213693952 < a * b / c) ∨ (poQ a b c = a * b / c ∧ poR a b c = a * b % c ∧ 0 ≤ a * b / c ∧ a * b / c ≤ 2305843009213693952 ∧ 0 ≤ a * b % c ∧ a * b % c < c) := by
  have h1 : 0 ≤ a * b / c := Int.ediv_nonneg (Int.mul_nonneg ha hb) (by omega)
  have h2 := r_bd (x := a * b) hc
  unfold poQ poR
  by_cases h : 2305843009213693952 < a * b / c
  · left; rw [if_pos h]; exact ⟨rfl, h⟩
  · right; rw [if_neg h, if_neg h]; exact ⟨rfl, rfl, h1, by omega, h2.1, h2.2⟩
theorem po_key (a b c : Int) (hb : 0 ≤ b) (hc : 1 ≤ c) : (0 ≤ a → (poQ (1 * a) b c = -1 ∧ 2305843009213693952 < a * b / c) ∨ (poQ (1 * a) b c = a * b / c ∧ poR (1 * a) b c = a * b % c ∧ 0 ≤ a * b / c ∧ a * b / c ≤ 2305843009213693952 ∧ 0 ≤ a * b % c ∧ a * b % c < c)) ∧
    (a < 0 → (poQ (-1 * a) b c = -1 ∧ a * b / c < -2305843009213693952) ∨ ((0 ≤ poQ (-1 * a) b c ∧ poQ (-1 * a) b c ≤ 2305843009213693952) ∧ ((poR (-1 * a) b c = 0 ∧ a * b / c = -poQ (-1 * a) b c ∧ a * b % c = 0) ∨ (0 < poR (-1 * a) b c ∧ a * b / c = -poQ (-1 * a) b c - 1 ∧ a * b % c = c - poR (-1 * a) b c ∧ poR (-1 * a) b c < c)))) := by
  refine ⟨fun ha => ?_, fun ha => ?_⟩
  · rw [Int.one_mul]; exact po_at ha hb hc
  · have e : a * b = -(-1 * a * b) := by grind
    rw [e]
    generalize hx : -1 * a = x
    have h1 := po_at (a := x) (by omega) hb hc
    rcases neg_part (x := x * b) hc with ⟨n0, n1, n2⟩ | ⟨n0, n1, n2⟩ <;> rw [n1, n2] <;> omega
end M
end Go.Proofs.YthmmjoemapoafaaDoor

/- The laws' own helper on amounts. -/
namespace Go.Proofs.YthmmjoemapoafaaDoor
open Go Go.RowKit V
set_option maxRecDepth 100000
set_option maxHeartbeats 2000000 in
theorem v_mbegun : V.Fn Tryd.prog 10 [] [] (.bool true) := by
  refine V.Fn.mk_ V.Tok V.mixed Tryd.func10 rfl Tryd.ntmps10 (by kernel_rfl) rfl rfl ?_
  repeat' ((conv => whnf); first | (refine V.NIf.yes (by decide) ?_) | refine V.NCond.mk ?_ | refine V.NIf.not_ ?_ | refine V.NIf.dec_ ?_ | refine V.NIf.no (by omega) ?_ | refine V.NIf.yes (by omega) ?_ | refine V.NIf.mk (fun _ => ?_) (fun _ => ?_) | refine V.NWrap.ok (by omega) (by omega) ?_ | refine V.NWrap.u64 (by omega) (by omega) ?_ | refine V.NLt.mk (by omega) ?_ | refine V.NBoth.mk ?_ ?_ | refine V.NTF.yes (by omega) ?_ | refine V.NTF.no (by omega) ?_ | refine V.NTF.dec ?_ | refine V.NDraw.q (by exact rfl) (by kernel_rfl) ?_ | refine V.NApp.one (by first | omega | (simp; omega)) (by first | omega | (simp; omega)) ?_ | (first | refine V.Fn.k0 (v_add 5 (-7)) rfl ?_ | refine V.Fn.q0 (v_add 5 (-7)) rfl ?_ | refine V.Fn.a0 (v_add 5 (-7)) rfl ?_) | (first | refine V.Fn.k0 (v_part (-7) 3 5) rfl ?_ | refine V.Fn.q0 (v_part (-7) 3 5) rfl ?_ | refine V.Fn.a0 (v_part (-7) 3 5) rfl ?_) | (first | refine V.Fn.k0 (v_near 5 1 2) rfl ?_ | refine V.Fn.q0 (v_near 5 1 2) rfl ?_ | refine V.Fn.a0 (v_near 5 1 2) rfl ?_) | (first | refine V.Fn.k0 (v_near 7 1 2) rfl ?_ | refine V.Fn.q0 (v_near 7 1 2) rfl ?_ | refine V.Fn.a0 (v_near 7 1 2) rfl ?_) | ((first | refine V.Fn.k (v_total [1152921504606846976, 1152921504606846976, -1152921504606846976]) [_] rfl ?_ ?_ | refine V.Fn.q (v_total [1152921504606846976, 1152921504606846976, -1152921504606846976]) [_] rfl ?_ ?_ | refine V.Fn.a (v_total [1152921504606846976, 1152921504606846976, -1152921504606846976]) [_] rfl ?_ ?_); · ((repeat' (first | exact rfl | exact Iff.rfl | exact trivial | exact (fun _ _ => rfl) | exact (fun _ h => absurd h (Nat.not_lt_zero _)) | refine ⟨?_, ?_⟩ | exact Iff.rfl | exact congrArg (fun z => V.SV.one (V.At.val (Value.int .i64 z))) (by omega))); done)) | (first | refine V.Fn.k0 (v_add 1152921504606846976 1) rfl ?_ | refine V.Fn.q0 (v_add 1152921504606846976 1) rfl ?_ | refine V.Fn.a0 (v_add 1152921504606846976 1) rfl ?_) | (first | refine V.Fn.k0 (v_part 1 1 0) rfl ?_ | refine V.Fn.q0 (v_part 1 1 0) rfl ?_ | refine V.Fn.a0 (v_part 1 1 0) rfl ?_) | (first | refine V.Fn.k0 (v_check 1152921504606846977) rfl ?_ | refine V.Fn.q0 (v_check 1152921504606846977) rfl ?_ | refine V.Fn.a0 (v_check 1152921504606846977) rfl ?_) | (refine V.NDraw.any (by kernel_rfl) ?_) | fail)
  exact ⟨_, rfl, by decide⟩
namespace M
theorem add_c (a b : Int) : (addE a b = 0 ∧ addV a b = a + b ∧ (-1152921504606846976 ≤ a ∧ a ≤ 1152921504606846976) ∧ (-1152921504606846976 ≤ b ∧ b ≤ 1152921504606846976) ∧ -1152921504606846976 ≤ a + b ∧ a + b ≤ 1152921504606846976) ∨
    (addE a b = 3 ∧ addV a b = 0 ∧ ¬ ((-1152921504606846976 ≤ a ∧ a ≤ 1152921504606846976) ∧ -1152921504606846976 ≤ b ∧ b ≤ 1152921504606846976)) ∨
    (addE a b = 8 ∧ addV a b = 0 ∧ (-1152921504606846976 ≤ a ∧ a ≤ 1152921504606846976) ∧ (-1152921504606846976 ≤ b ∧ b ≤ 1152921504606846976) ∧ ¬ (-1152921504606846976 ≤ a + b ∧ a + b ≤ 1152921504606846976)) := by
  simp only [addE, addV, Amt]
  (repeat' split) <;> omega
theorem mul_bd {x y m n : Int} (hx : -m ≤ x ∧ x ≤ m) (hy : -n ≤ y ∧ y ≤ n) : -(m * n) ≤ x * y ∧ x * y ≤ m * n := by
  have h : (x * y).natAbs ≤ (m * n).natAbs := by
    rw [Int.natAbs_mul, Int.natAbs_mul]
    exact Nat.mul_le_mul (by omega) (by omega)
  have p : 0 ≤ m * n := Int.mul_nonneg (by omega) (by omega)
  omega
theorem pr_c (a b c : Int) : (prE a b c = 0 ∧ prQ a b c = a * b / c ∧ prR a b c = a * b % c ∧ (-1152921504606846976 ≤ a ∧ a ≤ 1152921504606846976) ∧ (0 ≤ b ∧ b ≤ 1099511627776) ∧ (1 ≤ c ∧ c ≤ 1099511627776) ∧ (-1152921504606846976 ≤ a * b / c ∧ a * b / c ≤ 1152921504606846976) ∧ (0 ≤ a * b % c ∧ a * b % c < c) ∧ prQ a b c * c + prR a b c = a * b) ∨
    (prE a b c = 3 ∧ prQ a b c = 0 ∧ prR a b c = 0 ∧ ¬ ((-1152921504606846976 ≤ a ∧ a ≤ 1152921504606846976) ∧ (0 ≤ b ∧ b ≤ 1099511627776) ∧ 1 ≤ c ∧ c ≤ 1099511627776)) ∨
    (prE a b c = 8 ∧ prQ a b c = 0 ∧ prR a b c = 0 ∧ ((-1152921504606846976 ≤ a ∧ a ≤ 1152921504606846976) ∧ (0 ≤ b ∧ b ≤ 1099511627776) ∧ 1 ≤ c ∧ c ≤ 1099511627776) ∧ ¬ (-1152921504606846976 ≤ a * b / c ∧ a * b / c ≤ 1152921504606846976)) := by
  have q := qr (a * b) c
  by_cases p : POk a b c
  · have r := r_bd (x := a * b) p.2.2.1
    by_cases k : Amt (a * b / c)
    · left; obtain ⟨e1, e2, e3⟩ := pr_3 p k; exact ⟨e1, e2, e3, p.1, p.2.1, p.2.2, k, r, by rw [e2, e3, Int.mul_comm]; exact q⟩
    · right; right; obtain ⟨e1, e2, e3⟩ := pr_2 p k; exact ⟨e1, e2, e3, p, k⟩
  · right; left; obtain ⟨e1, e2, e3⟩ := pr_1 p; exact ⟨e1, e2, e3, p⟩
theorem pr_mono {a b c d : Int} (h1 : prE a c d = 0) (h2 : prE b c d = 0) (h : a ≤ b) : prQ a c d ≤ prQ b c d := by
  obtain ⟨p, k⟩ := pr_ok h1
  obtain ⟨p', k'⟩ := pr_ok h2
  rw [(pr_3 p k).2.1, (pr_3 p' k').2.1]
  exact rises p.2.2.1 (Int.mul_le_mul_of_nonneg_right h p.2.1.1)
theorem pr_two {a b c d s : Int} (h1 : prE a c d = 0) (h2 : prE b c d = 0) (h3 : prE s c d = 0) (h : s = a + b) : prQ a c d + prQ b c d ≤ prQ s c d ∧ prQ s c d ≤ prQ a c d + prQ b c d + 1 := by
  obtain ⟨p, k⟩ := pr_ok h1
  obtain ⟨p', k'⟩ := pr_ok h2
  obtain ⟨p'', k''⟩ := pr_ok h3
  rw [(pr_3 p k).2.1, (pr_3 p' k').2.1, (pr_3 p'' k'').2.1, h, Int.add_mul]
  exact two p.2.2.1
theorem div_bd {x m c : Int} (h : -m ≤ x ∧ x ≤ m) (hc : 1 ≤ c) : -m ≤ x / c ∧ x / c ≤ m := by
  refine ⟨(Int.le_ediv_iff_mul_le (by omega)).2 ?_, Int.le_trans (Int.ediv_le_ediv (by omega) h.2) (Int.ediv_le_self _ (by omega))⟩
  have := Int.mul_le_mul_of_nonneg_left hc (show 0 ≤ m by omega)
  rw [Int.neg_mul]; omega
theorem pr_b (a b c : Int) : (prE a b c = 0 → (-1152921504606846976 ≤ prQ a b c ∧ prQ a b c ≤ 1152921504606846976) ∧ (0 ≤ prR a b c ∧ prR a b c < c) ∧ c ≤ 1099511627776) ∧ (prE a b c ≠ 0 → prQ a b c = 0 ∧ prR a b c = 0) := by
  have := pr_c a b c
  refine ⟨fun h => ?_, fun h => ?_⟩ <;> omega
theorem ne_c (a b c : Int) (h : prE a b c = 0) (k : neE a b c = 0) : neV a b c = up (prQ a b c) (prR a b c) c ∧ (-1152921504606846976 ≤ neV a b c ∧ neV a b c ≤ 1152921504606846976) := by
  obtain ⟨p, q⟩ := pr_ok h
  by_cases z : Amt (up (a * b / c) (a * b % c) c)
  · rw [(ne_3 h z).2, (pr_3 p q).2.1, (pr_3 p q).2.2]; exact ⟨rfl, z⟩
  · rw [(ne_2 h z).1] at k; omega
theorem ne_d (a b c : Int) (k : neE a b c ≠ 0) : neV a b c = 0 := by
  by_cases h : prE a b c = 0
  · by_cases z : Amt (up (a * b / c) (a * b % c) c)
    · exact absurd (ne_3 h z).1 k
    · exact (ne_2 h z).2
  · exact (ne_1 h).2
theorem ne_e {a b c : Int} (k : neE a b c = 0) : prE a b c = 0 := by
  by_cases h : prE a b c = 0
  · exact h
  · rw [(ne_1 h).1] at k; exact absurd k h
theorem ne_neg {a b c : Int} (h : neE a b c = 0) (k : neE (0 - a) b c = 0) : neV (0 - a) b c = -neV a b c := by
  have h1 := ne_e h
  have k1 := ne_e k
  obtain ⟨p, q⟩ := pr_ok h1
  obtain ⟨p', q'⟩ := pr_ok k1
  rw [(ne_c _ _ _ h1 h).1, (ne_c _ _ _ k1 k).1, (pr_3 p q).2.1, (pr_3 p q).2.2, (pr_3 p' q').2.1, (pr_3 p' q').2.2]
  have e : (0 - a) * b = -(a * b) := by rw [Int.zero_sub, Int.neg_mul]
  rw [e]
  exact near_neg p.2.2.1
theorem pr_scale {a b c y : Int} (h : prE a b c = 0) (h1 : 1 ≤ y) (k : prE a (b * y) (c * y) ≠ 3) : prE a (b * y) (c * y) = 0 ∧ prQ a (b * y) (c * y) = prQ a b c ∧ prR a (b * y) (c * y) = prR a b c * y := by
  obtain ⟨p, q⟩ := pr_ok h
  have e1 : a * (b * y) / (c * y) = a * b / c := by rw [← Int.mul_assoc]; exact Int.mul_ediv_mul_of_pos_left _ _ (by omega)
  have e2 : a * (b * y) % (c * y) = a * b % c * y := by rw [← Int.mul_assoc, Int.mul_comm _ y, Int.mul_comm c y, Int.mul_emod_mul_of_pos _ _ (by omega), Int.mul_comm]
  rcases pr_cases a (b * y) (c * y) with ⟨e, _⟩ | ⟨_, _, k'⟩ | ⟨e, p', k'⟩
  · exact absurd e k
  · rw [e1] at k'; exact absurd q k'
  · rw [(pr_3 p' k').2.1, (pr_3 p' k').2.2, (pr_3 p q).2.1, (pr_3 p q).2.2]; exact ⟨e, e1, e2⟩
theorem pr_nest {a b c d : Int} (h : prE a b c = 0) (h1 : 1 ≤ d) (h2 : d ≤ 1048576) (hc : c ≤ 1048576) (hcd : c * d ≤ 1099511627776 ∧ 1 ≤ c * d) : prE (prQ a b c) 1 d = 0 ∧ prE a b (c * d) = 0 ∧ prQ (prQ a b c) 1 d = prQ a b (c * d) := by
  obtain ⟨p, q⟩ := pr_ok h
  have eQ := (pr_3 p q).2.1
  have hc0 := p.2.2.1
  have e1 : a * b / (c * d) = a * b / c / d := (Int.ediv_ediv_of_nonneg (by omega)).symm
  have q1 : Amt (a * b / c / d) := div_bd q h1
  have p1 : POk (prQ a b c) 1 d := by rw [eQ]; exact ⟨q, by omega, by omega⟩
  have p2 : POk a b (c * d) := ⟨p.1, p.2.1, by omega, hcd.1⟩
  have q1' : Amt (prQ a b c * 1 / d) := by rw [eQ, Int.mul_one]; exact q1
  have q2 : Amt (a * b / (c * d)) := by rw [e1]; exact q1
  refine ⟨(pr_3 p1 q1').1, (pr_3 p2 q2).1, ?_⟩
  rw [(pr_3 p1 q1').2.1, (pr_3 p2 q2).2.1, e1, eQ, Int.mul_one]
end M
end Go.Proofs.YthmmjoemapoafaaDoor

/- What must be in any case, of what time costs. -/
namespace Go.Proofs.YthmmjoemapoafaaDoor
open Go Go.RowKit V
set_option maxRecDepth 100000
set_option linter.unusedVariables false
set_option linter.unusedSimpArgs false
namespace Ac
theorem bg1 : D.fromV 2026 1 31 = 739646 ∧ D.fromE 2026 1 31 = 0 := by decide
theorem bg2 : D.fromV 2026 3 1 = 739675 ∧ D.fromE 2026 3 1 = 0 := by decide
theorem bat1 : at_ 739646 = 729420 := by
  obtain ⟨a, b, c⟩ := D.of_uniq (n := 739646) (y := 2026) (m := 1) (d := 31) (by decide) (by decide)
  unfold at_
  rw [a, b, c]
  decide
theorem bat2 : at_ 739675 = 729451 := by
  obtain ⟨a, b, c⟩ := D.of_uniq (n := 739675) (y := 2026) (m := 3) (d := 1) (by decide) (by decide)
  unfold at_
  rw [a, b, c]
  decide
theorem bg3 : dE 1 739646 739675 = 0 ∧ dV 1 739646 739675 = 29 := ⟨by decide, by decide⟩
theorem bg4 : dE 3 739646 739675 = 0 ∧ dV 3 739646 739675 = 31 := ⟨by decide, by
  rw [dV_yes (by decide)]
  unfold dd
  rw [if_pos rfl, bat1, bat2]
  decide⟩
theorem bg5 : iE 1 1000000 360 739646 739675 = 0 ∧ iV 1 1000000 360 739646 739675 = 2900 := ⟨by decide, by decide⟩
theorem bg6 : yV 2 = 365 ∧ yE 2 = 0 := ⟨rfl, rfl⟩
theorem bg7 : dE 4 739646 739675 = 7 ∧ dV 4 739646 739675 = 0 := ⟨by decide, by decide⟩
theorem bg8 : dE 1 739675 739646 = 1 ∧ dV 1 739675 739646 = 0 := ⟨by decide, by decide⟩
end Ac
theorem v_acBegun : V.Fn Tryd.prog 5 [dt] [] (.bool true) := by
  have a1 := v_rFrom 2026 1 31
  have a2 := v_rFrom 2026 3 1
  have a3 := v_Days 1 739646 739675
  have a4 := v_Days 3 739646 739675
  have a5 := v_Interest 1 1000000 360 739646 739675
  have a6 := v_Year 2
  have a7 := v_Days 4 739646 739675
  have a8 := v_Days 1 739675 739646
  rw [Ac.bg1.1, Ac.bg1.2] at a1
  rw [Ac.bg2.1, Ac.bg2.2] at a2
  rw [Ac.bg3.1, Ac.bg3.2] at a3
  rw [Ac.bg4.1, Ac.bg4.2] at a4
  rw [Ac.bg5.1, Ac.bg5.2] at a5
  rw [Ac.bg6.1, Ac.bg6.2] at a6
  rw [Ac.bg7.1, Ac.bg7.2] at a7
  rw [Ac.bg8.1, Ac.bg8.2] at a8
  refine V.Fn.mk_ V.Tok V.mixed Tryd.func5 rfl Tryd.ntmps5 (by kernel_rfl) rfl rfl ?_
  repeat' ((conv => whnf); first | (refine V.NIf.yes ?_ ?_; · (decide; done)) | (refine V.NIf.no ?_ ?_; · (decide; done)) | refine V.NCond.mk ?_ | refine V.NIf.not_ ?_ | refine V.NIf.dec_ ?_ | refine V.NIf.no (by omega) ?_ | refine V.NIf.yes (by omega) ?_ | refine V.NIf.mk (fun _ => ?_) (fun _ => ?_) | refine V.NWrap.ok (by omega) (by omega) ?_ | refine V.NWrap.u64 (by omega) (by omega) ?_ | refine V.NLt.mk (by omega) ?_ | refine V.NBoth.mk ?_ ?_ | refine V.NTF.yes (by omega) ?_ | refine V.NTF.no (by omega) ?_ | refine V.NTF.dec ?_ | refine V.NDraw.q (by exact rfl) (by kernel_rfl) ?_ | refine V.NApp.one (by first | omega | (simp; omega)) (by first | omega | (simp; omega)) ?_ | (first | refine V.Fn.k0 (a1) rfl ?_ | refine V.Fn.q0 (a1) rfl ?_ | refine V.Fn.a0 (a1) rfl ?_) | (first | refine V.Fn.k0 (a2) rfl ?_ | refine V.Fn.q0 (a2) rfl ?_ | refine V.Fn.a0 (a2) rfl ?_) | ((first | refine V.Fn.k (a3) [0] rfl ?_ ?_ | refine V.Fn.q (a3) [0] rfl ?_ ?_ | refine V.Fn.a (a3) [0] rfl ?_ ?_); · ((repeat' (first | exact rfl | exact Iff.rfl | exact trivial | exact (fun _ _ => rfl) | exact (fun _ h => absurd h (Nat.not_lt_zero _)) | refine ⟨?_, ?_⟩ | exact Iff.rfl | exact congrArg (fun z => V.SV.one (V.At.val (Value.int .i64 z))) (by omega))); done)) | ((first | refine V.Fn.k (a4) [0] rfl ?_ ?_ | refine V.Fn.q (a4) [0] rfl ?_ ?_ | refine V.Fn.a (a4) [0] rfl ?_ ?_); · ((repeat' (first | exact rfl | exact Iff.rfl | exact trivial | exact (fun _ _ => rfl) | exact (fun _ h => absurd h (Nat.not_lt_zero _)) | refine ⟨?_, ?_⟩ | exact Iff.rfl | exact congrArg (fun z => V.SV.one (V.At.val (Value.int .i64 z))) (by omega))); done)) | ((first | refine V.Fn.k (a5) [0] rfl ?_ ?_ | refine V.Fn.q (a5) [0] rfl ?_ ?_ | refine V.Fn.a (a5) [0] rfl ?_ ?_); · ((repeat' (first | exact rfl | exact Iff.rfl | exact trivial | exact (fun _ _ => rfl) | exact (fun _ h => absurd h (Nat.not_lt_zero _)) | refine ⟨?_, ?_⟩ | exact Iff.rfl | exact congrArg (fun z => V.SV.one (V.At.val (Value.int .i64 z))) (by omega))); done)) | (first | refine V.Fn.k0 (a6) rfl ?_ | refine V.Fn.q0 (a6) rfl ?_ | refine V.Fn.a0 (a6) rfl ?_) | ((first | refine V.Fn.k (a7) [0] rfl ?_ ?_ | refine V.Fn.q (a7) [0] rfl ?_ ?_ | refine V.Fn.a (a7) [0] rfl ?_ ?_); · ((repeat' (first | exact rfl | exact Iff.rfl | exact trivial | exact (fun _ _ => rfl) | exact (fun _ h => absurd h (Nat.not_lt_zero _)) | refine ⟨?_, ?_⟩ | exact Iff.rfl | exact congrArg (fun z => V.SV.one (V.At.val (Value.int .i64 z))) (by omega))); done)) | ((first | refine V.Fn.k (a8) [0] rfl ?_ ?_ | refine V.Fn.q (a8) [0] rfl ?_ ?_ | refine V.Fn.a (a8) [0] rfl ?_ ?_); · ((repeat' (first | exact rfl | exact Iff.rfl | exact trivial | exact (fun _ _ => rfl) | exact (fun _ h => absurd h (Nat.not_lt_zero _)) | refine ⟨?_, ?_⟩ | exact Iff.rfl | exact congrArg (fun z => V.SV.one (V.At.val (Value.int .i64 z))) (by omega))); done)) | (refine V.NDraw.any (by kernel_rfl) ?_) | fail)
  all_goals (conv => whnf)
  exact ⟨true, rfl, iff_of_true rfl rfl⟩
end Go.Proofs.YthmmjoemapoafaaDoor

/- What the listed variable 'date.long' gives the walks: its cells; and that the door's own heap meets the condition. -/
namespace Go.Proofs.YthmmjoemapoafaaDoor
open Go.ChangeShapes Go.WideShapes Go.ChangeAt Go.RowKit

def laidList : List (String × DataW Unit) := [("demurrage/date.long", Rows.laid_demurrage_date_long)]
theorem gLong : Tryd.prog.globalNamed "demurrage/date.long" = some 0 := by kernel_rfl
theorem tLong : (Tryd.prog.globals[0]?).map (·.type) = some 54 := by kernel_rfl
theorem cLong : Tryd.prog.cellsOf 54 = 12 := by kernel_rfl
theorem cInt : Tryd.prog.cellsOf 3 = 1 := by kernel_rfl

theorem door_met (os : Os) (args : Array Value) : laidMetH Tryd.prog laidList ((World.doorLaid Tryd.prog 400 os).forCall (fun _ _ => 0) ⟨#[], args, []⟩).memory :=
  laidMetH_of_parts3 (fuel := 8) (laidMet_of_run' 8 (by kernel_rfl) (by kernel_rfl)) (by kernel_rfl) (by kernel_rfl)

theorem long_of_laid {W : World} (h : laidMetH Tryd.prog laidList W) : LongIs W := by
  rw [MakeChecks.laidMetH_plain _ _ _ (by kernel_rfl)] at h
  obtain ⟨ps, ⟨g0, t0, cs0, f0, p0, q0, hg0, ht0, hv0, hd0, _, _⟩, _, _⟩ := h
  obtain rfl := Option.some.inj (gLong.symm.trans hg0)
  obtain rfl := Option.some.inj (tLong.symm.trans ht0)
  have hcs := Lib.cells_of_tab (k := .i64) (zs := [31, 28, 31, 30, 31, 30, 31, 31, 30, 31, 30, 31]) Tryd.underlying54 Tryd.underlying3 cInt cLong hd0
  intro m h1 h2
  have hc := World.var?_cell hg0 hv0 (m.toNat - 1)
  have e : cs0 = (([31, 28, 31, 30, 31, 30, 31, 31, 30, 31, 30, 31] : List Int).map fun z => Value.int .i64 z).toArray := by
    rw [← hcs]
  rw [e] at hc
  have hm : m = 1 ∨ m = 2 ∨ m = 3 ∨ m = 4 ∨ m = 5 ∨ m = 6 ∨ m = 7 ∨ m = 8 ∨ m = 9 ∨ m = 10 ∨ m = 11 ∨ m = 12 := by omega
  rcases hm with rfl | rfl | rfl | rfl | rfl | rfl | rfl | rfl | rfl | rfl | rfl | rfl <;> exact hc
end Go.Proofs.YthmmjoemapoafaaDoor
