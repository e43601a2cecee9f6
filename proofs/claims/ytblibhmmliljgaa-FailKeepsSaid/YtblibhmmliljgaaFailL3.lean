/- The walk of Find: an id is looked for among the fails. -/
import Derived.Test.YtblibhmmliljgaaFailL2
import Derived.Test.YtblibhmmliljgaaFailPl2
namespace Go.Proofs.Ytblibhmmliljgaa
open Go.RowKit Go.Maps
set_option maxRecDepth 100000

theorem findc_any (f : Fl) (g : Nat) (id : Int) (w : World) (hg : w.cell? ⟨g, 0, none⟩ = some (.int .i64 id)) (hl : g < w.heap.size) : Calls Try.prog 24 #[.agg #[.int .i64 f.id, .int .i64 f.fr, .int .i64 f.to, .int .i64 f.cl, .int .i64 f.pa, .int .i64 f.day, .int .i64 f.un, .int .i64 f.de, .int .i64 f.bo, .int .i64 f.pd], .pointer (some ⟨g, 0, none⟩)] w fun e w' => e = .returned (.bool (f.id == id)) ∧ Below w.heap.size w w' := by
  have hg2 : ∀ o, (w.alloc o).cell? ⟨g, 0, none⟩ = some (.int .i64 id) := fun o => by rw [World.cell?_alloc_lt w o _ hl]; exact hg
  go_enter Try.func24, Try.ntmps24
  go_wp2
  go_ret
  exact ⟨rfl, balloc (Below.refl _ _) _⟩

theorem indexf_any (A : Option Addr) (l : List Fl) (c g : Nat) (id : Int) (w : World) (hn : l.length ≤ 60) (ha : FailsAt w w.heap.size A l) (hg : w.cell? ⟨g, 0, none⟩ = some (.int .i64 id)) (hl : g < w.heap.size) :
    Calls Try.prog 23 #[.slice A l.length c, .func (.func 24) #[] #[.pointer (some ⟨g, 0, none⟩)]] w fun e w' => e = .returned (.int .i64 (F.idx id l 0)) ∧ Below w.heap.size w w' := by
  go_enter Try.func23, Try.ntmps23
  go_wp2
  go_loopw [8] (fun i wr => ∃ k : Nat, k ≤ l.length ∧ i = .int .i64 k ∧ F.idx id l 0 = F.idx id (l.drop k) k ∧ Below w.heap.size w wr) (fun i _ => l.length - (intOf i).toNat)
  case atStart => exact ⟨0, by omega, rfl, rfl, Below.refl _ _⟩
  case round =>
    obtain ⟨k, hk, rfl, he, hbw⟩ := hrel
    have HE := hid he
    clear he
    by_cases hlt : k < l.length
    · obtain ⟨b, off, rfl, hB, c0, c1, c2, c3, c4, c5, c6, c7, c8, c9⟩ := ha.keep hbw k hlt
      have HS := hid (F.idxStep hlt id)
      have hg' : wr.cell? ⟨g, 0, none⟩ = some (.int .i64 id) := (hbw.cell (p := ⟨g, 0, none⟩) hl).trans hg
      have hl' : g < wr.heap.size := Nat.lt_of_lt_of_le hl hbw.size
      by_cases hid' : l[k].id = id
      · have h1 : (l[k].id == id) = true := beq_iff_eq.2 hid'
        have H2 := hid hid'
        clear hid'
        go_wp2_with (go_at_call 24; refine (findc_any l[k] g id _ (by assumption) (by assumption)).mono ?_; rintro e w1 ⟨rfl, hb1⟩)
        go_ret
        exact ⟨ret_int (by rw [HE.out, HS.out, if_pos H2.out]), bthen hbw hb1⟩
      · have h1 : (l[k].id == id) = false := beq_eq_false_iff_ne.2 hid'
        go_wp2_with (go_at_call 24; refine (findc_any l[k] g id _ (by assumption) (by assumption)).mono ?_; rintro e w1 ⟨rfl, hb1⟩)
        go_roundw
        case rel => exact ⟨k + 1, by omega, by go_num, by rw [HE.out, HS.out, if_neg hid'], bthen hbw hb1⟩
        case measure => simp [intOf]; omega
    · obtain rfl : k = l.length := by omega
      go_wp2
      go_ret
      exact ⟨ret_int (by rw [HE.out, F.idxEnd]), hbw⟩

theorem ffind_any (A : Option Addr) (l : List Fl) (c : Nat) (id : Int) (w : World) (hn : l.length ≤ 9223372036854775807) (ha : FailsAt w w.heap.size A l) : Calls Try.prog 12 #[.slice A l.length c, .int .i64 id] w fun e w' => e = .returned (.tuple #[.int .i64 (F.fndV id l), .int .i64 (F.fndE id l)]) ∧ Below w.heap.size w w' := by
  by_cases h : F.checks l = 0
  · have h60 : l.length ≤ 60 := F.checks_len (by rw [h]; decide)
    by_cases k : F.idx id l 0 < 0
    · have E := hid (F.fnd_2 h k)
      go_enter Try.func12, Try.ntmps12
      go_wp2_with (first
        | (go_at_call 20; refine (fchecks_any _ _ _ _ (by assumption) (ha.to (balloc (Below.refl _ _) _))).mono ?_; rintro e w1 ⟨rfl, hb1⟩; have hbw1 := bthen (balloc (Below.refl _ _) _) hb1; obtain ⟨hc1, hf1⟩ := bcell hb1; have hz1 := hb1.size; (try simp at hz1); have hy1 : w.heap.size < w1.heap.size := (by omega); have hg : w1.cell? ⟨w.heap.size, 0, none⟩ = some (.int .i64 id) := (by go_simp))
        | (go_at_call 23; refine (indexf_any _ _ _ _ id _ h60 (ha.to hbw1) hg hy1).mono ?_; rintro e w2 ⟨rfl, hb2⟩))
      go_ret2
      exact ⟨by rw [E.out.1, E.out.2]; rfl, bthen hbw1 hb2⟩
    · have E := hid (F.fnd_3 h k)
      go_enter Try.func12, Try.ntmps12
      go_wp2_with (first
        | (go_at_call 20; refine (fchecks_any _ _ _ _ (by assumption) (ha.to (balloc (Below.refl _ _) _))).mono ?_; rintro e w1 ⟨rfl, hb1⟩; have hbw1 := bthen (balloc (Below.refl _ _) _) hb1; obtain ⟨hc1, hf1⟩ := bcell hb1; have hz1 := hb1.size; (try simp at hz1); have hy1 : w.heap.size < w1.heap.size := (by omega); have hg : w1.cell? ⟨w.heap.size, 0, none⟩ = some (.int .i64 id) := (by go_simp))
        | (go_at_call 23; refine (indexf_any _ _ _ _ id _ h60 (ha.to hbw1) hg hy1).mono ?_; rintro e w2 ⟨rfl, hb2⟩))
      go_ret2
      exact ⟨by rw [E.out.1, E.out.2]; rfl, bthen hbw1 hb2⟩
  · have E := hid (F.fnd_1 (id := id) h)
    have hb : (F.checks l != 0) = true := by rw [bne_iff_ne]; exact h
    clear h
    go_enter Try.func12, Try.ntmps12
    go_wp2_with (first
        | (go_at_call 20; refine (fchecks_any _ _ _ _ (by assumption) (ha.to (balloc (Below.refl _ _) _))).mono ?_; rintro e w1 ⟨rfl, hb1⟩; have hbw1 := bthen (balloc (Below.refl _ _) _) hb1; obtain ⟨hc1, hf1⟩ := bcell hb1; have hz1 := hb1.size; (try simp at hz1); have hy1 : w.heap.size < w1.heap.size := (by omega); have hg : w1.cell? ⟨w.heap.size, 0, none⟩ = some (.int .i64 id) := (by go_simp)))
    go_ret2
    exact ⟨by rw [E.out.1, E.out.2]; rfl, hbw1⟩
end Go.Proofs.Ytblibhmmliljgaa
