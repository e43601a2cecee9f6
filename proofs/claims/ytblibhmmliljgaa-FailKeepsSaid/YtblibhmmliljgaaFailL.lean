/- The walks of the document's functions on lists of fails. -/
import Derived.Test.YtblibhmmliljgaaFailR2
import Derived.Deep.QuietTactic
import Derived.BigQuiet
namespace Go.Proofs.Ytblibhmmliljgaa
open Go.RowKit
set_option maxRecDepth 100000

/-- the slice at A holds the fails of l, below block B -/
def FailsAt (w : World) (B : Nat) (A : Option Addr) (l : List Fl) : Prop := ∀ k (hk : k < l.length), ∃ b off, A = some ⟨b, off, none⟩ ∧ b < B ∧
  w.cell? ⟨b, off + k * 10, none⟩ = some (.int .i64 l[k].id) ∧ w.cell? ⟨b, off + k * 10 + 1, none⟩ = some (.int .i64 l[k].fr) ∧ w.cell? ⟨b, off + k * 10 + 2, none⟩ = some (.int .i64 l[k].to) ∧
  w.cell? ⟨b, off + k * 10 + 3, none⟩ = some (.int .i64 l[k].cl) ∧ w.cell? ⟨b, off + k * 10 + 4, none⟩ = some (.int .i64 l[k].pa) ∧ w.cell? ⟨b, off + k * 10 + 5, none⟩ = some (.int .i64 l[k].day) ∧
  w.cell? ⟨b, off + k * 10 + 6, none⟩ = some (.int .i64 l[k].un) ∧ w.cell? ⟨b, off + k * 10 + 7, none⟩ = some (.int .i64 l[k].de) ∧ w.cell? ⟨b, off + k * 10 + 8, none⟩ = some (.int .i64 l[k].bo) ∧
  w.cell? ⟨b, off + k * 10 + 9, none⟩ = some (.int .i64 l[k].pd)
theorem FailsAt.keep {w w' : World} {B : Nat} {A : Option Addr} {l : List Fl} (h : FailsAt w B A l) (hb : Below B w w') : FailsAt w' B A l := by
  intro k hk
  obtain ⟨b, off, e, hB, c0, c1, c2, c3, c4, c5, c6, c7, c8, c9⟩ := h k hk
  have q : ∀ o, w'.cell? ⟨b, o, none⟩ = w.cell? ⟨b, o, none⟩ := fun o => hb.cell (p := ⟨b, o, none⟩) hB
  exact ⟨b, off, e, hB, (q _).trans c0, (q _).trans c1, (q _).trans c2, (q _).trans c3, (q _).trans c4, (q _).trans c5, (q _).trans c6, (q _).trans c7, (q _).trans c8, (q _).trans c9⟩
theorem FailsAt.to {w w' : World} {A : Option Addr} {l : List Fl} (h : FailsAt w w.heap.size A l) (hb : Below w.heap.size w w') : FailsAt w' w'.heap.size A l := by
  intro k hk
  obtain ⟨b, off, e, hB, r⟩ := h.keep hb k hk
  exact ⟨b, off, e, Nat.lt_of_lt_of_le hB hb.size, r⟩

theorem rffind_any (A : Option Addr) (l : List Fl) (c : Nat) (id : Int) (w : World) (hn : l.length ≤ 60) (ha : FailsAt w w.heap.size A l) : Calls Try.prog 17 #[.slice A l.length c, .int .i64 id] w fun e w' => e = .returned (.int .i64 (F.idx id l 0)) ∧ Below w.heap.size w w' := by
  go_enter Try.func17, Try.ntmps17
  go_wp2
  go_loopw [5] (fun i wr => ∃ k : Nat, k ≤ l.length ∧ i = .int .i64 k ∧ F.idx id l 0 = F.idx id (l.drop k) k ∧ Below w.heap.size w wr) (fun i _ => l.length - (intOf i).toNat)
  case atStart => exact ⟨0, by omega, rfl, rfl, Below.refl _ _⟩
  case round =>
    obtain ⟨k, hk, rfl, he, hbw⟩ := hrel
    have HE := hid he
    clear he
    by_cases hlt : k < l.length
    · obtain ⟨b, off, rfl, hB, c0, -⟩ := ha.keep hbw k hlt
      have HS := hid (F.idxStep hlt id)
      by_cases hid' : l[k].id = id
      · have h1 : (l[k].id == id) = true := beq_iff_eq.2 hid'
        have H2 := hid hid'
        clear hid'
        go_wp2
        go_ret
        exact ⟨ret_int (by rw [HE.out, HS.out, if_pos H2.out]), hbw⟩
      · have h1 : (l[k].id == id) = false := beq_eq_false_iff_ne.2 hid'
        go_wp2
        go_roundw
        case rel => exact ⟨k + 1, by omega, by go_num, by rw [HE.out, HS.out, if_neg hid'], hbw⟩
        case measure => simp [intOf]; omega
    · obtain rfl : k = l.length := by omega
      go_wp2
      go_ret
      exact ⟨ret_int (by rw [HE.out, F.idxEnd]), hbw⟩

theorem rfchecks_any (A : Option Addr) (l : List Fl) (c : Nat) (w : World) (hn : l.length ≤ 9223372036854775807) (ha : FailsAt w w.heap.size A l) : Calls Try.prog 15 #[.slice A l.length c] w fun e w' => e = .returned (.int .i64 (F.checks l)) ∧ Below w.heap.size w w' := by
  by_cases hm : 60 < l.length
  · have E := hid (F.checks_many hm)
    go_enter Try.func15, Try.ntmps15
    go_wp2
    go_ret
    exact ⟨by rw [E.out]; rfl, Below.refl _ _⟩
  have E := hid (F.checks_few (l := l) (by omega))
  clear hn
  go_enter Try.func15, Try.ntmps15
  go_wp2
  go_loopw [3] (fun i wr => ∃ k : Nat, k ≤ l.length ∧ i = .int .i64 k ∧ F.checks l = F.ckFrom ((l.take k).map (·.id)) (l.drop k) ∧ Below w.heap.size w wr) (fun i _ => l.length - (intOf i).toNat)
  case atStart => exact ⟨0, by omega, rfl, E.out, Below.refl _ _⟩
  case round =>
    obtain ⟨k, hk, rfl, he, hbw⟩ := hrel
    have HE := hid he
    clear he
    by_cases hlt : k < l.length
    · obtain ⟨b, off, rfl, hB, c0, c1, c2, c3, c4, c5, c6, c7, c8, c9⟩ := ha.keep hbw k hlt
      have hB' : b < wr.heap.size := Nat.lt_of_lt_of_le hB hbw.size
      by_cases hc : F.chk l[k] = 0
      · have H0 := hid hc
        have hb0 : (F.chk l[k] != 0) = false := by rw [bne_eq_false_iff_eq]; exact hc
        clear hc
        go_wp2_with (go_at_call 14; refine (rfcheck_any l[k] _).mono ?_; rintro e w1 ⟨rfl, hb1⟩; have hbw1 := bthen hbw hb1)
        go_loopw [5] (fun i wr2 => ∃ j : Nat, j ≤ k ∧ i = .int .i64 j ∧ Hid (l[k].id ∉ (l.take j).map (·.id)) ∧ Below w.heap.size w wr2) (fun i _ => k - (intOf i).toNat)
        case atStart => exact ⟨0, by omega, rfl, (show l[k].id ∉ (l.take 0).map (·.id) by simp), hbw1⟩
        case round =>
          obtain ⟨j, hj, rfl, hnot, hbw2⟩ := hrel
          by_cases hlt2 : j < k
          · obtain ⟨b', off', e', -, d0, -⟩ := ha.keep hbw2 j (by omega)
            obtain ⟨b2, off2, e2, -, f0, -⟩ := ha.keep hbw2 k hlt
            injection e' with e'; injection e' with e1' e2'; subst e1' e2'
            injection e2 with e2; injection e2 with e1' e2'; subst e1' e2'
            clear c0 c1 c2 c3 c4 c5 c6 c7 c8 c9
            have hj60 : j < l.length := by omega
            by_cases hq : l[j].id = l[k].id
            · have h1 : (l[j].id == l[k].id) = true := beq_iff_eq.2 hq
              have H1 := hid hq
              clear hq
              go_wp2
              go_quiet (fail)
              go_wp2
              go_ret
              refine ⟨ret_int ?_, below_drewN hbw2 _⟩
              rw [HE.out]
              exact (F.ckStep_twice hlt _ H0.out (F.mem_take hj60 hlt2 H1.out)).symm
            · have h1 : (l[j].id == l[k].id) = false := beq_eq_false_iff_ne.2 hq
              go_wp2
              go_quiet (fail)
              go_wp2
              go_roundw
              case rel => exact ⟨j + 1, by omega, by go_num, F.not_snoc hj60 hnot.out hq, below_drewN hbw2 _⟩
              case measure => simp [intOf]; omega
          · obtain rfl : j = k := by omega
            go_wp2
            go_roundw
            case rel => exact ⟨j + 1, by omega, by go_num, by rw [HE.out]; exact F.ckStep_on hlt H0.out hnot.out, hbw2⟩
            case measure => simp [intOf]; omega
      · have H0 := hid (F.ckStep_err hlt ((l.take k).map (·.id)) hc)
        have hb0 : (F.chk l[k] != 0) = true := by rw [bne_iff_ne]; exact hc
        clear hc
        go_wp2_with (go_at_call 14; refine (rfcheck_any l[k] _).mono ?_; rintro e w1 ⟨rfl, hb1⟩; have hbw1 := bthen hbw hb1)
        go_ret
        exact ⟨ret_int (by rw [HE.out, H0.out]), hbw1⟩
    · obtain rfl : k = l.length := by omega
      go_wp2
      go_ret
      exact ⟨ret_int (by rw [HE.out, F.ckEnd]), hbw⟩
end Go.Proofs.Ytblibhmmliljgaa
