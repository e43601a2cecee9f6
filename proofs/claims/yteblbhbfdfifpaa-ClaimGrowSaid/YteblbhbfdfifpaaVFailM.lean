/- The walk of the checks of fails, with a set of ids; as a contract. -/
import Derived.Test.YteblbhbfdfifpaaVFail
import Derived.Test.YteblbhbfdfifpaaVOpen
import Derived.Maps.OwnSet
import Derived.Maps.AppendAt
namespace Go.Proofs.Yteblbhbfdfifpaa
open Go.RowKit Go.Maps
set_option maxRecDepth 100000

theorem fcheck_c (f : Fl) (w : World) : Calls Try.prog 48 #[.agg #[.int .i64 f.id, .int .i64 f.fr, .int .i64 f.to, .int .i64 f.cl, .int .i64 f.pa, .int .i64 f.day, .int .i64 f.un, .int .i64 f.de, .int .i64 f.bo, .int .i64 f.pd]] w fun e w' => e = .returned (.int .i64 (F.chk f)) ∧ Below w.heap.size w w' :=
  (v_fcheck f).calls (xs := [.agg #[.int .i64 f.id, .int .i64 f.fr, .int .i64 f.to, .int .i64 f.cl, .int .i64 f.pa, .int .i64 f.day, .int .i64 f.un, .int .i64 f.de, .int .i64 f.bo, .int .i64 f.pd]]) w
/-- the slice at A holds the fails of l, below block B -/
def FailsAt (w : World) (B : Nat) (A : Option Addr) (l : List Fl) : Prop := ∀ k (hk : k < l.length), ∃ b off, A = some ⟨b, off, none⟩ ∧ b < B ∧
  w.cell? ⟨b, off + k * 10, none⟩ = some (.int .i64 l[k].id) ∧ w.cell? ⟨b, off + k * 10 + 1, none⟩ = some (.int .i64 l[k].fr) ∧ w.cell? ⟨b, off + k * 10 + 2, none⟩ = some (.int .i64 l[k].to) ∧
  w.cell? ⟨b, off + k * 10 + 3, none⟩ = some (.int .i64 l[k].cl) ∧ w.cell? ⟨b, off + k * 10 + 4, none⟩ = some (.int .i64 l[k].pa) ∧ w.cell? ⟨b, off + k * 10 + 5, none⟩ = some (.int .i64 l[k].day) ∧
  w.cell? ⟨b, off + k * 10 + 6, none⟩ = some (.int .i64 l[k].un) ∧ w.cell? ⟨b, off + k * 10 + 7, none⟩ = some (.int .i64 l[k].de) ∧ w.cell? ⟨b, off + k * 10 + 8, none⟩ = some (.int .i64 l[k].bo) ∧
  w.cell? ⟨b, off + k * 10 + 9, none⟩ = some (.int .i64 l[k].pd)
theorem FailsAt.keep {w w' : World} {B : Nat} {A : Option Addr} {l : List Fl} (h : FailsAt w B A l) (hb : Below B w w') : FailsAt w' B A l := by
  intro k hk
  obtain ⟨b, off, e, hB, c0, c1, c2, c3, c4, c5, c6, c7, c8, c9⟩ := h k hk
  have q : ∀ o, w'.cell? ⟨b, o, none⟩ = w.cell? ⟨b, o, none⟩ := fun o => hb.cell (p := ⟨b, o, none⟩) hB
  exact ⟨b, off, e, hB, (q _).trans c0, (q _).trans c1, (q _).trans c2, (q _).trans c3, (q _).trans c4, (q _).trans c5, (q _).trans c6, (q _).trans c7, (q _).trans c8, (q _).trans c9⟩
theorem FailsAt.to {w w' : World} {A : Option Addr} {l : List Fl} (h : FailsAt w w.heap.size A l) (hb : Below w.heap.size w w') : FailsAt w' w'.heap.size A l := by
  intro k hk
  obtain ⟨b, off, e, hB, r⟩ := h.keep hb k hk
  exact ⟨b, off, e, Nat.lt_of_lt_of_le hB hb.size, r⟩

/-- the set of the ids that were seen -/
def idSet (ids : List Int) : DataW Unit := setOf (.agg []) (ids.map (Lit.int .i64))
theorem idSet_zero : idSet [] = .map [] := by simp [idSet, setOf]
theorem idSet_snoc (ids : List Int) (x : Int) : idSet (ids ++ [x]) = (idSet ids).put (.int .i64 x) (.agg []) := by
  unfold idSet; rw [List.map_append]; exact setOf_snoc _ _ _
theorem any_ids (x : Int) : ∀ l : List Int, l.any ((fun y : Lit => y.sameKey (.int .i64 x)) ∘ Lit.int .i64) = l.contains x
  | [] => rfl
  | a :: r => by
    rw [List.any_cons, List.contains_cons, any_ids x r]
    congr 1
    show decide (IntKind.i64 = IntKind.i64 ∧ a = x) = (x == a)
    by_cases e : a = x
    · subst e; simp
    · have e' : ¬ x = a := fun h => e h.symm
      simp [e, e']
theorem has_ids (ids : List Int) (x : Int) : Maps.has (idSet ids) (.int .i64 x) = ids.contains x := by
  unfold idSet
  rw [has_setOf _ _ _ (fun y hy => by obtain ⟨_, _, rfl⟩ := List.mem_map.1 hy; trivial), List.any_map]
  exact any_ids x _
theorem intLaw : Keyed Try.prog 3 := int_keyed Try.underlying3
theorem zeroUnit (w : World) : (zeroValue 79).run Try.prog w = .ok (.agg #[]) w := by kernel_rfl

theorem fchecks_any (A : Option Addr) (l : List Fl) (c : Nat) (w : World) (hn : l.length ≤ 9223372036854775807) (ha : FailsAt w w.heap.size A l) : Calls Try.prog 24 #[.slice A l.length c] w fun e w' => e = .returned (.int .i64 (F.checks l)) ∧ Below w.heap.size w w' := by
  by_cases hm : 60 < l.length
  · have E := hid (F.checks_many hm)
    go_enter Try.func24, Try.ntmps24
    go_wp2
    go_ret
    exact ⟨by rw [E.out]; rfl, Below.refl _ _⟩
  have E := hid (F.checks_few (l := l) (by omega))
  have hmm := @run_makeMap Try.prog
  clear hn
  have hm2 : (l.length : Int) ≤ 60 := by omega
  go_enter Try.func24, Try.ntmps24
  go_wp2
  go_loopw [15] (fun i wr => ∃ k : Nat, k ≤ l.length ∧ i = .int .i64 k ∧ F.checks l = F.ckFrom ((l.take k).map (·.id)) (l.drop k) ∧ wr.ownsMap Try.prog 3 unitElem w.heap.size k (idSet ((l.take k).map (·.id))) ∧ Below w.heap.size w wr ∧ w.heap.size + 1 ≤ wr.heap.size) (fun i _ => l.length - (intOf i).toNat)
  case atStart => exact ⟨0, by omega, rfl, E.out, (show _ by rw [List.take_zero]; exact idSet_zero ▸ World.ownsMap_made _ _ _ _), balloc (Below.refl _ _) _, by simp⟩
  case round =>
    obtain ⟨k, hk, rfl, he, hown, hbw, hsz⟩ := hrel
    generalize hS : (l.take k).map (·.id) = S at *
    have HS := hid hS
    have HE := hid he
    clear he hS
    by_cases hlt : k < l.length
    · obtain ⟨b, off, rfl, hB, c0, c1, c2, c3, c4, c5, c6, c7, c8, c9⟩ := ha.keep hbw k hlt
      by_cases hc : F.chk l[k] = 0
      · have H0 := hid hc
        have hb0 : (F.chk l[k] != 0) = false := by rw [bne_eq_false_iff_eq]; exact hc
        have hkn := (F.chk_ok hc).1.1
        have hkey : keyOf Try.prog 3 (.int .i64 l[k].id) = some (.int .i64 l[k].id) := keyOf_int_mk Try.underlying3 (i64wf (by omega))
        clear hc hkn
        by_cases hmem : l[k].id ∈ S
        · have hh : Maps.has (idSet S) (.int .i64 l[k].id) = true := by rw [has_ids]; exact List.contains_iff_mem.2 hmem
          have HM := hid hmem
          clear hmem
          go_wp2_with (first
            | (go_at_call 48; refine (fcheck_c l[k] _).mono ?_; rintro e w1 ⟨rfl, hb1⟩; have hbw1 := bthen (balloc hbw _) hb1; have hown1 := (hown.alloc _).kept (only_of_below hb1 none) (by simp); obtain ⟨hc1, hf1⟩ := bcell hb1; have hz1 := hb1.size; (try simp at hz1); have hy1 : wr.heap.size < w1.heap.size := (by omega); have hx1 : w.heap.size < w1.heap.size := (by omega))
            | (at_lookup; refine wpList_lookup_own_unit _ rfl _ _ 78 rfl 3 79 intLaw Try.underlying78 (zeroUnit _) w.heap.size k _ rfl hown1 _ _ rfl hkey ?_)
            | (at_mapUpdate; refine wpList_mapUpdate_own _ rfl _ _ _ 78 rfl 3 79 intLaw Try.underlying78 (unitElem (H := Unit)) w.heap.size k _ rfl (hown1.alloc _) (by unfold maxLen; omega) _ _ _ rfl rfl hkey _ [] unitElem_mk ?_; intro w2 hown2 hgrow2))
          go_ret
          exact ⟨ret_int (by rw [HE.out, F.ckStep_twice hlt _ H0.out HM.out]), balloc hbw1 _⟩
        · have hh : Maps.has (idSet S) (.int .i64 l[k].id) = false := by rw [has_ids]; simpa using hmem
          have HM := hid hmem
          clear hmem
          go_wp2_with (first
            | (go_at_call 48; refine (fcheck_c l[k] _).mono ?_; rintro e w1 ⟨rfl, hb1⟩; have hbw1 := bthen (balloc hbw _) hb1; have hown1 := (hown.alloc _).kept (only_of_below hb1 none) (by simp); obtain ⟨hc1, hf1⟩ := bcell hb1; have hz1 := hb1.size; (try simp at hz1); have hy1 : wr.heap.size < w1.heap.size := (by omega); have hx1 : w.heap.size < w1.heap.size := (by omega))
            | (at_lookup; refine wpList_lookup_own_unit _ rfl _ _ 78 rfl 3 79 intLaw Try.underlying78 (zeroUnit _) w.heap.size k _ rfl hown1 _ _ rfl hkey ?_)
            | (at_mapUpdate; refine wpList_mapUpdate_own _ rfl _ _ _ 78 rfl 3 79 intLaw Try.underlying78 (unitElem (H := Unit)) w.heap.size k _ rfl (hown1.alloc _) (by unfold maxLen; omega) _ _ _ rfl rfl hkey _ [] unitElem_mk ?_; intro w2 hown2 hgrow2))
          go_roundw
          case rel =>
            refine ⟨k + 1, by omega, by go_num, by rw [HE.out, ← HS.out]; exact F.ckStep_on hlt H0.out (by rw [HS.out]; exact HM.out), ?_, ?_, ?_⟩
            · rw [F.ids_snoc hlt, idSet_snoc, HS.out]
              exact hown2.mono (by omega)
            · exact (balloc hbw1 _).grown hgrow2 (by simp; omega) (fun j hj => by cases hj; exact Nat.le_refl _)
            · have := hgrow2.size; simp at this; omega
          case measure => simp [intOf]; omega
      · have H0 := hid (F.ckStep_err hlt S hc)
        have hb0 : (F.chk l[k] != 0) = true := by rw [bne_iff_ne]; exact hc
        clear hc
        go_wp2_with (go_at_call 48; refine (fcheck_c l[k] _).mono ?_; rintro e w1 ⟨rfl, hb1⟩; have hbw1 := bthen (balloc hbw _) hb1)
        go_ret
        exact ⟨ret_int (by rw [HE.out, H0.out]), hbw1⟩
    · obtain rfl : k = l.length := by omega
      go_wp2
      go_ret
      exact ⟨ret_int (by rw [HE.out, F.ckEnd]), hbw⟩

def encF (f : Fl) : List Value := [.int .i64 f.id, .int .i64 f.fr, .int .i64 f.to, .int .i64 f.cl, .int .i64 f.pa, .int .i64 f.day, .int .i64 f.un, .int .i64 f.de, .int .i64 f.bo, .int .i64 f.pd]
theorem failsAt_of {w : World} {v : Value} {l : List Fl} (h : V.ArrIs w v 10 l.length (V.ga encF l)) : ∃ A c, v = .slice A l.length c ∧ l.length ≤ 9223372036854775807 ∧ FailsAt w w.heap.size A l := by
  obtain ⟨A, c, rfl, hn, _, hh⟩ := h
  refine ⟨A, c, rfl, hn, fun k hk => ?_⟩
  obtain ⟨a, rfl, hlt, _, hc⟩ := hh k hk
  rw [V.ga_at hk] at hc
  obtain ⟨a0, e0, _, _, hc0⟩ := hh 0 (by omega)
  injection e0 with e0
  subst e0
  rw [V.ga_at (by omega)] at hc0
  have h00 := hc0 0 (.int .i64 (l[0]'(by omega)).id) rfl
  obtain ⟨b, off, spot⟩ := a
  have hspot : spot = none := by
    have : (Addr.add ⟨b, off, spot⟩ (0 * 10 + 0)) = ⟨b, off, spot⟩ := rfl
    rw [this] at h00
    simpa using World.cell?_spot h00
  subst hspot
  have at' : ∀ j u, (encF l[k])[j]? = some u → w.cell? ⟨b, off + k * 10 + j, none⟩ = some u := fun j u hu => by
    have := hc j u hu
    rwa [Go.WideShapes.add_plain, ← Nat.add_assoc] at this
  exact ⟨b, off, rfl, hlt, at' 0 _ rfl, at' 1 _ rfl, at' 2 _ rfl, at' 3 _ rfl, at' 4 _ rfl, at' 5 _ rfl, at' 6 _ rfl, at' 7 _ rfl, at' 8 _ rfl, at' 9 _ rfl⟩
open V in
theorem v_fchecks (l : List Fl) : V.Fn Try.prog 24 [.arr 10 l.length (ga encF l)] [.one (.ref 0)] (.int .i64 (F.checks l)) :=
  ⟨by kernel_rfl, fun w ρ xs hr ha => by
    obtain ⟨x, r, rfl, ⟨hx, _⟩, rfl⟩ := ha
    obtain ⟨v, hv, hA⟩ := hr 0 _ rfl
    rw [hv] at hx
    injection hx with hx
    subst hx
    obtain ⟨A, c, rfl, hn, hF⟩ := failsAt_of hA
    exact fchecks_any A l c w hn hF⟩
end Go.Proofs.Yteblbhbfdfifpaa
