/- The walks of the package's functions on lists of fails: the checks, with a set of ids. -/
import Derived.Test.YtblibhmmliljgaaFailL
import Derived.Maps.OwnSet
import Derived.Maps.AppendAt
namespace Go.Proofs.Ytblibhmmliljgaa
open Go.RowKit Go.Maps
set_option maxRecDepth 100000

/-- the set of the ids that were seen -/
def idSet (ids : List Int) : DataW Unit := setOf (.agg []) (ids.map (Lit.int .i64))
theorem idSet_zero : idSet [] = .map [] := by simp [idSet, setOf]
theorem idSet_snoc (ids : List Int) (x : Int) : idSet (ids ++ [x]) = (idSet ids).put (.int .i64 x) (.agg []) := by
  unfold idSet; rw [List.map_append]; exact setOf_snoc _ _ _
theorem any_ids (x : Int) : ∀ l : List Int, l.any ((fun y : Lit => y.sameKey (.int .i64 x)) ∘ Lit.int .i64) = l.contains x
  | [] => rfl
  | a :: r => by
    rw [List.any_cons, List.contains_cons, any_ids x r]
    congr 1
    show decide (IntKind.i64 = IntKind.i64 ∧ a = x) = (x == a)
    by_cases e : a = x
    · subst e; simp
    · have e' : ¬ x = a := fun h => e h.symm
      simp [e, e']
theorem has_ids (ids : List Int) (x : Int) : Maps.has (idSet ids) (.int .i64 x) = ids.contains x := by
  unfold idSet
  rw [has_setOf _ _ _ (fun y hy => by obtain ⟨_, _, rfl⟩ := List.mem_map.1 hy; trivial), List.any_map]
  exact any_ids x _
theorem intLaw : Keyed Try.prog 3 := int_keyed Try.underlying3
theorem zeroUnit (w : World) : (zeroValue 49).run Try.prog w = .ok (.agg #[]) w := by kernel_rfl

theorem fchecks_any (A : Option Addr) (l : List Fl) (c : Nat) (w : World) (hn : l.length ≤ 9223372036854775807) (ha : FailsAt w w.heap.size A l) : Calls Try.prog 20 #[.slice A l.length c] w fun e w' => e = .returned (.int .i64 (F.checks l)) ∧ Below w.heap.size w w' := by
  by_cases hm : 60 < l.length
  · have E := hid (F.checks_many hm)
    go_enter Try.func20, Try.ntmps20
    go_wp2
    go_ret
    exact ⟨by rw [E.out]; rfl, Below.refl _ _⟩
  have E := hid (F.checks_few (l := l) (by omega))
  have hmm := @run_makeMap Try.prog
  clear hn
  have hm2 : (l.length : Int) ≤ 60 := by omega
  go_enter Try.func20, Try.ntmps20
  go_wp2
  go_loopw [15] (fun i wr => ∃ k : Nat, k ≤ l.length ∧ i = .int .i64 k ∧ F.checks l = F.ckFrom ((l.take k).map (·.id)) (l.drop k) ∧ wr.ownsMap Try.prog 3 unitElem w.heap.size k (idSet ((l.take k).map (·.id))) ∧ Below w.heap.size w wr ∧ w.heap.size + 1 ≤ wr.heap.size) (fun i _ => l.length - (intOf i).toNat)
  case atStart => exact ⟨0, by omega, rfl, E.out, (show _ by rw [List.take_zero]; exact idSet_zero ▸ World.ownsMap_made _ _ _ _), balloc (Below.refl _ _) _, by simp⟩
  case round =>
    obtain ⟨k, hk, rfl, he, hown, hbw, hsz⟩ := hrel
    generalize hS : (l.take k).map (·.id) = S at *
    have HS := hid hS
    have HE := hid he
    clear he hS
    by_cases hlt : k < l.length
    · obtain ⟨b, off, rfl, hB, c0, c1, c2, c3, c4, c5, c6, c7, c8, c9⟩ := ha.keep hbw k hlt
      by_cases hc : F.chk l[k] = 0
      · have H0 := hid hc
        have hb0 : (F.chk l[k] != 0) = false := by rw [bne_eq_false_iff_eq]; exact hc
        have hkn := (F.chk_ok hc).1.1
        have hkey : keyOf Try.prog 3 (.int .i64 l[k].id) = some (.int .i64 l[k].id) := keyOf_int_mk Try.underlying3 (i64wf (by omega))
        clear hc hkn
        by_cases hmem : l[k].id ∈ S
        · have hh : Maps.has (idSet S) (.int .i64 l[k].id) = true := by rw [has_ids]; exact List.contains_iff_mem.2 hmem
          have HM := hid hmem
          clear hmem
          go_wp2_with (first
            | (go_at_call 19; refine (fcheck_any l[k] _).mono ?_; rintro e w1 ⟨rfl, hb1⟩; have hbw1 := bthen (balloc hbw _) hb1; have hown1 := (hown.alloc _).kept (only_of_below hb1 none) (by simp); obtain ⟨hc1, hf1⟩ := bcell hb1; have hz1 := hb1.size; (try simp at hz1); have hy1 : wr.heap.size < w1.heap.size := (by omega); have hx1 : w.heap.size < w1.heap.size := (by omega))
            | (at_lookup; refine wpList_lookup_own_unit _ rfl _ _ 48 rfl 3 49 intLaw Try.underlying48 (zeroUnit _) w.heap.size k _ rfl hown1 _ _ rfl hkey ?_)
            | (at_mapUpdate; refine wpList_mapUpdate_own _ rfl _ _ _ 48 rfl 3 49 intLaw Try.underlying48 (unitElem (H := Unit)) w.heap.size k _ rfl (hown1.alloc _) (by unfold maxLen; omega) _ _ _ rfl rfl hkey _ [] unitElem_mk ?_; intro w2 hown2 hgrow2))
          go_ret
          exact ⟨ret_int (by rw [HE.out, F.ckStep_twice hlt _ H0.out HM.out]), balloc hbw1 _⟩
        · have hh : Maps.has (idSet S) (.int .i64 l[k].id) = false := by rw [has_ids]; simpa using hmem
          have HM := hid hmem
          clear hmem
          go_wp2_with (first
            | (go_at_call 19; refine (fcheck_any l[k] _).mono ?_; rintro e w1 ⟨rfl, hb1⟩; have hbw1 := bthen (balloc hbw _) hb1; have hown1 := (hown.alloc _).kept (only_of_below hb1 none) (by simp); obtain ⟨hc1, hf1⟩ := bcell hb1; have hz1 := hb1.size; (try simp at hz1); have hy1 : wr.heap.size < w1.heap.size := (by omega); have hx1 : w.heap.size < w1.heap.size := (by omega))
            | (at_lookup; refine wpList_lookup_own_unit _ rfl _ _ 48 rfl 3 49 intLaw Try.underlying48 (zeroUnit _) w.heap.size k _ rfl hown1 _ _ rfl hkey ?_)
            | (at_mapUpdate; refine wpList_mapUpdate_own _ rfl _ _ _ 48 rfl 3 49 intLaw Try.underlying48 (unitElem (H := Unit)) w.heap.size k _ rfl (hown1.alloc _) (by unfold maxLen; omega) _ _ _ rfl rfl hkey _ [] unitElem_mk ?_; intro w2 hown2 hgrow2))
          go_roundw
          case rel =>
            refine ⟨k + 1, by omega, by go_num, by rw [HE.out, ← HS.out]; exact F.ckStep_on hlt H0.out (by rw [HS.out]; exact HM.out), ?_, ?_, ?_⟩
            · rw [F.ids_snoc hlt, idSet_snoc, HS.out]
              exact hown2.mono (by omega)
            · exact (balloc hbw1 _).grown hgrow2 (by simp; omega) (fun j hj => by cases hj; exact Nat.le_refl _)
            · have := hgrow2.size; simp at this; omega
          case measure => simp [intOf]; omega
      · have H0 := hid (F.ckStep_err hlt S hc)
        have hb0 : (F.chk l[k] != 0) = true := by rw [bne_iff_ne]; exact hc
        clear hc
        go_wp2_with (go_at_call 19; refine (fcheck_any l[k] _).mono ?_; rintro e w1 ⟨rfl, hb1⟩; have hbw1 := bthen (balloc hbw _) hb1)
        go_ret
        exact ⟨ret_int (by rw [HE.out, H0.out]), hbw1⟩
    · obtain rfl : k = l.length := by omega
      go_wp2
      go_ret
      exact ⟨ret_int (by rw [HE.out, F.ckEnd]), hbw⟩
end Go.Proofs.Ytblibhmmliljgaa
