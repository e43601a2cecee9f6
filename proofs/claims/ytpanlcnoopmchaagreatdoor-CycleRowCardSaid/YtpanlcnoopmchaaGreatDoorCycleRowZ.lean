/- The statement of CycleRow: the call returns true for every input, and its input reads as it did. No condition. -/
import Derived.Test.YtpanlcnoopmchaaGreatDoorRows
import Derived.WalkKit
import Derived.ProofKit
import Derived.OpenShut
import Derived.LaidMore
import Derived.Stop.Joined
import Derived.Test.YtpanlcnoopmchaaGreatDoorCards
import Derived.Test.YtpanlcnoopmchaaGreatDoorTie
import Derived.SevenTiedAt
import Derived.Test.YtpanlcnoopmchaaGreatDoorZ1
import Derived.Test.YtpanlcnoopmchaaGreatDoorZ2
import Derived.Test.YtpanlcnoopmchaaGreatDoorZ3
import Derived.Test.YtpanlcnoopmchaaGreatDoorZ4
import Derived.Test.YtpanlcnoopmchaaGreatDoorZ5
import Derived.Test.YtpanlcnoopmchaaGreatDoorZ6
set_option linter.unusedVariables false
set_option linter.unusedSimpArgs false
set_option maxRecDepth 100000

/- What CycleRow answers: true. -/
namespace Go.Proofs.YtpanlcnoopmchaaGreatDoor
open Go Go.RowKit V
set_option maxRecDepth 100000
set_option linter.unusedVariables false
set_option linter.unusedSimpArgs false
namespace V
/-- a loop that begins with m ids given away -/
theorem NLoop.autoM {ws : List Nat} {pin : Nat} {body : Env → Obs → Nat → Kon → Prop} {env : Env} {obs : Obs} {nx : Nat} {K : Kon} {ι : Type} (m : Nat) (chg : ι → Env) (ob : ι → Obs) (dr dro : List Nat) (μ : ι → Nat) (J : ι → Prop) (i0 : ι) (h0 : J i0)
    (he : EnvLe (sgm []) env (chg i0)) (ho : ObsLe (sgm []) obs (ob i0)) (hb : ∀ i, envB m (chg i) = true ∧ obsB m (ob i) = true)
    (hr : litK (dr ++ ws) fun ws0 => keysK (chg i0) ws0 fun ws1 => keysK (ob i0) [] fun is => autoK ws1 is env fun base => keysK (ob i0) dro fun ws2 => autoO ws2 obs fun bo => (envB m base = true ∧ obsB m bo = true) ∧ ∀ i, J i → appK (chg i) base fun E => appK (ob i) bo fun O => body E O m fun e env1 obs1 nx1 => match e with
      | .nrm => NBack pin chg ob μ J base bo m (μ i) env1 obs1
      | .exit n => K (.exit n) env1 obs1 nx1
      | .ret => K .ret env1 obs1 nx1) (hp : pin ≤ m := by exact Nat.le_of_ble_eq_true rfl) : NLoop ws pin body env obs nx K := by
  rw [litK_eq] at hr
  obtain ⟨ws1, hr⟩ := keysK_spec hr
  obtain ⟨is, hr⟩ := keysK_spec hr
  obtain ⟨base, hbase, hr⟩ := autoE_spec (fun _ _ _ h => h) hr
  obtain ⟨ws2, hr⟩ := keysK_spec hr
  obtain ⟨bo, hbo, ⟨q1, q2⟩, hr⟩ := autoO_spec (fun _ _ _ h => h) hr
  refine ⟨⟨ι, fun i => (chg i ++ base, ob i ++ bo), μ, J, i0, m, hp, h0, injB_id m, he.app hbase, ho.app hbo, fun i => ⟨?_, ?_⟩, fun i hi => ?_⟩⟩
  · simp only [envB, List.all_append, Bool.and_eq_true]; exact ⟨(hb i).1, q1⟩
  · simp only [obsB, List.all_append, Bool.and_eq_true]; exact ⟨(hb i).2, q2⟩
  · have := appK_spec (appK_spec (hr i hi))
    refine cast ?_ this
    congr 1
    funext e env1 obs1 nx1
    cases e
    · apply propext
      constructor
      · rintro ⟨i', l, a, b, p, c, d, e, f, g⟩; exact ⟨i', l, a, b, p, c, d.app e, f.app g⟩
      · rintro ⟨i', l, a, b, p, c, d, e⟩
        exact ⟨i', l, a, b, p, c, d.left, d.right, e.left, e.right⟩
    · rfl
    · rfl
end V
def rwA (w : Wd) (o : Option Wd) : List At := match o with
  | none => [.val (.int .i64 w.td), .ref 2, .ref 3]
  | some X => [.val (.int .i64 X.td), .ref 9, .ref 10]
def rwO (o : Option Wd) : Obs := match o with
  | none => []
  | some X => [(9, .row 41 10 X.fs.length (ga encF X.fs)), (10, .row 52 3 X.bk.length (ga encP X.bk))]
set_option maxHeartbeats 4000000 in
theorem v_cycleRow (r : Ru0) (wr : WfRu r) (w : Wd) (ww : WfWd w) (hz1 : w.fs.length ≤ 1759218604390 ∧ w.bk.length ≤ 5864062014634) (pr : List Int) (wp : ∀ p ∈ pr, (Lit.int .i64 p).wf = true) (many : Int) (wm : (Lit.int .i64 many).wf = true) : V.Fn Tryz.prog 3 [.arr 1 r.c.hs.length (ga e1 r.c.hs), .arr 4 r.ts.length (ga encTm r.ts), .arr 10 w.fs.length (ga encF w.fs), .arr 3 w.bk.length (ga encP w.bk), .arr 1 pr.length (ga e1 pr), dt] [.agg [.val (.int .i64 r.c.we), .ref 0, .ref 1, .val (.int .i64 r.ex)], .agg [.val (.int .i64 w.td), .ref 2, .ref 3], .one (.ref 4), .one (.val (.int .i64 many))] (.bool true) := by
  refine V.Fn.lim (by kernel_rfl) fun hl => ?_
  have hc := hl 0 _ _ _ rfl
  have ht := hl 1 _ _ _ rfl
  have hp := hl 4 _ _ _ rfl
  obtain ⟨c, t, x⟩ := r
  dsimp only at hc ht ⊢
  clear hl ww wr wp wm
  by_cases hm : many < 1 ∨ 5 < many
  · refine V.Fn.mk_ V.Tok V.mixed Tryz.func3 rfl Tryz.ntmps3 (by kernel_rfl) rfl rfl ?_
    repeat' ((conv => whnf); first | (refine V.NIf.yes ?_ ?_; · (omega; done)) | (refine V.NIf.no ?_ ?_; · (omega; done)) | (refine V.NIf.yes ?_ ?_; · (decide; done)) | (refine V.NIf.no ?_ ?_; · (decide; done)) | (refine V.NIf.yes ?_ ?_; · (simp only [true_and, and_true, and_self]; done)) | refine V.NCond.mk ?_ | refine V.NPick.l ?_ | refine V.NIf.not_ ?_ | refine V.NIf.dec_ ?_ | refine V.a4 ?_ | refine V.a5 ?_ | refine V.NIf.mk (fun _ => ?_) (fun _ => ?_) | refine V.a7 ?_ | refine V.a8 ?_ | refine V.a9 ?_ | refine V.NBoth.mk ?_ ?_ | refine V.b1 ?_ | refine V.b2 ?_ | refine V.NTF.dec ?_ | refine V.b3 ?_ | refine V.b4 ?_ | (first | refine V.Fn.k0 (v_cyBegun) rfl ?_ | refine V.Fn.q0 (v_cyBegun) rfl ?_ | refine V.Fn.a0 (v_cyBegun) rfl ?_) | ((first | refine V.Fn.k (v_calBegun) [5] rfl ?_ ?_ | refine V.Fn.q (v_calBegun) [5] rfl ?_ ?_ | refine V.Fn.a (v_calBegun) [5] rfl ?_ ?_); · exact V.D_) | (refine V.NDraw.any (by kernel_rfl) ?_) | fail)
    all_goals (conv => whnf)
    all_goals first | exact ⟨true, rfl, by simp⟩ | trace_state
  · have cz := v_sameworld Cy.zw Cy.zw (by decide) (by decide)
    rw [show decide (Cy.zw = Cy.zw) = true from decide_eq_true rfl] at cz
    refine V.Fn.mk_ V.Tok V.mixed Tryz.func3 rfl Tryz.ntmps3 (by kernel_rfl) rfl rfl ?_
    repeat' ((conv => whnf); first | (refine V.NIf.yes ?_ ?_; · (omega; done)) | (refine V.NIf.no ?_ ?_; · (omega; done)) | (refine V.NIf.yes ?_ ?_; · (decide; done)) | (refine V.NIf.no ?_ ?_; · (decide; done)) | (refine V.NIf.yes ?_ ?_; · (simp only [true_and, and_true, and_self]; done)) | refine V.NCond.mk ?_ | refine V.NPick.l ?_ | refine V.NIf.not_ ?_ | refine V.NIf.dec_ ?_ | refine V.a4 ?_ | refine V.a5 ?_ | refine V.NIf.mk (fun _ => ?_) (fun _ => ?_) | refine V.a7 ?_ | refine V.a8 ?_ | refine V.a9 ?_ | refine V.NBoth.mk ?_ ?_ | refine V.b1 ?_ | refine V.b2 ?_ | refine V.NTF.dec ?_ | refine V.b3 ?_ | refine V.b4 ?_ | (first | refine V.Fn.k0 (v_cyBegun) rfl ?_ | refine V.Fn.q0 (v_cyBegun) rfl ?_ | refine V.Fn.a0 (v_cyBegun) rfl ?_) | ((first | refine V.Fn.k (v_calBegun) [5] rfl ?_ ?_ | refine V.Fn.q (v_calBegun) [5] rfl ?_ ?_ | refine V.Fn.a (v_calBegun) [5] rfl ?_ ?_); · exact V.D_) | (refine V.NDraw.any (by kernel_rfl) ?_) | fail)
    all_goals (conv => whnf)
    all_goals refine V.NLoop.autoM 11 (fun (s : Nat × Option Wd) => [(10, .one (.val (.int .i64 s.1)))]) (fun (s : Nat × Option Wd) => [(8, .box 31 (rwA w s.2))] ++ rwO s.2) [] [] (fun s => many.toNat - s.1) (fun s => (s.1 : Int) ≤ many ∧ Cy.RwJ c w s.1 (s.2.getD w) ∧ (s.2 = none ↔ s.1 = 0)) (0, none) ⟨by omega, Cy.RwJ.start c w, by simp⟩ V.S_ V.S_ (fun s => by obtain ⟨_, o⟩ := s; cases o <;> exact ⟨rfl, rfl⟩) ?_; (conv => whnf); refine ⟨⟨rfl, rfl⟩, ?_⟩
    rintro s ⟨hk, hs, ho⟩
    generalize s.1 = k at *
    generalize s.2 = o at *
    cases o with
    | none =>
      obtain rfl : k = 0 := ho.1 rfl
      have c1 := v_night c t x w pr hc ht hp hz1.1 hz1.2
      have nx := fun e => Cy.RwJ.next (t := t) (x := x) (pr := pr) hs (fun _ => rfl) e
      rw [show (none : Option Wd).getD w = w from rfl] at nx
      by_cases h : Cy.nE c t x w pr = 0
      · have nx := nx h
        rw [h] at c1
        clear h hs ho
        generalize Cy.nW c t x w pr = X at *
        generalize Cy.nP c t x w pr = PS at *
        repeat' ((conv => whnf); first | (refine V.NIf.yes ?_ ?_; · (omega; done)) | (refine V.NIf.no ?_ ?_; · (omega; done)) | (refine V.NIf.yes ?_ ?_; · (decide; done)) | (refine V.NIf.no ?_ ?_; · (decide; done)) | (refine V.NIf.yes ?_ ?_; · (simp only [true_and, and_true, and_self]; done)) | refine V.NCond.mk ?_ | refine V.NPick.l ?_ | refine V.NIf.not_ ?_ | refine V.NIf.dec_ ?_ | refine V.a4 ?_ | refine V.a5 ?_ | refine V.NIf.mk (fun _ => ?_) (fun _ => ?_) | refine V.a7 ?_ | refine V.a8 ?_ | refine V.a9 ?_ | refine V.NBoth.mk ?_ ?_ | refine V.b1 ?_ | refine V.b2 ?_ | refine V.NTF.dec ?_ | refine V.b3 ?_ | refine V.b4 ?_ | ((first | refine V.FnR.k_ (c1) [0, 1, 2, 3, 4] rfl ?_ ?_ | refine V.FnR.a_ (c1) [0, 1, 2, 3, 4] rfl ?_ ?_); · exact V.D_) | (refine V.NDraw.any (by kernel_rfl) ?_) | fail)
        all_goals (conv => whnf)
        all_goals first
          | exact V.NBack.at_ (1, some X) [(9, 11), (10, 12)] ⟨by dsimp only; omega, nx, by simp⟩ (by dsimp only; omega) V.S_ rfl ⟨rfl, ObLe.as_ rfl, ObLe.as_ rfl, trivial⟩ V.S_ V.S_
          | exact V.NBack.at_ (1, some X) [(9, 12), (10, 13)] ⟨by dsimp only; omega, nx, by simp⟩ (by dsimp only; omega) V.S_ rfl ⟨rfl, ObLe.as_ rfl, ObLe.as_ rfl, trivial⟩ V.S_ V.S_
          | trace_state
      · rw [(Cy.zw_of h).1, (Cy.zw_of h).2] at c1
        clear nx hs ho
        repeat' ((conv => whnf); first | (refine V.NIf.yes ?_ ?_; · (exact h; done)) | (refine V.NIf.no ?_ ?_; · (exact h; done)) | (refine V.NIf.yes ?_ ?_; · (omega; done)) | (refine V.NIf.no ?_ ?_; · (omega; done)) | (refine V.NIf.yes ?_ ?_; · (decide; done)) | (refine V.NIf.no ?_ ?_; · (decide; done)) | (refine V.NIf.yes ?_ ?_; · (simp only [true_and, and_true, and_self]; done)) | refine V.NCond.mk ?_ | refine V.NPick.l ?_ | refine V.NIf.not_ ?_ | refine V.NIf.dec_ ?_ | refine V.a4 ?_ | refine V.a5 ?_ | refine V.NIf.mk (fun _ => ?_) (fun _ => ?_) | refine V.a7 ?_ | refine V.a8 ?_ | refine V.a9 ?_ | refine V.NBoth.mk ?_ ?_ | refine V.b1 ?_ | refine V.b2 ?_ | refine V.NTF.dec ?_ | refine V.b3 ?_ | refine V.b4 ?_ | ((first | refine V.FnR.k_ (c1) [0, 1, 2, 3, 4] rfl ?_ ?_ | refine V.FnR.a_ (c1) [0, 1, 2, 3, 4] rfl ?_ ?_); · exact V.D_) | (refine V.NCall.nilf (f := 7) 1 1 10 _ rfl rfl ?_) | (refine V.NCall.nilf (f := 7) 1 2 3 _ rfl rfl ?_) | ((first | refine V.Fn.k (cz) [11, 12, 15, 16] rfl ?_ ?_ | refine V.Fn.q (cz) [11, 12, 15, 16] rfl ?_ ?_ | refine V.Fn.a (cz) [11, 12, 15, 16] rfl ?_ ?_); · exact ⟨⟨rfl, rfl, fun _ _ => rfl⟩, ⟨rfl, rfl, fun _ _ => rfl⟩, ⟨rfl, rfl, fun k hk => absurd hk (Nat.not_lt_zero _)⟩, ⟨rfl, rfl, fun k hk => absurd hk (Nat.not_lt_zero _)⟩, trivial⟩) | (refine V.NDraw.any (by kernel_rfl) ?_) | fail)
        all_goals (conv => whnf)
        all_goals first | exact ⟨true, rfl, by simp⟩ | trace_state
    | some X =>
      have k0 : ¬ k = 0 := fun z => by have := ho.2 z; cases this
      rw [show (some X : Option Wd).getD w = X from rfl] at hs
      obtain ⟨_, _, _, _, wX⟩ := hs.td (by omega)
      obtain ⟨n60, n400⟩ := Cy.wE_len wX
      by_cases hlt : (k : Int) < many
      · have c1 := v_night c t x X pr hc ht hp (by omega) (by omega)
        have nx := fun e => Cy.RwJ.next (t := t) (x := x) (pr := pr) hs (fun z => absurd z k0) e
        by_cases h : Cy.nE c t x X pr = 0
        · have nx := nx h
          rw [h] at c1
          clear h hs ho wX
          generalize Cy.nW c t x X pr = Y at *
          generalize Cy.nP c t x X pr = PS at *
          repeat' ((conv => whnf); first | (refine V.NIf.yes ?_ ?_; · (omega; done)) | (refine V.NIf.no ?_ ?_; · (omega; done)) | (refine V.NIf.yes ?_ ?_; · (decide; done)) | (refine V.NIf.no ?_ ?_; · (decide; done)) | (refine V.NIf.yes ?_ ?_; · (simp only [true_and, and_true, and_self]; done)) | refine V.NCond.mk ?_ | refine V.NPick.l ?_ | refine V.NIf.not_ ?_ | refine V.NIf.dec_ ?_ | refine V.a4 ?_ | refine V.a5 ?_ | refine V.NIf.mk (fun _ => ?_) (fun _ => ?_) | refine V.a7 ?_ | refine V.a8 ?_ | refine V.a9 ?_ | refine V.NBoth.mk ?_ ?_ | refine V.b1 ?_ | refine V.b2 ?_ | refine V.NTF.dec ?_ | refine V.b3 ?_ | refine V.b4 ?_ | ((first | refine V.FnR.k_ (c1) [0, 1, 9, 10, 4] rfl ?_ ?_ | refine V.FnR.a_ (c1) [0, 1, 9, 10, 4] rfl ?_ ?_); · exact V.D_) | (refine V.NDraw.any (by kernel_rfl) ?_) | fail)
          all_goals (conv => whnf)
          all_goals first
            | exact V.NBack.at_ (k + 1, some Y) [(9, 11), (10, 12)] ⟨by dsimp only; omega, nx, by simp⟩ (by dsimp only; omega) V.S_ rfl ⟨rfl, ObLe.as_ rfl, ObLe.as_ rfl, trivial⟩ V.S_ V.S_
            | exact V.NBack.at_ (k + 1, some Y) [(9, 12), (10, 13)] ⟨by dsimp only; omega, nx, by simp⟩ (by dsimp only; omega) V.S_ rfl ⟨rfl, ObLe.as_ rfl, ObLe.as_ rfl, trivial⟩ V.S_ V.S_
            | trace_state
        · rw [(Cy.zw_of h).1, (Cy.zw_of h).2] at c1
          clear nx hs ho wX
          repeat' ((conv => whnf); first | (refine V.NIf.yes ?_ ?_; · (exact h; done)) | (refine V.NIf.no ?_ ?_; · (exact h; done)) | (refine V.NIf.yes ?_ ?_; · (omega; done)) | (refine V.NIf.no ?_ ?_; · (omega; done)) | (refine V.NIf.yes ?_ ?_; · (decide; done)) | (refine V.NIf.no ?_ ?_; · (decide; done)) | (refine V.NIf.yes ?_ ?_; · (simp only [true_and, and_true, and_self]; done)) | refine V.NCond.mk ?_ | refine V.NPick.l ?_ | refine V.NIf.not_ ?_ | refine V.NIf.dec_ ?_ | refine V.a4 ?_ | refine V.a5 ?_ | refine V.NIf.mk (fun _ => ?_) (fun _ => ?_) | refine V.a7 ?_ | refine V.a8 ?_ | refine V.a9 ?_ | refine V.NBoth.mk ?_ ?_ | refine V.b1 ?_ | refine V.b2 ?_ | refine V.NTF.dec ?_ | refine V.b3 ?_ | refine V.b4 ?_ | ((first | refine V.FnR.k_ (c1) [0, 1, 9, 10, 4] rfl ?_ ?_ | refine V.FnR.a_ (c1) [0, 1, 9, 10, 4] rfl ?_ ?_); · exact V.D_) | (refine V.NCall.nilf (f := 7) 1 1 10 _ rfl rfl ?_) | (refine V.NCall.nilf (f := 7) 1 2 3 _ rfl rfl ?_) | ((first | refine V.Fn.k (cz) [11, 12, 15, 16] rfl ?_ ?_ | refine V.Fn.q (cz) [11, 12, 15, 16] rfl ?_ ?_ | refine V.Fn.a (cz) [11, 12, 15, 16] rfl ?_ ?_); · exact ⟨⟨rfl, rfl, fun _ _ => rfl⟩, ⟨rfl, rfl, fun _ _ => rfl⟩, ⟨rfl, rfl, fun k hk => absurd hk (Nat.not_lt_zero _)⟩, ⟨rfl, rfl, fun k hk => absurd hk (Nat.not_lt_zero _)⟩, trivial⟩) | (refine V.NDraw.any (by kernel_rfl) ?_) | fail)
          all_goals (conv => whnf)
          all_goals first | exact ⟨true, rfl, by simp⟩ | trace_state
      · obtain ⟨q1, q2⟩ := hs.fin (by omega)
        have fl := hs.fl
        have em : many = (k : Int) := by omega
        subst em
        have cT := v_caStep c w.td (k : Int) hc
        rw [q1, q2] at cT
        clear hs ho wX q1 q2
        repeat' ((conv => whnf); first | (refine V.NIf.yes ?_ ?_; · (omega; done)) | (refine V.NIf.no ?_ ?_; · (omega; done)) | (refine V.NIf.yes ?_ ?_; · (decide; done)) | (refine V.NIf.no ?_ ?_; · (decide; done)) | (refine V.NIf.yes ?_ ?_; · (simp only [true_and, and_true, and_self]; done)) | refine V.NCond.mk ?_ | refine V.NPick.l ?_ | refine V.NIf.not_ ?_ | refine V.NIf.dec_ ?_ | refine V.a4 ?_ | refine V.a5 ?_ | refine V.NIf.mk (fun _ => ?_) (fun _ => ?_) | refine V.a7 ?_ | refine V.a8 ?_ | refine V.a9 ?_ | refine V.NBoth.mk ?_ ?_ | refine V.b1 ?_ | refine V.b2 ?_ | refine V.NTF.dec ?_ | refine V.b3 ?_ | refine V.b4 ?_ | ((first | refine V.Fn.k (cT) [0] rfl ?_ ?_ | refine V.Fn.q (cT) [0] rfl ?_ ?_ | refine V.Fn.a (cT) [0] rfl ?_ ?_); · exact V.D_) | (refine V.NDraw.any (by kernel_rfl) ?_) | fail)
        all_goals (conv => whnf)
        all_goals first | exact ⟨true, rfl, by simp [fl]⟩ | trace_state
end Go.Proofs.YtpanlcnoopmchaaGreatDoor

/- The statement of CycleRow: for every input the call returns true and its input reads as it did. No condition. -/
namespace Go.Proofs.YtpanlcnoopmchaaGreatDoor.cycleRow
open Go.ChangeShapes Go.WideShapes Go.ChangeAt Go.RowKit

theorem own : ownKnob Tryz.prog.godebug = none := by kernel_rfl

set_option maxRecDepth 100000 in
theorem lifted (os : Os) (started : os.Started) (H : Type) (enc : TypeId × Value → H) :
    ReturnsInHanded {} Tryz.checked os 3 .any (fun w args => (Rows.cycleRowSpec.pre enc Tryz.prog Tryz.f3 [] false w args ∧ laidMetH Tryz.prog laidList w) ∧ sizedMet enc Tryz.prog Tryz.f3 (OpenSpec.ofChange Rows.cycleRowSpec) false w args)
      (Rows.cycleRowSpec.post enc Tryz.prog Tryz.f3 false true false false) := by
  refine returnsInHanded_of_change_and (C := Tryz.checked) (X := fun w _ => laidMetH Tryz.prog laidList w) (fun _ _ _ hh h => h.of_heap hh) own started (by kernel_rfl) Tryz.func3
    (ChangeSpec.witness_shaped (enc := enc) (C := Tryz.checked) (os := os) (X := fun w _ => laidMetH Tryz.prog laidList w) false (World.doorLaid Tryz.prog 400 os) #[.agg #[.int .i64 0, .slice none 0 0, .slice none 0 0, .int .i64 0], .agg #[.int .i64 0, .slice none 0 0, .slice none 0 0], .slice none 0 0, .int .i64 0] 8 rfl (World.shaped_of_RefB (by kernel_rfl) (by kernel_rfl)) (by kernel_rfl) (by kernel_rfl) (by kernel_rfl) (door_met os _)) ?_
  intro W base args ds gs before hval0 hW _ hsz hL _
  have hval : ∀ (j : Nat) t v, Tryz.f3.params[j]? = some t → args[j]? = some v → Value.okWide Tryz.prog W .any base t v := hval0
  have hW' := hW
  obtain ⟨p, q, hA0, hV, rfl, hfz, hnd⟩ := hW
  have hA : DataW.TrodAll enc Tryz.prog W 0 (fun _ => true) true Tryz.f3.params.toList args.toList ds p := hA0
  rw [Tryz.params3] at hA hval hsz
  obtain ⟨v0, vs0, d0, ds0, p0, q0, hargs, rfl, rfl, h0, r0⟩ := trodAll_cons hA
  obtain ⟨v1, vs1, d1, ds1, p1, q1, rfl, rfl, rfl, h1, r1⟩ := trodAll_cons r0
  obtain ⟨v2, vs2, d2, ds2, p2, q2, rfl, rfl, rfl, h2, r2⟩ := trodAll_cons r1
  obtain ⟨v3, vs3, d3, ds3, p3, q3, rfl, rfl, rfl, h3, r3⟩ := trodAll_cons r2
  obtain ⟨rfl, rfl, rfl⟩ := trodAll_nil r3
  obtain rfl : args = #[v0, v1, v2, v3] := by cases args; simp_all
  obtain ⟨rfl, rfl⟩ := trodVars_none hV
  obtain ⟨c0, u0, x0, rfl, hl0, hm0, w0⟩ := open_ru (hval 0 27 v0 rfl rfl) h0
  obtain ⟨c1, u1, x1, rfl, hl1, hm1, w1⟩ := open_wd (hval 1 31 v1 rfl rfl) h1
  obtain ⟨l2, hl2, w2⟩ := open_il (hval 2 22 v2 rfl rfl) h2
  obtain ⟨a3, rfl, rfl, rfl, w3⟩ := open_int Tryz.underlying3 (hval 3 3 v3 rfl rfl) h3
  have z1 := len_field hsz (j := 1) rfl rfl h1 wdStruct wd1 flsCells rfl Tryz.underlying28 (show Tryz.prog.bytesOf 41 = 80 by kernel_rfl) hl1
  have y1 := len_field hsz (j := 1) rfl rfl h1 wdStruct wd2 posCells rfl Tryz.underlying29 (show Tryz.prog.bytesOf 52 = 24 by kernel_rfl) hm1
  have hlong := long_of_laid hL
  clear hval0
  simp only [List.append_nil] at hW'
  refine ((v_cycleRow c0 w0 c1 w1 ⟨by omega, by omega⟩ l2 w2 a3 w3).c W (fun i => [u0, x0, u1, x1, v2, .pointer (some ⟨0, 0, none⟩)][i]?) [_, _, _, _] (fun i o ho => by
      rcases i with _ | i
      · obtain rfl := Option.some.inj ho
        exact ⟨u0, rfl, hl0⟩
      rcases i with _ | i
      · obtain rfl := Option.some.inj ho
        exact ⟨x0, rfl, hm0⟩
      rcases i with _ | i
      · obtain rfl := Option.some.inj ho
        exact ⟨u1, rfl, hl1⟩
      rcases i with _ | i
      · obtain rfl := Option.some.inj ho
        exact ⟨x1, rfl, hm1⟩
      rcases i with _ | i
      · obtain rfl := Option.some.inj ho
        exact ⟨v2, rfl, hl2⟩
      rcases i with _ | i
      · obtain rfl := Option.some.inj ho
        exact ⟨.pointer (some ⟨0, 0, none⟩), rfl, rfl, tab_of_long hlong⟩
      simp at ho
) ⟨_, _, rfl, ⟨[_, _, _, _], ⟨_, _, rfl, rfl, _, _, rfl, ⟨rfl, hl0.one⟩, _, _, rfl, ⟨rfl, hm0.one⟩, _, _, rfl, rfl, rfl⟩, rfl⟩, ⟨_, _, rfl, ⟨[_, _, _], ⟨_, _, rfl, rfl, _, _, rfl, ⟨rfl, hl1.one⟩, _, _, rfl, ⟨rfl, hm1.one⟩, rfl⟩, rfl⟩, ⟨_, _, rfl, ⟨rfl, hl2.one⟩, ⟨_, _, rfl, rfl, rfl⟩⟩⟩⟩).mono fun e W' ⟨he, hg⟩ => ?_
  subst he
  exact ⟨_, rfl, post_of_below (pa := _) (pv := []) hW' (fun _ _ _ => (trodAll_cons_mk (shut_bool Tryz.underlying4 _) trodAll_mk0)) (fun sp hsp => all_stays laidOut (by kernel_rfl) hA0 (fun x hx => hg.same (hW'.lt x (by revert hx; simp))) (fun x hx => hsp x (by revert hx; simp))) (fun _ _ => rfl) (by simp)
    hg (ok_one (by kernel_rfl) rfl (okWide_bool_mk Tryz.underlying4 _))⟩

theorem over : Rows.cycleRowRow.holds Tryz.pinned (OpenSpec.ofChange Rows.cycleRowSpec) :=
  OpenClaim.holds_of_wide 3 Tryz.f3 rfl rfl rfl rfl rfl rfl rfl ⟨rfl, rfl, rfl, rfl, rfl⟩ rfl rfl rfl rfl rfl (by kernel_rfl) Tryz.func3 (by kernel_rfl)
    (of_decide_eq_true (by kernel_rfl)) (by unfold Func.isWrapper; first | (rw [if_pos (by decide +kernel)]; kernel_rfl) | (rw [if_neg (by decide +kernel)]; exact ⟨rfl, rfl⟩))
    (fun os started H enc _ => lifted os started H enc)

theorem proved : Rows.CycleRowCardSaid :=
  Claim7.holds_tied_plain_at .later [] [.data] true _ false
    over (fun _ h => by cases h) (by kernel_rfl) (fun _ h => by cases h) cycleRow_row_tie rfl ⟨rfl, rfl⟩ (by kernel_rfl) rfl
    (fun f fn hf hfn => by
      obtain rfl : f = 3 := Option.some.inj ((show Tryz.prog.funcNamed "demurrage/demurragelaw.CycleRow" = some 3 by kernel_rfl).symm.trans hf) |>.symm
      obtain rfl : fn = Tryz.f3 := (Option.some.inj (Tryz.func3.symm.trans hfn)).symm
      exact ⟨by kernel_rfl, fun j t ht => by
        rw [Tryz.params3] at ht
        have hm : t ∈ [27, 31, 22, 3] := by have := Array.mem_of_getElem? ht; simp at this ⊢; omega
        have hall : ([27, 31, 22, 3].all fun u => !Tryz.prog.wantsStandIn u) = true := by kernel_rfl
        exact (show Tryz.prog.wantsStandIn t = false by simpa using List.all_eq_true.1 hall t hm)⟩)
    (by kernel_rfl)
end Go.Proofs.YtpanlcnoopmchaaGreatDoor.cycleRow
