/- Shared texts, one behind the other: VBook7, VBook8, VBook5, VBook6, VBook9, VBook10, VBook11, BookPl5, CompPl, CyPl, VCy, VSlI, VComp, VClaim, VCy2, VCy3, VCy4, VCy5, VPen2, VCy6, VCy7, CyPl2, VCy8, VCy9 -/
import Derived.Test.YtpanlcnoopmchaaGreatX1
import Derived.Test.YtpanlcnoopmchaaGreatX2
import Derived.Test.YtpanlcnoopmchaaGreatX3
import Derived.Test.YtpanlcnoopmchaaGreatX4
import Derived.Test.YtpanlcnoopmchaaGreatX5
set_option linter.unusedVariables false
set_option linter.unusedSimpArgs false
set_option maxRecDepth 100000

namespace Go.Proofs.YtpanlcnoopmchaaGreat
open Go Go.Sort Go.RowKit V
set_option maxHeartbeats 4000000
theorem v_merged (b l : List Po) (hb : b.length ≤ 1000) (hn : 0 < l.length ∧ l.length ≤ 1000) (R : ∀ p ∈ b ++ l, Bk.Right p) : V.FnR Tryz.prog 125 [.arr 3 b.length (ga encP b), .arr 3 l.length (ga encP l)] [.one (.ref 0), .one (.ref 1)] (.tup [.one (.ref 2), .one (.val (.int .i64 (Bk.mE (Bk.tot (b ++ l)))))]) [.row 65 3 (Bk.mL (Bk.tot (b ++ l))).length (ga encP (Bk.mL (Bk.tot (b ++ l))))] := by
  obtain ⟨sz, s0, s1, s2⟩ : ∃ sz : Nat → Int, sz 0 = 0 ∧ sz 1 = b.length ∧ sz 2 = ((b.length + l.length : Nat) : Int) := ⟨fun k => if k = 0 then 0 else if k = 1 then b.length else ((b.length + l.length : Nat) : Int), rfl, rfl, rfl⟩
  obtain ⟨cc, d0, d1, d2⟩ : ∃ cc : Nat → List Po, cc 0 = [] ∧ cc 1 = b ∧ cc 2 = b ++ l := ⟨fun k => if k = 0 then [] else if k = 1 then b else b ++ l, rfl, rfl, rfl⟩
  have cg := v_grow (b.length + l.length) (by omega)
  rw [← s2] at cg
  refine V.FnR.mk_ V.Tok V.mixed Tryz.func125 rfl Tryz.ntmps125 (by kernel_rfl) rfl rfl rfl rfl ?_
  repeat' ((conv => whnf); first | refine V.NCond.mk ?_ | refine V.NPick.l ?_ | refine V.NIf.not_ ?_ | refine V.NIf.dec_ ?_ | refine V.a4 ?_ | refine V.a5 ?_ | refine V.NIf.mk (fun _ => ?_) (fun _ => ?_) | refine V.a7 ?_ | refine V.a8 ?_ | refine V.a9 ?_ | refine V.NBoth.mk ?_ ?_ | refine V.b1 ?_ | refine V.b2 ?_ | refine V.NTF.dec ?_ | refine V.b3 ?_ | refine V.b4 ?_ | (refine V.NCall.inl (f := 152) V.Tok V.mixed Tryz.func152 rfl Tryz.ntmps152 (by kernel_rfl) rfl ?_) | (refine V.NDraw.any (by kernel_rfl) ?_) | fail)
  all_goals (conv => whnf)
  refine V.NLoop.auto (fun (k : Nat) => [(11, .one (.val (.int .i64 k))), (3, .one (.val (.int .i64 (sz k))))]) (fun (k : Nat) => []) [] [] (fun (k : Nat) => 2 - k) (fun (k : Nat) => k ≤ 2) 0 (Nat.zero_le _) (by (conv => whnf); exact ⟨rfl, congrArg (fun z : Int => V.SV.one (V.At.val (Value.int .i64 z))) s0.symm, trivial⟩) V.S_ (fun _ => ⟨rfl, rfl⟩) ?_; (conv => whnf); refine ⟨⟨rfl, rfl⟩, ?_⟩
  rintro k hk
  match k, hk with
  | 0, _ =>
    repeat' ((conv => whnf); first | (refine V.NIf.yes ?_ ?_; · (decide; done)) | (refine V.NIf.no ?_ ?_; · (decide; done)) | refine V.NCond.mk ?_ | refine V.NPick.l ?_ | refine V.NIf.not_ ?_ | refine V.NIf.dec_ ?_ | refine V.a4 ?_ | refine V.a5 ?_ | refine V.NIf.mk (fun _ => ?_) (fun _ => ?_) | refine V.a7 ?_ | refine V.a8 ?_ | refine V.a9 ?_ | refine V.NBoth.mk ?_ ?_ | refine V.b1 ?_ | refine V.b2 ?_ | refine V.NTF.dec ?_ | refine V.b3 ?_ | refine V.b4 ?_ | (refine NIdx.mk ⟨0, rfl, by decide, ?_⟩) | (refine V.NDraw.any (by kernel_rfl) ?_) | fail)
    all_goals (conv => whnf)
    exact V.NBack.at_ 1 [] (by omega) (by omega) ⟨V.S_, congrArg (fun z : Int => V.SV.one (V.At.val (Value.int .i64 z))) (by omega), trivial⟩ rfl V.S_ V.S_ V.S_
  | 1, _ =>
    repeat' ((conv => whnf); first | (refine V.NIf.yes ?_ ?_; · (decide; done)) | (refine V.NIf.no ?_ ?_; · (decide; done)) | refine V.NCond.mk ?_ | refine V.NPick.l ?_ | refine V.NIf.not_ ?_ | refine V.NIf.dec_ ?_ | refine V.a4 ?_ | refine V.a5 ?_ | refine V.NIf.mk (fun _ => ?_) (fun _ => ?_) | refine V.a7 ?_ | refine V.a8 ?_ | refine V.a9 ?_ | refine V.NBoth.mk ?_ ?_ | refine V.b1 ?_ | refine V.b2 ?_ | refine V.NTF.dec ?_ | refine V.b3 ?_ | refine V.b4 ?_ | (refine NIdx.mk ⟨1, rfl, by decide, ?_⟩) | (refine V.NDraw.any (by kernel_rfl) ?_) | fail)
    all_goals (conv => whnf)
    exact V.NBack.at_ 2 [] (by omega) (by omega) ⟨V.S_, congrArg (fun z : Int => V.SV.one (V.At.val (Value.int .i64 z))) (by omega), trivial⟩ rfl V.S_ V.S_ V.S_
  | 2, _ =>
    repeat' ((conv => whnf); first | (refine V.NIf.yes ?_ ?_; · (decide; done)) | (refine V.NIf.no ?_ ?_; · (decide; done)) | refine V.NCond.mk ?_ | refine V.NPick.l ?_ | refine V.NIf.not_ ?_ | refine V.NIf.dec_ ?_ | refine V.a4 ?_ | refine V.a5 ?_ | refine V.NIf.mk (fun _ => ?_) (fun _ => ?_) | refine V.a7 ?_ | refine V.a8 ?_ | refine V.a9 ?_ | refine V.NBoth.mk ?_ ?_ | refine V.b1 ?_ | refine V.b2 ?_ | refine V.NTF.dec ?_ | refine V.b3 ?_ | refine V.b4 ?_ | (first | refine V.FnR.k0 (cg) rfl ?_ | refine V.FnR.a0 (cg) rfl ?_) | (refine V.NDraw.any (by kernel_rfl) ?_) | fail)
    all_goals (conv => whnf)
    refine V.NLoop.auto (fun (k : Nat) => [(27, .one (.val (.int .i64 k))), (6, .one (.ref 5))]) (fun (k : Nat) => [(5, .row 65 3 (cc k).length (ga encP (cc k)))]) [] [] (fun (k : Nat) => 2 - k) (fun (k : Nat) => k ≤ 2) 0 (Nat.zero_le _) V.S_ (by (conv => whnf); exact ⟨⟨rfl, rfl, by rw [d0]; rfl, fun k hk => absurd hk (Nat.not_lt_zero _)⟩, trivial⟩) (fun _ => ⟨rfl, rfl⟩) ?_; (conv => whnf); refine ⟨⟨rfl, rfl⟩, ?_⟩
    rintro k hk
    match k, hk with
    | 0, _ =>
      repeat' ((conv => whnf); first | (refine V.NIf.yes ?_ ?_; · (decide; done)) | (refine V.NIf.no ?_ ?_; · (decide; done)) | refine V.NCond.mk ?_ | refine V.NPick.l ?_ | refine V.NIf.not_ ?_ | refine V.NIf.dec_ ?_ | refine V.a4 ?_ | refine V.a5 ?_ | refine V.NIf.mk (fun _ => ?_) (fun _ => ?_) | refine V.a7 ?_ | refine V.a8 ?_ | refine V.a9 ?_ | refine V.NBoth.mk ?_ ?_ | refine V.b1 ?_ | refine V.b2 ?_ | refine V.NTF.dec ?_ | refine V.b3 ?_ | refine V.b4 ?_ | (refine NIdx.mk ⟨0, rfl, by decide, ?_⟩) | (refine NOne.mk ?_ ?_; · (intro k hk; rfl)) | (refine V.NApp.to_ (en := encP) (cc 1) (by rw [d0, d1]; simp) (by rw [d1]; omega) (by rw [d1]; simp; omega) (fun k hk => absurd hk (by rw [d0]; exact Nat.not_lt_zero _)) (fun k hk => by rw [d0, d1]; simp) ?_) | (refine V.NDraw.any (by kernel_rfl) ?_) | fail)
      all_goals (conv => whnf)
      exact V.NBack.at_ 1 [(5, 6)] (by omega) (by omega) V.S_ rfl ⟨⟨rfl, rfl, rfl, fun _ _ => rfl⟩, trivial⟩ V.S_ V.S_
    | 1, _ =>
      repeat' ((conv => whnf); first | (refine V.NIf.yes ?_ ?_; · (decide; done)) | (refine V.NIf.no ?_ ?_; · (decide; done)) | refine V.NCond.mk ?_ | refine V.NPick.l ?_ | refine V.NIf.not_ ?_ | refine V.NIf.dec_ ?_ | refine V.a4 ?_ | refine V.a5 ?_ | refine V.NIf.mk (fun _ => ?_) (fun _ => ?_) | refine V.a7 ?_ | refine V.a8 ?_ | refine V.a9 ?_ | refine V.NBoth.mk ?_ ?_ | refine V.b1 ?_ | refine V.b2 ?_ | refine V.NTF.dec ?_ | refine V.b3 ?_ | refine V.b4 ?_ | (refine NIdx.mk ⟨1, rfl, by decide, ?_⟩) | (refine NOne.mk ?_ ?_; · (intro k hk; rfl)) | (refine V.NApp.to_ (en := encP) (cc 2) (by rw [d1, d2]; simp) (by rw [d2]; simp; omega) (by rw [d2]; simp; omega) (fun k hk => by rw [d2, d1]; exact ga_left (by rwa [d1] at hk)) (fun k hk => by rw [d2, d1]; exact ga_right rfl hk) ?_) | (refine V.NDraw.any (by kernel_rfl) ?_) | fail)
      all_goals (conv => whnf)
      exact V.NBack.at_ 2 [(5, 6)] (by omega) (by omega) V.S_ rfl ⟨⟨rfl, rfl, rfl, fun _ _ => rfl⟩, trivial⟩ V.S_ V.S_
    | 2, _ =>
      have sq := v_sortP 5 [(5, .arr 3 b.length (ga encP b)), (1, .arr 3 l.length (ga encP l))] (Tail.of rfl rfl) (cc 2) (by rw [d2]; simp; omega)
      repeat' ((conv => whnf); first | (refine V.NIf.yes ?_ ?_; · (decide; done)) | (refine V.NIf.no ?_ ?_; · (decide; done)) | refine V.NCond.mk ?_ | refine V.NPick.l ?_ | refine V.NIf.not_ ?_ | refine V.NIf.dec_ ?_ | refine V.a4 ?_ | refine V.a5 ?_ | refine V.NIf.mk (fun _ => ?_) (fun _ => ?_) | refine V.a7 ?_ | refine V.a8 ?_ | refine V.a9 ?_ | refine V.NBoth.mk ?_ ?_ | refine V.b1 ?_ | refine V.b2 ?_ | refine V.NTF.dec ?_ | refine V.b3 ?_ | refine V.b4 ?_ | (refine Fam.call sq (Tail.of rfl rfl) [(5, 0), (0, 5)] (fun g' => [(5, .row 65 3 (cc 2).length g'), (0, .arr 3 b.length (ga encP b)), (1, .arr 3 l.length (ga encP l))]) rfl rfl rfl (by decide) ⟨⟨rfl, rfl, rfl, fun _ _ => rfl⟩, ⟨rfl, rfl, fun _ _ => rfl⟩, ⟨rfl, rfl, fun _ _ => rfl⟩, trivial⟩ (fun g => rfl) (fun g => ⟨⟨rfl, rfl, rfl, fun _ _ => rfl⟩, ⟨rfl, rfl, fun _ _ => rfl⟩, ⟨rfl, rfl, fun _ _ => rfl⟩, trivial⟩) ?_; rintro g ⟨S, P, sd, hg⟩) | (refine V.NDraw.any (by kernel_rfl) ?_) | fail)
      rw [d2] at P hg ⊢
      have RS : ∀ p ∈ S, Bk.Right p := fun p hp => R p (P.mem_iff.1 hp)
      have s := Bk.sd_of RS sd
      have eT : Bk.tot (b ++ l) = Bk.tot S := funext fun k => (Bk.tot_perm P k).symm
      have nS : S.length = (b ++ l).length := P.length_eq
      have nS2 : (b ++ l).length = b.length + l.length := List.length_append
      rw [eT]
      have o0 : Bk.out (Bk.tot S) (Bk.kap S 0) = [] := Bk.out_skip (Bk.tot S) (m := 0) (Nat.zero_le _) (fun k _ hk => Bk.kap_0 RS s k hk)
      clear sq R P sd eT cg
      all_goals (conv => whnf)
      refine V.NLoop.auto (fun (i : Nat) => [(6, .one (.ref 5)), (7, .one (.ref 6))]) (fun (i : Nat) => [(5, .arr 3 (S.length - i) (fun k => encP (S.getD (k + i) default))), (6, .row 65 3 (Bk.out (Bk.tot S) (Bk.kap S i)).length (ga encP (Bk.out (Bk.tot S) (Bk.kap S i))))]) [] [] (fun (i : Nat) => S.length - i) (fun (i : Nat) => i ≤ S.length ∧ (∀ m, m < i → Bk.key (S.getD m default) < Bk.kap S i) ∧ ∀ k, k < Bk.kap S i → M.Amt (Bk.tot S k)) 0 ⟨Nat.zero_le _, fun m h => absurd h (Nat.not_lt_zero _), fun k hk => by rw [Bk.kap_0 RS s k hk]; unfold M.Amt; omega⟩ V.S_ (by (conv => whnf); exact ⟨⟨rfl, nS.symm, hg⟩, ⟨rfl, rfl, by rw [o0]; rfl, fun k hk => absurd hk (Nat.not_lt_zero _)⟩, trivial⟩) (fun _ => ⟨rfl, rfl⟩) ?_; (conv => whnf); refine ⟨⟨rfl, rfl⟩, ?_⟩
      rintro i ⟨hi, hB, hA⟩
      by_cases hlt : i < S.length
      · have ol := Bk.out_len (Bk.tot S) (Bk.kap S i)
        have kl := Bk.kap_lt RS i
        have si : ∀ j, S.getD (0 + j) default = S.getD j default := fun j => by rw [Nat.zero_add]
        repeat' ((conv => whnf); first | refine V.NCond.mk ?_ | refine V.NPick.l ?_ | refine V.NIf.not_ ?_ | refine V.NIf.dec_ ?_ | refine V.a4 ?_ | refine V.a5 ?_ | refine V.NIf.mk (fun _ => ?_) (fun _ => ?_) | refine V.a7 ?_ | refine V.a8 ?_ | refine V.a9 ?_ | refine V.NBoth.mk ?_ ?_ | refine V.b1 ?_ | refine V.b2 ?_ | refine V.NTF.dec ?_ | refine V.b3 ?_ | refine V.b4 ?_ | (refine NIdx.mk ⟨0, rfl, by omega, ?_⟩) | (refine V.NDraw.any (by kernel_rfl) ?_) | fail)
        all_goals (conv => whnf)
        have w0 : Bk.wst (Bk.seg S i i) = (0, 0) := by rw [Bk.seg_0]; rfl
        refine V.NLoop.auto (fun (j : Nat) => [(6, .one (.ref 5))]) (fun (j : Nat) => [(5, .arr 3 (S.length - j) (fun k => encP (S.getD (k + j) default))), (8, .box 153 [.val (.int .i64 (Bk.wst (Bk.seg S i j)).1), .val (.int .i64 (Bk.wst (Bk.seg S i j)).2)])]) [22] [] (fun (j : Nat) => S.length - j) (fun (j : Nat) => (i ≤ j ∧ j ≤ S.length) ∧ ∀ m, i ≤ m → m < j → Bk.key (S.getD m default) = Bk.kap S i) i ⟨⟨Nat.le_refl _, hi⟩, fun m h1 h2 => by omega⟩ V.S_ (by (conv => whnf); exact ⟨⟨rfl, rfl, fun _ _ => rfl⟩, (by rw [w0]; rfl), trivial⟩) (fun _ => ⟨rfl, rfl⟩) ?_; (conv => whnf); refine ⟨⟨rfl, rfl⟩, ?_⟩
        rintro j ⟨hj, hE⟩
        obtain ⟨we, wb, wl⟩ := Bk.wst_spec (Bk.seg S i j) (Bk.seg_amt RS i j)
        have sl := Bk.seg_len S i j
        by_cases jlt : j < S.length
        · have c1 := v_order (S.getD (0 + j) default) (S.getD (0 + i) default)
          have oe := order_eq (S.getD (0 + j) default) (S.getD (0 + i) default)
          have hd := Bk.tdm ((Bk.wst (Bk.seg S i j)).2 + (S.getD (0 + j) default).am)
          have rj := RS _ (getD_mem jlt)
          have aj := rj.2.1
          have ss := Bk.seg_succ hj.1 jlt
          have ri := RS _ (getD_mem hlt)
          have ke := Bk.key_eq rj ri
          have ki : Bk.kap S i = Bk.key (S.getD i default) := if_pos hlt
          have ws : Bk.wst (Bk.seg S i (j + 1)) = ((Bk.wst (Bk.seg S i j)).1 + ((Bk.wst (Bk.seg S i j)).2 + (S.getD j default).am).tdiv 1152921504606846976, ((Bk.wst (Bk.seg S i j)).2 + (S.getD j default).am).tmod 1152921504606846976) := by rw [ss, Bk.wst_snoc]; rfl
          rw [si] at c1 oe hd
          rw [si] at c1 oe
          rw [← ke, ← ki] at oe
          unfold M.Amt at aj
          have nS3 : S.length ≤ 2000 := by omega
          generalize orI (cmpI (S.getD j default).ac (S.getD i default).ac) (cmpI (S.getD j default).ut (S.getD i default).ut) = oo at *
          repeat' ((conv => whnf); first | refine V.NCond.mk ?_ | refine V.NPick.l ?_ | refine V.NIf.not_ ?_ | refine V.NIf.dec_ ?_ | refine V.a4 ?_ | refine V.a5 ?_ | refine V.NIf.mk (fun _ => ?_) (fun _ => ?_) | refine V.a7 ?_ | refine V.a8 ?_ | refine V.a9 ?_ | refine V.NBoth.mk ?_ ?_ | refine V.b1 ?_ | refine V.b2 ?_ | refine V.NTF.dec ?_ | refine V.b3 ?_ | refine V.b4 ?_ | (refine NIdx.mk ⟨0, rfl, by omega, ?_⟩) | (simp only [Nat.zero_add]) | (first | refine V.Fn.k0 (c1) rfl ?_ | refine V.Fn.q0 (c1) rfl ?_ | refine V.Fn.a0 (c1) rfl ?_) | (refine V.NCall.inl (f := 127) V.Tok V.mixed Tryz.func127 rfl Tryz.ntmps127 (by kernel_rfl) rfl ?_) | (refine NQuo.ok (by decide) (by omega) (by omega) ?_) | (refine NRem.mk (by decide) ?_) | (refine NCut.mk ⟨1, _, rfl, rfl, by omega, by omega, ?_⟩) | (refine V.NDraw.any (by kernel_rfl) ?_) | fail)
          all_goals (conv => whnf)
          · exact V.NBack.at_ (j + 1) [(5, 9)] ⟨by omega, fun m h1 h2 => (show m < j ∨ m = j by omega).elim (hE m h1) (fun e => by rw [e]; exact oe.1 (by assumption))⟩ (by omega) V.S_ rfl ⟨ObLe.cut_ (by omega) (by omega), (by rw [ws]; rfl), trivial⟩ V.S_ V.S_
          have g : Bk.Grp S i j := ⟨hlt, hj, hB, hE, fun _ h => absurd (oe.2 h) (by assumption)⟩
          have gs := g.sum RS s
          have go := g.out RS s
          have gk := g.gt RS s
          have hij : i ≠ j := fun e => by rw [e] at gk; omega
          have gn := g.next RS s
          have ga_ := fun h => Bk.grp_amt g RS s hA h
          have k1 := Bk.kap_lt RS j
          rw [← we] at gs
          have am : M.Amt (Bk.tot S (Bk.kap S i)) ↔ -1152921504606846976 ≤ (Bk.wst (Bk.seg S i j)).1 * 1152921504606846976 + (Bk.wst (Bk.seg S i j)).2 ∧ (Bk.wst (Bk.seg S i j)).1 * 1152921504606846976 + (Bk.wst (Bk.seg S i j)).2 ≤ 1152921504606846976 := by rw [gs]; exact Iff.rfl
          have w8 : ¬ M.Amt (Bk.tot S (Bk.kap S i)) → Bk.mE (Bk.tot S) = 8 := fun h => if_pos (Bk.wide_yes (k := Bk.kap S i) (by omega) h)
          have ckn := fun n => @M.chk_yes n
          have ckz := fun n (h : M.chk n = 0) => Classical.byContradiction fun (z : ¬ M.Amt n) => by rw [M.chk_no z] at h; omega
          unfold M.Amt at ckz
          repeat' ((conv => whnf); first | (refine NApp.one (en := encP) (l := Bk.out (Bk.tot S) (Bk.kap S i)) (x := ⟨(S.getD i default).ac, (S.getD i default).ut, (Bk.wst (Bk.seg S i j)).1 * 1152921504606846976 + (Bk.wst (Bk.seg S i j)).2⟩) (by simp; omega) (by simp; omega) ?_) | refine V.NCond.mk ?_ | refine V.NPick.l ?_ | refine V.NIf.not_ ?_ | refine V.NIf.dec_ ?_ | refine V.a4 ?_ | refine V.a5 ?_ | refine V.NIf.mk (fun _ => ?_) (fun _ => ?_) | refine V.a7 ?_ | refine V.a8 ?_ | refine V.a9 ?_ | refine V.NBoth.mk ?_ ?_ | refine V.b1 ?_ | refine V.b2 ?_ | refine V.NTF.dec ?_ | refine V.b3 ?_ | refine V.b4 ?_ | (refine V.NCall.inl (f := 128) V.Tok V.mixed Tryz.func128 rfl Tryz.ntmps128 (by kernel_rfl) rfl ?_) | (first | refine V.Fn.k0 (v_check _) rfl ?_ | refine V.Fn.q0 (v_check _) rfl ?_ | refine V.Fn.a0 (v_check _) rfl ?_) | (refine V.NDraw.any (by kernel_rfl) ?_) | fail)
          all_goals (conv => whnf)
          · have w := w8 (fun h => by have := am.1 h; omega)
            rw [show Bk.mL (Bk.tot S) = [] from if_neg (by omega), w]
            exact NRet.mk_ [some 9] rfl ⟨rfl, rfl, trivial⟩ ⟨⟨rfl, rfl, rfl, fun k hk => absurd hk (Nat.not_lt_zero _)⟩, trivial⟩
          · have w := w8 (fun h => by have := am.1 h; omega)
            rw [show Bk.mL (Bk.tot S) = [] from if_neg (by omega), w]
            exact NRet.mk_ [some 9] rfl ⟨rfl, rfl, trivial⟩ ⟨⟨rfl, rfl, rfl, fun k hk => absurd hk (Nat.not_lt_zero _)⟩, trivial⟩
          · exact V.NBack.at_ j [] ⟨hj.2, gn, ga_ (am.2 (by omega))⟩ (by omega) V.S_ rfl ⟨V.S_, ObLe.as_ (go.trans (by rw [if_pos (by omega), List.append_nil])), trivial⟩ V.S_ V.S_
          · have ha := ga_ (am.2 (ckz _ (by assumption)))
            exact V.NBack.at_ j [(6, 10)] ⟨hj.2, gn, ha⟩ (by omega) V.S_ rfl ⟨V.S_, ObLe.as_ (go.trans (by rw [if_neg (by omega), gs])), trivial⟩ V.S_ V.S_
          · have w := w8 (fun h => absurd (ckn _ (am.1 h)) (by assumption))
            rw [show Bk.mL (Bk.tot S) = [] from if_neg (by omega), w]
            exact NRet.mk_ [some 9] rfl ⟨rfl, rfl, trivial⟩ ⟨⟨rfl, rfl, rfl, fun k hk => absurd hk (Nat.not_lt_zero _)⟩, trivial⟩
        · obtain rfl : j = S.length := by omega
          have g : Bk.Grp S i S.length := ⟨hlt, hj, hB, hE, fun h => absurd h (Nat.lt_irrefl _)⟩
          have gs := g.sum RS s
          have go := g.out RS s
          have gk := g.gt RS s
          have hij : i ≠ S.length := fun e => by rw [e] at gk; omega
          have gn := g.next RS s
          have ga_ := fun h => Bk.grp_amt g RS s hA h
          have k1 := Bk.kap_lt RS S.length
          rw [← we] at gs
          have am : M.Amt (Bk.tot S (Bk.kap S i)) ↔ -1152921504606846976 ≤ (Bk.wst (Bk.seg S i S.length)).1 * 1152921504606846976 + (Bk.wst (Bk.seg S i S.length)).2 ∧ (Bk.wst (Bk.seg S i S.length)).1 * 1152921504606846976 + (Bk.wst (Bk.seg S i S.length)).2 ≤ 1152921504606846976 := by rw [gs]; exact Iff.rfl
          have w8 : ¬ M.Amt (Bk.tot S (Bk.kap S i)) → Bk.mE (Bk.tot S) = 8 := fun h => if_pos (Bk.wide_yes (k := Bk.kap S i) (by omega) h)
          have ckn := fun n => @M.chk_yes n
          have ckz := fun n (h : M.chk n = 0) => Classical.byContradiction fun (z : ¬ M.Amt n) => by rw [M.chk_no z] at h; omega
          unfold M.Amt at ckz
          repeat' ((conv => whnf); first | (refine NApp.one (en := encP) (l := Bk.out (Bk.tot S) (Bk.kap S i)) (x := ⟨(S.getD i default).ac, (S.getD i default).ut, (Bk.wst (Bk.seg S i S.length)).1 * 1152921504606846976 + (Bk.wst (Bk.seg S i S.length)).2⟩) (by simp; omega) (by simp; omega) ?_) | refine V.NCond.mk ?_ | refine V.NPick.l ?_ | refine V.NIf.not_ ?_ | refine V.NIf.dec_ ?_ | refine V.a4 ?_ | refine V.a5 ?_ | refine V.NIf.mk (fun _ => ?_) (fun _ => ?_) | refine V.a7 ?_ | refine V.a8 ?_ | refine V.a9 ?_ | refine V.NBoth.mk ?_ ?_ | refine V.b1 ?_ | refine V.b2 ?_ | refine V.NTF.dec ?_ | refine V.b3 ?_ | refine V.b4 ?_ | (simp only [Nat.zero_add]) | (refine V.NCall.inl (f := 128) V.Tok V.mixed Tryz.func128 rfl Tryz.ntmps128 (by kernel_rfl) rfl ?_) | (first | refine V.Fn.k0 (v_check _) rfl ?_ | refine V.Fn.q0 (v_check _) rfl ?_ | refine V.Fn.a0 (v_check _) rfl ?_) | (refine V.NDraw.any (by kernel_rfl) ?_) | fail)
          all_goals (conv => whnf)
          · have w := w8 (fun h => by have := am.1 h; omega)
            rw [show Bk.mL (Bk.tot S) = [] from if_neg (by omega), w]
            exact NRet.mk_ [some 9] rfl ⟨rfl, rfl, trivial⟩ ⟨⟨rfl, rfl, rfl, fun k hk => absurd hk (Nat.not_lt_zero _)⟩, trivial⟩
          · have w := w8 (fun h => by have := am.1 h; omega)
            rw [show Bk.mL (Bk.tot S) = [] from if_neg (by omega), w]
            exact NRet.mk_ [some 9] rfl ⟨rfl, rfl, trivial⟩ ⟨⟨rfl, rfl, rfl, fun k hk => absurd hk (Nat.not_lt_zero _)⟩, trivial⟩
          · exact V.NBack.at_ S.length [] ⟨hj.2, gn, ga_ (am.2 (by omega))⟩ (by omega) V.S_ rfl ⟨V.S_, ObLe.as_ (go.trans (by rw [if_pos (by omega), List.append_nil])), trivial⟩ V.S_ V.S_
          · have ha := ga_ (am.2 (ckz _ (by assumption)))
            exact V.NBack.at_ S.length [(6, 10)] ⟨hj.2, gn, ha⟩ (by omega) V.S_ rfl ⟨V.S_, ObLe.as_ (go.trans (by rw [if_neg (by omega), gs])), trivial⟩ V.S_ V.S_
          · have w := w8 (fun h => absurd (ckn _ (am.1 h)) (by assumption))
            rw [show Bk.mL (Bk.tot S) = [] from if_neg (by omega), w]
            exact NRet.mk_ [some 9] rfl ⟨rfl, rfl, trivial⟩ ⟨⟨rfl, rfl, rfl, fun k hk => absurd hk (Nat.not_lt_zero _)⟩, trivial⟩
      · obtain rfl : i = S.length := by omega
        rw [Bk.kap_end] at hA ⊢
        have m := Bk.mE_is hA
        repeat' ((conv => whnf); first | refine V.NCond.mk ?_ | refine V.NPick.l ?_ | refine V.NIf.not_ ?_ | refine V.NIf.dec_ ?_ | refine V.a4 ?_ | refine V.a5 ?_ | refine V.NIf.mk (fun _ => ?_) (fun _ => ?_) | refine V.a7 ?_ | refine V.a8 ?_ | refine V.a9 ?_ | refine V.NBoth.mk ?_ ?_ | refine V.b1 ?_ | refine V.b2 ?_ | refine V.NTF.dec ?_ | refine V.b3 ?_ | refine V.b4 ?_ | (refine V.NDraw.any (by kernel_rfl) ?_) | fail)
        all_goals (conv => whnf)
        · have m : Bk.mE (Bk.tot S) = 2 := m.trans (if_pos (by omega))
          rw [show Bk.mL (Bk.tot S) = [] from if_neg (by omega), m]
          exact NRet.mk_ [some 7] rfl ⟨rfl, rfl, trivial⟩ ⟨⟨rfl, rfl, rfl, fun k hk => absurd hk (Nat.not_lt_zero _)⟩, trivial⟩
        · have m : Bk.mE (Bk.tot S) = 0 := m.trans (if_neg (by omega))
          rw [show Bk.mL (Bk.tot S) = Bk.out (Bk.tot S) 2121 from if_pos m, m]
          exact NRet.mk_ [some 6] rfl ⟨rfl, rfl, trivial⟩ ⟨⟨rfl, rfl, rfl, fun k hk => rfl⟩, trivial⟩
end Go.Proofs.YtpanlcnoopmchaaGreat

namespace Go.Proofs.YtpanlcnoopmchaaGreat
open Go Go.Sort Go.RowKit V
set_option maxHeartbeats 4000000
theorem v_bkPost (b l : List Po) (hb : b.length ≤ 9223372036854775807) (hn : l.length ≤ 9223372036854775807) : V.FnR Tryz.prog 84 [.arr 3 b.length (ga encP b), .arr 3 l.length (ga encP l)] [.one (.ref 0), .one (.ref 1)] (.tup [.one (.ref 2), .one (.val (.int .i64 (Bk.pE b l)))]) [.row 65 3 (Bk.pL b l).length (ga encP (Bk.pL b l))] := by
  have pc := Bk.pE_cases b l
  have c1 := v_bkLines b hb
  have c2 := v_bkCheck l hn
  have lo := @Bk.lines_0 b
  have lc := @Bk.chk_0 l
  have pl : Bk.pE b l ≠ 0 → Bk.pL b l = [] := fun h => if_neg h
  have cm := fun (h1 : Bk.Lines b) (h2 : 0 < l.length ∧ l.length ≤ 60) (h3 : ∀ p ∈ l, Bk.Right p) => v_merged b l (Nat.le_trans h1.le (by decide)) ⟨h2.1, by omega⟩ (fun p hp => (List.mem_append.1 hp).elim (h1.r p) (h3 p))
  generalize hL : Bk.lines b = L at *
  generalize hC : Bk.chk l = C at *
  refine V.FnR.mk_ V.Tok V.mixed Tryz.func84 rfl Tryz.ntmps84 (by kernel_rfl) rfl rfl rfl rfl ?_
  repeat' ((conv => whnf); first | refine V.NCond.mk ?_ | refine V.NPick.l ?_ | refine V.NIf.not_ ?_ | refine V.NIf.dec_ ?_ | refine V.a4 ?_ | refine V.a5 ?_ | refine V.NIf.mk (fun _ => ?_) (fun _ => ?_) | refine V.a7 ?_ | refine V.a8 ?_ | refine V.a9 ?_ | refine V.NBoth.mk ?_ ?_ | refine V.b1 ?_ | refine V.b2 ?_ | refine V.NTF.dec ?_ | refine V.b3 ?_ | refine V.b4 ?_ | ((first | refine V.Fn.k (c1) [0] rfl ?_ ?_ | refine V.Fn.q (c1) [0] rfl ?_ ?_ | refine V.Fn.a (c1) [0] rfl ?_ ?_); · exact V.D_) | ((first | refine V.Fn.k (c2) [1] rfl ?_ ?_ | refine V.Fn.q (c2) [1] rfl ?_ ?_ | refine V.Fn.a (c2) [1] rfl ?_ ?_); · exact V.D_) | ((first | refine V.FnR.k_ (cm (lo (by assumption)).1 (lc (by assumption)).1 (lc (by assumption)).2.1) [0, 1] rfl ?_ ?_ | refine V.FnR.a_ (cm (lo (by assumption)).1 (lc (by assumption)).1 (lc (by assumption)).2.1) [0, 1] rfl ?_ ?_); · exact V.D_) | (refine V.NDraw.any (by kernel_rfl) ?_) | fail)
  all_goals (conv => whnf)
  · have e : Bk.pE b l = Bk.mE (Bk.tot (b ++ l)) := by omega
    have eL : Bk.pL b l = Bk.mL (Bk.tot (b ++ l)) := by unfold Bk.pL Bk.mL; rw [e]
    rw [e, eL]
    exact NRet.mk_ [some 3] rfl ⟨rfl, rfl, trivial⟩ ⟨⟨rfl, rfl, rfl, fun k hk => rfl⟩, trivial⟩
  · have e : Bk.pE b l = C := by omega
    rw [pl (by omega), e]
    exact NRet.mk_ [some 3] rfl ⟨rfl, rfl, trivial⟩ ⟨⟨rfl, rfl, rfl, fun k hk => absurd hk (Nat.not_lt_zero _)⟩, trivial⟩
  · have e : Bk.pE b l = L := by omega
    rw [pl (by omega), e]
    exact NRet.mk_ [some 3] rfl ⟨rfl, rfl, trivial⟩ ⟨⟨rfl, rfl, rfl, fun k hk => absurd hk (Nat.not_lt_zero _)⟩, trivial⟩
theorem v_cloneP (l : List Po) (hn : l.length ≤ 5864062014634) : V.FnR Tryz.prog 95 [.arr 3 l.length (ga encP l)] [.one (.ref 0)] (.one (.ref 1)) [.row 65 3 l.length (ga encP l)] := by
  refine V.FnR.mk_ V.Tok V.mixed Tryz.func95 rfl Tryz.ntmps95 (by kernel_rfl) rfl rfl rfl rfl ?_
  repeat' ((conv => whnf); first | refine V.NCond.mk ?_ | refine V.NPick.l ?_ | refine V.NIf.not_ ?_ | refine V.NIf.dec_ ?_ | refine V.a4 ?_ | refine V.a5 ?_ | refine V.NIf.mk (fun _ => ?_) (fun _ => ?_) | refine V.a7 ?_ | refine V.a8 ?_ | refine V.a9 ?_ | refine V.NBoth.mk ?_ ?_ | refine V.b1 ?_ | refine V.b2 ?_ | refine V.NTF.dec ?_ | refine V.b3 ?_ | refine V.b4 ?_ | (refine NNil.mk ?_; intro p hp) | (refine NOne.mk ?_ ?_; · (intro k hk; rfl)) | (refine NApp.all_ (by first | omega | (simp; omega)) (by omega) ?_) | (refine V.NDraw.any (by kernel_rfl) ?_) | fail)
  all_goals (conv => whnf)
  · refine NRet.mk_ [some 2] rfl ?_ ?_
    · exact rfl
    · exact ⟨⟨rfl, rfl, (hp (by assumption)).symm, fun k hk => absurd hk (Nat.not_lt_zero _)⟩, trivial⟩
  · refine NRet.mk_ [some 3] rfl ?_ ?_
    · exact rfl
    · exact ⟨⟨rfl, rfl, rfl, fun _ _ => rfl⟩, trivial⟩
namespace Bk
def neg (p : Po) : Po := ⟨p.ac, p.ut, 0 - p.am⟩
end Bk
end Go.Proofs.YtpanlcnoopmchaaGreat

namespace Go.Proofs.YtpanlcnoopmchaaGreat
open Go Go.Sort Go.RowKit V
set_option maxHeartbeats 4000000
namespace Bk
def selB (a u : Int) (p : Po) : Bool := decide (p.ut = u ∧ (a < 0 ∨ p.ac = a))
def sel (l : List Po) (a u : Int) : List Int := (l.filter (selB a u)).map (·.am)
theorem sel_snoc (l : List Po) (p : Po) (a u : Int) : sel (l ++ [p]) a u = sel l a u ++ if p.ut = u ∧ (a < 0 ∨ p.ac = a) then [p.am] else [] := by
  unfold sel
  rw [List.filter_append, List.map_append]
  congr 1
  by_cases h : p.ut = u ∧ (a < 0 ∨ p.ac = a)
  · rw [if_pos h]; simp [selB, h]
  · rw [if_neg h]; simp [selB, h]
theorem sel_len (l : List Po) (a u : Int) : (sel l a u).length ≤ l.length := by
  unfold sel
  rw [List.length_map]
  exact List.length_filter_le _ _
theorem sel_amu (l : List Po) (u : Nat) : sel l (-1) u = amu l u := by
  unfold sel amu
  congr 1
  refine List.filter_congr fun p _ => ?_
  unfold selB
  rw [decide_eq_decide]
  omega
theorem sel_amk {l : List Po} (h : ∀ p ∈ l, Right p) (k : Nat) : sel l ((k / 21 : Nat) : Int) ((k % 21 : Nat) : Int) = amk l k := by
  unfold sel amk
  congr 1
  refine List.filter_congr fun p hp => ?_
  obtain ⟨k1, k2, k3⟩ := key_r (h p hp)
  unfold selB
  rw [decide_eq_decide, k2, k3]
  omega
end Bk
theorem v_rPostR (p : Po) : V.Fn Tryz.prog 119 [] [.agg [.val (.int .i64 p.ac), .val (.int .i64 p.ut), .val (.int .i64 p.am)]] (.bool (decide (Bk.Right p))) := by
  have d := v_amcheck p.am
  have e : M.chk p.am = 0 ↔ M.Amt p.am := ⟨fun q => Classical.byContradiction fun z => by rw [M.chk_no z] at q; omega, M.chk_yes⟩
  have r : Bk.Right p ↔ ((0 ≤ p.ac ∧ p.ac ≤ 100) ∧ (0 ≤ p.ut ∧ p.ut ≤ 20)) ∧ M.chk p.am = 0 ∧ p.am ≠ 0 := by rw [e]; exact Iff.rfl
  generalize M.chk p.am = C at *
  refine V.Fn.mk_ V.Tok V.mixed Tryz.func119 rfl Tryz.ntmps119 (by kernel_rfl) rfl rfl ?_
  repeat' ((conv => whnf); first | refine V.NCond.mk ?_ | refine V.NPick.l ?_ | refine V.NIf.not_ ?_ | refine V.NIf.dec_ ?_ | refine V.a4 ?_ | refine V.a5 ?_ | refine V.NIf.mk (fun _ => ?_) (fun _ => ?_) | refine V.a7 ?_ | refine V.a8 ?_ | refine V.a9 ?_ | refine V.NBoth.mk ?_ ?_ | refine V.b1 ?_ | refine V.b2 ?_ | refine V.NTF.dec ?_ | refine V.b3 ?_ | refine V.b4 ?_ | (first | refine V.Fn.k0 (v_rbetween _ _ _) rfl ?_ | refine V.Fn.q0 (v_rbetween _ _ _) rfl ?_ | refine V.Fn.a0 (v_rbetween _ _ _) rfl ?_) | (first | refine V.Fn.k0 (d) rfl ?_ | refine V.Fn.q0 (d) rfl ?_ | refine V.Fn.a0 (d) rfl ?_) | (refine V.NDraw.any (by kernel_rfl) ?_) | fail)
  all_goals (conv => whnf)
  all_goals first
    | rfl
    | exact ⟨_, rfl, by rw [decide_eq_true_eq, r]; omega⟩
    | (exact congrArg Value.bool (by simp only [r]; simp; omega))
    | trace_state
theorem v_amof (l : List Po) (a u : Int) (hn : l.length ≤ 100000) : V.FnR Tryz.prog 110 [.arr 3 l.length (ga encP l)] [.one (.ref 0), .one (.val (.int .i64 a)), .one (.val (.int .i64 u))] (.one (.ref 1)) [.row 3 1 (Bk.sel l a u).length (ga e1 (Bk.sel l a u))] := by
  refine V.FnR.mk_ V.Tok V.mixed Tryz.func110 rfl Tryz.ntmps110 (by kernel_rfl) rfl rfl rfl rfl ?_
  repeat' ((conv => whnf); first | refine V.NCond.mk ?_ | refine V.NPick.l ?_ | refine V.NIf.not_ ?_ | refine V.NIf.dec_ ?_ | refine V.a4 ?_ | refine V.a5 ?_ | refine V.NIf.mk (fun _ => ?_) (fun _ => ?_) | refine V.a7 ?_ | refine V.a8 ?_ | refine V.a9 ?_ | refine V.NBoth.mk ?_ ?_ | refine V.b1 ?_ | refine V.b2 ?_ | refine V.NTF.dec ?_ | refine V.b3 ?_ | refine V.b4 ?_ | (refine V.NDraw.any (by kernel_rfl) ?_) | fail)
  all_goals (conv => whnf)
  refine V.NLoop.auto (fun (k : Nat) => [(8, .one (.val (.int .i64 k))), (7, .one (.ref 2))]) (fun (k : Nat) => [(2, .row 3 1 (Bk.sel (l.take k) a u).length (ga e1 (Bk.sel (l.take k) a u)))]) [] [] (fun (k : Nat) => l.length - k) (fun (k : Nat) => k ≤ l.length) 0 (Nat.zero_le _) V.S_ V.S_ (fun _ => ⟨rfl, rfl⟩) ?_; (conv => whnf); refine ⟨⟨rfl, rfl⟩, ?_⟩
  rintro k hk
  have sl := Bk.sel_len (l.take k) a u
  have tl : (l.take k).length = k := by rw [List.length_take]; omega
  by_cases hlt : k < l.length
  · have sn : Bk.sel (l.take (k + 1)) a u = Bk.sel (l.take k) a u ++ if (l.getD k default).ut = u ∧ (a < 0 ∨ (l.getD k default).ac = a) then [(l.getD k default).am] else [] := by rw [← Bk.sel_snoc, getD_at hlt, List.take_succ_eq_append_getElem hlt]
    repeat' ((conv => whnf); first | refine V.NCond.mk ?_ | refine V.NPick.l ?_ | refine V.NIf.not_ ?_ | refine V.NIf.dec_ ?_ | refine V.a4 ?_ | refine V.a5 ?_ | refine V.NIf.mk (fun _ => ?_) (fun _ => ?_) | refine V.a7 ?_ | refine V.a8 ?_ | refine V.a9 ?_ | refine V.NBoth.mk ?_ ?_ | refine V.b1 ?_ | refine V.b2 ?_ | refine V.NTF.dec ?_ | refine V.b3 ?_ | refine V.b4 ?_ | (refine NIdx.mk ⟨k, rfl, by omega, ?_⟩) | (refine V.NDraw.any (by kernel_rfl) ?_) | fail)
    all_goals (conv => whnf)
    all_goals first
      | exact V.NBack.at_ (k + 1) [] (by omega) (by omega) V.S_ rfl ⟨ObLe.as_ (sn.trans (by rw [if_neg (by omega), List.append_nil])), trivial⟩ V.S_ V.S_
      | (refine V.NBack.at_ (k + 1) [(2, 4)] (by omega) (by omega) V.S_ rfl ⟨ObLe.as_ (sn.trans (by rw [if_pos (by omega)])), trivial⟩ V.S_ V.S_)
      | trace_state
  · obtain rfl : k = l.length := by omega
    rw [List.take_length]
    repeat' ((conv => whnf); first | refine V.NCond.mk ?_ | refine V.NPick.l ?_ | refine V.NIf.not_ ?_ | refine V.NIf.dec_ ?_ | refine V.a4 ?_ | refine V.a5 ?_ | refine V.NIf.mk (fun _ => ?_) (fun _ => ?_) | refine V.a7 ?_ | refine V.a8 ?_ | refine V.a9 ?_ | refine V.NBoth.mk ?_ ?_ | refine V.b1 ?_ | refine V.b2 ?_ | refine V.NTF.dec ?_ | refine V.b3 ?_ | refine V.b4 ?_ | (refine V.NDraw.any (by kernel_rfl) ?_) | fail)
    all_goals (conv => whnf)
    exact NRet.mk_ [some 2] rfl rfl ⟨⟨rfl, rfl, rfl, fun _ _ => rfl⟩, trivial⟩
theorem tk_all {P : Po → Prop} {l : List Po} {k : Nat} (hk : k < l.length) (h : ∀ p ∈ l.take k, P p) (h2 : P (l.getD k default)) : ∀ p ∈ l.take (k + 1), P p := fun p hp => by
  rw [List.take_succ_eq_append_getElem hk, List.mem_append] at hp
  rcases hp with hp | hp
  · exact h p hp
  · rw [List.mem_singleton.1 hp, ← getD_at hk]; exact h2
theorem sofV_eq (l : List Int) : M.sofV l = M.sum l ∨ ¬ M.Amt (M.sum l) := by
  unfold M.sofV M.Amt
  split <;> omega
theorem v_evenof (l : List Po) (hn : l.length ≤ 1000) (hr : ∀ p ∈ l, Bk.Right p) : V.Fn Tryz.prog 120 [.arr 3 l.length (ga encP l)] [.one (.ref 0)] (.bool (Bk.even l)) := by
  have ev := Bk.even_iff l
  refine V.Fn.mk_ V.Tok V.mixed Tryz.func120 rfl Tryz.ntmps120 (by kernel_rfl) rfl rfl ?_
  repeat' ((conv => whnf); first | refine V.NCond.mk ?_ | refine V.NPick.l ?_ | refine V.NIf.not_ ?_ | refine V.NIf.dec_ ?_ | refine V.a4 ?_ | refine V.a5 ?_ | refine V.NIf.mk (fun _ => ?_) (fun _ => ?_) | refine V.a7 ?_ | refine V.a8 ?_ | refine V.a9 ?_ | refine V.NBoth.mk ?_ ?_ | refine V.b1 ?_ | refine V.b2 ?_ | refine V.NTF.dec ?_ | refine V.b3 ?_ | refine V.b4 ?_ | (refine V.NDraw.any (by kernel_rfl) ?_) | fail)
  all_goals (conv => whnf)
  refine V.NLoop.auto (fun (u : Nat) => [(3, .one (.val (.int .i64 u)))]) (fun (u : Nat) => []) [] [] (fun (u : Nat) => 21 - u) (fun (u : Nat) => u ≤ 21 ∧ ∀ v, v < u → M.sum (Bk.amu l v) = 0) 0 ⟨Nat.zero_le _, fun u h => absurd h (Nat.not_lt_zero _)⟩ V.S_ V.S_ (fun _ => ⟨rfl, rfl⟩) ?_; (conv => whnf); refine ⟨⟨rfl, rfl⟩, ?_⟩
  rintro u ⟨hu, hJ⟩
  have c := v_amof l (-1) (u : Int) (by omega)
  rw [Bk.sel_amu] at c
  have d := v_sumof (Bk.amu l u) (by have := Bk.amu_len l u; omega) (Bk.amu_amt hr u)
  have e := sofV_eq (Bk.amu l u)
  have z : M.sum (Bk.amu l u) = 0 → M.Amt (M.sum (Bk.amu l u)) := fun h => by rw [h]; unfold M.Amt; omega
  have evf : u < 21 → ¬ M.sum (Bk.amu l u) = 0 → Bk.even l = false := fun h1 h2 => by
    cases e : Bk.even l
    · rfl
    · exact absurd (ev.1 e u h1) h2
  generalize M.sofV (Bk.amu l u) = sv at *
  have o1 : decide (M.Amt (M.sum (Bk.amu l u))) = true ↔ M.Amt (M.sum (Bk.amu l u)) := decide_eq_true_iff
  generalize decide (M.Amt (M.sum (Bk.amu l u))) = o at *
  rw [← o1] at e z
  clear o1
  have es : o = true → sv = M.sum (Bk.amu l u) := fun h => e.resolve_right (fun z => z h)
  repeat' ((conv => whnf); first | refine V.NCond.mk ?_ | refine V.NPick.l ?_ | refine V.NIf.not_ ?_ | refine V.NIf.dec_ ?_ | refine V.a4 ?_ | refine V.a5 ?_ | refine V.NIf.mk (fun _ => ?_) (fun _ => ?_) | refine V.a7 ?_ | refine V.a8 ?_ | refine V.a9 ?_ | refine V.NBoth.mk ?_ ?_ | refine V.b1 ?_ | refine V.b2 ?_ | refine V.NTF.dec ?_ | refine V.b3 ?_ | refine V.b4 ?_ | ((first | refine V.FnR.k_ (c) [0] rfl ?_ ?_ | refine V.FnR.a_ (c) [0] rfl ?_ ?_); · exact V.D_) | ((first | refine V.Fn.k (d) [1] rfl ?_ ?_ | refine V.Fn.q (d) [1] rfl ?_ ?_ | refine V.Fn.a (d) [1] rfl ?_ ?_); · exact V.D_) | (refine V.NDraw.any (by kernel_rfl) ?_) | fail)
  all_goals (conv => whnf)
  · exact V.NBack.at_ (u + 1) [] ⟨by omega, fun v hv => (show v < u ∨ v = u by omega).elim (hJ v) (fun e => by rw [e]; have := es (by assumption); omega)⟩ (by omega) V.S_ rfl V.S_ V.S_ V.S_
  · exact congrArg Value.bool (evf (by omega) (by have := es (by assumption); omega)).symm
  · exact congrArg Value.bool (evf (by omega) (fun h => absurd (z h) (by assumption))).symm
  · exact congrArg Value.bool (ev.2 fun v hv => hJ v (by omega)).symm
theorem v_rPostsC (l : List Po) (hn : l.length ≤ 9223372036854775807) : V.Fn Tryz.prog 109 [.arr 3 l.length (ga encP l)] [.one (.ref 0)] (.int .i64 (Bk.chk l)) := by
  have cc := Bk.chk_cases l
  have c1 : l.length = 0 → Bk.chk l = 1 := fun h => if_pos h
  have c2 : 60 < l.length → Bk.chk l = 2 := fun h => (if_neg (by omega)).trans (if_pos h)
  have c3 : l.length ≠ 0 → ¬ 60 < l.length → ∀ p ∈ l, ¬ Bk.Right p → Bk.chk l = 3 := fun h1 h2 p hp h3 => by
    rcases cc with ⟨h, _⟩ | ⟨h, _⟩ | ⟨_, _, e⟩ | ⟨_, _, h, _⟩ | ⟨_, _, h, _⟩
    · omega
    · omega
    · exact e
    · exact absurd (h p hp) h3
    · exact absurd (h p hp) h3
  have c4 : l.length ≠ 0 → ¬ 60 < l.length → (∀ p ∈ l, Bk.Right p) → Bk.chk l = if Bk.even l = true then 0 else 4 := fun h1 h2 h3 => by
    rcases cc with ⟨h, _⟩ | ⟨h, _⟩ | ⟨_, h, e⟩ | ⟨_, _, h, e, f⟩ | ⟨_, _, h, e, f⟩
    · omega
    · omega
    · exfalso
      rcases ixf_cases Bk.bad l with ⟨e, _⟩ | ⟨k, _, hk, hp, _⟩
      · omega
      · have := h3 _ (getD_mem hk)
        unfold Bk.bad at hp
        simp only [Bool.not_eq_true', decide_eq_false_iff_not] at hp
        exact hp this
    · rw [e, f]; rfl
    · rw [e, f]; rfl
  have ce := fun (q : l.length ≤ 1000) (r : ∀ p ∈ l, Bk.Right p) => v_evenof l q r
  clear cc
  generalize Bk.even l = ev at *
  refine V.Fn.mk_ V.Tok V.mixed Tryz.func109 rfl Tryz.ntmps109 (by kernel_rfl) rfl rfl ?_
  repeat' ((conv => whnf); first | refine V.NCond.mk ?_ | refine V.NPick.l ?_ | refine V.NIf.not_ ?_ | refine V.NIf.dec_ ?_ | refine V.a4 ?_ | refine V.a5 ?_ | refine V.NIf.mk (fun _ => ?_) (fun _ => ?_) | refine V.a7 ?_ | refine V.a8 ?_ | refine V.a9 ?_ | refine V.NBoth.mk ?_ ?_ | refine V.b1 ?_ | refine V.b2 ?_ | refine V.NTF.dec ?_ | refine V.b3 ?_ | refine V.b4 ?_ | (refine V.NDraw.any (by kernel_rfl) ?_) | fail)
  all_goals (conv => whnf)
  · exact V.fin1 (c1 (by omega))
  · exact V.fin1 (c2 (by omega))
  refine V.NLoop.auto (fun (k : Nat) => [(3, .one (.val (.int .i64 k)))]) (fun (k : Nat) => []) [] [] (fun (k : Nat) => l.length - k) (fun (k : Nat) => k ≤ l.length ∧ ∀ p ∈ l.take k, Bk.Right p) 0 ⟨Nat.zero_le _, by simp⟩ V.S_ V.S_ (fun _ => ⟨rfl, rfl⟩) ?_; (conv => whnf); refine ⟨⟨rfl, rfl⟩, ?_⟩
  rintro k ⟨hk, hJ⟩
  by_cases hlt : k < l.length
  · repeat' ((conv => whnf); first | refine V.NCond.mk ?_ | refine V.NPick.l ?_ | refine V.NIf.not_ ?_ | refine V.NIf.dec_ ?_ | refine V.a4 ?_ | refine V.a5 ?_ | refine V.NIf.mk (fun _ => ?_) (fun _ => ?_) | refine V.a7 ?_ | refine V.a8 ?_ | refine V.a9 ?_ | refine V.NBoth.mk ?_ ?_ | refine V.b1 ?_ | refine V.b2 ?_ | refine V.NTF.dec ?_ | refine V.b3 ?_ | refine V.b4 ?_ | (refine NIdx.mk ⟨k, rfl, by omega, ?_⟩) | (first | refine V.Fn.k0 (v_rPostR (l.getD k default)) rfl ?_ | refine V.Fn.q0 (v_rPostR (l.getD k default)) rfl ?_ | refine V.Fn.a0 (v_rPostR (l.getD k default)) rfl ?_) | (refine V.NDraw.any (by kernel_rfl) ?_) | fail)
    all_goals (conv => whnf)
    · exact V.NBack.at_ (k + 1) [] ⟨by omega, tk_all hlt hJ (by assumption)⟩ (by omega) V.S_ rfl V.S_ V.S_ V.S_
    · exact V.fin1 (c3 (by omega) (by omega) _ (getD_mem hlt) (by assumption))
  · obtain rfl : k = l.length := by omega
    rw [List.take_length] at hJ
    have c4 := c4 (by omega) (by omega) hJ
    repeat' ((conv => whnf); first | refine V.NCond.mk ?_ | refine V.NPick.l ?_ | refine V.NIf.not_ ?_ | refine V.NIf.dec_ ?_ | refine V.a4 ?_ | refine V.a5 ?_ | refine V.NIf.mk (fun _ => ?_) (fun _ => ?_) | refine V.a7 ?_ | refine V.a8 ?_ | refine V.a9 ?_ | refine V.NBoth.mk ?_ ?_ | refine V.b1 ?_ | refine V.b2 ?_ | refine V.NTF.dec ?_ | refine V.b3 ?_ | refine V.b4 ?_ | ((first | refine V.Fn.k (ce (by omega) hJ) [0] rfl ?_ ?_ | refine V.Fn.q (ce (by omega) hJ) [0] rfl ?_ ?_ | refine V.Fn.a (ce (by omega) hJ) [0] rfl ?_ ?_); · exact V.D_) | (refine V.NDraw.any (by kernel_rfl) ?_) | fail)
    all_goals (conv => whnf)
    · exact V.fin1 (c4.trans (if_pos (by assumption)))
    · exact V.fin1 (c4.trans (if_neg (by assumption)))
theorem v_rLines (l : List Po) (hn : l.length ≤ 9223372036854775807) : V.Fn Tryz.prog 65 [.arr 3 l.length (ga encP l)] [.one (.ref 0)] (.int .i64 (Bk.lines l)) := by
  have lc := Bk.lines_cases l
  have lq : l.length ≤ 400 → Ca.fe (Bk.eAt l) l.length = 0 → Bk.Lines l := fun h1 h2 => Bk.fe_ok h1 h2
  have ce := fun (q : Bk.Lines l) => v_evenof l (Nat.le_trans q.le (by decide)) q.r
  have lf : l.length ≤ 400 → Ca.fe (Bk.eAt l) l.length ≠ 0 → Bk.lines l = Ca.fe (Bk.eAt l) l.length := fun h1 h2 => by omega
  have le : l.length ≤ 400 → Ca.fe (Bk.eAt l) l.length = 0 → Bk.lines l = if Bk.even l = true then 0 else 4 := fun h1 h2 => by
    rcases lc with ⟨h, e⟩ | ⟨_, h, e⟩ | ⟨_, _, h, e⟩ | ⟨_, _, h, e⟩
    · omega
    · exact absurd h2 h
    · rw [h, e]; rfl
    · rw [h, e]; rfl
  generalize Bk.even l = ev at *
  have l2 : 400 < l.length → Bk.lines l = 2 := fun h => by
    rcases lc with ⟨_, e⟩ | ⟨h', _⟩ | ⟨_, h', _⟩ | ⟨_, h', _⟩
    · exact e
    · omega
    · have := h'.le; omega
    · have := h'.le; omega
  clear lc
  refine V.Fn.mk_ V.Tok V.mixed Tryz.func65 rfl Tryz.ntmps65 (by kernel_rfl) rfl rfl ?_
  repeat' ((conv => whnf); first | refine V.NCond.mk ?_ | refine V.NPick.l ?_ | refine V.NIf.not_ ?_ | refine V.NIf.dec_ ?_ | refine V.a4 ?_ | refine V.a5 ?_ | refine V.NIf.mk (fun _ => ?_) (fun _ => ?_) | refine V.a7 ?_ | refine V.a8 ?_ | refine V.a9 ?_ | refine V.NBoth.mk ?_ ?_ | refine V.b1 ?_ | refine V.b2 ?_ | refine V.NTF.dec ?_ | refine V.b3 ?_ | refine V.b4 ?_ | (refine V.NDraw.any (by kernel_rfl) ?_) | fail)
  all_goals (conv => whnf)
  · exact V.fin1 (l2 (by omega))
  refine V.NLoop.auto (fun (k : Nat) => [(3, .one (.val (.int .i64 k)))]) (fun (k : Nat) => []) [] [] (fun (k : Nat) => l.length - k) (fun (k : Nat) => k ≤ l.length ∧ ∀ j, j < k → Bk.eAt l j = 0) 0 ⟨Nat.zero_le _, fun u h => absurd h (Nat.not_lt_zero _)⟩ V.S_ V.S_ (fun _ => ⟨rfl, rfl⟩) ?_; (conv => whnf); refine ⟨⟨rfl, rfl⟩, ?_⟩
  rintro k ⟨hk, hJ⟩
  by_cases hlt : k < l.length
  · have hA : Bk.eAt l k ≠ 0 → Bk.lines l = Bk.eAt l k := fun h => by
      have := Ca.fe_get hlt hJ h
      rw [lf (by omega) (by omega), this]
    have e1 : ¬ Bk.Right (l.getD k default) → Bk.eAt l k = 3 := fun h => if_pos h
    have e2 : Bk.Right (l.getD k default) → 0 < k → ¬ ((l.getD (k - 1) default).ac < (l.getD k default).ac ∨ ((l.getD (k - 1) default).ac = (l.getD k default).ac ∧ (l.getD (k - 1) default).ut < (l.getD k default).ut)) → Bk.eAt l k = 4 := fun h1 h2 h3 => (if_neg (fun z => z h1)).trans (if_pos ⟨h2, decide_eq_false h3⟩)
    have e3 : Bk.Right (l.getD k default) → (0 < k → (l.getD (k - 1) default).ac < (l.getD k default).ac ∨ ((l.getD (k - 1) default).ac = (l.getD k default).ac ∧ (l.getD (k - 1) default).ut < (l.getD k default).ut)) → Bk.eAt l k = 0 := fun h1 h2 => (if_neg (fun z => z h1)).trans (if_neg (fun z => of_decide_eq_false z.2 (h2 z.1)))
    have c1 := v_rPostR (l.getD k default)
    repeat' ((conv => whnf); first | refine V.NCond.mk ?_ | refine V.NPick.l ?_ | refine V.NIf.not_ ?_ | refine V.NIf.dec_ ?_ | refine V.a4 ?_ | refine V.a5 ?_ | refine V.NIf.mk (fun _ => ?_) (fun _ => ?_) | refine V.a7 ?_ | refine V.a8 ?_ | refine V.a9 ?_ | refine V.NBoth.mk ?_ ?_ | refine V.b1 ?_ | refine V.b2 ?_ | refine V.NTF.dec ?_ | refine V.b3 ?_ | refine V.b4 ?_ | (refine NIdx.mk ⟨k, rfl, by omega, ?_⟩) | (refine NIdx.mk ⟨k - 1, by omega, by omega, ?_⟩) | (first | refine V.Fn.k0 (c1) rfl ?_ | refine V.Fn.q0 (c1) rfl ?_ | refine V.Fn.a0 (c1) rfl ?_) | (refine V.NDraw.any (by kernel_rfl) ?_) | fail)
    all_goals (conv => whnf)
    all_goals first
      | exact V.fin1 ((hA (by rw [e1 (by assumption)]; decide)).trans (e1 (by assumption)))
      | exact V.fin1 ((hA (by rw [e2 (by assumption) (by omega) (by omega)]; decide)).trans (e2 (by assumption) (by omega) (by omega)))
      | exact V.NBack.at_ (k + 1) [] ⟨by omega, fun j hj => (show j < k ∨ j = k by omega).elim (hJ j) (fun e => by rw [e]; exact e3 (by assumption) fun _ => by omega)⟩ (by omega) V.S_ rfl V.S_ V.S_ V.S_
      | trace_state
  · obtain rfl : k = l.length := by omega
    have f0 := Ca.fe_end hJ
    have le := le (by omega) f0
    repeat' ((conv => whnf); first | refine V.NCond.mk ?_ | refine V.NPick.l ?_ | refine V.NIf.not_ ?_ | refine V.NIf.dec_ ?_ | refine V.a4 ?_ | refine V.a5 ?_ | refine V.NIf.mk (fun _ => ?_) (fun _ => ?_) | refine V.a7 ?_ | refine V.a8 ?_ | refine V.a9 ?_ | refine V.NBoth.mk ?_ ?_ | refine V.b1 ?_ | refine V.b2 ?_ | refine V.NTF.dec ?_ | refine V.b3 ?_ | refine V.b4 ?_ | ((first | refine V.Fn.k (ce (lq (by omega) f0)) [0] rfl ?_ ?_ | refine V.Fn.q (ce (lq (by omega) f0)) [0] rfl ?_ ?_ | refine V.Fn.a (ce (lq (by omega) f0)) [0] rfl ?_ ?_); · exact V.D_) | (refine V.NDraw.any (by kernel_rfl) ?_) | fail)
    all_goals (conv => whnf)
    · exact V.fin1 (le.trans (if_pos (by assumption)))
    · exact V.fin1 (le.trans (if_neg (by assumption)))
namespace Bk
def at? (a u : Int) (p : Po) : Bool := decide (p.ac = a ∧ p.ut = u)
def amAt (b : List Po) (a u : Int) : Int := if 0 ≤ ixf (at? a u) b then (b.getD (ixf (at? a u) b).toNat default).am else 0
end Bk
end Go.Proofs.YtpanlcnoopmchaaGreat

namespace Go.Proofs.YtpanlcnoopmchaaGreat
open Go Go.Sort Go.RowKit V
set_option maxHeartbeats 4000000
theorem v_rPost (b l : List Po) (hb : b.length ≤ 9223372036854775807) (hn : l.length ≤ 9223372036854775807) : V.FnR Tryz.prog 49 [.arr 3 b.length (ga encP b), .arr 3 l.length (ga encP l)] [.one (.ref 0), .one (.ref 1)] (.tup [.one (.ref 2), .one (.val (.int .i64 (Bk.pE b l)))]) [.row 65 3 (Bk.pL b l).length (ga encP (Bk.pL b l))] := by
  have pc := Bk.pE_cases b l
  have c1 := v_rLines b hb
  have c2 := v_rPostsC l hn
  have lo := @Bk.lines_0 b
  have lc := @Bk.chk_0 l
  have pl : Bk.pE b l ≠ 0 → Bk.pL b l = [] := fun h => if_neg h
  generalize hL : Bk.lines b = L at *
  generalize hC : Bk.chk l = C at *
  refine V.FnR.mk_ V.Tok V.mixed Tryz.func49 rfl Tryz.ntmps49 (by kernel_rfl) rfl rfl rfl rfl ?_
  repeat' ((conv => whnf); first | (refine V.NApp.to_ b (by simp) (by have := (lo (by assumption)).1.le; omega) (by have := (lo (by assumption)).1.le; simp; omega) (fun k hk => absurd hk (Nat.not_lt_zero _)) (fun k hk => by rw [Nat.zero_add]) ?_) | (refine V.NApp.to_ (b ++ l) (by simp) (by have := (lo (by assumption)).1.le; have := (lc (by assumption)).1; simp; omega) (by have := (lo (by assumption)).1.le; have := (lc (by assumption)).1; simp; omega) (fun k hk => ga_left hk) (fun k hk => ga_right rfl hk) ?_) | refine V.NCond.mk ?_ | refine V.NPick.l ?_ | refine V.NIf.not_ ?_ | refine V.NIf.dec_ ?_ | refine V.a4 ?_ | refine V.a5 ?_ | refine V.NIf.mk (fun _ => ?_) (fun _ => ?_) | refine V.a7 ?_ | refine V.a8 ?_ | refine V.a9 ?_ | refine V.NBoth.mk ?_ ?_ | refine V.b1 ?_ | refine V.b2 ?_ | refine V.NTF.dec ?_ | refine V.b3 ?_ | refine V.b4 ?_ | (refine NOne.mk ?_ ?_; · (intro k hk; rfl)) | ((first | refine V.Fn.k (c1) [0] rfl ?_ ?_ | refine V.Fn.q (c1) [0] rfl ?_ ?_ | refine V.Fn.a (c1) [0] rfl ?_ ?_); · exact V.D_) | ((first | refine V.Fn.k (c2) [1] rfl ?_ ?_ | refine V.Fn.q (c2) [1] rfl ?_ ?_ | refine V.Fn.a (c2) [1] rfl ?_ ?_); · exact V.D_) | (refine V.NDraw.any (by kernel_rfl) ?_) | fail)
  all_goals (conv => whnf)
  · obtain ⟨⟨lb, _⟩, lc1, lc2, _⟩ := And.intro (lo (by assumption)) (lc (by assumption))
    have R : ∀ p ∈ b ++ l, Bk.Right p := fun p hp => (List.mem_append.1 hp).elim (lb.r p) (lc2 p)
    have nl : (b ++ l).length ≤ 460 := by have := lb.le; simp; omega
    have e : Bk.pE b l = Bk.mE (Bk.tot (b ++ l)) := by omega
    have eL : Bk.pL b l = Bk.mL (Bk.tot (b ++ l)) := by unfold Bk.pL Bk.mL; rw [e]
    rw [e, eL]
    have ct : ∀ a u : Nat, a < 101 → u < 21 → V.FnR Tryz.prog 110 [.arr 3 (b ++ l).length (ga encP (b ++ l))] [.one (.ref 0), .one (.val (.int .i64 ((a : Int)))), .one (.val (.int .i64 ((u : Int))))] (.one (.ref 1)) [.row 3 1 (Bk.amk (b ++ l) (21 * a + u)).length (ga e1 (Bk.amk (b ++ l) (21 * a + u)))] := fun a u ha hu => by
      have c := v_amof (b ++ l) (a : Int) (u : Int) (by omega)
      have q := Bk.sel_amk R (21 * a + u)
      rw [show (21 * a + u) / 21 = a by omega, show (21 * a + u) % 21 = u by omega] at q
      rwa [q] at c
    have cs : ∀ k, V.Fn Tryz.prog 35 [.arr 1 (Bk.amk (b ++ l) k).length (ga e1 (Bk.amk (b ++ l) k))] [.one (.ref 0)] (.tuple #[.int .i64 (M.sofV (Bk.amk (b ++ l) k)), .bool (decide (M.Amt (Bk.tot (b ++ l) k)))]) := fun k => v_sumof (Bk.amk (b ++ l) k) (by have := Bk.amk_len (b ++ l) k; omega) (Bk.amk_amt R k)
    have se : ∀ k, M.Amt (Bk.tot (b ++ l) k) → M.sofV (Bk.amk (b ++ l) k) = Bk.tot (b ++ l) k := fun k h => (sofV_eq (Bk.amk (b ++ l) k)).resolve_right (fun z => z h)
    generalize Bk.tot (b ++ l) = T at *
    refine V.NLoop.auto (fun (a : Nat) => [(9, .one (.val (.int .i64 a))), (8, .one (.ref 6))]) (fun (a : Nat) => [(6, .row 65 3 (Bk.out T (21 * a)).length (ga encP (Bk.out T (21 * a))))]) [] [] (fun (a : Nat) => 101 - a) (fun (a : Nat) => a ≤ 101 ∧ ∀ k, k < 21 * a → M.Amt (T k)) 0 ⟨Nat.zero_le _, fun u h => absurd h (Nat.not_lt_zero _)⟩ V.S_ V.S_ (fun _ => ⟨rfl, rfl⟩) ?_; (conv => whnf); refine ⟨⟨rfl, rfl⟩, ?_⟩
    rintro a ⟨ha, hJ⟩
    by_cases ha1 : a < 101
    · repeat' ((conv => whnf); first | refine V.NCond.mk ?_ | refine V.NPick.l ?_ | refine V.NIf.not_ ?_ | refine V.NIf.dec_ ?_ | refine V.a4 ?_ | refine V.a5 ?_ | refine V.NIf.mk (fun _ => ?_) (fun _ => ?_) | refine V.a7 ?_ | refine V.a8 ?_ | refine V.a9 ?_ | refine V.NBoth.mk ?_ ?_ | refine V.b1 ?_ | refine V.b2 ?_ | refine V.NTF.dec ?_ | refine V.b3 ?_ | refine V.b4 ?_ | (refine V.NDraw.any (by kernel_rfl) ?_) | fail)
      all_goals (conv => whnf)
      refine V.NLoop.auto (fun (u : Nat) => [(10, .one (.val (.int .i64 u))), (8, .one (.ref 6))]) (fun (u : Nat) => [(6, .row 65 3 (Bk.out T (21 * a + u)).length (ga encP (Bk.out T (21 * a + u))))]) [] [] (fun (u : Nat) => 21 - u) (fun (u : Nat) => u ≤ 21 ∧ ∀ k, k < 21 * a + u → M.Amt (T k)) 0 ⟨Nat.zero_le _, hJ⟩ V.S_ V.S_ (fun _ => ⟨rfl, rfl⟩) ?_; (conv => whnf); refine ⟨⟨rfl, rfl⟩, ?_⟩
      rintro u ⟨hu, hK⟩
      by_cases hu1 : u < 21
      · have c := ct a u ha1 hu1
        have d := cs (21 * a + u)
        have g := se (21 * a + u)
        have ol := Bk.out_len T (21 * a + u)
        have os := Bk.out_succ T (21 * a + u)
        rw [show (21 * a + u) / 21 = a by omega, show (21 * a + u) % 21 = u by omega] at os
        generalize M.sofV (Bk.amk (b ++ l) (21 * a + u)) = sv at *
        have o1 : decide (M.Amt (T (21 * a + u))) = true ↔ M.Amt (T (21 * a + u)) := decide_eq_true_iff
        generalize decide (M.Amt (T (21 * a + u))) = o at *
        repeat' ((conv => whnf); first | (refine NApp.one (en := encP) (l := Bk.out T (21 * a + u)) (x := ⟨(a : Int), (u : Int), sv⟩) (by simp; omega) (by simp; omega) ?_) | refine V.NCond.mk ?_ | refine V.NPick.l ?_ | refine V.NIf.not_ ?_ | refine V.NIf.dec_ ?_ | refine V.a4 ?_ | refine V.a5 ?_ | refine V.NIf.mk (fun _ => ?_) (fun _ => ?_) | refine V.a7 ?_ | refine V.a8 ?_ | refine V.a9 ?_ | refine V.NBoth.mk ?_ ?_ | refine V.b1 ?_ | refine V.b2 ?_ | refine V.NTF.dec ?_ | refine V.b3 ?_ | refine V.b4 ?_ | ((first | refine V.FnR.k_ (c) [5] rfl ?_ ?_ | refine V.FnR.a_ (c) [5] rfl ?_ ?_); · exact V.D_) | ((first | refine V.Fn.k (d) [7] rfl ?_ ?_ | refine V.Fn.q (d) [7] rfl ?_ ?_ | refine V.Fn.a (d) [7] rfl ?_ ?_); · exact V.D_) | (refine V.NDraw.any (by kernel_rfl) ?_) | fail)
        all_goals (conv => whnf)
        · have g := g (o1.1 (by assumption))
          exact V.NBack.at_ (u + 1) [] ⟨by omega, fun k hk => (show k < 21 * a + u ∨ k = 21 * a + u by omega).elim (hK k) (fun e => by rw [e]; exact o1.1 (by assumption))⟩ (by omega) V.S_ rfl ⟨ObLe.as_ (by rw [show 21 * a + (u + 1) = 21 * a + u + 1 by omega, os, if_pos (by omega), List.append_nil]), trivial⟩ V.S_ V.S_
        · have g := g (o1.1 (by assumption))
          exact V.NBack.at_ (u + 1) [(6, 9)] ⟨by omega, fun k hk => (show k < 21 * a + u ∨ k = 21 * a + u by omega).elim (hK k) (fun e => by rw [e]; exact o1.1 (by assumption))⟩ (by omega) V.S_ rfl ⟨ObLe.as_ (by rw [show 21 * a + (u + 1) = 21 * a + u + 1 by omega, os, if_neg (by omega), g]), trivial⟩ V.S_ V.S_
        · have w : Bk.mE T = 8 := if_pos (Bk.wide_yes (k := 21 * a + u) (by omega) (fun h => absurd (o1.2 h) (by assumption)))
          rw [show Bk.mL T = [] from if_neg (by omega), w]
          exact NRet.mk_ [some 8] rfl ⟨rfl, rfl, trivial⟩ ⟨⟨rfl, rfl, rfl, fun k hk => absurd hk (Nat.not_lt_zero _)⟩, trivial⟩
      · obtain rfl : u = 21 := by omega
        repeat' ((conv => whnf); first | refine V.NCond.mk ?_ | refine V.NPick.l ?_ | refine V.NIf.not_ ?_ | refine V.NIf.dec_ ?_ | refine V.a4 ?_ | refine V.a5 ?_ | refine V.NIf.mk (fun _ => ?_) (fun _ => ?_) | refine V.a7 ?_ | refine V.a8 ?_ | refine V.a9 ?_ | refine V.NBoth.mk ?_ ?_ | refine V.b1 ?_ | refine V.b2 ?_ | refine V.NTF.dec ?_ | refine V.b3 ?_ | refine V.b4 ?_ | (refine V.NDraw.any (by kernel_rfl) ?_) | fail)
        all_goals (conv => whnf)
        exact V.NBack.at_ (a + 1) [] ⟨by omega, fun k hk => hK k (by omega)⟩ (by omega) V.S_ rfl ⟨ObLe.as_ (by rw [show 21 * (a + 1) = 21 * a + 21 by omega]), trivial⟩ V.S_ V.S_
    · obtain rfl : a = 101 := by omega
      have m := Bk.mE_is (T := T) fun k hk => hJ k (by omega)
      have q : Bk.out T (21 * 101) = Bk.out T 2121 := rfl
      rw [q]
      repeat' ((conv => whnf); first | refine V.NCond.mk ?_ | refine V.NPick.l ?_ | refine V.NIf.not_ ?_ | refine V.NIf.dec_ ?_ | refine V.a4 ?_ | refine V.a5 ?_ | refine V.NIf.mk (fun _ => ?_) (fun _ => ?_) | refine V.a7 ?_ | refine V.a8 ?_ | refine V.a9 ?_ | refine V.NBoth.mk ?_ ?_ | refine V.b1 ?_ | refine V.b2 ?_ | refine V.NTF.dec ?_ | refine V.b3 ?_ | refine V.b4 ?_ | (refine V.NDraw.any (by kernel_rfl) ?_) | fail)
      all_goals (conv => whnf)
      · have m : Bk.mE T = 2 := m.trans (if_pos (by omega))
        rw [show Bk.mL T = [] from if_neg (by omega), m]
        exact NRet.mk_ [some 7] rfl ⟨rfl, rfl, trivial⟩ ⟨⟨rfl, rfl, rfl, fun k hk => absurd hk (Nat.not_lt_zero _)⟩, trivial⟩
      · have m : Bk.mE T = 0 := m.trans (if_neg (by omega))
        rw [show Bk.mL T = Bk.out T 2121 from if_pos m, m]
        exact NRet.mk_ [some 6] rfl ⟨rfl, rfl, trivial⟩ ⟨⟨rfl, rfl, rfl, fun k hk => rfl⟩, trivial⟩
  · have e : Bk.pE b l = C := by omega
    rw [pl (by omega), e]
    exact NRet.mk_ [some 3] rfl ⟨rfl, rfl, trivial⟩ ⟨⟨rfl, rfl, rfl, fun k hk => absurd hk (Nat.not_lt_zero _)⟩, trivial⟩
  · have e : Bk.pE b l = L := by omega
    rw [pl (by omega), e]
    exact NRet.mk_ [some 3] rfl ⟨rfl, rfl, trivial⟩ ⟨⟨rfl, rfl, rfl, fun k hk => absurd hk (Nat.not_lt_zero _)⟩, trivial⟩
end Go.Proofs.YtpanlcnoopmchaaGreat

namespace Go.Proofs.YtpanlcnoopmchaaGreat
open Go Go.Sort Go.RowKit V
set_option maxHeartbeats 4000000
namespace Bk
end Bk
namespace Bk
def Kn (a u : Int) : Prop := (0 ≤ a ∧ a ≤ 100) ∧ (0 ≤ u ∧ u ≤ 20)
instance (a u : Int) : Decidable (Kn a u) := by unfold Kn; exact inferInstance
def bE (b : List Po) (a u : Int) : Int := if lines b ≠ 0 then lines b else if Kn a u then 0 else 3
def bV (b : List Po) (a u : Int) : Int := if bE b a u = 0 then amAt b a u else 0
end Bk
end Go.Proofs.YtpanlcnoopmchaaGreat

namespace Go.Proofs.YtpanlcnoopmchaaGreat
open Go Go.Sort Go.RowKit V
set_option maxHeartbeats 4000000
namespace Bk
def mx (a : Int) : Int := if a < 0 then 0 else a
def up (b : List Po) : List Po := b.map fun p => ⟨p.ac, p.ut, mx p.am⟩
def pos (l : List Int) : List Int := l.filter fun a => decide (0 < a)
def ts (b : List Po) (u : Nat) : Int := M.sum (pos (amu b u))
def tw (b : List Po) : Bool := (List.range 21).any fun u => !decide (M.Amt (ts b u))
def tE (b : List Po) : Int := if lines b ≠ 0 then lines b else if tw b = true then 8 else 0
def tl (b : List Po) (i : Nat) : List Int := (List.range 21).map fun q => if q < i then ts b q else 0
end Bk
end Go.Proofs.YtpanlcnoopmchaaGreat

namespace Go.Proofs.YtpanlcnoopmchaaGreat
open Go Go.Sort Go.RowKit V
set_option maxHeartbeats 4000000
theorem pos_snoc (l : List Int) (a : Int) : Bk.pos (l ++ [a]) = Bk.pos l ++ if 0 < a then [a] else [] := by
  unfold Bk.pos
  rw [List.filter_append]
  congr 1
  by_cases h : 0 < a
  · rw [if_pos h]; exact List.filter_cons_of_pos (decide_eq_true h)
  · rw [if_neg h]; exact List.filter_cons_of_neg (by rw [decide_eq_true_eq]; exact h)
theorem pos_len (l : List Int) : (Bk.pos l).length ≤ l.length := List.length_filter_le _ _
end Go.Proofs.YtpanlcnoopmchaaGreat

namespace Go.Proofs.YtpanlcnoopmchaaGreat
namespace Bk
def kk (a u : Int) : Nat := (21 * a + u).toNat
structure Posted (b l : List Po) : Prop where
  bo : Lines b
  be : even b = true
  n : 0 < l.length ∧ l.length ≤ 60
  r : ∀ p ∈ l, Right p
  le : even l = true
  a : ∀ k, k < 2121 → M.Amt (tot (b ++ l) k)
  m : (out (tot (b ++ l)) 2121).length ≤ 400
theorem pE_0 {b l : List Po} : pE b l = 0 ↔ Posted b l := by
  constructor
  · intro h
    rcases pE_cases b l with ⟨a, e⟩ | ⟨_, a, e⟩ | ⟨h1, h2, e⟩
    · rw [h] at e; exact absurd e.symm a
    · rw [h] at e; exact absurd e.symm a
    · obtain ⟨m1, m2⟩ := mE_0 (e.symm.trans h)
      obtain ⟨l1, l2⟩ := lines_0 h1
      obtain ⟨c1, c2, c3⟩ := chk_0 h2
      exact ⟨l1, l2, c1, c2, c3, m1, m2⟩
  · rintro ⟨h1, h2, h3, h4, h5, h6, h7⟩
    rcases pE_cases b l with ⟨a, e⟩ | ⟨_, a, e⟩ | ⟨_, _, e⟩
    · exact absurd (lines_is h1 h2) a
    · exact absurd (chk_is h3 h4 h5) a
    · rw [e, mE_is h6, if_neg (by omega)]
theorem po_pL {b l : List Po} (h : Posted b l) : pL b l = out (tot (b ++ l)) 2121 := if_pos (pE_0.2 h)
theorem po_lines {b l : List Po} (h : Posted b l) : Lines (Bk.pL b l) := by
  rw [po_pL h]
  exact out_lines h.a h.m
theorem po_tot {b l : List Po} (h : Posted b l) {k : Nat} (hk : k < 2121) : tot (Bk.pL b l) k = Bk.tot b k + Bk.tot l k := by
  rw [po_pL h, tot_out hk, tot_app]
theorem po_even {b l : List Po} (h : Posted b l) : even (Bk.pL b l) = true := by
  rw [even_su (po_lines h).r]
  intro u hu
  have e1 := (even_su h.bo.r).1 h.be u hu
  have e2 := (even_su h.r).1 h.le u hu
  rw [su_congr (T := fun k => Bk.tot b k + Bk.tot l k) fun j hj => po_tot h (by omega), su_add, e1, e2]
  rfl
theorem po_ok {b l : List Po} (h : Posted b l) : Bk.lines (Bk.pL b l) = 0 := lines_is (po_lines h) (po_even h)
theorem book_ext {b c : List Po} (hb : Lines b) (hc : Lines c) (h : ∀ k, k < 2121 → tot b k = tot c k) : b = c := by
  rw [is_out hb, is_out hc]
  have : ∀ n, n ≤ 2121 → out (tot b) n = out (tot c) n := fun n => by
    induction n with
    | zero => intro _; rfl
    | succ n ih => intro hn; rw [out_succ, out_succ, ih (by omega), h n (by omega)]
  exact this 2121 (Nat.le_refl _)
end Bk
end Go.Proofs.YtpanlcnoopmchaaGreat

namespace Go.Proofs.YtpanlcnoopmchaaGreat
namespace Cp
def Ok (u p x : Int) : Prop := (0 ≤ u ∧ u ≤ 1073741824) ∧ P.Ok p ∧ (0 ≤ x ∧ x ≤ 10000)
instance (u p x : Int) : Decidable (Ok u p x) := by unfold Ok; exact inferInstance
def wE (u p x : Int) : Int := if Ok u p x then 0 else 3
def wV (u p x : Int) : Int := if Ok u p x then P.cost u p + P.cost u p * x / 10000 else 0
theorem w_yes {u p x : Int} (h : Ok u p x) : wE u p x = 0 ∧ wV u p x = P.cost u p + P.cost u p * x / 10000 := ⟨if_pos h, if_pos h⟩
theorem w_no {u p x : Int} (h : ¬ Ok u p x) : wE u p x = 3 ∧ wV u p x = 0 := ⟨if_neg h, if_neg h⟩
theorem w_bd {u p x : Int} : 0 ≤ wV u p x ∧ wV u p x ≤ 236118324143482260 := by
  by_cases q : Ok u p x
  · rw [(w_yes q).2]
    have := P.cost_bd q.1 q.2.1
    have := P.rate_bd this.1 q.2.2
    omega
  · rw [(w_no q).2]; omega
def lt (x : Int) (l : List Int) : Nat := l.countP fun y => decide (y < x)
def eq (x : Int) (l : List Int) : Nat := l.countP fun y => decide (y = x)
def le (x : Int) (l : List Int) : Nat := l.countP fun y => decide (y ≤ x)
theorem half {n : Nat} (h : 0 < n) : (n - 1) / 2 < n := by omega
def rk (l : List Int) (i : Nat) : Nat := lt (l.getD i default) l + eq (l.getD i default) (l.take i)
def gt (x : Int) (l : List Int) : Nat := l.countP fun y => decide (x < y)
def bad (l : List Int) : Int := ixf (fun p => decide (¬ P.Ok p)) l
def mE (l : List Int) : Int := if l.length = 0 then 1 else if 40 < l.length then 2 else if ∀ p ∈ l, P.Ok p then 0 else 3
def LOk (p was most : Int) : Prop := P.Ok p ∧ P.Ok was ∧ (0 ≤ most ∧ most ≤ 10000)
instance (p was most : Int) : Decidable (LOk p was most) := by unfold LOk; exact inferInstance
def clamp (p was away : Int) : Int := if (if (if p < was - away then was - away else p) > was + away then was + away else (if p < was - away then was - away else p)) > 1099511627776 then 1099511627776 else (if (if p < was - away then was - away else p) > was + away then was + away else (if p < was - away then was - away else p))
def lV (p was most : Int) : Int := if LOk p was most then clamp p was (was * most / 10000) else 0
def pE (f : Fl) (p x : Int) : Int := if F.less f 1 ≠ 0 then F.less f 1 else wE (F.left f) p x
def pF (f : Fl) (p x : Int) : Fl := if pE f p x = 0 then F.addPd f (F.left f) else F.zero
def pN (f : Fl) (p x : Int) : Int := if pE f p x = 0 then wV (F.left f) p x else 0
def mvd (a b c d : Int) : List Po := [⟨a, c, -d⟩, ⟨b, c, d⟩]
def pL (f : Fl) (p x : Int) : List Po := if pN f p x = 0 then [] else mvd f.fr f.to 0 (pN f p x)
theorem p_1 {f : Fl} {p x : Int} (h : ¬ F.less f 1 = 0) : pE f p x = F.less f 1 ∧ pF f p x = F.zero ∧ pL f p x = [] := by
  have e : pE f p x = F.less f 1 := if_pos h
  exact ⟨e, if_neg (by rw [e]; exact h), if_pos (if_neg (by rw [e]; exact h))⟩
theorem p_2 {f : Fl} {p x : Int} (h : F.less f 1 = 0) (w : ¬ wE (F.left f) p x = 0) : pE f p x = wE (F.left f) p x ∧ pF f p x = F.zero ∧ pL f p x = [] := by
  have e : pE f p x = wE (F.left f) p x := if_neg (fun z => z h)
  exact ⟨e, if_neg (by rw [e]; exact w), if_pos (if_neg (by rw [e]; exact w))⟩
theorem p_3 {f : Fl} {p x : Int} (h : F.less f 1 = 0) (w : wE (F.left f) p x = 0) : pE f p x = 0 ∧ pF f p x = F.addPd f (F.left f) ∧ pN f p x = wV (F.left f) p x := by
  have e : pE f p x = 0 := (if_neg (fun z => z h)).trans w
  exact ⟨e, if_pos e, if_pos e⟩
theorem pL_0 {f : Fl} {p x : Int} (h : pN f p x = 0) : pL f p x = [] := if_pos h
theorem pL_1 {f : Fl} {p x : Int} (h : ¬ pN f p x = 0) : pL f p x = mvd f.fr f.to 0 (pN f p x) := if_neg h
theorem less_1 (f : Fl) : (F.chk f ≠ 0 ∧ F.less f 1 = F.chk f) ∨ (F.chk f = 0 ∧ F.left f = 0 ∧ F.less f 1 = 5) ∨ (F.chk f = 0 ∧ 1 ≤ F.left f ∧ F.less f 1 = 0) := by
  by_cases h : F.chk f = 0
  · have b := F.ok_bounds (F.chk_ok h)
    by_cases q : F.left f = 0
    · exact .inr (.inl ⟨h, q, F.less_3 h (by omega) q⟩)
    · exact .inr (.inr ⟨h, by omega, F.less_5 h (by omega) q (by omega)⟩)
  · exact .inl ⟨h, F.less_1 h⟩
end Cp
end Go.Proofs.YtpanlcnoopmchaaGreat

namespace Go.Proofs.YtpanlcnoopmchaaGreat
structure Wd where
  td : Int
  fs : List Fl
  bk : List Po
namespace Cy
def zw : Wd := ⟨0, [], []⟩
instance : Inhabited Wd := ⟨zw⟩
theorem wd_ext {a b : Wd} (h1 : a.td = b.td) (h2 : a.fs = b.fs) (h3 : a.bk = b.bk) : a = b := by cases a; cases b; simp_all
def rE (c : Cl) (t : List Tm) (x : Int) : Int := if Ca.chk c ≠ 0 then Ca.chk c else if Pn.tE t ≠ 0 then Pn.tE t else if 0 ≤ x ∧ x ≤ 10000 then 0 else 3
theorem rE_1 {c : Cl} {t : List Tm} {x : Int} (h : ¬ Ca.chk c = 0) : rE c t x = Ca.chk c := if_pos h
theorem rE_2 {c : Cl} {t : List Tm} {x : Int} (h : Ca.chk c = 0) (k : ¬ Pn.tE t = 0) : rE c t x = Pn.tE t := (if_neg (by omega)).trans (if_pos k)
theorem rE_3 {c : Cl} {t : List Tm} {x : Int} (h : Ca.chk c = 0) (k : Pn.tE t = 0) (n : ¬ (0 ≤ x ∧ x ≤ 10000)) : rE c t x = 3 := (if_neg (by omega)).trans ((if_neg (by omega)).trans (if_neg n))
theorem rE_4 {c : Cl} {t : List Tm} {x : Int} (h : Ca.chk c = 0) (k : Pn.tE t = 0) (n : 0 ≤ x ∧ x ≤ 10000) : rE c t x = 0 := (if_neg (by omega)).trans ((if_neg (by omega)).trans (if_pos n))
theorem rE_ok {c : Cl} {t : List Tm} {x : Int} (h : rE c t x = 0) : Ca.chk c = 0 ∧ Pn.tE t = 0 ∧ 0 ≤ x ∧ x ≤ 10000 := by
  unfold rE at h
  split at h
  · exact absurd h (by assumption)
  · split at h
    · exact absurd h (by assumption)
    · split at h
      · exact ⟨by omega, by omega, by assumption⟩
      · cases h
def wE (w : Wd) : Int := if D.chk w.td ≠ 0 then D.chk w.td else if F.checks w.fs ≠ 0 then F.checks w.fs else Bk.lines w.bk
theorem wE_1 {w : Wd} (h : ¬ D.chk w.td = 0) : wE w = D.chk w.td := if_pos h
theorem wE_2 {w : Wd} (h : D.chk w.td = 0) (k : ¬ F.checks w.fs = 0) : wE w = F.checks w.fs := (if_neg (by omega)).trans (if_pos k)
theorem wE_3 {w : Wd} (h : D.chk w.td = 0) (k : F.checks w.fs = 0) : wE w = Bk.lines w.bk := (if_neg (by omega)).trans (if_neg (by omega))
theorem wE_of {w : Wd} (h : D.chk w.td = 0) (k : F.checks w.fs = 0) (b : Bk.lines w.bk = 0) : wE w = 0 := (wE_3 h k).trans b
theorem wE_ok {w : Wd} (h : wE w = 0) : D.chk w.td = 0 ∧ F.checks w.fs = 0 ∧ Bk.lines w.bk = 0 := by
  unfold wE at h
  split at h
  · exact absurd h (by assumption)
  · split at h
    · exact absurd h (by assumption)
    · exact ⟨by omega, by omega, h⟩
theorem wE_len {w : Wd} (h : wE w = 0) : w.fs.length ≤ 60 ∧ w.bk.length ≤ 400 := by
  obtain ⟨_, a, b⟩ := wE_ok h
  exact ⟨F.checks_len (by omega), (Bk.lines_0 b).1.le⟩
def at_ (w : Wd) (id : Int) : Nat := (F.idx id w.fs 0).toNat
def fl (w : Wd) (id : Int) : Fl := w.fs.getD (at_ w id) default
def dvE (w : Wd) (id u : Int) : Int := if wE w ≠ 0 then wE w else if F.fndE id w.fs ≠ 0 then F.fndE id w.fs else if F.less (fl w id) u ≠ 0 then F.less (fl w id) u else Bk.pE w.bk (Cp.mvd (fl w id).fr (fl w id).to (fl w id).pa u)
def dvW (w : Wd) (id u : Int) : Wd := if dvE w id u = 0 then ⟨w.td, w.fs.set (at_ w id) (F.addDe (fl w id) u), Bk.pL w.bk (Cp.mvd (fl w id).fr (fl w id).to (fl w id).pa u)⟩ else zw
theorem dv_1 {w : Wd} {id u : Int} (h : ¬ wE w = 0) : dvE w id u = wE w := if_pos h
theorem dv_2 {w : Wd} {id u : Int} (h : wE w = 0) (k : ¬ F.fndE id w.fs = 0) : dvE w id u = F.fndE id w.fs := (if_neg (by omega)).trans (if_pos k)
theorem dv_3 {w : Wd} {id u : Int} (h : wE w = 0) (k : F.fndE id w.fs = 0) (n : ¬ F.less (fl w id) u = 0) : dvE w id u = F.less (fl w id) u := (if_neg (by omega)).trans ((if_neg (by omega)).trans (if_pos n))
theorem dv_4 {w : Wd} {id u : Int} (h : wE w = 0) (k : F.fndE id w.fs = 0) (n : F.less (fl w id) u = 0) : dvE w id u = Bk.pE w.bk (Cp.mvd (fl w id).fr (fl w id).to (fl w id).pa u) := (if_neg (by omega)).trans ((if_neg (by omega)).trans (if_neg (by omega)))
theorem dvW_yes {w : Wd} {id u : Int} (h : dvE w id u = 0) : dvW w id u = ⟨w.td, w.fs.set (at_ w id) (F.addDe (fl w id) u), Bk.pL w.bk (Cp.mvd (fl w id).fr (fl w id).to (fl w id).pa u)⟩ := if_pos h
theorem dvW_no {w : Wd} {id u : Int} (h : ¬ dvE w id u = 0) : dvW w id u = zw := if_neg h
theorem fnd_ok {w : Wd} {id : Int} (h : F.fndE id w.fs = 0) : 0 ≤ F.idx id w.fs 0 ∧ F.fndV id w.fs = F.idx id w.fs 0 ∧ F.checks w.fs = 0 := by
  by_cases a : F.checks w.fs = 0
  · by_cases b : F.idx id w.fs 0 < 0
    · rw [(F.fnd_2 a b).2] at h; cases h
    · exact ⟨by omega, (F.fnd_3 a b).1, a⟩
  · rw [(F.fnd_1 a).2] at h; exact absurd h a
def Fresh (w : Wd) (f : Fl) : Prop := f.de = 0 ∧ f.bo = 0 ∧ f.pd = 0 ∧ f.day ≤ w.td
instance (w : Wd) (f : Fl) : Decidable (Fresh w f) := by unfold Fresh; exact inferInstance
def adE (w : Wd) (f : Fl) : Int := if wE w ≠ 0 then wE w else if ¬ Fresh w f then 4 else F.checks (w.fs ++ [f])
def adW (w : Wd) (f : Fl) : Wd := if adE w f = 0 then ⟨w.td, w.fs ++ [f], w.bk⟩ else zw
theorem ad_1 {w : Wd} {f : Fl} (h : ¬ wE w = 0) : adE w f = wE w := if_pos h
theorem ad_2 {w : Wd} {f : Fl} (h : wE w = 0) (k : ¬ Fresh w f) : adE w f = 4 := (if_neg (by omega)).trans (if_pos k)
theorem ad_3 {w : Wd} {f : Fl} (h : wE w = 0) (k : Fresh w f) : adE w f = F.checks (w.fs ++ [f]) := (if_neg (by omega)).trans (if_neg (fun z => z k))
theorem adW_yes {w : Wd} {f : Fl} (h : adE w f = 0) : adW w f = ⟨w.td, w.fs ++ [f], w.bk⟩ := if_pos h
theorem adW_no {w : Wd} {f : Fl} (h : ¬ adE w f = 0) : adW w f = zw := if_neg h
def opn (l : List Fl) : List Fl := l.filter fun f => decide (0 < F.left f)
def ovr (l : List Fl) : List Fl := l.filter fun f => !decide (0 < F.left f)
theorem opn_snoc {l : List Fl} {k : Nat} (h : k < l.length) : opn (l.take (k + 1)) = opn (l.take k) ++ if 0 < F.left (l.getD k default) then [l.getD k default] else [] := by
  unfold opn
  rw [List.take_succ_eq_append_getElem h, List.filter_append, ← getD_at h]
  by_cases e : 0 < F.left (l.getD k default)
  · rw [if_pos e, List.filter_cons_of_pos (by simpa using e)]; rfl
  · rw [if_neg e, List.filter_cons_of_neg (by simpa using e)]; rfl
theorem ovr_snoc {l : List Fl} {k : Nat} (h : k < l.length) : ovr (l.take (k + 1)) = ovr (l.take k) ++ if 0 < F.left (l.getD k default) then [] else [l.getD k default] := by
  unfold ovr
  rw [List.take_succ_eq_append_getElem h, List.filter_append, ← getD_at h]
  by_cases e : 0 < F.left (l.getD k default)
  · rw [if_pos e, List.filter_cons_of_neg (by simpa using e)]; rfl
  · rw [if_neg e, List.filter_cons_of_pos (by simpa using e)]; rfl
theorem opn_all {l : List Fl} (h : ∀ f ∈ l, 0 < F.left f) : opn l = l ∧ ovr l = [] := by
  unfold opn ovr
  refine ⟨List.filter_eq_self.2 fun f hf => by simpa using h f hf, List.filter_eq_nil_iff.2 fun f hf => by simpa using h f hf⟩
structure TJ (l : List Fl) (j : Nat) (X : List Fl) : Prop where
  le : j ≤ l.length
  len : X.length = l.length
  tk : X.take (opn (l.take j)).length = opn (l.take j)
  rs : ∀ p, j ≤ p → p < l.length → X.getD p default = l.getD p default
  lt : (opn (l.take j)).length < j
theorem TJ.yes {l X : List Fl} {j : Nat} (h : TJ l j X) (hj : j < l.length) (o : 0 < F.left (l.getD j default)) : TJ l (j + 1) (X.set (opn (l.take j)).length (l.getD j default)) := by
  have e : opn (l.take (j + 1)) = opn (l.take j) ++ [l.getD j default] := by rw [opn_snoc hj, if_pos o]
  have n1 := h.lt
  have n2 := h.len
  refine ⟨hj, by rw [List.length_set]; exact h.len, ?_, fun p h1 h2 => ?_, by rw [e, List.length_append]; simp; omega⟩
  · rw [e, List.length_append, List.length_singleton, List.take_succ_eq_append_getElem (by rw [List.length_set]; omega), List.take_set_of_le (Nat.le_refl _), h.tk]
    simp
  · have := h.rs p (by omega) h2
    rw [← this, getD_at (l := X.set _ _) (by rw [List.length_set]; omega), List.getElem_set_ne (by omega)]
    exact (getD_at (by omega)).symm
theorem TJ.no {l X : List Fl} {j : Nat} (h : TJ l j X) (hj : j < l.length) (o : ¬ 0 < F.left (l.getD j default)) : TJ l (j + 1) X := by
  have e : opn (l.take (j + 1)) = opn (l.take j) := by rw [opn_snoc hj, if_neg o, List.append_nil]
  have n1 := h.lt
  exact ⟨hj, h.len, by rw [e]; exact h.tk, fun p h1 h2 => h.rs p (by omega) h2, by rw [e]; omega⟩
theorem TJ.start {l : List Fl} {k : Nat} (hk : k < l.length) (h : ∀ f ∈ l.take k, 0 < F.left f) (o : ¬ 0 < F.left (l.getD k default)) : TJ l (k + 1) l ∧ (opn (l.take (k + 1))).length = k ∧ ovr (l.take (k + 1)) = [l.getD k default] := by
  obtain ⟨a1, a2⟩ := opn_all h
  have e : opn (l.take (k + 1)) = l.take k := by rw [opn_snoc hk, if_neg o, List.append_nil, a1]
  have e2 : ovr (l.take (k + 1)) = [l.getD k default] := by rw [ovr_snoc hk, if_neg o, a2]; rfl
  have n : (l.take k).length = k := by rw [List.length_take]; omega
  exact ⟨⟨hk, rfl, by rw [e, n], fun p _ _ => rfl, by rw [e, n]; omega⟩, by rw [e, n], e2⟩
def tyW (w : Wd) : Wd := if wE w = 0 then ⟨w.td, opn w.fs, w.bk⟩ else zw
def tyO (w : Wd) : List Fl := if wE w = 0 then ovr w.fs else []
theorem ty_yes {w : Wd} (h : wE w = 0) : tyW w = ⟨w.td, opn w.fs, w.bk⟩ ∧ tyO w = ovr w.fs := ⟨if_pos h, if_pos h⟩
theorem ty_no {w : Wd} (h : ¬ wE w = 0) : tyW w = zw ∧ tyO w = [] := ⟨if_neg h, if_neg h⟩
theorem ovr_len (l : List Fl) : (ovr l).length ≤ l.length := List.length_filter_le _ _
structure St where
  out : List Fl
  bk : List Po
  ps : List Po
  e : Int
noncomputable def one (c : Cl) (t : List Tm) (x : Int) (pr : List Int) (td : Int) (s : St) (f : Fl) : St :=
  if s.e ≠ 0 then s
  else if Ag.stg c (Pn.cl t f) f td ≠ 4 then ⟨s.out ++ [f], s.bk, s.ps, 0⟩
  else if Cp.pE f (P.pr pr f.pa) x ≠ 0 then ⟨s.out, s.bk, s.ps, Cp.pE f (P.pr pr f.pa) x⟩
  else if (Cp.pL f (P.pr pr f.pa) x).length = 0 then ⟨s.out ++ [Cp.pF f (P.pr pr f.pa) x], s.bk, s.ps, 0⟩
  else if Bk.pE s.bk (Cp.pL f (P.pr pr f.pa) x) ≠ 0 then ⟨s.out, s.bk, s.ps, Bk.pE s.bk (Cp.pL f (P.pr pr f.pa) x)⟩
  else ⟨s.out ++ [Cp.pF f (P.pr pr f.pa) x], Bk.pL s.bk (Cp.pL f (P.pr pr f.pa) x), s.ps ++ Cp.pL f (P.pr pr f.pa) x, 0⟩
section
variable {c : Cl} {t : List Tm} {x : Int} {pr : List Int} {td : Int} {s : St} {f : Fl}
theorem one_0 (h : ¬ s.e = 0) : one c t x pr td s f = s := if_pos h
theorem one_1 (h : s.e = 0) (k : ¬ Ag.stg c (Pn.cl t f) f td = 4) : one c t x pr td s f = ⟨s.out ++ [f], s.bk, s.ps, 0⟩ := (if_neg (by omega)).trans (if_pos k)
theorem one_2 (h : s.e = 0) (k : Ag.stg c (Pn.cl t f) f td = 4) (p : ¬ Cp.pE f (P.pr pr f.pa) x = 0) : one c t x pr td s f = ⟨s.out, s.bk, s.ps, Cp.pE f (P.pr pr f.pa) x⟩ := (if_neg (by omega)).trans ((if_neg (by omega)).trans (if_pos p))
theorem one_3 (h : s.e = 0) (k : Ag.stg c (Pn.cl t f) f td = 4) (p : Cp.pE f (P.pr pr f.pa) x = 0) (z : (Cp.pL f (P.pr pr f.pa) x).length = 0) : one c t x pr td s f = ⟨s.out ++ [Cp.pF f (P.pr pr f.pa) x], s.bk, s.ps, 0⟩ := (if_neg (by omega)).trans ((if_neg (by omega)).trans ((if_neg (by omega)).trans (if_pos z)))
theorem one_4 (h : s.e = 0) (k : Ag.stg c (Pn.cl t f) f td = 4) (p : Cp.pE f (P.pr pr f.pa) x = 0) (z : ¬ (Cp.pL f (P.pr pr f.pa) x).length = 0) (b : ¬ Bk.pE s.bk (Cp.pL f (P.pr pr f.pa) x) = 0) : one c t x pr td s f = ⟨s.out, s.bk, s.ps, Bk.pE s.bk (Cp.pL f (P.pr pr f.pa) x)⟩ := (if_neg (by omega)).trans ((if_neg (by omega)).trans ((if_neg (by omega)).trans ((if_neg z).trans (if_pos b))))
theorem one_5 (h : s.e = 0) (k : Ag.stg c (Pn.cl t f) f td = 4) (p : Cp.pE f (P.pr pr f.pa) x = 0) (z : ¬ (Cp.pL f (P.pr pr f.pa) x).length = 0) (b : Bk.pE s.bk (Cp.pL f (P.pr pr f.pa) x) = 0) : one c t x pr td s f = ⟨s.out ++ [Cp.pF f (P.pr pr f.pa) x], Bk.pL s.bk (Cp.pL f (P.pr pr f.pa) x), s.ps ++ Cp.pL f (P.pr pr f.pa) x, 0⟩ := (if_neg (by omega)).trans ((if_neg (by omega)).trans ((if_neg (by omega)).trans ((if_neg z).trans (if_neg (by omega)))))
end
noncomputable def run (c : Cl) (t : List Tm) (x : Int) (pr : List Int) (td : Int) (s : St) (l : List Fl) : St := l.foldl (one c t x pr td) s
theorem run_snoc {c : Cl} {t : List Tm} {x : Int} {pr : List Int} {td : Int} {s : St} {l : List Fl} {k : Nat} (h : k < l.length) : run c t x pr td s (l.take (k + 1)) = one c t x pr td (run c t x pr td s (l.take k)) (l.getD k default) := by
  unfold run
  rw [List.take_succ_eq_append_getElem h, List.foldl_append, ← getD_at h]
  rfl
theorem run_e {c : Cl} {t : List Tm} {x : Int} {pr : List Int} {td : Int} : ∀ {l : List Fl} {s : St}, ¬ s.e = 0 → run c t x pr td s l = s
  | [], _, _ => rfl
  | f :: r, s, h => by
    show run c t x pr td (one c t x pr td s f) r = s
    rw [one_0 h]
    exact run_e h
theorem run_split (c : Cl) (t : List Tm) (x : Int) (pr : List Int) (td : Int) (s : St) (l : List Fl) (k : Nat) : run c t x pr td s l = run c t x pr td (run c t x pr td s (l.take k)) (l.drop k) := by
  unfold run
  rw [← List.foldl_append, List.take_append_drop]
theorem pL_len (f : Fl) (p x : Int) : (Cp.pL f p x).length ≤ 2 := by
  unfold Cp.pL
  split
  · simp
  · exact Nat.le_refl _
theorem one_out {c : Cl} {t : List Tm} {x : Int} {pr : List Int} {td : Int} {s : St} {f : Fl} (h : (one c t x pr td s f).e = 0) : s.e = 0 ∧ (one c t x pr td s f).out.length = s.out.length + 1 := by
  unfold one at *
  (repeat' split at h) <;> simp_all
theorem run_out {c : Cl} {t : List Tm} {x : Int} {pr : List Int} {td : Int} : ∀ {l : List Fl} {s : St}, (run c t x pr td s l).e = 0 → s.e = 0 ∧ (run c t x pr td s l).out.length = s.out.length + l.length
  | [], s, h => ⟨h, rfl⟩
  | f :: r, s, h => by
    have e : run c t x pr td s (f :: r) = run c t x pr td (one c t x pr td s f) r := rfl
    rw [e] at h ⊢
    obtain ⟨a, b⟩ := run_out h
    obtain ⟨a', b'⟩ := one_out a
    exact ⟨a', by rw [b, b', List.length_cons]; omega⟩
noncomputable def nB (c : Cl) (t : List Tm) (x : Int) (w : Wd) (pr : List Int) : Int :=
  if rE c t x ≠ 0 then rE c t x else if wE w ≠ 0 then wE w else if P.chks pr ≠ 0 then P.chks pr else if Ca.op c w.td = 1 then Pn.yD c t w.fs pr w.td else 4
noncomputable def du (c : Cl) (t : List Tm) (w : Wd) (pr : List Int) : List Du := Pn.yL c t w.fs pr w.td
def psE (w : Wd) (d : List Du) : Int := if Pn.suE d ≠ 0 ∧ Pn.suE d ≠ 5 then Pn.suE d else if (Pn.suL d).length = 0 then 0 else Bk.pE w.bk (Pn.suL d)
def psB (w : Wd) (d : List Du) : List Po := if (Pn.suL d).length = 0 then w.bk else Bk.pL w.bk (Pn.suL d)
noncomputable def s0 (c : Cl) (t : List Tm) (x : Int) (w : Wd) (pr : List Int) : St :=
  if nB c t x w pr ≠ 0 then ⟨[], [], [], nB c t x w pr⟩ else if psE w (du c t w pr) ≠ 0 then ⟨[], [], [], psE w (du c t w pr)⟩ else ⟨[], psB w (du c t w pr), Pn.suL (du c t w pr), 0⟩
noncomputable def s1 (c : Cl) (t : List Tm) (x : Int) (w : Wd) (pr : List Int) : St := run c t x pr w.td (s0 c t x w pr) w.fs
noncomputable def nE (c : Cl) (t : List Tm) (x : Int) (w : Wd) (pr : List Int) : Int := if (s1 c t x w pr).e ≠ 0 then (s1 c t x w pr).e else Ca.sE c w.td 1
noncomputable def nW (c : Cl) (t : List Tm) (x : Int) (w : Wd) (pr : List Int) : Wd := open Classical in if nE c t x w pr = 0 then ⟨Ca.sV c w.td 1, (s1 c t x w pr).out, (s1 c t x w pr).bk⟩ else zw
noncomputable def nP (c : Cl) (t : List Tm) (x : Int) (w : Wd) (pr : List Int) : List Po := open Classical in if nE c t x w pr = 0 then (s1 c t x w pr).ps else []
section
variable {c : Cl} {t : List Tm} {x : Int} {w : Wd} {pr : List Int}
theorem nB_1 (h : ¬ rE c t x = 0) : nB c t x w pr = rE c t x := if_pos h
theorem nB_2 (h : rE c t x = 0) (k : ¬ wE w = 0) : nB c t x w pr = wE w := (if_neg (by omega)).trans (if_pos k)
theorem nB_3 (h : rE c t x = 0) (k : wE w = 0) (p : ¬ P.chks pr = 0) : nB c t x w pr = P.chks pr := (if_neg (by omega)).trans ((if_neg (by omega)).trans (if_pos p))
theorem nB_4 (h : rE c t x = 0) (k : wE w = 0) (p : P.chks pr = 0) (o : ¬ Ca.op c w.td = 1) : nB c t x w pr = 4 := (if_neg (by omega)).trans ((if_neg (by omega)).trans ((if_neg (by omega)).trans (if_neg o)))
theorem nB_5 (h : rE c t x = 0) (k : wE w = 0) (p : P.chks pr = 0) (o : Ca.op c w.td = 1) : nB c t x w pr = Pn.yD c t w.fs pr w.td := (if_neg (by omega)).trans ((if_neg (by omega)).trans ((if_neg (by omega)).trans (if_pos o)))
theorem nB_ok (h : nB c t x w pr = 0) : rE c t x = 0 ∧ wE w = 0 ∧ P.chks pr = 0 ∧ Ca.op c w.td = 1 ∧ Pn.yD c t w.fs pr w.td = 0 := by
  by_cases a : rE c t x = 0
  · by_cases b : wE w = 0
    · by_cases p : P.chks pr = 0
      · by_cases o : Ca.op c w.td = 1
        · rw [nB_5 a b p o] at h; exact ⟨a, b, p, o, h⟩
        · rw [nB_4 a b p o] at h; cases h
      · rw [nB_3 a b p] at h; exact absurd h p
    · rw [nB_2 a b] at h; exact absurd h b
  · rw [nB_1 a] at h; exact absurd h a
theorem s0_1 (h : ¬ nB c t x w pr = 0) : s0 c t x w pr = ⟨[], [], [], nB c t x w pr⟩ := if_pos h
theorem s0_2 (h : nB c t x w pr = 0) (k : ¬ psE w (du c t w pr) = 0) : s0 c t x w pr = ⟨[], [], [], psE w (du c t w pr)⟩ := (if_neg (by omega)).trans (if_pos k)
theorem s0_3 (h : nB c t x w pr = 0) (k : psE w (du c t w pr) = 0) : s0 c t x w pr = ⟨[], psB w (du c t w pr), Pn.suL (du c t w pr), 0⟩ := (if_neg (by omega)).trans (if_neg (by omega))
theorem s0_ok (h : (s0 c t x w pr).e = 0) : nB c t x w pr = 0 ∧ psE w (du c t w pr) = 0 ∧ s0 c t x w pr = ⟨[], psB w (du c t w pr), Pn.suL (du c t w pr), 0⟩ := by
  by_cases a : nB c t x w pr = 0
  · by_cases b : psE w (du c t w pr) = 0
    · exact ⟨a, b, s0_3 a b⟩
    · rw [s0_2 a b] at h; exact absurd h b
  · rw [s0_1 a] at h; exact absurd h a
theorem n_bad (h : ¬ (s0 c t x w pr).e = 0) : nE c t x w pr = (s0 c t x w pr).e ∧ nW c t x w pr = zw ∧ nP c t x w pr = [] := by
  have e : s1 c t x w pr = s0 c t x w pr := run_e h
  have e2 : nE c t x w pr = (s0 c t x w pr).e := by unfold nE; rw [e, if_pos h]
  exact ⟨e2, if_neg (by rw [e2]; exact h), if_neg (by rw [e2]; exact h)⟩
theorem n_err (h : ¬ (s1 c t x w pr).e = 0) : nE c t x w pr = (s1 c t x w pr).e ∧ nW c t x w pr = zw ∧ nP c t x w pr = [] := by
  have e2 : nE c t x w pr = (s1 c t x w pr).e := if_pos h
  exact ⟨e2, if_neg (by rw [e2]; exact h), if_neg (by rw [e2]; exact h)⟩
theorem n_end (h : (s1 c t x w pr).e = 0) (k : ¬ Ca.sE c w.td 1 = 0) : nE c t x w pr = Ca.sE c w.td 1 ∧ nW c t x w pr = zw ∧ nP c t x w pr = [] := by
  have e2 : nE c t x w pr = Ca.sE c w.td 1 := if_neg (by omega)
  exact ⟨e2, if_neg (by rw [e2]; exact k), if_neg (by rw [e2]; exact k)⟩
theorem n_yes (h : (s1 c t x w pr).e = 0) (k : Ca.sE c w.td 1 = 0) : nE c t x w pr = 0 ∧ nW c t x w pr = ⟨Ca.sV c w.td 1, (s1 c t x w pr).out, (s1 c t x w pr).bk⟩ ∧ nP c t x w pr = (s1 c t x w pr).ps := by
  have e2 : nE c t x w pr = 0 := (if_neg (by omega)).trans k
  exact ⟨e2, if_pos e2, if_pos e2⟩
end
structure NJ (c : Cl) (t : List Tm) (x : Int) (pr : List Int) (td : Int) (s : St) (fs : List Fl) (k : Nat) (X : List Fl) (b p : List Po) (e : Int) : Prop where
  le : k ≤ fs.length
  xl : X.length = fs.length
  er : (run c t x pr td s (fs.take k)).e = e
  ok : e = 0 → run c t x pr td s (fs.take k) = ⟨X.take k, b, p, 0⟩ ∧ ∀ q, k ≤ q → q < fs.length → X.getD q default = fs.getD q default
  bl : b.length ≤ 2121
  pl : p.length ≤ s.ps.length + 2 * k
section
variable {c : Cl} {t : List Tm} {x : Int} {pr : List Int} {td : Int} {s : St} {fs X : List Fl} {k : Nat} {b p : List Po} {e : Int}
theorem NJ.start (hb : s.bk.length ≤ 2121) (ho : s.out = []) (he : s.e = 0) : NJ c t x pr td s fs 0 fs s.bk s.ps 0 :=
  ⟨Nat.zero_le _, rfl, he, fun _ => ⟨by cases s; simp_all [run], fun _ _ _ => rfl⟩, hb, by omega⟩
theorem NJ.skip (h : NJ c t x pr td s fs k X b p e) (hk : k < fs.length) (he : ¬ e = 0) : NJ c t x pr td s fs (k + 1) X b p e :=
  ⟨hk, h.xl, by rw [run_snoc hk, one_0 (by rw [h.er]; exact he)]; exact h.er, fun z => absurd z he, h.bl, by have := h.pl; omega⟩
theorem take_on (xl : X.length = fs.length) (hk : k < fs.length) : X.take (k + 1) = X.take k ++ [X.getD k default] := by
  rw [List.take_succ_eq_append_getElem (by omega), getD_at (by omega)]
theorem NJ.s1 (h : NJ c t x pr td s fs k X b p 0) (hk : k < fs.length) (g : ¬ Ag.stg c (Pn.cl t (X.getD k default)) (X.getD k default) td = 4) : NJ c t x pr td s fs (k + 1) X b p 0 := by
  obtain ⟨o1, o2⟩ := h.ok rfl
  have ex := o2 k (Nat.le_refl _) hk
  have e1 : run c t x pr td s (fs.take (k + 1)) = ⟨X.take (k + 1), b, p, 0⟩ := by
    rw [run_snoc hk, o1, ← ex, one_1 rfl g, take_on h.xl hk]
  exact ⟨hk, h.xl, by rw [e1], fun _ => ⟨e1, fun q h1 h2 => o2 q (by omega) h2⟩, h.bl, by have := h.pl; omega⟩
theorem NJ.s2 (h : NJ c t x pr td s fs k X b p 0) (hk : k < fs.length) (g : Ag.stg c (Pn.cl t (X.getD k default)) (X.getD k default) td = 4) (q : ¬ Cp.pE (X.getD k default) (P.pr pr (X.getD k default).pa) x = 0) :
    NJ c t x pr td s fs (k + 1) X b p (Cp.pE (X.getD k default) (P.pr pr (X.getD k default).pa) x) := by
  obtain ⟨o1, o2⟩ := h.ok rfl
  have ex := o2 k (Nat.le_refl _) hk
  exact ⟨hk, h.xl, by rw [run_snoc hk, o1, ← ex, one_2 rfl g q], fun z => absurd z q, h.bl, by have := h.pl; omega⟩
theorem set_on (xl : X.length = fs.length) (hk : k < fs.length) (f : Fl) : (X.set k f).take (k + 1) = X.take k ++ [f] := by
  rw [List.take_succ_eq_append_getElem (by rw [List.length_set]; omega), List.take_set_of_le (Nat.le_refl _)]
  simp
theorem set_rest (xl : X.length = fs.length) (o2 : ∀ q, k ≤ q → q < fs.length → X.getD q default = fs.getD q default) (f : Fl) : ∀ q, k + 1 ≤ q → q < fs.length → (X.set k f).getD q default = fs.getD q default := fun q h1 h2 => by
  rw [← o2 q (by omega) h2, getD_at (l := X.set k f) (by rw [List.length_set]; omega), List.getElem_set_ne (by omega)]
  exact (getD_at (by omega)).symm
theorem NJ.s3 (h : NJ c t x pr td s fs k X b p 0) (hk : k < fs.length) (g : Ag.stg c (Pn.cl t (X.getD k default)) (X.getD k default) td = 4) (q : Cp.pE (X.getD k default) (P.pr pr (X.getD k default).pa) x = 0)
    (z : (Cp.pL (X.getD k default) (P.pr pr (X.getD k default).pa) x).length = 0) : NJ c t x pr td s fs (k + 1) (X.set k (Cp.pF (X.getD k default) (P.pr pr (X.getD k default).pa) x)) b p 0 := by
  obtain ⟨o1, o2⟩ := h.ok rfl
  have ex := o2 k (Nat.le_refl _) hk
  have e1 : run c t x pr td s (fs.take (k + 1)) = ⟨(X.set k (Cp.pF (X.getD k default) (P.pr pr (X.getD k default).pa) x)).take (k + 1), b, p, 0⟩ := by
    rw [run_snoc hk, o1, ← ex, one_3 rfl g q z, set_on h.xl hk]
  exact ⟨hk, by rw [List.length_set]; exact h.xl, by rw [e1], fun _ => ⟨e1, set_rest h.xl o2 _⟩, h.bl, by have := h.pl; omega⟩
theorem NJ.s4 (h : NJ c t x pr td s fs k X b p 0) (hk : k < fs.length) (g : Ag.stg c (Pn.cl t (X.getD k default)) (X.getD k default) td = 4) (q : Cp.pE (X.getD k default) (P.pr pr (X.getD k default).pa) x = 0)
    (z : ¬ (Cp.pL (X.getD k default) (P.pr pr (X.getD k default).pa) x).length = 0) (y : ¬ Bk.pE b (Cp.pL (X.getD k default) (P.pr pr (X.getD k default).pa) x) = 0) :
    NJ c t x pr td s fs (k + 1) (X.set k (Cp.pF (X.getD k default) (P.pr pr (X.getD k default).pa) x)) b p (Bk.pE b (Cp.pL (X.getD k default) (P.pr pr (X.getD k default).pa) x)) := by
  obtain ⟨o1, o2⟩ := h.ok rfl
  have ex := o2 k (Nat.le_refl _) hk
  exact ⟨hk, by rw [List.length_set]; exact h.xl, by rw [run_snoc hk, o1, ← ex, one_4 rfl g q z y], fun w => absurd w y, h.bl, by have := h.pl; omega⟩
theorem NJ.s5 (h : NJ c t x pr td s fs k X b p 0) (hk : k < fs.length) (g : Ag.stg c (Pn.cl t (X.getD k default)) (X.getD k default) td = 4) (q : Cp.pE (X.getD k default) (P.pr pr (X.getD k default).pa) x = 0)
    (z : ¬ (Cp.pL (X.getD k default) (P.pr pr (X.getD k default).pa) x).length = 0) (y : Bk.pE b (Cp.pL (X.getD k default) (P.pr pr (X.getD k default).pa) x) = 0) :
    NJ c t x pr td s fs (k + 1) (X.set k (Cp.pF (X.getD k default) (P.pr pr (X.getD k default).pa) x)) (Bk.pL b (Cp.pL (X.getD k default) (P.pr pr (X.getD k default).pa) x)) (p ++ Cp.pL (X.getD k default) (P.pr pr (X.getD k default).pa) x) 0 := by
  obtain ⟨o1, o2⟩ := h.ok rfl
  have ex := o2 k (Nat.le_refl _) hk
  have e1 : run c t x pr td s (fs.take (k + 1)) = ⟨(X.set k (Cp.pF (X.getD k default) (P.pr pr (X.getD k default).pa) x)).take (k + 1), Bk.pL b (Cp.pL (X.getD k default) (P.pr pr (X.getD k default).pa) x), p ++ Cp.pL (X.getD k default) (P.pr pr (X.getD k default).pa) x, 0⟩ := by
    rw [run_snoc hk, o1, ← ex, one_5 rfl g q z y, set_on h.xl hk]
  have l2 := pL_len (X.getD k default) (P.pr pr (X.getD k default).pa) x
  exact ⟨hk, by rw [List.length_set]; exact h.xl, by rw [e1], fun _ => ⟨e1, set_rest h.xl o2 _⟩, by have := (Bk.po_lines (Bk.pE_0.1 y)).le; omega, by have := h.pl; rw [List.length_append]; omega⟩
theorem NJ.fin (h : NJ c t x pr td s fs fs.length X b p e) : (run c t x pr td s fs).e = e ∧ (e = 0 → run c t x pr td s fs = ⟨X, b, p, 0⟩) := by
  have e1 := h.er
  have e2 := h.ok
  rw [List.take_length] at e1 e2
  refine ⟨e1, fun z => ?_⟩
  rw [(e2 z).1, ← h.xl, List.take_length]
end
theorem night_ok {c : Cl} {t : List Tm} {x : Int} {w : Wd} {pr : List Int} (h : (s0 c t x w pr).e = 0) :
    Ca.isV c w.td = true ∧ ((Pn.suL (du c t w pr)).length = 0 → Pn.suE (du c t w pr) = 5 ∨ Pn.suE (du c t w pr) = 0) ∧ (¬ (Pn.suL (du c t w pr)).length = 0 → Pn.suE (du c t w pr) = 0 ∧ Bk.pE w.bk (Pn.suL (du c t w pr)) = 0) ∧ (s0 c t x w pr).bk.length ≤ 2121 ∧ (s0 c t x w pr).out = [] ∧ (s0 c t x w pr).bk = psB w (du c t w pr) ∧ (s0 c t x w pr).ps = Pn.suL (du c t w pr) := by
  obtain ⟨b0, p0, e0⟩ := s0_ok h
  obtain ⟨r0, w0, k0, o0, y0⟩ := nB_ok b0
  obtain ⟨d0, f0, l0⟩ := wE_ok w0
  have hd : Ca.Day w.td := by have z := Ca.dchk w.td; unfold Ca.Day at *; omega
  have i0 : Ca.isV c w.td = true := by rw [Ca.isV_yes (rE_ok r0).1 hd]; exact decide_eq_true o0
  have s5 : Pn.suE (du c t w pr) = 0 ∨ Pn.suE (du c t w pr) = 5 := by
    apply Classical.byContradiction
    intro z
    have : psE w (du c t w pr) = Pn.suE (du c t w pr) := if_pos ⟨fun q => z (.inl q), fun q => z (.inr q)⟩
    omega
  have n4 := (wE_len w0).2
  refine ⟨i0, fun _ => s5.symm, fun q => ?_, ?_, by rw [e0], by rw [e0], by rw [e0]⟩
  · have s0' : Pn.suE (du c t w pr) = 0 := by
      rcases s5 with z | z
      · exact z
      · exact absurd (show (Pn.suL (du c t w pr)).length = 0 by rw [show Pn.suL (du c t w pr) = [] from if_neg (by omega)]; rfl) q
    refine ⟨s0', ?_⟩
    have : psE w (du c t w pr) = Bk.pE w.bk (Pn.suL (du c t w pr)) := (if_neg (by omega)).trans (if_neg q)
    omega
  · rw [e0]
    show (psB w (du c t w pr)).length ≤ 2121
    unfold psB
    split
    · omega
    · unfold Bk.pL
      split
      · exact Bk.out_len _ _
      · exact Nat.zero_le _
end Cy
end Go.Proofs.YtpanlcnoopmchaaGreat

namespace Go.Proofs.YtpanlcnoopmchaaGreat
open Go Go.RowKit V
theorem v_cyRules (c : Cl) (t : List Tm) (x : Int) (hc : c.hs.length ≤ 9223372036854775807) (ht : t.length ≤ 9223372036854775807) : V.Fn Tryz.prog 14 [.arr 1 c.hs.length (ga e1 c.hs), .arr 4 t.length (ga encTm t)] [.agg [.val (.int .i64 c.we), .ref 0, .ref 1, .val (.int .i64 x)]] (.int .i64 (Cy.rE c t x)) := by
  refine V.Fn.mk_ V.Tok V.mixed Tryz.func14 rfl Tryz.ntmps14 (by kernel_rfl) rfl rfl ?_
  repeat' ((conv => whnf); first | refine V.NCond.mk ?_ | refine V.NPick.l ?_ | refine V.NIf.not_ ?_ | refine V.NIf.dec_ ?_ | refine V.a4 ?_ | refine V.a5 ?_ | refine V.NIf.mk (fun _ => ?_) (fun _ => ?_) | refine V.a7 ?_ | refine V.a8 ?_ | refine V.a9 ?_ | refine V.NBoth.mk ?_ ?_ | refine V.b1 ?_ | refine V.b2 ?_ | refine V.NTF.dec ?_ | refine V.b3 ?_ | refine V.b4 ?_ | ((first | refine V.Fn.k (v_caCheck c hc) [0] rfl ?_ ?_ | refine V.Fn.q (v_caCheck c hc) [0] rfl ?_ ?_ | refine V.Fn.a (v_caCheck c hc) [0] rfl ?_ ?_); · exact V.D_) | ((first | refine V.Fn.k (v_pterms t ht) [1] rfl ?_ ?_ | refine V.Fn.q (v_pterms t ht) [1] rfl ?_ ?_ | refine V.Fn.a (v_pterms t ht) [1] rfl ?_ ?_); · exact V.D_) | (refine V.NDraw.any (by kernel_rfl) ?_) | fail)
  all_goals (conv => whnf)
  all_goals first
    | exact V.fin1 (Cy.rE_3 (by assumption) (by assumption) (by omega))
    | exact V.fin1 ((Cy.rE_4 (by assumption) (by assumption) (by omega)).trans (Eq.symm (by assumption)))
    | exact V.fin1 (Cy.rE_4 (by assumption) (by assumption) (by omega))
    | exact V.fin1 (Cy.rE_2 (by assumption) (by assumption))
    | exact V.fin1 (Cy.rE_1 (by assumption))
    | trace_state
theorem v_rRules (c : Cl) (t : List Tm) (x : Int) (hc : c.hs.length ≤ 9223372036854775807) (ht : t.length ≤ 9223372036854775807) : V.Fn Tryz.prog 15 [.arr 1 c.hs.length (ga e1 c.hs), .arr 4 t.length (ga encTm t)] [.agg [.val (.int .i64 c.we), .ref 0, .ref 1, .val (.int .i64 x)]] (.int .i64 (Cy.rE c t x)) := by
  refine V.Fn.mk_ V.Tok V.mixed Tryz.func15 rfl Tryz.ntmps15 (by kernel_rfl) rfl rfl ?_
  repeat' ((conv => whnf); first | refine V.NCond.mk ?_ | refine V.NPick.l ?_ | refine V.NIf.not_ ?_ | refine V.NIf.dec_ ?_ | refine V.a4 ?_ | refine V.a5 ?_ | refine V.NIf.mk (fun _ => ?_) (fun _ => ?_) | refine V.a7 ?_ | refine V.a8 ?_ | refine V.a9 ?_ | refine V.NBoth.mk ?_ ?_ | refine V.b1 ?_ | refine V.b2 ?_ | refine V.NTF.dec ?_ | refine V.b3 ?_ | refine V.b4 ?_ | ((first | refine V.Fn.k (v_rcaCheck c hc) [0] rfl ?_ ?_ | refine V.Fn.q (v_rcaCheck c hc) [0] rfl ?_ ?_ | refine V.Fn.a (v_rcaCheck c hc) [0] rfl ?_ ?_); · exact V.D_) | ((first | refine V.Fn.k (v_rterms t ht) [1] rfl ?_ ?_ | refine V.Fn.q (v_rterms t ht) [1] rfl ?_ ?_ | refine V.Fn.a (v_rterms t ht) [1] rfl ?_ ?_); · exact V.D_) | (first | refine V.Fn.k0 (v_rbetween _ _ _) rfl ?_ | refine V.Fn.q0 (v_rbetween _ _ _) rfl ?_ | refine V.Fn.a0 (v_rbetween _ _ _) rfl ?_) | (refine V.NDraw.any (by kernel_rfl) ?_) | fail)
  all_goals (conv => whnf)
  all_goals first
    | exact V.fin1 (Cy.rE_3 (by assumption) (by assumption) (by omega))
    | exact V.fin1 ((Cy.rE_4 (by assumption) (by assumption) (by omega)).trans (Eq.symm (by assumption)))
    | exact V.fin1 (Cy.rE_4 (by assumption) (by assumption) (by omega))
    | exact V.fin1 (Cy.rE_2 (by assumption) (by assumption))
    | exact V.fin1 (Cy.rE_1 (by assumption))
    | trace_state
theorem v_cyCheck (w : Wd) (hb : w.bk.length ≤ 9223372036854775807) : V.Fn Tryz.prog 16 [.arr 10 w.fs.length (ga encF w.fs), .arr 3 w.bk.length (ga encP w.bk)] [.agg [.val (.int .i64 w.td), .ref 0, .ref 1]] (.int .i64 (Cy.wE w)) := by
  refine V.Fn.mk_ V.Tok V.mixed Tryz.func16 rfl Tryz.ntmps16 (by kernel_rfl) rfl rfl ?_
  repeat' ((conv => whnf); first | refine V.NCond.mk ?_ | refine V.NPick.l ?_ | refine V.NIf.not_ ?_ | refine V.NIf.dec_ ?_ | refine V.a4 ?_ | refine V.a5 ?_ | refine V.NIf.mk (fun _ => ?_) (fun _ => ?_) | refine V.a7 ?_ | refine V.a8 ?_ | refine V.a9 ?_ | refine V.NBoth.mk ?_ ?_ | refine V.b1 ?_ | refine V.b2 ?_ | refine V.NTF.dec ?_ | refine V.b3 ?_ | refine V.b4 ?_ | (first | refine V.Fn.k0 (v_dcheck _) rfl ?_ | refine V.Fn.q0 (v_dcheck _) rfl ?_ | refine V.Fn.a0 (v_dcheck _) rfl ?_) | ((first | refine V.Fn.k (v_fchecks w.fs) [0] rfl ?_ ?_ | refine V.Fn.q (v_fchecks w.fs) [0] rfl ?_ ?_ | refine V.Fn.a (v_fchecks w.fs) [0] rfl ?_ ?_); · exact V.D_) | ((first | refine V.Fn.k (v_bkLines w.bk hb) [1] rfl ?_ ?_ | refine V.Fn.q (v_bkLines w.bk hb) [1] rfl ?_ ?_ | refine V.Fn.a (v_bkLines w.bk hb) [1] rfl ?_ ?_); · exact V.D_) | (refine V.NDraw.any (by kernel_rfl) ?_) | fail)
  all_goals (conv => whnf)
  all_goals first
    | exact V.fin1 (Cy.wE_3 (by assumption) (by assumption))
    | exact V.fin1 (Cy.wE_2 (by assumption) (by assumption))
    | exact V.fin1 (Cy.wE_1 (by assumption))
    | trace_state
theorem v_rWcheck (w : Wd) (hb : w.bk.length ≤ 9223372036854775807) : V.Fn Tryz.prog 17 [.arr 10 w.fs.length (ga encF w.fs), .arr 3 w.bk.length (ga encP w.bk)] [.agg [.val (.int .i64 w.td), .ref 0, .ref 1]] (.int .i64 (Cy.wE w)) := by
  have d := Ca.dchk w.td
  unfold Ca.Day at d
  refine V.Fn.mk_ V.Tok V.mixed Tryz.func17 rfl Tryz.ntmps17 (by kernel_rfl) rfl rfl ?_
  repeat' ((conv => whnf); first | refine V.NCond.mk ?_ | refine V.NPick.l ?_ | refine V.NIf.not_ ?_ | refine V.NIf.dec_ ?_ | refine V.a4 ?_ | refine V.a5 ?_ | refine V.NIf.mk (fun _ => ?_) (fun _ => ?_) | refine V.a7 ?_ | refine V.a8 ?_ | refine V.a9 ?_ | refine V.NBoth.mk ?_ ?_ | refine V.b1 ?_ | refine V.b2 ?_ | refine V.NTF.dec ?_ | refine V.b3 ?_ | refine V.b4 ?_ | (first | refine V.Fn.k0 (v_rbetween _ _ _) rfl ?_ | refine V.Fn.q0 (v_rbetween _ _ _) rfl ?_ | refine V.Fn.a0 (v_rbetween _ _ _) rfl ?_) | ((first | refine V.Fn.k (v_rfchecks w.fs) [0] rfl ?_ ?_ | refine V.Fn.q (v_rfchecks w.fs) [0] rfl ?_ ?_ | refine V.Fn.a (v_rfchecks w.fs) [0] rfl ?_ ?_); · exact V.D_) | ((first | refine V.Fn.k (v_rLines w.bk hb) [1] rfl ?_ ?_ | refine V.Fn.q (v_rLines w.bk hb) [1] rfl ?_ ?_ | refine V.Fn.a (v_rLines w.bk hb) [1] rfl ?_ ?_); · exact V.D_) | (refine V.NDraw.any (by kernel_rfl) ?_) | fail)
  all_goals (conv => whnf)
  all_goals first
    | exact V.fin1 (Cy.wE_3 (by omega) (by assumption))
    | exact V.fin1 (Cy.wE_2 (by omega) (by assumption))
    | exact V.fin1 ((Cy.wE_1 (by omega)).trans (by omega))
    | trace_state
instance : DecidableEq Wd := fun a b => decidable_of_iff (a.td = b.td ∧ a.fs = b.fs ∧ a.bk = b.bk) ⟨fun h => Cy.wd_ext h.1 h.2.1 h.2.2, fun h => by subst h; simp⟩
theorem v_sameworld (a b : Wd) (h1 : a.fs.length ≤ 9223372036854775807) (h2 : a.bk.length ≤ 9223372036854775807) : V.Fn Tryz.prog 18 [.arr 10 a.fs.length (ga encF a.fs), .arr 3 a.bk.length (ga encP a.bk), .arr 10 b.fs.length (ga encF b.fs), .arr 3 b.bk.length (ga encP b.bk)] [.agg [.val (.int .i64 a.td), .ref 0, .ref 1], .agg [.val (.int .i64 b.td), .ref 2, .ref 3]] (.bool (decide (a = b))) := by
  have e : a = b ↔ (a.td = b.td ∧ a.fs = b.fs ∧ a.bk = b.bk) := ⟨fun h => by subst h; simp, fun h => Cy.wd_ext h.1 h.2.1 h.2.2⟩
  refine V.Fn.mk_ V.Tok V.mixed Tryz.func18 rfl Tryz.ntmps18 (by kernel_rfl) rfl rfl ?_
  repeat' ((conv => whnf); first | refine V.NCond.mk ?_ | refine V.NPick.l ?_ | refine V.NIf.not_ ?_ | refine V.NIf.dec_ ?_ | refine V.a4 ?_ | refine V.a5 ?_ | refine V.NIf.mk (fun _ => ?_) (fun _ => ?_) | refine V.a7 ?_ | refine V.a8 ?_ | refine V.a9 ?_ | refine V.NBoth.mk ?_ ?_ | refine V.b1 ?_ | refine V.b2 ?_ | refine V.NTF.dec ?_ | refine V.b3 ?_ | refine V.b4 ?_ | ((first | refine V.Fn.k (v_samefails a.fs b.fs h1) [0, 2] rfl ?_ ?_ | refine V.Fn.q (v_samefails a.fs b.fs h1) [0, 2] rfl ?_ ?_ | refine V.Fn.a (v_samefails a.fs b.fs h1) [0, 2] rfl ?_ ?_); · exact V.D_) | ((first | refine V.Fn.k (v_sameposts a.bk b.bk h2) [1, 3] rfl ?_ ?_ | refine V.Fn.q (v_sameposts a.bk b.bk h2) [1, 3] rfl ?_ ?_ | refine V.Fn.a (v_sameposts a.bk b.bk h2) [1, 3] rfl ?_ ?_); · exact V.D_) | (refine V.NDraw.any (by kernel_rfl) ?_) | fail)
  all_goals (conv => whnf)
  all_goals first
    | exact ⟨_, rfl, by rw [decide_eq_true_iff, decide_eq_true_iff, e]; exact ⟨fun z => ⟨by assumption, by assumption, z⟩, fun z => z.2.2⟩⟩
    | exact congrArg Value.bool (decide_eq_decide.2 ⟨fun z => e.2 ⟨by assumption, by assumption, z⟩, fun z => (e.1 z).2.2⟩)
    | exact congrArg Value.bool (decide_eq_false (fun z => absurd (e.1 z).1 (by assumption))).symm
    | exact congrArg Value.bool (decide_eq_false (fun z => absurd (e.1 z).2.1 (by assumption))).symm
    | trace_state
end Go.Proofs.YtpanlcnoopmchaaGreat

namespace Go.Proofs.YtpanlcnoopmchaaGreat
open Go Go.RowKit V
end Go.Proofs.YtpanlcnoopmchaaGreat

namespace Go.Proofs.YtpanlcnoopmchaaGreat
open Go Go.RowKit V
theorem v_cpCost (u p : Int) (hu : 0 ≤ u ∧ u ≤ 1073741824) : (P.Ok p → V.Fn Tryz.prog 158 [] [.one (.val (.int .i64 u)), .one (.val (.int .i64 p))] (.tuple #[.int .i64 (P.cost u p), .int .i64 (M.prR u p 10000), .int .i64 0])) ∧ (¬ P.Ok p → V.Fn Tryz.prog 158 [] [.one (.val (.int .i64 u)), .one (.val (.int .i64 p))] (.tuple #[.int .i64 0, .int .i64 0, .int .i64 3])) := by
  have c := v_cost u p
  refine ⟨fun h => ?_, fun h => ?_⟩
  · obtain ⟨e1, e2⟩ := P.part_cost hu h
    rwa [e1, e2] at c
  · obtain ⟨e1, e2, e3⟩ := M.pr_1 (a := u) (b := p) (c := 10000) (fun k => h (P.pok.1 k).2)
    rwa [e1, e2, e3] at c
theorem v_worth (u p x : Int) : V.Fn Tryz.prog 143 [] [.one (.val (.int .i64 u)), .one (.val (.int .i64 p)), .one (.val (.int .i64 x))] (.tuple #[.int .i64 (Cp.wV u p x), .int .i64 (Cp.wE u p x)]) := by
  by_cases h : Cp.Ok u p x
  · obtain ⟨w1, w2⟩ := Cp.w_yes h
    have vc := (v_cpCost u p h.1).1 h.2.1
    have c := P.cost_bd h.1 h.2.1
    obtain ⟨e3, e4⟩ := P.part_rate (n := P.cost u p) (r := x) (by omega) h.2.2
    have r := P.rate_bd c.1 h.2.2
    have vp := v_part (P.cost u p) x 10000
    rw [e3, e4] at vp
    rw [w1, w2]
    obtain ⟨⟨h1, h2⟩, _, h3, h4⟩ := h
    generalize P.cost u p * x / 10000 = q at *
    generalize P.cost u p = n at *
    refine V.Fn.mk_ V.Tok V.mixed Tryz.func143 rfl Tryz.ntmps143 (by kernel_rfl) rfl rfl ?_
    repeat' ((conv => whnf); first | refine V.NCond.mk ?_ | refine V.NPick.l ?_ | refine V.NIf.not_ ?_ | refine V.NIf.dec_ ?_ | refine V.a4 ?_ | refine V.a5 ?_ | refine V.NIf.mk (fun _ => ?_) (fun _ => ?_) | refine V.a7 ?_ | refine V.a8 ?_ | refine V.a9 ?_ | refine V.NBoth.mk ?_ ?_ | refine V.b1 ?_ | refine V.b2 ?_ | refine V.NTF.dec ?_ | refine V.b3 ?_ | refine V.b4 ?_ | (first | refine V.Fn.k0 (vc) rfl ?_ | refine V.Fn.q0 (vc) rfl ?_ | refine V.Fn.a0 (vc) rfl ?_) | (first | refine V.Fn.k0 (vp) rfl ?_ | refine V.Fn.q0 (vp) rfl ?_ | refine V.Fn.a0 (vp) rfl ?_) | (refine V.NDraw.any (by kernel_rfl) ?_) | fail)
    all_goals (conv => whnf)
    exact V.fin2 ⟨rfl, rfl⟩
  · obtain ⟨w1, w2⟩ := Cp.w_no h
    rw [w1, w2]
    by_cases hu : 0 ≤ u ∧ u ≤ 1073741824
    · by_cases hp : P.Ok p
      · have hx : ¬ (0 ≤ x ∧ x ≤ 10000) := fun z => h ⟨hu, hp, z⟩
        refine V.Fn.mk_ V.Tok V.mixed Tryz.func143 rfl Tryz.ntmps143 (by kernel_rfl) rfl rfl ?_
        repeat' ((conv => whnf); first | refine V.NCond.mk ?_ | refine V.NPick.l ?_ | refine V.NIf.not_ ?_ | refine V.NIf.dec_ ?_ | refine V.a4 ?_ | refine V.a5 ?_ | refine V.NIf.mk (fun _ => ?_) (fun _ => ?_) | refine V.a7 ?_ | refine V.a8 ?_ | refine V.a9 ?_ | refine V.NBoth.mk ?_ ?_ | refine V.b1 ?_ | refine V.b2 ?_ | refine V.NTF.dec ?_ | refine V.b3 ?_ | refine V.b4 ?_ | (refine V.NDraw.any (by kernel_rfl) ?_) | fail)
        all_goals (conv => whnf)
        all_goals exact V.fin2 ⟨rfl, rfl⟩
      · have vc := (v_cpCost u p hu).2 hp
        refine V.Fn.mk_ V.Tok V.mixed Tryz.func143 rfl Tryz.ntmps143 (by kernel_rfl) rfl rfl ?_
        repeat' ((conv => whnf); first | (refine V.NIf.yes ?_ ?_; · (decide; done)) | (refine V.NIf.no ?_ ?_; · (decide; done)) | refine V.NCond.mk ?_ | refine V.NPick.l ?_ | refine V.NIf.not_ ?_ | refine V.NIf.dec_ ?_ | refine V.a4 ?_ | refine V.a5 ?_ | refine V.NIf.mk (fun _ => ?_) (fun _ => ?_) | refine V.a7 ?_ | refine V.a8 ?_ | refine V.a9 ?_ | refine V.NBoth.mk ?_ ?_ | refine V.b1 ?_ | refine V.b2 ?_ | refine V.NTF.dec ?_ | refine V.b3 ?_ | refine V.b4 ?_ | (first | refine V.Fn.k0 (vc) rfl ?_ | refine V.Fn.q0 (vc) rfl ?_ | refine V.Fn.a0 (vc) rfl ?_) | (refine V.NDraw.any (by kernel_rfl) ?_) | fail)
        all_goals (conv => whnf)
        all_goals exact V.fin2 ⟨rfl, rfl⟩
    · refine V.Fn.mk_ V.Tok V.mixed Tryz.func143 rfl Tryz.ntmps143 (by kernel_rfl) rfl rfl ?_
      repeat' ((conv => whnf); first | refine V.NCond.mk ?_ | refine V.NPick.l ?_ | refine V.NIf.not_ ?_ | refine V.NIf.dec_ ?_ | refine V.a4 ?_ | refine V.a5 ?_ | refine V.NIf.mk (fun _ => ?_) (fun _ => ?_) | refine V.a7 ?_ | refine V.a8 ?_ | refine V.a9 ?_ | refine V.NBoth.mk ?_ ?_ | refine V.b1 ?_ | refine V.b2 ?_ | refine V.NTF.dec ?_ | refine V.b3 ?_ | refine V.b4 ?_ | (refine V.NDraw.any (by kernel_rfl) ?_) | fail)
      all_goals (conv => whnf)
      all_goals exact V.fin2 ⟨rfl, rfl⟩
theorem v_rWorth (u p x : Int) : V.Fn Tryz.prog 113 [] [.one (.val (.int .i64 u)), .one (.val (.int .i64 p)), .one (.val (.int .i64 x))] (.tuple #[.int .i64 (Cp.wV u p x), .int .i64 (Cp.wE u p x)]) := by
  have cp := v_rpcheck p
  by_cases h : Cp.Ok u p x
  · obtain ⟨w1, w2⟩ := Cp.w_yes h
    have c := P.cost_bd h.1 h.2.1
    have r := P.rate_bd c.1 h.2.2
    have hu := h.1
    have hx := h.2.2
    have vc := v_partOf u p 10000 (by omega) h.2.1 (by omega)
    have e1 : M.poQ u p 10000 = P.cost u p := if_neg (by unfold P.cost at c; omega)
    rw [e1] at vc
    have vp := v_partOf (P.cost u p) x 10000 (by omega) (by omega) (by omega)
    have e2 : M.poQ (P.cost u p) x 10000 = P.cost u p * x / 10000 := if_neg (by omega)
    rw [e2] at vp
    rw [w1, w2]
    rw [P.chk_yes h.2.1] at cp
    obtain ⟨⟨h1, h2⟩, _, h3, h4⟩ := h
    clear e1 e2
    generalize P.cost u p * x / 10000 = q at *
    generalize P.cost u p = n at *
    refine V.Fn.mk_ V.Tok V.mixed Tryz.func113 rfl Tryz.ntmps113 (by kernel_rfl) rfl rfl ?_
    repeat' ((conv => whnf); first | (refine V.NIf.yes ?_ ?_; · (decide; done)) | (refine V.NIf.no ?_ ?_; · (decide; done)) | refine V.NCond.mk ?_ | refine V.NPick.l ?_ | refine V.NIf.not_ ?_ | refine V.NIf.dec_ ?_ | refine V.a4 ?_ | refine V.a5 ?_ | refine V.NIf.mk (fun _ => ?_) (fun _ => ?_) | refine V.a7 ?_ | refine V.a8 ?_ | refine V.a9 ?_ | refine V.NBoth.mk ?_ ?_ | refine V.b1 ?_ | refine V.b2 ?_ | refine V.NTF.dec ?_ | refine V.b3 ?_ | refine V.b4 ?_ | (first | refine V.Fn.k0 (v_rbetween _ _ _) rfl ?_ | refine V.Fn.q0 (v_rbetween _ _ _) rfl ?_ | refine V.Fn.a0 (v_rbetween _ _ _) rfl ?_) | (first | refine V.Fn.k0 (cp) rfl ?_ | refine V.Fn.q0 (cp) rfl ?_ | refine V.Fn.a0 (cp) rfl ?_) | (first | refine V.Fn.k0 (vc) rfl ?_ | refine V.Fn.q0 (vc) rfl ?_ | refine V.Fn.a0 (vc) rfl ?_) | (first | refine V.Fn.k0 (vp) rfl ?_ | refine V.Fn.q0 (vp) rfl ?_ | refine V.Fn.a0 (vp) rfl ?_) | (refine V.NDraw.any (by kernel_rfl) ?_) | fail)
    all_goals (conv => whnf)
    exact V.fin2 ⟨rfl, rfl⟩
  · obtain ⟨w1, w2⟩ := Cp.w_no h
    rw [w1, w2]
    by_cases hp : P.Ok p
    · have hx : ¬ ((0 ≤ u ∧ u ≤ 1073741824) ∧ (0 ≤ x ∧ x ≤ 10000)) := fun z => h ⟨z.1, hp, z.2⟩
      rw [P.chk_yes hp] at cp
      clear h hp
      refine V.Fn.mk_ V.Tok V.mixed Tryz.func113 rfl Tryz.ntmps113 (by kernel_rfl) rfl rfl ?_
      repeat' ((conv => whnf); first | (refine V.NIf.yes ?_ ?_; · (decide; done)) | (refine V.NIf.no ?_ ?_; · (decide; done)) | refine V.NCond.mk ?_ | refine V.NPick.l ?_ | refine V.NIf.not_ ?_ | refine V.NIf.dec_ ?_ | refine V.a4 ?_ | refine V.a5 ?_ | refine V.NIf.mk (fun _ => ?_) (fun _ => ?_) | refine V.a7 ?_ | refine V.a8 ?_ | refine V.a9 ?_ | refine V.NBoth.mk ?_ ?_ | refine V.b1 ?_ | refine V.b2 ?_ | refine V.NTF.dec ?_ | refine V.b3 ?_ | refine V.b4 ?_ | (first | refine V.Fn.k0 (v_rbetween _ _ _) rfl ?_ | refine V.Fn.q0 (v_rbetween _ _ _) rfl ?_ | refine V.Fn.a0 (v_rbetween _ _ _) rfl ?_) | (first | refine V.Fn.k0 (cp) rfl ?_ | refine V.Fn.q0 (cp) rfl ?_ | refine V.Fn.a0 (cp) rfl ?_) | (refine V.NDraw.any (by kernel_rfl) ?_) | fail)
      all_goals (conv => whnf)
      all_goals exact V.fin2 ⟨rfl, rfl⟩
    · rw [P.chk_no hp] at cp
      clear h hp
      refine V.Fn.mk_ V.Tok V.mixed Tryz.func113 rfl Tryz.ntmps113 (by kernel_rfl) rfl rfl ?_
      repeat' ((conv => whnf); first | (refine V.NIf.yes ?_ ?_; · (decide; done)) | (refine V.NIf.no ?_ ?_; · (decide; done)) | refine V.NCond.mk ?_ | refine V.NPick.l ?_ | refine V.NIf.not_ ?_ | refine V.NIf.dec_ ?_ | refine V.a4 ?_ | refine V.a5 ?_ | refine V.NIf.mk (fun _ => ?_) (fun _ => ?_) | refine V.a7 ?_ | refine V.a8 ?_ | refine V.a9 ?_ | refine V.NBoth.mk ?_ ?_ | refine V.b1 ?_ | refine V.b2 ?_ | refine V.NTF.dec ?_ | refine V.b3 ?_ | refine V.b4 ?_ | (first | refine V.Fn.k0 (v_rbetween _ _ _) rfl ?_ | refine V.Fn.q0 (v_rbetween _ _ _) rfl ?_ | refine V.Fn.a0 (v_rbetween _ _ _) rfl ?_) | (first | refine V.Fn.k0 (cp) rfl ?_ | refine V.Fn.q0 (cp) rfl ?_ | refine V.Fn.a0 (cp) rfl ?_) | (refine V.NDraw.any (by kernel_rfl) ?_) | fail)
      all_goals (conv => whnf)
      all_goals exact V.fin2 ⟨rfl, rfl⟩
theorem v_cpMoved (a b c d : Int) (hd : 0 ≤ d ∧ d ≤ 1152921504606846976) : V.FnR Tryz.prog 68 [] [.one (.val (.int .i64 a)), .one (.val (.int .i64 b)), .one (.val (.int .i64 c)), .one (.val (.int .i64 d))] (.one (.ref 0)) [.row 65 3 (Cp.mvd a b c d).length (ga encP (Cp.mvd a b c d))] := by
  refine V.FnR.mk_ V.Tok V.mixed Tryz.func68 rfl Tryz.ntmps68 (by kernel_rfl) rfl rfl rfl rfl ?_
  repeat' ((conv => whnf); first | refine V.NCond.mk ?_ | refine V.NPick.l ?_ | refine V.NIf.not_ ?_ | refine V.NIf.dec_ ?_ | refine V.a4 ?_ | refine V.a5 ?_ | refine V.NIf.mk (fun _ => ?_) (fun _ => ?_) | refine V.a7 ?_ | refine V.a8 ?_ | refine V.a9 ?_ | refine V.NBoth.mk ?_ ?_ | refine V.b1 ?_ | refine V.b2 ?_ | refine V.NTF.dec ?_ | refine V.b3 ?_ | refine V.b4 ?_ | (refine V.NDraw.any (by kernel_rfl) ?_) | fail)
  refine NRet.mk_ [some 1] rfl ?_ ?_
  · exact rfl
  · exact ⟨⟨rfl, rfl, rfl, Nat.succ_pos _, by repeat' (first | exact trivial | refine ⟨?_, ?_⟩ | rfl | exact congrArg (Value.int .i64) (show 0 - d = -d by omega))⟩, trivial⟩
theorem v_cpPay (f : Fl) (p x : Int) : V.FnR Tryz.prog 101 [] [.agg [.val (.int .i64 f.id), .val (.int .i64 f.fr), .val (.int .i64 f.to), .val (.int .i64 f.cl), .val (.int .i64 f.pa), .val (.int .i64 f.day), .val (.int .i64 f.un), .val (.int .i64 f.de), .val (.int .i64 f.bo), .val (.int .i64 f.pd)], .one (.val (.int .i64 p)), .one (.val (.int .i64 x))] (.tup [.agg [.val (.int .i64 (Cp.pF f p x).id), .val (.int .i64 (Cp.pF f p x).fr), .val (.int .i64 (Cp.pF f p x).to), .val (.int .i64 (Cp.pF f p x).cl), .val (.int .i64 (Cp.pF f p x).pa), .val (.int .i64 (Cp.pF f p x).day), .val (.int .i64 (Cp.pF f p x).un), .val (.int .i64 (Cp.pF f p x).de), .val (.int .i64 (Cp.pF f p x).bo), .val (.int .i64 (Cp.pF f p x).pd)], .one (.ref 0), .one (.val (.int .i64 (Cp.pE f p x)))]) [.row 65 3 (Cp.pL f p x).length (ga encP (Cp.pL f p x))] := by
  have c1 := v_pay f
  by_cases h : F.less f 1 = 0
  · obtain ⟨e1, e2⟩ := F.pay_yes h
    rw [e1, e2, h] at c1
    have c2 := v_worth (F.left f) p x
    by_cases w : Cp.wE (F.left f) p x = 0
    · obtain ⟨p1, p2, p3⟩ := Cp.p_3 h w
      have bd := @Cp.w_bd (F.left f) p x
      rw [p1, p2]
      rw [w] at c2
      rw [← p3] at c2 bd
      by_cases z : Cp.pN f p x = 0
      · rw [Cp.pL_0 z]
        rw [z] at c2
        refine V.FnR.mk_ V.Tok V.mixed Tryz.func101 rfl Tryz.ntmps101 (by kernel_rfl) rfl rfl rfl rfl ?_
        repeat' ((conv => whnf); first | (refine V.NIf.yes ?_ ?_; · (decide; done)) | (refine V.NIf.no ?_ ?_; · (decide; done)) | refine V.NCond.mk ?_ | refine V.NPick.l ?_ | refine V.NIf.not_ ?_ | refine V.NIf.dec_ ?_ | refine V.a4 ?_ | refine V.a5 ?_ | refine V.NIf.mk (fun _ => ?_) (fun _ => ?_) | refine V.a7 ?_ | refine V.a8 ?_ | refine V.a9 ?_ | refine V.NBoth.mk ?_ ?_ | refine V.b1 ?_ | refine V.b2 ?_ | refine V.NTF.dec ?_ | refine V.b3 ?_ | refine V.b4 ?_ | (first | refine V.Fn.k0 (c1) rfl ?_ | refine V.Fn.q0 (c1) rfl ?_ | refine V.Fn.a0 (c1) rfl ?_) | (first | refine V.Fn.k0 (c2) rfl ?_ | refine V.Fn.q0 (c2) rfl ?_ | refine V.Fn.a0 (c2) rfl ?_) | (refine V.NDraw.any (by kernel_rfl) ?_) | fail)
        all_goals (conv => whnf)
        all_goals (first | exact V.er 0 | exact V.er 1 | exact V.er 2 | exact V.er 3 | exact V.er 4 | exact V.er 5 | exact V.er 6 | exact V.er 7 | exact V.er 8 | exact V.er 9 | exact V.er 10 | exact V.er 11 | exact V.er 12 | exact V.er 13 | exact V.er 14 | exact V.er 15 | exact V.er 16 | exact V.er 17)
      · rw [Cp.pL_1 z]
        have c3 := v_cpMoved f.fr f.to 0 (Cp.pN f p x) (by omega)
        generalize Cp.mvd f.fr f.to 0 (Cp.pN f p x) = L at *
        generalize Cp.pN f p x = n at *
        refine V.FnR.mk_ V.Tok V.mixed Tryz.func101 rfl Tryz.ntmps101 (by kernel_rfl) rfl rfl rfl rfl ?_
        repeat' ((conv => whnf); first | (refine V.NIf.yes ?_ ?_; · (decide; done)) | (refine V.NIf.no ?_ ?_; · (decide; done)) | refine V.NCond.mk ?_ | refine V.NPick.l ?_ | refine V.NIf.not_ ?_ | refine V.NIf.dec_ ?_ | refine V.a4 ?_ | refine V.a5 ?_ | refine V.NIf.mk (fun _ => ?_) (fun _ => ?_) | refine V.a7 ?_ | refine V.a8 ?_ | refine V.a9 ?_ | refine V.NBoth.mk ?_ ?_ | refine V.b1 ?_ | refine V.b2 ?_ | refine V.NTF.dec ?_ | refine V.b3 ?_ | refine V.b4 ?_ | (first | refine V.Fn.k0 (c1) rfl ?_ | refine V.Fn.q0 (c1) rfl ?_ | refine V.Fn.a0 (c1) rfl ?_) | (first | refine V.Fn.k0 (c2) rfl ?_ | refine V.Fn.q0 (c2) rfl ?_ | refine V.Fn.a0 (c2) rfl ?_) | (first | refine V.FnR.k0 (c3) rfl ?_ | refine V.FnR.a0 (c3) rfl ?_) | (refine V.NDraw.any (by kernel_rfl) ?_) | fail)
        all_goals (conv => whnf)
        all_goals (first | (refine NRet.mk_ [some 0] rfl ?_ ?_; (· ((repeat' (first | exact rfl | exact trivial | refine ⟨?_, ?_⟩)); done)); (· (exact ⟨⟨rfl, rfl, rfl, fun _ _ => rfl⟩, trivial⟩; done))) | (refine NRet.mk_ [some 1] rfl ?_ ?_; (· ((repeat' (first | exact rfl | exact trivial | refine ⟨?_, ?_⟩)); done)); (· (exact ⟨⟨rfl, rfl, rfl, fun _ _ => rfl⟩, trivial⟩; done))) | (refine NRet.mk_ [some 2] rfl ?_ ?_; (· ((repeat' (first | exact rfl | exact trivial | refine ⟨?_, ?_⟩)); done)); (· (exact ⟨⟨rfl, rfl, rfl, fun _ _ => rfl⟩, trivial⟩; done))) | (refine NRet.mk_ [some 3] rfl ?_ ?_; (· ((repeat' (first | exact rfl | exact trivial | refine ⟨?_, ?_⟩)); done)); (· (exact ⟨⟨rfl, rfl, rfl, fun _ _ => rfl⟩, trivial⟩; done))) | (refine NRet.mk_ [some 4] rfl ?_ ?_; (· ((repeat' (first | exact rfl | exact trivial | refine ⟨?_, ?_⟩)); done)); (· (exact ⟨⟨rfl, rfl, rfl, fun _ _ => rfl⟩, trivial⟩; done))) | (refine NRet.mk_ [some 5] rfl ?_ ?_; (· ((repeat' (first | exact rfl | exact trivial | refine ⟨?_, ?_⟩)); done)); (· (exact ⟨⟨rfl, rfl, rfl, fun _ _ => rfl⟩, trivial⟩; done))) | (refine NRet.mk_ [some 6] rfl ?_ ?_; (· ((repeat' (first | exact rfl | exact trivial | refine ⟨?_, ?_⟩)); done)); (· (exact ⟨⟨rfl, rfl, rfl, fun _ _ => rfl⟩, trivial⟩; done))) | (refine NRet.mk_ [some 7] rfl ?_ ?_; (· ((repeat' (first | exact rfl | exact trivial | refine ⟨?_, ?_⟩)); done)); (· (exact ⟨⟨rfl, rfl, rfl, fun _ _ => rfl⟩, trivial⟩; done))) | (refine NRet.mk_ [some 8] rfl ?_ ?_; (· ((repeat' (first | exact rfl | exact trivial | refine ⟨?_, ?_⟩)); done)); (· (exact ⟨⟨rfl, rfl, rfl, fun _ _ => rfl⟩, trivial⟩; done))) | (refine NRet.mk_ [some 9] rfl ?_ ?_; (· ((repeat' (first | exact rfl | exact trivial | refine ⟨?_, ?_⟩)); done)); (· (exact ⟨⟨rfl, rfl, rfl, fun _ _ => rfl⟩, trivial⟩; done))) | (refine NRet.mk_ [some 10] rfl ?_ ?_; (· ((repeat' (first | exact rfl | exact trivial | refine ⟨?_, ?_⟩)); done)); (· (exact ⟨⟨rfl, rfl, rfl, fun _ _ => rfl⟩, trivial⟩; done))) | (refine NRet.mk_ [some 11] rfl ?_ ?_; (· ((repeat' (first | exact rfl | exact trivial | refine ⟨?_, ?_⟩)); done)); (· (exact ⟨⟨rfl, rfl, rfl, fun _ _ => rfl⟩, trivial⟩; done))) | (refine NRet.mk_ [some 12] rfl ?_ ?_; (· ((repeat' (first | exact rfl | exact trivial | refine ⟨?_, ?_⟩)); done)); (· (exact ⟨⟨rfl, rfl, rfl, fun _ _ => rfl⟩, trivial⟩; done))) | (refine NRet.mk_ [some 13] rfl ?_ ?_; (· ((repeat' (first | exact rfl | exact trivial | refine ⟨?_, ?_⟩)); done)); (· (exact ⟨⟨rfl, rfl, rfl, fun _ _ => rfl⟩, trivial⟩; done))) | (refine NRet.mk_ [some 14] rfl ?_ ?_; (· ((repeat' (first | exact rfl | exact trivial | refine ⟨?_, ?_⟩)); done)); (· (exact ⟨⟨rfl, rfl, rfl, fun _ _ => rfl⟩, trivial⟩; done))) | (refine NRet.mk_ [some 15] rfl ?_ ?_; (· ((repeat' (first | exact rfl | exact trivial | refine ⟨?_, ?_⟩)); done)); (· (exact ⟨⟨rfl, rfl, rfl, fun _ _ => rfl⟩, trivial⟩; done))) | (refine NRet.mk_ [some 16] rfl ?_ ?_; (· ((repeat' (first | exact rfl | exact trivial | refine ⟨?_, ?_⟩)); done)); (· (exact ⟨⟨rfl, rfl, rfl, fun _ _ => rfl⟩, trivial⟩; done))) | (refine NRet.mk_ [some 17] rfl ?_ ?_; (· ((repeat' (first | exact rfl | exact trivial | refine ⟨?_, ?_⟩)); done)); (· (exact ⟨⟨rfl, rfl, rfl, fun _ _ => rfl⟩, trivial⟩; done))))
    · obtain ⟨p1, p2, p3⟩ := Cp.p_2 h w
      rw [p1, p2, p3]
      generalize Cp.wE (F.left f) p x = e at *
      refine V.FnR.mk_ V.Tok V.mixed Tryz.func101 rfl Tryz.ntmps101 (by kernel_rfl) rfl rfl rfl rfl ?_
      repeat' ((conv => whnf); first | (refine V.NIf.yes ?_ ?_; · (decide; done)) | (refine V.NIf.no ?_ ?_; · (decide; done)) | refine V.NCond.mk ?_ | refine V.NPick.l ?_ | refine V.NIf.not_ ?_ | refine V.NIf.dec_ ?_ | refine V.a4 ?_ | refine V.a5 ?_ | refine V.NIf.mk (fun _ => ?_) (fun _ => ?_) | refine V.a7 ?_ | refine V.a8 ?_ | refine V.a9 ?_ | refine V.NBoth.mk ?_ ?_ | refine V.b1 ?_ | refine V.b2 ?_ | refine V.NTF.dec ?_ | refine V.b3 ?_ | refine V.b4 ?_ | (first | refine V.Fn.k0 (c1) rfl ?_ | refine V.Fn.q0 (c1) rfl ?_ | refine V.Fn.a0 (c1) rfl ?_) | (first | refine V.Fn.k0 (c2) rfl ?_ | refine V.Fn.q0 (c2) rfl ?_ | refine V.Fn.a0 (c2) rfl ?_) | (refine V.NDraw.any (by kernel_rfl) ?_) | fail)
      all_goals (conv => whnf)
      all_goals (first | exact V.er 0 | exact V.er 1 | exact V.er 2 | exact V.er 3 | exact V.er 4 | exact V.er 5 | exact V.er 6 | exact V.er 7 | exact V.er 8 | exact V.er 9 | exact V.er 10 | exact V.er 11 | exact V.er 12 | exact V.er 13 | exact V.er 14 | exact V.er 15 | exact V.er 16 | exact V.er 17)
  · obtain ⟨p1, p2, p3⟩ := Cp.p_1 (p := p) (x := x) h
    rw [p1, p2, p3]
    generalize F.less f 1 = e at *
    refine V.FnR.mk_ V.Tok V.mixed Tryz.func101 rfl Tryz.ntmps101 (by kernel_rfl) rfl rfl rfl rfl ?_
    repeat' ((conv => whnf); first | (refine V.NIf.yes ?_ ?_; · (decide; done)) | (refine V.NIf.no ?_ ?_; · (decide; done)) | refine V.NCond.mk ?_ | refine V.NPick.l ?_ | refine V.NIf.not_ ?_ | refine V.NIf.dec_ ?_ | refine V.a4 ?_ | refine V.a5 ?_ | refine V.NIf.mk (fun _ => ?_) (fun _ => ?_) | refine V.a7 ?_ | refine V.a8 ?_ | refine V.a9 ?_ | refine V.NBoth.mk ?_ ?_ | refine V.b1 ?_ | refine V.b2 ?_ | refine V.NTF.dec ?_ | refine V.b3 ?_ | refine V.b4 ?_ | (first | refine V.Fn.k0 (c1) rfl ?_ | refine V.Fn.q0 (c1) rfl ?_ | refine V.Fn.a0 (c1) rfl ?_) | (refine V.NDraw.any (by kernel_rfl) ?_) | fail)
    all_goals (conv => whnf)
    all_goals (first | exact V.er 0 | exact V.er 1 | exact V.er 2 | exact V.er 3 | exact V.er 4 | exact V.er 5 | exact V.er 6 | exact V.er 7 | exact V.er 8 | exact V.er 9 | exact V.er 10 | exact V.er 11 | exact V.er 12 | exact V.er 13 | exact V.er 14 | exact V.er 15 | exact V.er 16 | exact V.er 17)
theorem v_rcpPay (f : Fl) (p x : Int) : V.FnR Tryz.prog 51 [] [.agg [.val (.int .i64 f.id), .val (.int .i64 f.fr), .val (.int .i64 f.to), .val (.int .i64 f.cl), .val (.int .i64 f.pa), .val (.int .i64 f.day), .val (.int .i64 f.un), .val (.int .i64 f.de), .val (.int .i64 f.bo), .val (.int .i64 f.pd)], .one (.val (.int .i64 p)), .one (.val (.int .i64 x))] (.tup [.agg [.val (.int .i64 (Cp.pF f p x).id), .val (.int .i64 (Cp.pF f p x).fr), .val (.int .i64 (Cp.pF f p x).to), .val (.int .i64 (Cp.pF f p x).cl), .val (.int .i64 (Cp.pF f p x).pa), .val (.int .i64 (Cp.pF f p x).day), .val (.int .i64 (Cp.pF f p x).un), .val (.int .i64 (Cp.pF f p x).de), .val (.int .i64 (Cp.pF f p x).bo), .val (.int .i64 (Cp.pF f p x).pd)], .one (.ref 0), .one (.val (.int .i64 (Cp.pE f p x)))]) [.row 65 3 (Cp.pL f p x).length (ga encP (Cp.pL f p x))] := by
  have lc := Cp.less_1 f
  have c1 := v_rfcheck f
  have c2 := fun (h : F.chk f = 0) => v_rfopen f ⟨(F.chk_ok h).1, (F.chk_ok h).2.2.1⟩
  have bo := fun (h : F.chk f = 0) => F.ok_bounds (F.chk_ok h)
  have ep : (F.addPd f (F.left f)).pd = f.pd + F.left f := rfl
  by_cases h : F.less f 1 = 0
  · have c0 : F.chk f = 0 := by omega
    have c2 := c2 c0
    have bo := bo c0
    rw [c0] at c1
    have c3 := v_rWorth (F.left f) p x
    by_cases w : Cp.wE (F.left f) p x = 0
    · obtain ⟨p1, p2, p3⟩ := Cp.p_3 h w
      have bd := @Cp.w_bd (F.left f) p x
      rw [p1, p2]
      rw [w] at c3
      rw [← p3] at c3 bd
      by_cases z : Cp.pN f p x = 0
      · rw [Cp.pL_0 z]
        rw [z] at c3
        refine V.FnR.mk_ V.Tok V.mixed Tryz.func51 rfl Tryz.ntmps51 (by kernel_rfl) rfl rfl rfl rfl ?_
        repeat' ((conv => whnf); first | (refine V.NIf.yes ?_ ?_; · (decide; done)) | (refine V.NIf.no ?_ ?_; · (decide; done)) | refine V.NCond.mk ?_ | refine V.NPick.l ?_ | refine V.NIf.not_ ?_ | refine V.NIf.dec_ ?_ | refine V.a4 ?_ | refine V.a5 ?_ | refine V.NIf.mk (fun _ => ?_) (fun _ => ?_) | refine V.a7 ?_ | refine V.a8 ?_ | refine V.a9 ?_ | refine V.NBoth.mk ?_ ?_ | refine V.b1 ?_ | refine V.b2 ?_ | refine V.NTF.dec ?_ | refine V.b3 ?_ | refine V.b4 ?_ | (first | refine V.Fn.k0 (c1) rfl ?_ | refine V.Fn.q0 (c1) rfl ?_ | refine V.Fn.a0 (c1) rfl ?_) | (first | refine V.Fn.k0 (c2) rfl ?_ | refine V.Fn.q0 (c2) rfl ?_ | refine V.Fn.a0 (c2) rfl ?_) | (first | refine V.Fn.k0 (c3) rfl ?_ | refine V.Fn.q0 (c3) rfl ?_ | refine V.Fn.a0 (c3) rfl ?_) | (refine V.NDraw.any (by kernel_rfl) ?_) | fail)
        all_goals (conv => whnf)
        all_goals (first | exact V.er 0 | exact V.er 1 | exact V.er 2 | exact V.er 3 | exact V.er 4 | exact V.er 5 | exact V.er 6 | exact V.er 7 | exact V.er 8 | exact V.er 9 | exact V.er 10 | exact V.er 11 | exact V.er 12 | exact V.er 13 | exact V.er 14 | exact V.er 15 | exact V.er 16 | exact V.er 17)
      · rw [Cp.pL_1 z]
        refine V.FnR.mk_ V.Tok V.mixed Tryz.func51 rfl Tryz.ntmps51 (by kernel_rfl) rfl rfl rfl rfl ?_
        repeat' ((conv => whnf); first | (refine V.NIf.yes ?_ ?_; · (decide; done)) | (refine V.NIf.no ?_ ?_; · (decide; done)) | refine V.NCond.mk ?_ | refine V.NPick.l ?_ | refine V.NIf.not_ ?_ | refine V.NIf.dec_ ?_ | refine V.a4 ?_ | refine V.a5 ?_ | refine V.NIf.mk (fun _ => ?_) (fun _ => ?_) | refine V.a7 ?_ | refine V.a8 ?_ | refine V.a9 ?_ | refine V.NBoth.mk ?_ ?_ | refine V.b1 ?_ | refine V.b2 ?_ | refine V.NTF.dec ?_ | refine V.b3 ?_ | refine V.b4 ?_ | (first | refine V.Fn.k0 (c1) rfl ?_ | refine V.Fn.q0 (c1) rfl ?_ | refine V.Fn.a0 (c1) rfl ?_) | (first | refine V.Fn.k0 (c2) rfl ?_ | refine V.Fn.q0 (c2) rfl ?_ | refine V.Fn.a0 (c2) rfl ?_) | (first | refine V.Fn.k0 (c3) rfl ?_ | refine V.Fn.q0 (c3) rfl ?_ | refine V.Fn.a0 (c3) rfl ?_) | (refine V.NDraw.any (by kernel_rfl) ?_) | fail)
        all_goals (conv => whnf)
        all_goals (first | (refine NRet.mk_ [some 0] rfl ?_ ?_; (· ((repeat' (first | exact rfl | exact trivial | refine ⟨?_, ?_⟩)); done)); (· (refine ⟨?_, trivial⟩; refine ⟨rfl, rfl, rfl, Nat.succ_pos _, ?_⟩; (conv => whnf); (repeat' (first | exact trivial | refine ⟨?_, ?_⟩ | rfl | exact congrArg (Value.int .i64) (show 0 - Cp.pN f p x = -Cp.pN f p x by omega))); done))) | (refine NRet.mk_ [some 1] rfl ?_ ?_; (· ((repeat' (first | exact rfl | exact trivial | refine ⟨?_, ?_⟩)); done)); (· (refine ⟨?_, trivial⟩; refine ⟨rfl, rfl, rfl, Nat.succ_pos _, ?_⟩; (conv => whnf); (repeat' (first | exact trivial | refine ⟨?_, ?_⟩ | rfl | exact congrArg (Value.int .i64) (show 0 - Cp.pN f p x = -Cp.pN f p x by omega))); done))) | (refine NRet.mk_ [some 2] rfl ?_ ?_; (· ((repeat' (first | exact rfl | exact trivial | refine ⟨?_, ?_⟩)); done)); (· (refine ⟨?_, trivial⟩; refine ⟨rfl, rfl, rfl, Nat.succ_pos _, ?_⟩; (conv => whnf); (repeat' (first | exact trivial | refine ⟨?_, ?_⟩ | rfl | exact congrArg (Value.int .i64) (show 0 - Cp.pN f p x = -Cp.pN f p x by omega))); done))) | (refine NRet.mk_ [some 3] rfl ?_ ?_; (· ((repeat' (first | exact rfl | exact trivial | refine ⟨?_, ?_⟩)); done)); (· (refine ⟨?_, trivial⟩; refine ⟨rfl, rfl, rfl, Nat.succ_pos _, ?_⟩; (conv => whnf); (repeat' (first | exact trivial | refine ⟨?_, ?_⟩ | rfl | exact congrArg (Value.int .i64) (show 0 - Cp.pN f p x = -Cp.pN f p x by omega))); done))) | (refine NRet.mk_ [some 4] rfl ?_ ?_; (· ((repeat' (first | exact rfl | exact trivial | refine ⟨?_, ?_⟩)); done)); (· (refine ⟨?_, trivial⟩; refine ⟨rfl, rfl, rfl, Nat.succ_pos _, ?_⟩; (conv => whnf); (repeat' (first | exact trivial | refine ⟨?_, ?_⟩ | rfl | exact congrArg (Value.int .i64) (show 0 - Cp.pN f p x = -Cp.pN f p x by omega))); done))) | (refine NRet.mk_ [some 5] rfl ?_ ?_; (· ((repeat' (first | exact rfl | exact trivial | refine ⟨?_, ?_⟩)); done)); (· (refine ⟨?_, trivial⟩; refine ⟨rfl, rfl, rfl, Nat.succ_pos _, ?_⟩; (conv => whnf); (repeat' (first | exact trivial | refine ⟨?_, ?_⟩ | rfl | exact congrArg (Value.int .i64) (show 0 - Cp.pN f p x = -Cp.pN f p x by omega))); done))) | (refine NRet.mk_ [some 6] rfl ?_ ?_; (· ((repeat' (first | exact rfl | exact trivial | refine ⟨?_, ?_⟩)); done)); (· (refine ⟨?_, trivial⟩; refine ⟨rfl, rfl, rfl, Nat.succ_pos _, ?_⟩; (conv => whnf); (repeat' (first | exact trivial | refine ⟨?_, ?_⟩ | rfl | exact congrArg (Value.int .i64) (show 0 - Cp.pN f p x = -Cp.pN f p x by omega))); done))) | (refine NRet.mk_ [some 7] rfl ?_ ?_; (· ((repeat' (first | exact rfl | exact trivial | refine ⟨?_, ?_⟩)); done)); (· (refine ⟨?_, trivial⟩; refine ⟨rfl, rfl, rfl, Nat.succ_pos _, ?_⟩; (conv => whnf); (repeat' (first | exact trivial | refine ⟨?_, ?_⟩ | rfl | exact congrArg (Value.int .i64) (show 0 - Cp.pN f p x = -Cp.pN f p x by omega))); done))) | (refine NRet.mk_ [some 8] rfl ?_ ?_; (· ((repeat' (first | exact rfl | exact trivial | refine ⟨?_, ?_⟩)); done)); (· (refine ⟨?_, trivial⟩; refine ⟨rfl, rfl, rfl, Nat.succ_pos _, ?_⟩; (conv => whnf); (repeat' (first | exact trivial | refine ⟨?_, ?_⟩ | rfl | exact congrArg (Value.int .i64) (show 0 - Cp.pN f p x = -Cp.pN f p x by omega))); done))) | (refine NRet.mk_ [some 9] rfl ?_ ?_; (· ((repeat' (first | exact rfl | exact trivial | refine ⟨?_, ?_⟩)); done)); (· (refine ⟨?_, trivial⟩; refine ⟨rfl, rfl, rfl, Nat.succ_pos _, ?_⟩; (conv => whnf); (repeat' (first | exact trivial | refine ⟨?_, ?_⟩ | rfl | exact congrArg (Value.int .i64) (show 0 - Cp.pN f p x = -Cp.pN f p x by omega))); done))) | (refine NRet.mk_ [some 10] rfl ?_ ?_; (· ((repeat' (first | exact rfl | exact trivial | refine ⟨?_, ?_⟩)); done)); (· (refine ⟨?_, trivial⟩; refine ⟨rfl, rfl, rfl, Nat.succ_pos _, ?_⟩; (conv => whnf); (repeat' (first | exact trivial | refine ⟨?_, ?_⟩ | rfl | exact congrArg (Value.int .i64) (show 0 - Cp.pN f p x = -Cp.pN f p x by omega))); done))) | (refine NRet.mk_ [some 11] rfl ?_ ?_; (· ((repeat' (first | exact rfl | exact trivial | refine ⟨?_, ?_⟩)); done)); (· (refine ⟨?_, trivial⟩; refine ⟨rfl, rfl, rfl, Nat.succ_pos _, ?_⟩; (conv => whnf); (repeat' (first | exact trivial | refine ⟨?_, ?_⟩ | rfl | exact congrArg (Value.int .i64) (show 0 - Cp.pN f p x = -Cp.pN f p x by omega))); done))) | (refine NRet.mk_ [some 12] rfl ?_ ?_; (· ((repeat' (first | exact rfl | exact trivial | refine ⟨?_, ?_⟩)); done)); (· (refine ⟨?_, trivial⟩; refine ⟨rfl, rfl, rfl, Nat.succ_pos _, ?_⟩; (conv => whnf); (repeat' (first | exact trivial | refine ⟨?_, ?_⟩ | rfl | exact congrArg (Value.int .i64) (show 0 - Cp.pN f p x = -Cp.pN f p x by omega))); done))) | (refine NRet.mk_ [some 13] rfl ?_ ?_; (· ((repeat' (first | exact rfl | exact trivial | refine ⟨?_, ?_⟩)); done)); (· (refine ⟨?_, trivial⟩; refine ⟨rfl, rfl, rfl, Nat.succ_pos _, ?_⟩; (conv => whnf); (repeat' (first | exact trivial | refine ⟨?_, ?_⟩ | rfl | exact congrArg (Value.int .i64) (show 0 - Cp.pN f p x = -Cp.pN f p x by omega))); done))) | (refine NRet.mk_ [some 14] rfl ?_ ?_; (· ((repeat' (first | exact rfl | exact trivial | refine ⟨?_, ?_⟩)); done)); (· (refine ⟨?_, trivial⟩; refine ⟨rfl, rfl, rfl, Nat.succ_pos _, ?_⟩; (conv => whnf); (repeat' (first | exact trivial | refine ⟨?_, ?_⟩ | rfl | exact congrArg (Value.int .i64) (show 0 - Cp.pN f p x = -Cp.pN f p x by omega))); done))) | (refine NRet.mk_ [some 15] rfl ?_ ?_; (· ((repeat' (first | exact rfl | exact trivial | refine ⟨?_, ?_⟩)); done)); (· (refine ⟨?_, trivial⟩; refine ⟨rfl, rfl, rfl, Nat.succ_pos _, ?_⟩; (conv => whnf); (repeat' (first | exact trivial | refine ⟨?_, ?_⟩ | rfl | exact congrArg (Value.int .i64) (show 0 - Cp.pN f p x = -Cp.pN f p x by omega))); done))) | (refine NRet.mk_ [some 16] rfl ?_ ?_; (· ((repeat' (first | exact rfl | exact trivial | refine ⟨?_, ?_⟩)); done)); (· (refine ⟨?_, trivial⟩; refine ⟨rfl, rfl, rfl, Nat.succ_pos _, ?_⟩; (conv => whnf); (repeat' (first | exact trivial | refine ⟨?_, ?_⟩ | rfl | exact congrArg (Value.int .i64) (show 0 - Cp.pN f p x = -Cp.pN f p x by omega))); done))) | (refine NRet.mk_ [some 17] rfl ?_ ?_; (· ((repeat' (first | exact rfl | exact trivial | refine ⟨?_, ?_⟩)); done)); (· (refine ⟨?_, trivial⟩; refine ⟨rfl, rfl, rfl, Nat.succ_pos _, ?_⟩; (conv => whnf); (repeat' (first | exact trivial | refine ⟨?_, ?_⟩ | rfl | exact congrArg (Value.int .i64) (show 0 - Cp.pN f p x = -Cp.pN f p x by omega))); done))))
    · obtain ⟨p1, p2, p3⟩ := Cp.p_2 h w
      rw [p1, p2, p3]
      generalize Cp.wE (F.left f) p x = e at *
      refine V.FnR.mk_ V.Tok V.mixed Tryz.func51 rfl Tryz.ntmps51 (by kernel_rfl) rfl rfl rfl rfl ?_
      repeat' ((conv => whnf); first | (refine V.NIf.yes ?_ ?_; · (decide; done)) | (refine V.NIf.no ?_ ?_; · (decide; done)) | refine V.NCond.mk ?_ | refine V.NPick.l ?_ | refine V.NIf.not_ ?_ | refine V.NIf.dec_ ?_ | refine V.a4 ?_ | refine V.a5 ?_ | refine V.NIf.mk (fun _ => ?_) (fun _ => ?_) | refine V.a7 ?_ | refine V.a8 ?_ | refine V.a9 ?_ | refine V.NBoth.mk ?_ ?_ | refine V.b1 ?_ | refine V.b2 ?_ | refine V.NTF.dec ?_ | refine V.b3 ?_ | refine V.b4 ?_ | (first | refine V.Fn.k0 (c1) rfl ?_ | refine V.Fn.q0 (c1) rfl ?_ | refine V.Fn.a0 (c1) rfl ?_) | (first | refine V.Fn.k0 (c2) rfl ?_ | refine V.Fn.q0 (c2) rfl ?_ | refine V.Fn.a0 (c2) rfl ?_) | (first | refine V.Fn.k0 (c3) rfl ?_ | refine V.Fn.q0 (c3) rfl ?_ | refine V.Fn.a0 (c3) rfl ?_) | (refine V.NDraw.any (by kernel_rfl) ?_) | fail)
      all_goals (conv => whnf)
      all_goals (first | exact V.er 0 | exact V.er 1 | exact V.er 2 | exact V.er 3 | exact V.er 4 | exact V.er 5 | exact V.er 6 | exact V.er 7 | exact V.er 8 | exact V.er 9 | exact V.er 10 | exact V.er 11 | exact V.er 12 | exact V.er 13 | exact V.er 14 | exact V.er 15 | exact V.er 16 | exact V.er 17)
  · obtain ⟨p1, p2, p3⟩ := Cp.p_1 (p := p) (x := x) h
    rw [p1, p2, p3]
    by_cases c0 : F.chk f = 0
    · have c2 := c2 c0
      have z : F.left f = 0 := by omega
      have e : F.less f 1 = 5 := by omega
      rw [c0] at c1
      rw [z] at c2
      rw [e]
      refine V.FnR.mk_ V.Tok V.mixed Tryz.func51 rfl Tryz.ntmps51 (by kernel_rfl) rfl rfl rfl rfl ?_
      repeat' ((conv => whnf); first | (refine V.NIf.yes ?_ ?_; · (decide; done)) | (refine V.NIf.no ?_ ?_; · (decide; done)) | refine V.NCond.mk ?_ | refine V.NPick.l ?_ | refine V.NIf.not_ ?_ | refine V.NIf.dec_ ?_ | refine V.a4 ?_ | refine V.a5 ?_ | refine V.NIf.mk (fun _ => ?_) (fun _ => ?_) | refine V.a7 ?_ | refine V.a8 ?_ | refine V.a9 ?_ | refine V.NBoth.mk ?_ ?_ | refine V.b1 ?_ | refine V.b2 ?_ | refine V.NTF.dec ?_ | refine V.b3 ?_ | refine V.b4 ?_ | (first | refine V.Fn.k0 (c1) rfl ?_ | refine V.Fn.q0 (c1) rfl ?_ | refine V.Fn.a0 (c1) rfl ?_) | (first | refine V.Fn.k0 (c2) rfl ?_ | refine V.Fn.q0 (c2) rfl ?_ | refine V.Fn.a0 (c2) rfl ?_) | (refine V.NDraw.any (by kernel_rfl) ?_) | fail)
      all_goals (conv => whnf)
      all_goals (first | exact V.er 0 | exact V.er 1 | exact V.er 2 | exact V.er 3 | exact V.er 4 | exact V.er 5 | exact V.er 6 | exact V.er 7 | exact V.er 8 | exact V.er 9 | exact V.er 10 | exact V.er 11 | exact V.er 12 | exact V.er 13 | exact V.er 14 | exact V.er 15 | exact V.er 16 | exact V.er 17)
    · have e : F.less f 1 = F.chk f := by omega
      rw [e]
      clear c2 bo lc e
      generalize F.chk f = e at *
      refine V.FnR.mk_ V.Tok V.mixed Tryz.func51 rfl Tryz.ntmps51 (by kernel_rfl) rfl rfl rfl rfl ?_
      repeat' ((conv => whnf); first | (refine V.NIf.yes ?_ ?_; · (decide; done)) | (refine V.NIf.no ?_ ?_; · (decide; done)) | refine V.NCond.mk ?_ | refine V.NPick.l ?_ | refine V.NIf.not_ ?_ | refine V.NIf.dec_ ?_ | refine V.a4 ?_ | refine V.a5 ?_ | refine V.NIf.mk (fun _ => ?_) (fun _ => ?_) | refine V.a7 ?_ | refine V.a8 ?_ | refine V.a9 ?_ | refine V.NBoth.mk ?_ ?_ | refine V.b1 ?_ | refine V.b2 ?_ | refine V.NTF.dec ?_ | refine V.b3 ?_ | refine V.b4 ?_ | (first | refine V.Fn.k0 (c1) rfl ?_ | refine V.Fn.q0 (c1) rfl ?_ | refine V.Fn.a0 (c1) rfl ?_) | (refine V.NDraw.any (by kernel_rfl) ?_) | fail)
      all_goals (conv => whnf)
      all_goals (first | exact V.er 0 | exact V.er 1 | exact V.er 2 | exact V.er 3 | exact V.er 4 | exact V.er 5 | exact V.er 6 | exact V.er 7 | exact V.er 8 | exact V.er 9 | exact V.er 10 | exact V.er 11 | exact V.er 12 | exact V.er 13 | exact V.er 14 | exact V.er 15 | exact V.er 16 | exact V.er 17)
end Go.Proofs.YtpanlcnoopmchaaGreat

namespace Go.Proofs.YtpanlcnoopmchaaGreat
open Go Go.RowKit V
theorem v_cloneF (l : List Fl) (hn : l.length ≤ 1759218604390) : V.FnR Tryz.prog 94 [.arr 10 l.length (ga encF l)] [.one (.ref 0)] (.one (.ref 1)) [.row 42 10 l.length (ga encF l)] := by
  refine V.FnR.mk_ V.Tok V.mixed Tryz.func94 rfl Tryz.ntmps94 (by kernel_rfl) rfl rfl rfl rfl ?_
  repeat' ((conv => whnf); first | refine V.NCond.mk ?_ | refine V.NPick.l ?_ | refine V.NIf.not_ ?_ | refine V.NIf.dec_ ?_ | refine V.a4 ?_ | refine V.a5 ?_ | refine V.NIf.mk (fun _ => ?_) (fun _ => ?_) | refine V.a7 ?_ | refine V.a8 ?_ | refine V.a9 ?_ | refine V.NBoth.mk ?_ ?_ | refine V.b1 ?_ | refine V.b2 ?_ | refine V.NTF.dec ?_ | refine V.b3 ?_ | refine V.b4 ?_ | (refine NNil.mk ?_; intro p hp) | (refine NOne.mk ?_ ?_; · (intro k hk; rfl)) | (refine NApp.all_ (by first | omega | (simp; omega)) (by omega) ?_) | (refine V.NDraw.any (by kernel_rfl) ?_) | fail)
  all_goals (conv => whnf)
  · refine NRet.mk_ [some 2] rfl ?_ ?_
    · exact rfl
    · exact ⟨⟨rfl, rfl, (hp (by assumption)).symm, fun k hk => absurd hk (Nat.not_lt_zero _)⟩, trivial⟩
  · refine NRet.mk_ [some 3] rfl ?_ ?_
    · exact rfl
    · exact ⟨⟨rfl, rfl, rfl, fun _ _ => rfl⟩, trivial⟩
end Go.Proofs.YtpanlcnoopmchaaGreat

namespace Go.Proofs.YtpanlcnoopmchaaGreat
open Go Go.RowKit V
set_option maxHeartbeats 4000000 in
theorem v_cyAdd (w : Wd) (f : Fl) (hb : w.bk.length ≤ 9223372036854775807) : V.FnR Tryz.prog 21 [.arr 10 w.fs.length (ga encF w.fs), .arr 3 w.bk.length (ga encP w.bk)] [.agg [.val (.int .i64 w.td), .ref 0, .ref 1], .agg [.val (.int .i64 f.id), .val (.int .i64 f.fr), .val (.int .i64 f.to), .val (.int .i64 f.cl), .val (.int .i64 f.pa), .val (.int .i64 f.day), .val (.int .i64 f.un), .val (.int .i64 f.de), .val (.int .i64 f.bo), .val (.int .i64 f.pd)]] (.tup [.agg [.val (.int .i64 (Cy.adW w f).td), .ref 2, .ref 3], .one (.val (.int .i64 (Cy.adE w f)))]) [.row 42 10 (Cy.adW w f).fs.length (ga encF (Cy.adW w f).fs), .row 65 3 (Cy.adW w f).bk.length (ga encP (Cy.adW w f).bk)] := by
  by_cases hw : Cy.wE w = 0
  · obtain ⟨n60, n400⟩ := Cy.wE_len hw
    have cc := v_cyCheck w hb
    rw [hw] at cc
    by_cases hf : Cy.Fresh w f
    · have e := Cy.ad_3 hw hf
      by_cases hk : F.checks (w.fs ++ [f]) = 0
      · rw [hk] at e
        rw [Cy.adW_yes e, e]
        unfold Cy.Fresh at hf
        have ck := v_fchecks (w.fs ++ [f])
        rw [hk] at ck
        refine V.FnR.mk_ V.Tok V.mixed Tryz.func21 rfl Tryz.ntmps21 (by kernel_rfl) rfl rfl rfl rfl ?_
        repeat' ((conv => whnf); first | (refine V.NIf.yes ?_ ?_; · (decide; done)) | (refine V.NIf.no ?_ ?_; · (decide; done)) | refine V.NCond.mk ?_ | refine V.NPick.l ?_ | refine V.NIf.not_ ?_ | refine V.NIf.dec_ ?_ | refine V.a4 ?_ | refine V.a5 ?_ | refine V.NIf.mk (fun _ => ?_) (fun _ => ?_) | refine V.a7 ?_ | refine V.a8 ?_ | refine V.a9 ?_ | refine V.NBoth.mk ?_ ?_ | refine V.b1 ?_ | refine V.b2 ?_ | refine V.NTF.dec ?_ | refine V.b3 ?_ | refine V.b4 ?_ | ((first | refine V.Fn.k (cc) [0, 1] rfl ?_ ?_ | refine V.Fn.q (cc) [0, 1] rfl ?_ ?_ | refine V.Fn.a (cc) [0, 1] rfl ?_ ?_); · exact V.D_) | (refine V.NCall.inl (f := 37) V.Tok V.mixed Tryz.func37 rfl Tryz.ntmps37 (by kernel_rfl) rfl ?_) | ((first | refine V.FnR.k_ (v_cloneF w.fs (by omega)) [0] rfl ?_ ?_ | refine V.FnR.a_ (v_cloneF w.fs (by omega)) [0] rfl ?_ ?_); · exact V.D_) | ((first | refine V.FnR.k_ (v_cloneP w.bk (by omega)) [1] rfl ?_ ?_ | refine V.FnR.a_ (v_cloneP w.bk (by omega)) [1] rfl ?_ ?_); · exact V.D_) | ((first | refine V.Fn.k (ck) [11] rfl ?_ ?_ | refine V.Fn.q (ck) [11] rfl ?_ ?_ | refine V.Fn.a (ck) [11] rfl ?_ ?_); · exact V.D_) | (refine V.NDraw.any (by kernel_rfl) ?_) | fail)
        all_goals (conv => whnf)
        all_goals first
          | exact V.er2 11 8
          | (exfalso; omega)
          | trace_state
      · have ck := v_fchecks (w.fs ++ [f])
        rw [Cy.adW_no (by rw [e]; exact hk), e]
        unfold Cy.Fresh at hf
        refine V.FnR.mk_ V.Tok V.mixed Tryz.func21 rfl Tryz.ntmps21 (by kernel_rfl) rfl rfl rfl rfl ?_
        repeat' ((conv => whnf); first | (refine V.NIf.yes ?_ ?_; · (decide; done)) | (refine V.NIf.no ?_ ?_; · (decide; done)) | refine V.NCond.mk ?_ | refine V.NPick.l ?_ | refine V.NIf.not_ ?_ | refine V.NIf.dec_ ?_ | refine V.a4 ?_ | refine V.a5 ?_ | refine V.NIf.mk (fun _ => ?_) (fun _ => ?_) | refine V.a7 ?_ | refine V.a8 ?_ | refine V.a9 ?_ | refine V.NBoth.mk ?_ ?_ | refine V.b1 ?_ | refine V.b2 ?_ | refine V.NTF.dec ?_ | refine V.b3 ?_ | refine V.b4 ?_ | ((first | refine V.Fn.k (cc) [0, 1] rfl ?_ ?_ | refine V.Fn.q (cc) [0, 1] rfl ?_ ?_ | refine V.Fn.a (cc) [0, 1] rfl ?_ ?_); · exact V.D_) | (refine V.NCall.inl (f := 37) V.Tok V.mixed Tryz.func37 rfl Tryz.ntmps37 (by kernel_rfl) rfl ?_) | ((first | refine V.FnR.k_ (v_cloneF w.fs (by omega)) [0] rfl ?_ ?_ | refine V.FnR.a_ (v_cloneF w.fs (by omega)) [0] rfl ?_ ?_); · exact V.D_) | ((first | refine V.FnR.k_ (v_cloneP w.bk (by omega)) [1] rfl ?_ ?_ | refine V.FnR.a_ (v_cloneP w.bk (by omega)) [1] rfl ?_ ?_); · exact V.D_) | ((first | refine V.Fn.k (ck) [11] rfl ?_ ?_ | refine V.Fn.q (ck) [11] rfl ?_ ?_ | refine V.Fn.a (ck) [11] rfl ?_ ?_); · exact V.D_) | (refine V.NDraw.any (by kernel_rfl) ?_) | fail)
        all_goals (conv => whnf)
        all_goals first
          | exact V.er00
          | (exfalso; omega)
          | trace_state
    · have e := Cy.ad_2 hw hf
      rw [Cy.adW_no (by rw [e]; decide), e]
      unfold Cy.Fresh at hf
      refine V.FnR.mk_ V.Tok V.mixed Tryz.func21 rfl Tryz.ntmps21 (by kernel_rfl) rfl rfl rfl rfl ?_
      repeat' ((conv => whnf); first | (refine V.NIf.yes ?_ ?_; · (decide; done)) | (refine V.NIf.no ?_ ?_; · (decide; done)) | refine V.NCond.mk ?_ | refine V.NPick.l ?_ | refine V.NIf.not_ ?_ | refine V.NIf.dec_ ?_ | refine V.a4 ?_ | refine V.a5 ?_ | refine V.NIf.mk (fun _ => ?_) (fun _ => ?_) | refine V.a7 ?_ | refine V.a8 ?_ | refine V.a9 ?_ | refine V.NBoth.mk ?_ ?_ | refine V.b1 ?_ | refine V.b2 ?_ | refine V.NTF.dec ?_ | refine V.b3 ?_ | refine V.b4 ?_ | ((first | refine V.Fn.k (cc) [0, 1] rfl ?_ ?_ | refine V.Fn.q (cc) [0, 1] rfl ?_ ?_ | refine V.Fn.a (cc) [0, 1] rfl ?_ ?_); · exact V.D_) | (refine V.NCall.inl (f := 37) V.Tok V.mixed Tryz.func37 rfl Tryz.ntmps37 (by kernel_rfl) rfl ?_) | ((first | refine V.FnR.k_ (v_cloneF w.fs (by omega)) [0] rfl ?_ ?_ | refine V.FnR.a_ (v_cloneF w.fs (by omega)) [0] rfl ?_ ?_); · exact V.D_) | ((first | refine V.FnR.k_ (v_cloneP w.bk (by omega)) [1] rfl ?_ ?_ | refine V.FnR.a_ (v_cloneP w.bk (by omega)) [1] rfl ?_ ?_); · exact V.D_) | (refine V.NDraw.any (by kernel_rfl) ?_) | fail)
      all_goals (conv => whnf)
      all_goals first
        | exact V.er00
        | (exfalso; omega)
        | trace_state
  · have cc := v_cyCheck w hb
    have e := Cy.ad_1 (f := f) hw
    rw [Cy.adW_no (by rw [e]; exact hw), e]
    refine V.FnR.mk_ V.Tok V.mixed Tryz.func21 rfl Tryz.ntmps21 (by kernel_rfl) rfl rfl rfl rfl ?_
    repeat' ((conv => whnf); first | (refine V.NIf.yes ?_ ?_; · (decide; done)) | (refine V.NIf.no ?_ ?_; · (decide; done)) | refine V.NCond.mk ?_ | refine V.NPick.l ?_ | refine V.NIf.not_ ?_ | refine V.NIf.dec_ ?_ | refine V.a4 ?_ | refine V.a5 ?_ | refine V.NIf.mk (fun _ => ?_) (fun _ => ?_) | refine V.a7 ?_ | refine V.a8 ?_ | refine V.a9 ?_ | refine V.NBoth.mk ?_ ?_ | refine V.b1 ?_ | refine V.b2 ?_ | refine V.NTF.dec ?_ | refine V.b3 ?_ | refine V.b4 ?_ | ((first | refine V.Fn.k (cc) [0, 1] rfl ?_ ?_ | refine V.Fn.q (cc) [0, 1] rfl ?_ ?_ | refine V.Fn.a (cc) [0, 1] rfl ?_ ?_); · exact V.D_) | (refine V.NDraw.any (by kernel_rfl) ?_) | fail)
    all_goals (conv => whnf)
    all_goals first
      | exact V.er00
      | trace_state
end Go.Proofs.YtpanlcnoopmchaaGreat

namespace Go.Proofs.YtpanlcnoopmchaaGreat
open Go Go.RowKit V
set_option maxHeartbeats 4000000 in
theorem v_cyDeliver (w : Wd) (id u : Int) (hb : w.bk.length ≤ 9223372036854775807) : V.FnR Tryz.prog 20 [.arr 10 w.fs.length (ga encF w.fs), .arr 3 w.bk.length (ga encP w.bk)] [.agg [.val (.int .i64 w.td), .ref 0, .ref 1], .one (.val (.int .i64 id)), .one (.val (.int .i64 u))] (.tup [.agg [.val (.int .i64 (Cy.dvW w id u).td), .ref 2, .ref 3], .one (.val (.int .i64 (Cy.dvE w id u)))]) [.row 42 10 (Cy.dvW w id u).fs.length (ga encF (Cy.dvW w id u).fs), .row 65 3 (Cy.dvW w id u).bk.length (ga encP (Cy.dvW w id u).bk)] := by
  have cc := v_cyCheck w hb
  by_cases hw : Cy.wE w = 0
  · obtain ⟨n60, n400⟩ := Cy.wE_len hw
    rw [hw] at cc
    have cf := v_ffind w.fs id
    by_cases hf : F.fndE id w.fs = 0
    · obtain ⟨i0, i1, hk⟩ := Cy.fnd_ok hf
      have ix := F.idx_lt id w.fs 0
      rw [hf, i1] at cf
      have cd := v_deliver (Cy.fl w id) u
      have ei : F.idx id w.fs 0 = (Cy.at_ w id : Int) := by unfold Cy.at_; omega
      have hlt : Cy.at_ w id < w.fs.length := by omega
      have e1 : w.fs.getD (Cy.at_ w id) default = Cy.fl w id := rfl
      rw [ei] at cf
      by_cases hl : F.less (Cy.fl w id) u = 0
      · obtain ⟨o, l1, l2, l3⟩ := F.less_ok hl
        have e := Cy.dv_4 hw hf hl
        have cm := v_cpMoved (Cy.fl w id).fr (Cy.fl w id).to (Cy.fl w id).pa u (by omega)
        have cp := v_bkPost w.bk (Cp.mvd (Cy.fl w id).fr (Cy.fl w id).to (Cy.fl w id).pa u) (by omega) (Nat.le_trans (show _ ≤ 2 from Nat.le_refl _) (by decide))
        rw [hl, F.deliver_yes hl] at cd
        have m2 : (Cp.mvd (Cy.fl w id).fr (Cy.fl w id).to (Cy.fl w id).pa u).length = 2 := rfl
        by_cases hp : Bk.pE w.bk (Cp.mvd (Cy.fl w id).fr (Cy.fl w id).to (Cy.fl w id).pa u) = 0
        · rw [hp] at e cp
          rw [Cy.dvW_yes e, e]
          have pl : (Bk.pL w.bk (Cp.mvd (Cy.fl w id).fr (Cy.fl w id).to (Cy.fl w id).pa u)).length ≤ 400 := (Bk.po_lines (Bk.pE_0.1 hp)).le
          have sl : (w.fs.set (Cy.at_ w id) (F.addDe (Cy.fl w id) u)).length = w.fs.length := List.length_set
          clear hw hf hl hp e hk o
          generalize Bk.pL w.bk (Cp.mvd (Cy.fl w id).fr (Cy.fl w id).to (Cy.fl w id).pa u) = PL at *
          generalize Cp.mvd (Cy.fl w id).fr (Cy.fl w id).to (Cy.fl w id).pa u = ML at *
          generalize Cy.at_ w id = k at *
          rw [← e1] at cm cd sl ⊢
          refine V.FnR.mk_ V.Tok V.mixed Tryz.func20 rfl Tryz.ntmps20 (by kernel_rfl) rfl rfl rfl rfl ?_
          repeat' ((conv => whnf); first | (refine V.NIf.yes ?_ ?_; · (decide; done)) | (refine V.NIf.no ?_ ?_; · (decide; done)) | refine V.NCond.mk ?_ | refine V.NPick.l ?_ | refine V.NIf.not_ ?_ | refine V.NIf.dec_ ?_ | refine V.a4 ?_ | refine V.a5 ?_ | refine V.NIf.mk (fun _ => ?_) (fun _ => ?_) | refine V.a7 ?_ | refine V.a8 ?_ | refine V.a9 ?_ | refine V.NBoth.mk ?_ ?_ | refine V.b1 ?_ | refine V.b2 ?_ | refine V.NTF.dec ?_ | refine V.b3 ?_ | refine V.b4 ?_ | ((first | refine V.Fn.k (cc) [0, 1] rfl ?_ ?_ | refine V.Fn.q (cc) [0, 1] rfl ?_ ?_ | refine V.Fn.a (cc) [0, 1] rfl ?_ ?_); · exact V.D_) | ((first | refine V.Fn.k (cf) [0] rfl ?_ ?_ | refine V.Fn.q (cf) [0] rfl ?_ ?_ | refine V.Fn.a (cf) [0] rfl ?_ ?_); · exact V.D_) | (first | refine V.Fn.k0 (cd) rfl ?_ | refine V.Fn.q0 (cd) rfl ?_ | refine V.Fn.a0 (cd) rfl ?_) | (refine NIdx.mk ⟨k, rfl, by omega, ?_⟩) | (refine V.NCall.inl (f := 37) V.Tok V.mixed Tryz.func37 rfl Tryz.ntmps37 (by kernel_rfl) rfl ?_) | ((first | refine V.FnR.k_ (v_cloneF w.fs (by omega)) [0] rfl ?_ ?_ | refine V.FnR.a_ (v_cloneF w.fs (by omega)) [0] rfl ?_ ?_); · exact V.D_) | ((first | refine V.FnR.k_ (v_cloneP w.bk (by omega)) [1] rfl ?_ ?_ | refine V.FnR.a_ (v_cloneP w.bk (by omega)) [1] rfl ?_ ?_); · exact V.D_) | (refine NPut.to (en := encF) (F.addDe (w.fs.getD k default) u) rfl rfl ?_) | (first | refine V.FnR.k0 (cm) rfl ?_ | refine V.FnR.a0 (cm) rfl ?_) | (refine V.NCall.inl (f := 67) V.Tok V.mixed Tryz.func67 rfl Tryz.ntmps67 (by kernel_rfl) rfl ?_) | (refine V.NCall.inl (f := 38) V.Tok V.mixed Tryz.func38 rfl Tryz.ntmps38 (by kernel_rfl) rfl ?_) | (refine V.NCall.inl (f := 44) V.Tok V.mixed Tryz.func44 rfl Tryz.ntmps44 (by kernel_rfl) rfl ?_) | ((first | refine V.FnR.k_ (cp) [8, 10] rfl ?_ ?_ | refine V.FnR.a_ (cp) [8, 10] rfl ?_ ?_); · exact V.D_) | (refine NOne.mk ?_ ?_; · (intro k hk; rfl)) | (refine NApp.all_ (by first | omega | (simp; omega)) (by omega) ?_) | (refine V.NDraw.any (by kernel_rfl) ?_) | fail)
          all_goals (conv => whnf)
          all_goals first
            | exact V.er2 7 11 (h2 := ⟨⟨rfl, rfl, sl.symm, fun _ _ => rfl⟩, ⟨rfl, rfl, rfl, fun _ _ => rfl⟩, trivial⟩)
            | (exfalso; omega)
            | trace_state
        · rw [Cy.dvW_no (by rw [e]; exact hp), e]
          have z : Bk.pL w.bk (Cp.mvd (Cy.fl w id).fr (Cy.fl w id).to (Cy.fl w id).pa u) = [] := if_neg hp
          rw [z] at cp
          clear hw hf hl e hk o z
          generalize Bk.pE w.bk (Cp.mvd (Cy.fl w id).fr (Cy.fl w id).to (Cy.fl w id).pa u) = PE at *
          generalize Cp.mvd (Cy.fl w id).fr (Cy.fl w id).to (Cy.fl w id).pa u = ML at *
          generalize Cy.at_ w id = k at *
          rw [← e1] at cm cd
          refine V.FnR.mk_ V.Tok V.mixed Tryz.func20 rfl Tryz.ntmps20 (by kernel_rfl) rfl rfl rfl rfl ?_
          repeat' ((conv => whnf); first | (refine V.NIf.yes ?_ ?_; · (decide; done)) | (refine V.NIf.no ?_ ?_; · (decide; done)) | refine V.NCond.mk ?_ | refine V.NPick.l ?_ | refine V.NIf.not_ ?_ | refine V.NIf.dec_ ?_ | refine V.a4 ?_ | refine V.a5 ?_ | refine V.NIf.mk (fun _ => ?_) (fun _ => ?_) | refine V.a7 ?_ | refine V.a8 ?_ | refine V.a9 ?_ | refine V.NBoth.mk ?_ ?_ | refine V.b1 ?_ | refine V.b2 ?_ | refine V.NTF.dec ?_ | refine V.b3 ?_ | refine V.b4 ?_ | ((first | refine V.Fn.k (cc) [0, 1] rfl ?_ ?_ | refine V.Fn.q (cc) [0, 1] rfl ?_ ?_ | refine V.Fn.a (cc) [0, 1] rfl ?_ ?_); · exact V.D_) | ((first | refine V.Fn.k (cf) [0] rfl ?_ ?_ | refine V.Fn.q (cf) [0] rfl ?_ ?_ | refine V.Fn.a (cf) [0] rfl ?_ ?_); · exact V.D_) | (first | refine V.Fn.k0 (cd) rfl ?_ | refine V.Fn.q0 (cd) rfl ?_ | refine V.Fn.a0 (cd) rfl ?_) | (refine NIdx.mk ⟨k, rfl, by omega, ?_⟩) | (refine V.NCall.inl (f := 37) V.Tok V.mixed Tryz.func37 rfl Tryz.ntmps37 (by kernel_rfl) rfl ?_) | ((first | refine V.FnR.k_ (v_cloneF w.fs (by omega)) [0] rfl ?_ ?_ | refine V.FnR.a_ (v_cloneF w.fs (by omega)) [0] rfl ?_ ?_); · exact V.D_) | ((first | refine V.FnR.k_ (v_cloneP w.bk (by omega)) [1] rfl ?_ ?_ | refine V.FnR.a_ (v_cloneP w.bk (by omega)) [1] rfl ?_ ?_); · exact V.D_) | (refine NPut.to (en := encF) (F.addDe (w.fs.getD k default) u) rfl rfl ?_) | (first | refine V.FnR.k0 (cm) rfl ?_ | refine V.FnR.a0 (cm) rfl ?_) | (refine V.NCall.inl (f := 67) V.Tok V.mixed Tryz.func67 rfl Tryz.ntmps67 (by kernel_rfl) rfl ?_) | (refine V.NCall.inl (f := 38) V.Tok V.mixed Tryz.func38 rfl Tryz.ntmps38 (by kernel_rfl) rfl ?_) | (refine V.NCall.inl (f := 44) V.Tok V.mixed Tryz.func44 rfl Tryz.ntmps44 (by kernel_rfl) rfl ?_) | ((first | refine V.FnR.k_ (cp) [8, 10] rfl ?_ ?_ | refine V.FnR.a_ (cp) [8, 10] rfl ?_ ?_); · exact V.D_) | (refine V.NDraw.any (by kernel_rfl) ?_) | fail)
          all_goals (conv => whnf)
          all_goals first
            | exact V.er00
            | (exfalso; omega)
            | trace_state
      · have e := Cy.dv_3 hw hf hl
        rw [Cy.dvW_no (by rw [e]; exact hl), e]
        clear hw hf e hk
        generalize F.less (Cy.fl w id) u = LE at *
        generalize F.deliver (Cy.fl w id) u = DF at *
        generalize Cy.at_ w id = k at *
        rw [← e1] at cd
        refine V.FnR.mk_ V.Tok V.mixed Tryz.func20 rfl Tryz.ntmps20 (by kernel_rfl) rfl rfl rfl rfl ?_
        repeat' ((conv => whnf); first | (refine V.NIf.yes ?_ ?_; · (decide; done)) | (refine V.NIf.no ?_ ?_; · (decide; done)) | refine V.NCond.mk ?_ | refine V.NPick.l ?_ | refine V.NIf.not_ ?_ | refine V.NIf.dec_ ?_ | refine V.a4 ?_ | refine V.a5 ?_ | refine V.NIf.mk (fun _ => ?_) (fun _ => ?_) | refine V.a7 ?_ | refine V.a8 ?_ | refine V.a9 ?_ | refine V.NBoth.mk ?_ ?_ | refine V.b1 ?_ | refine V.b2 ?_ | refine V.NTF.dec ?_ | refine V.b3 ?_ | refine V.b4 ?_ | ((first | refine V.Fn.k (cc) [0, 1] rfl ?_ ?_ | refine V.Fn.q (cc) [0, 1] rfl ?_ ?_ | refine V.Fn.a (cc) [0, 1] rfl ?_ ?_); · exact V.D_) | ((first | refine V.Fn.k (cf) [0] rfl ?_ ?_ | refine V.Fn.q (cf) [0] rfl ?_ ?_ | refine V.Fn.a (cf) [0] rfl ?_ ?_); · exact V.D_) | (first | refine V.Fn.k0 (cd) rfl ?_ | refine V.Fn.q0 (cd) rfl ?_ | refine V.Fn.a0 (cd) rfl ?_) | (refine NIdx.mk ⟨k, rfl, by omega, ?_⟩) | (refine V.NDraw.any (by kernel_rfl) ?_) | fail)
        all_goals (conv => whnf)
        all_goals first
          | exact V.er00
          | (exfalso; omega)
          | trace_state
    · have e := Cy.dv_2 (u := u) hw hf
      rw [Cy.dvW_no (by rw [e]; exact hf), e]
      refine V.FnR.mk_ V.Tok V.mixed Tryz.func20 rfl Tryz.ntmps20 (by kernel_rfl) rfl rfl rfl rfl ?_
      repeat' ((conv => whnf); first | (refine V.NIf.yes ?_ ?_; · (decide; done)) | (refine V.NIf.no ?_ ?_; · (decide; done)) | refine V.NCond.mk ?_ | refine V.NPick.l ?_ | refine V.NIf.not_ ?_ | refine V.NIf.dec_ ?_ | refine V.a4 ?_ | refine V.a5 ?_ | refine V.NIf.mk (fun _ => ?_) (fun _ => ?_) | refine V.a7 ?_ | refine V.a8 ?_ | refine V.a9 ?_ | refine V.NBoth.mk ?_ ?_ | refine V.b1 ?_ | refine V.b2 ?_ | refine V.NTF.dec ?_ | refine V.b3 ?_ | refine V.b4 ?_ | ((first | refine V.Fn.k (cc) [0, 1] rfl ?_ ?_ | refine V.Fn.q (cc) [0, 1] rfl ?_ ?_ | refine V.Fn.a (cc) [0, 1] rfl ?_ ?_); · exact V.D_) | ((first | refine V.Fn.k (cf) [0] rfl ?_ ?_ | refine V.Fn.q (cf) [0] rfl ?_ ?_ | refine V.Fn.a (cf) [0] rfl ?_ ?_); · exact V.D_) | (refine V.NDraw.any (by kernel_rfl) ?_) | fail)
      all_goals (conv => whnf)
      all_goals first
        | exact V.er00
        | (exfalso; omega)
        | trace_state
  · have e := Cy.dv_1 (id := id) (u := u) hw
    rw [Cy.dvW_no (by rw [e]; exact hw), e]
    refine V.FnR.mk_ V.Tok V.mixed Tryz.func20 rfl Tryz.ntmps20 (by kernel_rfl) rfl rfl rfl rfl ?_
    repeat' ((conv => whnf); first | (refine V.NIf.yes ?_ ?_; · (decide; done)) | (refine V.NIf.no ?_ ?_; · (decide; done)) | refine V.NCond.mk ?_ | refine V.NPick.l ?_ | refine V.NIf.not_ ?_ | refine V.NIf.dec_ ?_ | refine V.a4 ?_ | refine V.a5 ?_ | refine V.NIf.mk (fun _ => ?_) (fun _ => ?_) | refine V.a7 ?_ | refine V.a8 ?_ | refine V.a9 ?_ | refine V.NBoth.mk ?_ ?_ | refine V.b1 ?_ | refine V.b2 ?_ | refine V.NTF.dec ?_ | refine V.b3 ?_ | refine V.b4 ?_ | ((first | refine V.Fn.k (cc) [0, 1] rfl ?_ ?_ | refine V.Fn.q (cc) [0, 1] rfl ?_ ?_ | refine V.Fn.a (cc) [0, 1] rfl ?_ ?_); · exact V.D_) | (refine V.NDraw.any (by kernel_rfl) ?_) | fail)
    all_goals (conv => whnf)
    all_goals first
      | exact V.er00
      | (exfalso; omega)
      | trace_state
end Go.Proofs.YtpanlcnoopmchaaGreat

namespace Go.Proofs.YtpanlcnoopmchaaGreat
open Go Go.RowKit V
set_option maxHeartbeats 4000000 in
theorem v_cyTidy (w : Wd) (hb : w.bk.length ≤ 9223372036854775807) : V.FnR Tryz.prog 22 [.arr 10 w.fs.length (ga encF w.fs), .arr 3 w.bk.length (ga encP w.bk)] [.agg [.val (.int .i64 w.td), .ref 0, .ref 1]] (.tup [.agg [.val (.int .i64 (Cy.tyW w).td), .ref 2, .ref 3], .one (.ref 4), .one (.val (.int .i64 (Cy.wE w)))]) [.row 42 10 (Cy.tyW w).fs.length (ga encF (Cy.tyW w).fs), .row 65 3 (Cy.tyW w).bk.length (ga encP (Cy.tyW w).bk), .row 42 10 (Cy.tyO w).length (ga encF (Cy.tyO w))] := by
  have cc := v_cyCheck w hb
  by_cases hw : Cy.wE w = 0
  · obtain ⟨n60, n400⟩ := Cy.wE_len hw
    obtain ⟨hw1, hw2, hw3⟩ := Cy.wE_ok hw
    obtain ⟨t1, t2⟩ := Cy.ty_yes hw
    have ok := Pn.all_ok hw2
    rw [hw] at cc
    rw [t1, t2, hw]
    refine V.FnR.mk_ V.Tok V.mixed Tryz.func22 rfl Tryz.ntmps22 (by kernel_rfl) rfl rfl rfl rfl ?_
    repeat' ((conv => whnf); first | (refine V.NIf.yes ?_ ?_; · (decide; done)) | (refine V.NIf.no ?_ ?_; · (decide; done)) | refine V.NCond.mk ?_ | refine V.NPick.l ?_ | refine V.NIf.not_ ?_ | refine V.NIf.dec_ ?_ | refine V.a4 ?_ | refine V.a5 ?_ | refine V.NIf.mk (fun _ => ?_) (fun _ => ?_) | refine V.a7 ?_ | refine V.a8 ?_ | refine V.a9 ?_ | refine V.NBoth.mk ?_ ?_ | refine V.b1 ?_ | refine V.b2 ?_ | refine V.NTF.dec ?_ | refine V.b3 ?_ | refine V.b4 ?_ | ((first | refine V.Fn.k (cc) [0, 1] rfl ?_ ?_ | refine V.Fn.q (cc) [0, 1] rfl ?_ ?_ | refine V.Fn.a (cc) [0, 1] rfl ?_ ?_); · exact V.D_) | (refine V.NCall.inl (f := 37) V.Tok V.mixed Tryz.func37 rfl Tryz.ntmps37 (by kernel_rfl) rfl ?_) | ((first | refine V.FnR.k_ (v_cloneF w.fs (by omega)) [0] rfl ?_ ?_ | refine V.FnR.a_ (v_cloneF w.fs (by omega)) [0] rfl ?_ ?_); · exact V.D_) | ((first | refine V.FnR.k_ (v_cloneP w.bk (by omega)) [1] rfl ?_ ?_ | refine V.FnR.a_ (v_cloneP w.bk (by omega)) [1] rfl ?_ ?_); · exact V.D_) | (refine V.NCall.inl (f := 69) V.Tok V.mixed Tryz.func69 rfl Tryz.ntmps69 (by kernel_rfl) rfl ?_) | (refine V.NCall.inl (f := 77) V.Tok V.mixed Tryz.func77 rfl Tryz.ntmps77 (by kernel_rfl) rfl ?_) | (refine V.NDraw.any (by kernel_rfl) ?_) | fail)
    all_goals (conv => whnf)
    refine V.NLoop.auto (fun (k : Nat) => [(8, .one (.val (.int .i64 k)))]) (fun (k : Nat) => []) [] [] (fun (k : Nat) => w.fs.length - k) (fun (k : Nat) => k ≤ w.fs.length ∧ ∀ f ∈ w.fs.take k, 0 < F.left f) 0 ⟨Nat.zero_le _, by simp⟩ V.S_ V.S_ (fun _ => ⟨rfl, rfl⟩) ?_; (conv => whnf); refine ⟨⟨rfl, rfl⟩, ?_⟩
    rintro k ⟨hk, hJ⟩
    by_cases hlt : k < w.fs.length
    · have o := ok _ (getD_mem hlt)
      repeat' ((conv => whnf); first | (refine V.NIf.yes ?_ ?_; · (decide; done)) | (refine V.NIf.no ?_ ?_; · (decide; done)) | refine V.NCond.mk ?_ | refine V.NPick.l ?_ | refine V.NIf.not_ ?_ | refine V.NIf.dec_ ?_ | refine V.a4 ?_ | refine V.a5 ?_ | refine V.NIf.mk (fun _ => ?_) (fun _ => ?_) | refine V.a7 ?_ | refine V.a8 ?_ | refine V.a9 ?_ | refine V.NBoth.mk ?_ ?_ | refine V.b1 ?_ | refine V.b2 ?_ | refine V.NTF.dec ?_ | refine V.b3 ?_ | refine V.b4 ?_ | (refine NIdx.mk ⟨k, rfl, by omega, ?_⟩) | (refine V.NCall.inl (f := 70) V.Tok V.mixed Tryz.func70 rfl Tryz.ntmps70 (by kernel_rfl) rfl ?_) | (first | refine V.Fn.k0 (v_fleft _ o) rfl ?_ | refine V.Fn.q0 (v_fleft _ o) rfl ?_ | refine V.Fn.a0 (v_fleft _ o) rfl ?_) | (refine NApp.first (en := encF) (x := w.fs.getD k default) (by first | omega | (simp; done) | decide) ?_) | (refine V.NDraw.any (by kernel_rfl) ?_) | fail)
      all_goals (conv => whnf)
      · exact V.NBack.at_ (k + 1) [] ⟨by omega, all_snoc hlt hJ (by assumption)⟩ (by omega) V.S_ rfl V.S_ V.S_ V.S_
      have hn : ¬ 0 < F.left (w.fs.getD k default) := by assumption
      obtain ⟨j0, j1, j2⟩ := Cy.TJ.start hlt hJ hn
      refine V.NLoop.auto (fun (s : Nat × List Fl) => [(6, .one (.val (.int .i64 s.1))), (5, .one (.val (.int .i64 (Cy.opn (w.fs.take s.1)).length))), (0, .one (.ref 7))]) (fun (s : Nat × List Fl) => [(7, .row 42 10 s.2.length (ga encF s.2)), (15, .row 42 10 (Cy.ovr (w.fs.take s.1)).length (ga encF (Cy.ovr (w.fs.take s.1)))), (11, .box 28 [.ref 15])]) [] [] (fun (s : Nat × List Fl) => w.fs.length - s.1) (fun (s : Nat × List Fl) => Cy.TJ w.fs s.1 s.2) (k + 1, w.fs) j0 (by (conv => whnf); exact ⟨rfl, congrArg (fun z => V.SV.one (V.At.val (Value.int .i64 z))) (by dsimp only; omega), rfl, trivial⟩) (by (conv => whnf); exact ⟨⟨rfl, rfl, rfl, fun _ _ => rfl⟩, ObLe.as_ j2, rfl, trivial⟩) (fun _ => ⟨rfl, rfl⟩) ?_; (conv => whnf); refine ⟨⟨rfl, rfl⟩, ?_⟩
      clear hJ hn j0 j1 j2 hlt o
      rintro s hs
      generalize s.1 = j at *
      generalize s.2 = X at *
      have xl := hs.len
      have xt := hs.lt
      have xe := hs.le
      by_cases hlt : j < w.fs.length
      · have ex := hs.rs j (Nat.le_refl _) hlt
        have o : F.Ok (X.getD j default) := by rw [ex]; exact ok _ (getD_mem hlt)
        have yo := hs.yes hlt
        have no := hs.no hlt
        have so := Cy.opn_snoc hlt
        have sv := Cy.ovr_snoc hlt
        have vl := Cy.ovr_len (w.fs.take j)
        rw [List.length_take] at vl
        rw [← ex] at yo no so sv
        have so1 : 0 < F.left (X.getD j default) → (Cy.opn (w.fs.take (j + 1))).length = (Cy.opn (w.fs.take j)).length + 1 := fun q => by rw [so, if_pos q, List.length_append]; rfl
        have so2 : ¬ 0 < F.left (X.getD j default) → (Cy.opn (w.fs.take (j + 1))).length = (Cy.opn (w.fs.take j)).length := fun q => by rw [so, if_neg q, List.append_nil]
        repeat' ((conv => whnf); first | (refine V.NIf.yes ?_ ?_; · (decide; done)) | (refine V.NIf.no ?_ ?_; · (decide; done)) | (refine NApp.one (en := encF) (l := Cy.ovr (w.fs.take j)) (x := X.getD j default) (by first | omega | (simp; omega)) (by omega) ?_) | refine V.NCond.mk ?_ | refine V.NPick.l ?_ | refine V.NIf.not_ ?_ | refine V.NIf.dec_ ?_ | refine V.a4 ?_ | refine V.a5 ?_ | refine V.NIf.mk (fun _ => ?_) (fun _ => ?_) | refine V.a7 ?_ | refine V.a8 ?_ | refine V.a9 ?_ | refine V.NBoth.mk ?_ ?_ | refine V.b1 ?_ | refine V.b2 ?_ | refine V.NTF.dec ?_ | refine V.b3 ?_ | refine V.b4 ?_ | (refine NIdx.mk ⟨j, rfl, by omega, ?_⟩) | (refine NIdx.mk ⟨(Cy.opn (w.fs.take j)).length, rfl, by omega, ?_⟩) | (refine V.NCall.inl (f := 70) V.Tok V.mixed Tryz.func70 rfl Tryz.ntmps70 (by kernel_rfl) rfl ?_) | (first | refine V.Fn.k0 (v_fleft _ o) rfl ?_ | refine V.Fn.q0 (v_fleft _ o) rfl ?_ | refine V.Fn.a0 (v_fleft _ o) rfl ?_) | (refine NPut.to (en := encF) (X.getD j default) rfl rfl ?_) | (refine V.NDraw.any (by kernel_rfl) ?_) | fail)
        all_goals (conv => whnf)
        all_goals first
          | (have q : 0 < F.left (X.getD j default) := by assumption
             exact V.NBack.at_ (j + 1, X.set (Cy.opn (w.fs.take j)).length (X.getD j default)) [] (yo q) (by dsimp only; omega) ⟨congrArg (fun z => V.SV.one (V.At.val (Value.int .i64 z))) (by dsimp only; omega), congrArg (fun z => V.SV.one (V.At.val (Value.int .i64 z))) (by have := so1 q; dsimp only; omega), rfl, trivial⟩ rfl ⟨ObLe.is_ rfl (by rw [List.length_set]), ObLe.as_ (by dsimp only; rw [sv, if_pos q, List.append_nil]), rfl, trivial⟩ V.S_ V.S_)
          | (have q : ¬ 0 < F.left (X.getD j default) := by assumption
             exact V.NBack.at_ (j + 1, X) [(15, 19)] (no q) (by dsimp only; omega) ⟨congrArg (fun z => V.SV.one (V.At.val (Value.int .i64 z))) (by dsimp only; omega), congrArg (fun z => V.SV.one (V.At.val (Value.int .i64 z))) (by have := so2 q; dsimp only; omega), rfl, trivial⟩ rfl ⟨ObLe.as_ rfl, ObLe.as_ (by dsimp only; rw [sv, if_neg q]), rfl, trivial⟩ V.S_ V.S_)
          | trace_state
      · obtain rfl : j = w.fs.length := by omega
        rw [List.take_length] at *
        have fin : ∀ p, p < (Cy.opn w.fs).length → ga encF X p = ga encF (Cy.opn w.fs) p := fun p hp => by
          have tk := hs.tk
          rw [List.take_length] at tk
          rw [← V.ga_take (l := X) (i := (Cy.opn w.fs).length) hp (by omega), tk]
        repeat' ((conv => whnf); first | (refine V.NIf.yes ?_ ?_; · (decide; done)) | (refine V.NIf.no ?_ ?_; · (decide; done)) | (refine V.NPick.r ?_; (conv => whnf); refine V.NPick.l ?_; (conv => whnf); refine NCut.mk ⟨(Cy.opn w.fs).length, X.length, rfl, rfl, by omega, by omega, ?_⟩; (conv => whnf); refine ⟨by omega, rfl, ?_⟩) | (refine V.NPick.r ?_; (conv => whnf); refine V.NPick.r ?_; (conv => whnf); refine NCut.mk ⟨0, (Cy.opn w.fs).length, rfl, rfl, by omega, by omega, ?_⟩; (conv => whnf); refine ⟨rfl, ?_⟩) | refine V.NCond.mk ?_ | refine V.NPick.l ?_ | refine V.NIf.not_ ?_ | refine V.NIf.dec_ ?_ | refine V.a4 ?_ | refine V.a5 ?_ | refine V.NIf.mk (fun _ => ?_) (fun _ => ?_) | refine V.a7 ?_ | refine V.a8 ?_ | refine V.a9 ?_ | refine V.NBoth.mk ?_ ?_ | refine V.b1 ?_ | refine V.b2 ?_ | refine V.NTF.dec ?_ | refine V.b3 ?_ | refine V.b4 ?_ | (refine V.NDraw.any (by kernel_rfl) ?_) | fail)
        all_goals (conv => whnf)
        all_goals exact V.er3 17 8 15 (h2 := ⟨⟨rfl, rfl, rfl, fun p hp => (if_pos hp).trans (fin p hp)⟩, ⟨rfl, rfl, rfl, fun _ _ => rfl⟩, ⟨rfl, rfl, rfl, fun _ _ => rfl⟩, trivial⟩)
    · obtain rfl : k = w.fs.length := by omega
      rw [List.take_length] at hJ
      obtain ⟨o1, o2⟩ := Cy.opn_all hJ
      rw [o1, o2]
      repeat' ((conv => whnf); first | (refine V.NIf.yes ?_ ?_; · (decide; done)) | (refine V.NIf.no ?_ ?_; · (decide; done)) | refine V.NCond.mk ?_ | refine V.NPick.l ?_ | refine V.NIf.not_ ?_ | refine V.NIf.dec_ ?_ | refine V.a4 ?_ | refine V.a5 ?_ | refine V.NIf.mk (fun _ => ?_) (fun _ => ?_) | refine V.a7 ?_ | refine V.a8 ?_ | refine V.a9 ?_ | refine V.NBoth.mk ?_ ?_ | refine V.b1 ?_ | refine V.b2 ?_ | refine V.NTF.dec ?_ | refine V.b3 ?_ | refine V.b4 ?_ | (refine V.NDraw.any (by kernel_rfl) ?_) | fail)
      all_goals (conv => whnf)
      all_goals first
        | exact V.er3 7 8 10 (h2 := ⟨⟨rfl, rfl, rfl, fun _ _ => rfl⟩, ⟨rfl, rfl, rfl, fun _ _ => rfl⟩, ⟨rfl, rfl, rfl, fun k hk => absurd hk (Nat.not_lt_zero _)⟩, trivial⟩)
        | trace_state
  · obtain ⟨t1, t2⟩ := Cy.ty_no hw
    rw [t1, t2]
    refine V.FnR.mk_ V.Tok V.mixed Tryz.func22 rfl Tryz.ntmps22 (by kernel_rfl) rfl rfl rfl rfl ?_
    repeat' ((conv => whnf); first | (refine V.NIf.yes ?_ ?_; · (decide; done)) | (refine V.NIf.no ?_ ?_; · (decide; done)) | refine V.NCond.mk ?_ | refine V.NPick.l ?_ | refine V.NIf.not_ ?_ | refine V.NIf.dec_ ?_ | refine V.a4 ?_ | refine V.a5 ?_ | refine V.NIf.mk (fun _ => ?_) (fun _ => ?_) | refine V.a7 ?_ | refine V.a8 ?_ | refine V.a9 ?_ | refine V.NBoth.mk ?_ ?_ | refine V.b1 ?_ | refine V.b2 ?_ | refine V.NTF.dec ?_ | refine V.b3 ?_ | refine V.b4 ?_ | ((first | refine V.Fn.k (cc) [0, 1] rfl ?_ ?_ | refine V.Fn.q (cc) [0, 1] rfl ?_ ?_ | refine V.Fn.a (cc) [0, 1] rfl ?_ ?_); · exact V.D_) | (refine V.NDraw.any (by kernel_rfl) ?_) | fail)
    all_goals (conv => whnf)
    all_goals first
      | exact V.er001 5
      | exact V.er001 6
      | exact V.er001 7
      | (exfalso; omega)
      | trace_state
end Go.Proofs.YtpanlcnoopmchaaGreat

namespace Go.Proofs.YtpanlcnoopmchaaGreat
open Go Go.RowKit V
end Go.Proofs.YtpanlcnoopmchaaGreat

namespace Go.Proofs.YtpanlcnoopmchaaGreat
open Go Go.RowKit V
set_option maxHeartbeats 4000000 in
theorem v_day (c : Cl) (t : List Tm) (l : List Fl) (ps : List Int) (n : Int) (hc : c.hs.length ≤ 9223372036854775807) (ht : t.length ≤ 9223372036854775807) (hp : ps.length ≤ 9223372036854775807) :
    V.FnR Tryz.prog 99 (penO c t l ps) [.agg [.val (.int .i64 c.we), .ref 0], .one (.ref 1), .one (.ref 2), .one (.ref 3), .one (.val (.int .i64 n))] (.tup [.one (.ref 4), .one (.val (.int .i64 (Pn.yD c t l ps n)))]) [.row 137 3 (Pn.yL c t l ps n).length (ga encD (Pn.yL c t l ps n))] := by
  refine V.FnR.mk_ V.Tok V.mixed Tryz.func99 rfl Tryz.ntmps99 (by kernel_rfl) rfl rfl rfl rfl ?_
  repeat' ((conv => whnf); first | refine V.NCond.mk ?_ | refine V.NPick.l ?_ | refine V.NIf.not_ ?_ | refine V.NIf.dec_ ?_ | refine V.a4 ?_ | refine V.a5 ?_ | refine V.NIf.mk (fun _ => ?_) (fun _ => ?_) | refine V.a7 ?_ | refine V.a8 ?_ | refine V.a9 ?_ | refine V.NBoth.mk ?_ ?_ | refine V.b1 ?_ | refine V.b2 ?_ | refine V.NTF.dec ?_ | refine V.b3 ?_ | refine V.b4 ?_ | (refine V.NCall.inl (f := 134) V.Tok V.mixed Tryz.func134 rfl Tryz.ntmps134 (by kernel_rfl) rfl ?_) | (refine V.NDraw.any (by kernel_rfl) ?_) | fail)
  all_goals (conv => whnf)
  refine V.NLoop.auto (fun (k : Nat) => [(8, .one (.val (.int .i64 k)))]) (fun (k : Nat) => []) [] [] (fun (k : Nat) => 5 - k) (fun (k : Nat) => k ≤ 5 ∧ (1 ≤ k → Ca.chk c = 0) ∧ (2 ≤ k → Pn.tE t = 0) ∧ (3 ≤ k → F.checks l = 0) ∧ (4 ≤ k → P.chks ps = 0) ∧ (5 ≤ k → Pn.oE c n = 0)) 0 ⟨by omega, by omega, by omega, by omega, by omega, by omega⟩ V.S_ V.S_ (fun _ => ⟨rfl, rfl⟩) ?_; (conv => whnf); refine ⟨⟨rfl, rfl⟩, ?_⟩
  rintro k ⟨hk, j1, j2, j3, j4, j5⟩
  have hk6 : k = 0 ∨ k = 1 ∨ k = 2 ∨ k = 3 ∨ k = 4 ∨ k = 5 := by omega
  rcases hk6 with rfl | rfl | rfl | rfl | rfl | rfl
  · repeat' ((conv => whnf); first | (refine V.NIf.yes ?_ ?_; · (simp; done)) | refine V.NCond.mk ?_ | refine V.NPick.l ?_ | refine V.NIf.not_ ?_ | refine V.NIf.dec_ ?_ | refine V.a4 ?_ | refine V.a5 ?_ | refine V.NIf.mk (fun _ => ?_) (fun _ => ?_) | refine V.a7 ?_ | refine V.a8 ?_ | refine V.a9 ?_ | refine V.NBoth.mk ?_ ?_ | refine V.b1 ?_ | refine V.b2 ?_ | refine V.NTF.dec ?_ | refine V.b3 ?_ | refine V.b4 ?_ | (refine NIdx.mk ⟨0, rfl, by simp, ?_⟩) | (refine V.NCall.inl (f := 135) V.Tok V.mixed Tryz.func135 rfl Tryz.ntmps135 (by kernel_rfl) rfl ?_) | ((first | refine V.Fn.k (v_caCheck c hc) [0] rfl ?_ ?_ | refine V.Fn.q (v_caCheck c hc) [0] rfl ?_ ?_ | refine V.Fn.a (v_caCheck c hc) [0] rfl ?_ ?_); · exact V.D_) | (refine V.NDraw.any (by kernel_rfl) ?_) | fail)
    all_goals (conv => whnf)
    · exact V.NBack.at_ 1 [] ⟨by omega, fun _ => by assumption, by omega, by omega, by omega, by omega⟩ (by omega) V.S_ rfl V.S_ V.S_ V.S_
    · have e := Pn.yE_1 (c := c) (t := t) (l := l) (ps := ps) (n := n)  (by assumption)
      have y := Pn.y_no (c := c) (t := t) (l := l) (ps := ps) (n := n) (by rw [e]; assumption)
      rw [y.1, y.2, e]
      (first | exact V.er 0 | exact V.er 1 | exact V.er 2 | exact V.er 3 | exact V.er 4 | exact V.er 5 | exact V.er 6 | exact V.er 7 | exact V.er 8 | exact V.er 9 | exact V.er 10 | exact V.er 11 | exact V.er 12 | exact V.er 13 | exact V.er 14 | exact V.er 15 | exact V.er 16 | exact V.er 17)
  · repeat' ((conv => whnf); first | (refine V.NIf.yes ?_ ?_; · (simp; done)) | refine V.NCond.mk ?_ | refine V.NPick.l ?_ | refine V.NIf.not_ ?_ | refine V.NIf.dec_ ?_ | refine V.a4 ?_ | refine V.a5 ?_ | refine V.NIf.mk (fun _ => ?_) (fun _ => ?_) | refine V.a7 ?_ | refine V.a8 ?_ | refine V.a9 ?_ | refine V.NBoth.mk ?_ ?_ | refine V.b1 ?_ | refine V.b2 ?_ | refine V.NTF.dec ?_ | refine V.b3 ?_ | refine V.b4 ?_ | (refine NIdx.mk ⟨1, rfl, by simp, ?_⟩) | (refine V.NCall.inl (f := 136) V.Tok V.mixed Tryz.func136 rfl Tryz.ntmps136 (by kernel_rfl) rfl ?_) | ((first | refine V.Fn.k (v_pterms t ht) [1] rfl ?_ ?_ | refine V.Fn.q (v_pterms t ht) [1] rfl ?_ ?_ | refine V.Fn.a (v_pterms t ht) [1] rfl ?_ ?_); · exact V.D_) | (refine V.NDraw.any (by kernel_rfl) ?_) | fail)
    all_goals (conv => whnf)
    · exact V.NBack.at_ 2 [] ⟨by omega, fun _ => j1 (by omega), fun _ => by assumption, by omega, by omega, by omega⟩ (by omega) V.S_ rfl V.S_ V.S_ V.S_
    · have e := Pn.yE_2 (c := c) (t := t) (l := l) (ps := ps) (n := n) (j1 (by omega)) (by assumption)
      have y := Pn.y_no (c := c) (t := t) (l := l) (ps := ps) (n := n) (by rw [e]; assumption)
      rw [y.1, y.2, e]
      (first | exact V.er 0 | exact V.er 1 | exact V.er 2 | exact V.er 3 | exact V.er 4 | exact V.er 5 | exact V.er 6 | exact V.er 7 | exact V.er 8 | exact V.er 9 | exact V.er 10 | exact V.er 11 | exact V.er 12 | exact V.er 13 | exact V.er 14 | exact V.er 15 | exact V.er 16 | exact V.er 17)
  · repeat' ((conv => whnf); first | (refine V.NIf.yes ?_ ?_; · (simp; done)) | refine V.NCond.mk ?_ | refine V.NPick.l ?_ | refine V.NIf.not_ ?_ | refine V.NIf.dec_ ?_ | refine V.a4 ?_ | refine V.a5 ?_ | refine V.NIf.mk (fun _ => ?_) (fun _ => ?_) | refine V.a7 ?_ | refine V.a8 ?_ | refine V.a9 ?_ | refine V.NBoth.mk ?_ ?_ | refine V.b1 ?_ | refine V.b2 ?_ | refine V.NTF.dec ?_ | refine V.b3 ?_ | refine V.b4 ?_ | (refine NIdx.mk ⟨2, rfl, by simp, ?_⟩) | (refine V.NCall.inl (f := 137) V.Tok V.mixed Tryz.func137 rfl Tryz.ntmps137 (by kernel_rfl) rfl ?_) | ((first | refine V.Fn.k (v_fchecks l) [2] rfl ?_ ?_ | refine V.Fn.q (v_fchecks l) [2] rfl ?_ ?_ | refine V.Fn.a (v_fchecks l) [2] rfl ?_ ?_); · exact V.D_) | (refine V.NDraw.any (by kernel_rfl) ?_) | fail)
    all_goals (conv => whnf)
    · exact V.NBack.at_ 3 [] ⟨by omega, fun _ => j1 (by omega), fun _ => j2 (by omega), fun _ => by assumption, by omega, by omega⟩ (by omega) V.S_ rfl V.S_ V.S_ V.S_
    · have e := Pn.yE_3 (c := c) (t := t) (l := l) (ps := ps) (n := n) (j1 (by omega)) (j2 (by omega)) (by assumption)
      have y := Pn.y_no (c := c) (t := t) (l := l) (ps := ps) (n := n) (by rw [e]; assumption)
      rw [y.1, y.2, e]
      (first | exact V.er 0 | exact V.er 1 | exact V.er 2 | exact V.er 3 | exact V.er 4 | exact V.er 5 | exact V.er 6 | exact V.er 7 | exact V.er 8 | exact V.er 9 | exact V.er 10 | exact V.er 11 | exact V.er 12 | exact V.er 13 | exact V.er 14 | exact V.er 15 | exact V.er 16 | exact V.er 17)
  · repeat' ((conv => whnf); first | (refine V.NIf.yes ?_ ?_; · (simp; done)) | refine V.NCond.mk ?_ | refine V.NPick.l ?_ | refine V.NIf.not_ ?_ | refine V.NIf.dec_ ?_ | refine V.a4 ?_ | refine V.a5 ?_ | refine V.NIf.mk (fun _ => ?_) (fun _ => ?_) | refine V.a7 ?_ | refine V.a8 ?_ | refine V.a9 ?_ | refine V.NBoth.mk ?_ ?_ | refine V.b1 ?_ | refine V.b2 ?_ | refine V.NTF.dec ?_ | refine V.b3 ?_ | refine V.b4 ?_ | (refine NIdx.mk ⟨3, rfl, by simp, ?_⟩) | (refine V.NCall.inl (f := 138) V.Tok V.mixed Tryz.func138 rfl Tryz.ntmps138 (by kernel_rfl) rfl ?_) | ((first | refine V.Fn.k (v_prices ps hp) [3] rfl ?_ ?_ | refine V.Fn.q (v_prices ps hp) [3] rfl ?_ ?_ | refine V.Fn.a (v_prices ps hp) [3] rfl ?_ ?_); · exact V.D_) | (refine V.NDraw.any (by kernel_rfl) ?_) | fail)
    all_goals (conv => whnf)
    · exact V.NBack.at_ 4 [] ⟨by omega, fun _ => j1 (by omega), fun _ => j2 (by omega), fun _ => j3 (by omega), fun _ => by assumption, by omega⟩ (by omega) V.S_ rfl V.S_ V.S_ V.S_
    · have e := Pn.yE_4 (c := c) (t := t) (l := l) (ps := ps) (n := n) (j1 (by omega)) (j2 (by omega)) (j3 (by omega)) (by assumption)
      have y := Pn.y_no (c := c) (t := t) (l := l) (ps := ps) (n := n) (by rw [e]; assumption)
      rw [y.1, y.2, e]
      (first | exact V.er 0 | exact V.er 1 | exact V.er 2 | exact V.er 3 | exact V.er 4 | exact V.er 5 | exact V.er 6 | exact V.er 7 | exact V.er 8 | exact V.er 9 | exact V.er 10 | exact V.er 11 | exact V.er 12 | exact V.er 13 | exact V.er 14 | exact V.er 15 | exact V.er 16 | exact V.er 17)
  · repeat' ((conv => whnf); first | (refine V.NIf.yes ?_ ?_; · (simp; done)) | refine V.NCond.mk ?_ | refine V.NPick.l ?_ | refine V.NIf.not_ ?_ | refine V.NIf.dec_ ?_ | refine V.a4 ?_ | refine V.a5 ?_ | refine V.NIf.mk (fun _ => ?_) (fun _ => ?_) | refine V.a7 ?_ | refine V.a8 ?_ | refine V.a9 ?_ | refine V.NBoth.mk ?_ ?_ | refine V.b1 ?_ | refine V.b2 ?_ | refine V.NTF.dec ?_ | refine V.b3 ?_ | refine V.b4 ?_ | (refine NIdx.mk ⟨4, rfl, by simp, ?_⟩) | (refine V.NCall.inl (f := 139) V.Tok V.mixed Tryz.func139 rfl Tryz.ntmps139 (by kernel_rfl) rfl ?_) | ((first | refine V.Fn.k (v_popen c n hc) [0] rfl ?_ ?_ | refine V.Fn.q (v_popen c n hc) [0] rfl ?_ ?_ | refine V.Fn.a (v_popen c n hc) [0] rfl ?_ ?_); · exact V.D_) | (refine V.NDraw.any (by kernel_rfl) ?_) | fail)
    all_goals (conv => whnf)
    · exact V.NBack.at_ 5 [] ⟨by omega, fun _ => j1 (by omega), fun _ => j2 (by omega), fun _ => j3 (by omega), fun _ => j4 (by omega), fun _ => by assumption⟩ (by omega) V.S_ rfl V.S_ V.S_ V.S_
    · have e := Pn.yE_5 (c := c) (t := t) (l := l) (ps := ps) (n := n) (j1 (by omega)) (j2 (by omega)) (j3 (by omega)) (j4 (by omega))
      have y := Pn.y_no (c := c) (t := t) (l := l) (ps := ps) (n := n) (by rw [e]; assumption)
      rw [y.1, y.2, e]
      (first | exact V.er 0 | exact V.er 1 | exact V.er 2 | exact V.er 3 | exact V.er 4 | exact V.er 5 | exact V.er 6 | exact V.er 7 | exact V.er 8 | exact V.er 9 | exact V.er 10 | exact V.er 11 | exact V.er 12 | exact V.er 13 | exact V.er 14 | exact V.er 15 | exact V.er 16 | exact V.er 17)
  repeat' ((conv => whnf); first | (refine V.NIf.no ?_ ?_; · (simp; done)) | refine V.NCond.mk ?_ | refine V.NPick.l ?_ | refine V.NIf.not_ ?_ | refine V.NIf.dec_ ?_ | refine V.a4 ?_ | refine V.a5 ?_ | refine V.NIf.mk (fun _ => ?_) (fun _ => ?_) | refine V.a7 ?_ | refine V.a8 ?_ | refine V.a9 ?_ | refine V.NBoth.mk ?_ ?_ | refine V.b1 ?_ | refine V.b2 ?_ | refine V.NTF.dec ?_ | refine V.b3 ?_ | refine V.b4 ?_ | (refine V.NDraw.any (by kernel_rfl) ?_) | fail)
  all_goals (conv => whnf)
  have hR : Pn.Right c t l ps n := ⟨j1 (by omega), j2 (by omega), j3 (by omega), j4 (by omega), j5 (by omega)⟩
  have l60 := F.checks_len (l := l) (by have := hR.kl; omega)
  refine V.NLoop.auto (fun (k : Nat) => [(31, .one (.val (.int .i64 k))), (13, .one (.ref 11))]) (fun (k : Nat) => [(11, .row 137 3 (Pn.dus c t ps n (l.take k)).length (ga encD (Pn.dus c t ps n (l.take k))))]) [] [] (fun (k : Nat) => l.length - k) (fun (k : Nat) => k ≤ l.length ∧ ∀ f ∈ l.take k, Pn.eF c t n f = 0) 0 ⟨by omega, by simp⟩ V.S_ V.S_ (fun _ => ⟨rfl, rfl⟩) ?_; (conv => whnf); refine ⟨⟨rfl, rfl⟩, ?_⟩
  rintro k ⟨hk, hJ⟩
  by_cases hlt : k < l.length
  · have hf : F.Ok (l.getD k default) := Pn.all_ok hR.kl _ (getD_mem hlt)
    obtain ⟨ht6, htw⟩ := Pn.tE_ok hR.kt
    obtain ⟨hp20, _⟩ := P.chks_ok hR.kp
    have qk := Pn.qF_ok hR.kt hR.kp hf
    have qd := Pn.d_yes qk
    have dl := Pn.dus_len c t ps n (l.take k)
    have ds := Pn.dus_snoc (c := c) (t := t) (ps := ps) (n := n) hlt
    rw [List.length_take] at dl
    obtain ⟨⟨_, _, _, hcl, hpa, _⟩, _⟩ := id hf
    have qv : Pn.dV (F.left (l.getD k default)) (ps.getD ((l.getD k default).pa - 1).toNat default) (t.getD (l.getD k default).cl.toNat default).ra = Pn.qF t ps (l.getD k default) := qd.2
    have qe : Pn.dE (F.left (l.getD k default)) (ps.getD ((l.getD k default).pa - 1).toNat default) (t.getD (l.getD k default).cl.toNat default).ra = 0 := qd.1
    repeat' ((conv => whnf); first | (refine NApp.one (en := encD) (l := Pn.dus c t ps n (l.take k)) (x := ⟨(l.getD k default).fr, (l.getD k default).to, Pn.dV (F.left (l.getD k default)) (ps.getD ((l.getD k default).pa - 1).toNat default) (t.getD (l.getD k default).cl.toNat default).ra⟩) (by simp; omega) (by simp; omega) ?_) | refine V.NCond.mk ?_ | refine V.NPick.l ?_ | refine V.NIf.not_ ?_ | refine V.NIf.dec_ ?_ | refine V.a4 ?_ | refine V.a5 ?_ | refine V.NIf.mk (fun _ => ?_) (fun _ => ?_) | refine V.a7 ?_ | refine V.a8 ?_ | refine V.a9 ?_ | refine V.NBoth.mk ?_ ?_ | refine V.b1 ?_ | refine V.b2 ?_ | refine V.NTF.dec ?_ | refine V.b3 ?_ | refine V.b4 ?_ | (refine NIdx.mk ⟨_, rfl, by omega, ?_⟩) | (refine NIdx.mk ⟨(l.getD k default).cl.toNat, by omega, by omega, ?_⟩) | (refine NIdx.mk ⟨((l.getD k default).pa - 1).toNat, by omega, by omega, ?_⟩) | ((first | refine V.Fn.k (v_agStage c (Pn.cl t (l.getD k default)) (l.getD k default) n hc) [0] rfl ?_ ?_ | refine V.Fn.q (v_agStage c (Pn.cl t (l.getD k default)) (l.getD k default) n hc) [0] rfl ?_ ?_ | refine V.Fn.a (v_agStage c (Pn.cl t (l.getD k default)) (l.getD k default) n hc) [0] rfl ?_ ?_); · exact V.D_) | (first | refine V.Fn.k0 (v_fleft (l.getD k default) hf) rfl ?_ | refine V.Fn.q0 (v_fleft (l.getD k default) hf) rfl ?_ | refine V.Fn.a0 (v_fleft (l.getD k default) hf) rfl ?_) | (first | refine V.Fn.k0 (v_daily _ _ _) rfl ?_ | refine V.Fn.q0 (v_daily _ _ _) rfl ?_ | refine V.Fn.a0 (v_daily _ _ _) rfl ?_) | (refine V.NDraw.any (by kernel_rfl) ?_) | fail)
    all_goals (conv => whnf)
    · exact V.NBack.at_ (k + 1) [] ⟨by omega, all_snoc hlt hJ (by assumption)⟩ (by omega) V.S_ rfl ⟨ObLe.as_ (ds.trans (by rw [Pn.du1_no (fun z => absurd (by assumption) z.1.1), List.append_nil])), trivial⟩ V.S_ V.S_
    · exact V.NBack.at_ (k + 1) [] ⟨by omega, all_snoc hlt hJ (by assumption)⟩ (by omega) V.S_ rfl ⟨ObLe.as_ (ds.trans (by rw [Pn.du1_no (fun z => absurd (by assumption) z.1.2), List.append_nil])), trivial⟩ V.S_ V.S_
    · rename_i g1 g2 g3 g4 g5
      exact V.NBack.at_ (k + 1) [(11, 14)] ⟨by omega, all_snoc hlt hJ (by assumption)⟩ (by omega) V.S_ rfl ⟨ObLe.as_ (ds.trans (by rw [Pn.du1_yes ⟨by assumption, by assumption⟩ (by rw [← qv]; exact g5), qv])), trivial⟩ V.S_ V.S_
    · rename_i g1 g2 g3 g4 g5
      exact V.NBack.at_ (k + 1) [] ⟨by omega, all_snoc hlt hJ (by assumption)⟩ (by omega) V.S_ rfl ⟨ObLe.as_ (ds.trans (by rw [Pn.du1_no (fun z => g5 (by rw [qv]; exact z.2)), List.append_nil])), trivial⟩ V.S_ V.S_
    · have e := fb_get (f := Pn.eF c t n) hlt hJ (by assumption)
      have y := Pn.y_bad (c := c) (t := t) (l := l) (ps := ps) (n := n) (Pn.yE_of hR) (by rw [e]; assumption)
      rw [y.1, y.2, e]
      (first | exact V.er 0 | exact V.er 1 | exact V.er 2 | exact V.er 3 | exact V.er 4 | exact V.er 5 | exact V.er 6 | exact V.er 7 | exact V.er 8 | exact V.er 9 | exact V.er 10 | exact V.er 11 | exact V.er 12 | exact V.er 13 | exact V.er 14 | exact V.er 15 | exact V.er 16 | exact V.er 17)
  obtain rfl : k = l.length := by omega
  have y := Pn.y_yes (c := c) (t := t) (l := l) (ps := ps) (n := n) (Pn.yE_of hR) (fb_end (by omega) hJ)
  rw [y.1, y.2]
  rw [show l.take l.length = l from List.take_length]
  repeat' ((conv => whnf); first | refine V.NCond.mk ?_ | refine V.NPick.l ?_ | refine V.NIf.not_ ?_ | refine V.NIf.dec_ ?_ | refine V.a4 ?_ | refine V.a5 ?_ | refine V.NIf.mk (fun _ => ?_) (fun _ => ?_) | refine V.a7 ?_ | refine V.a8 ?_ | refine V.a9 ?_ | refine V.NBoth.mk ?_ ?_ | refine V.b1 ?_ | refine V.b2 ?_ | refine V.NTF.dec ?_ | refine V.b3 ?_ | refine V.b4 ?_ | (refine V.NDraw.any (by kernel_rfl) ?_) | fail)
  all_goals (conv => whnf)
  (first | exact V.erf 0 | exact V.erf 1 | exact V.erf 2 | exact V.erf 3 | exact V.erf 4 | exact V.erf 5 | exact V.erf 6 | exact V.erf 7 | exact V.erf 8 | exact V.erf 9 | exact V.erf 10 | exact V.erf 11 | exact V.erf 12 | exact V.erf 13 | exact V.erf 14 | exact V.erf 15 | exact V.erf 16 | exact V.erf 17)
end Go.Proofs.YtpanlcnoopmchaaGreat

namespace Go.Proofs.YtpanlcnoopmchaaGreat
open Go Go.RowKit V
abbrev nightO (c : Cl) (t : List Tm) (w : Wd) (pr : List Int) : List Ob := [.arr 1 c.hs.length (ga e1 c.hs), .arr 4 t.length (ga encTm t), .arr 10 w.fs.length (ga encF w.fs), .arr 3 w.bk.length (ga encP w.bk), .arr 1 pr.length (ga e1 pr)]
abbrev ruV (c : Cl) (x : Int) : SV := .agg [.val (.int .i64 c.we), .ref 0, .ref 1, .val (.int .i64 x)]
theorem v_cyOwn (w : Wd) (h1 : w.fs.length ≤ 1759218604390) (h2 : w.bk.length ≤ 5864062014634) : V.FnR Tryz.prog 37 [.arr 10 w.fs.length (ga encF w.fs), .arr 3 w.bk.length (ga encP w.bk)] [.agg [.val (.int .i64 w.td), .ref 0, .ref 1]] (.agg [.val (.int .i64 w.td), .ref 2, .ref 3]) [.row 42 10 w.fs.length (ga encF w.fs), .row 65 3 w.bk.length (ga encP w.bk)] := by
  refine V.FnR.mk_ V.Tok V.mixed Tryz.func37 rfl Tryz.ntmps37 (by kernel_rfl) rfl rfl rfl rfl ?_
  repeat' ((conv => whnf); first | refine V.NCond.mk ?_ | refine V.NPick.l ?_ | refine V.NIf.not_ ?_ | refine V.NIf.dec_ ?_ | refine V.a4 ?_ | refine V.a5 ?_ | refine V.NIf.mk (fun _ => ?_) (fun _ => ?_) | refine V.a7 ?_ | refine V.a8 ?_ | refine V.a9 ?_ | refine V.NBoth.mk ?_ ?_ | refine V.b1 ?_ | refine V.b2 ?_ | refine V.NTF.dec ?_ | refine V.b3 ?_ | refine V.b4 ?_ | ((first | refine V.FnR.k_ (v_cloneF w.fs h1) [0] rfl ?_ ?_ | refine V.FnR.a_ (v_cloneF w.fs h1) [0] rfl ?_ ?_); · exact V.D_) | ((first | refine V.FnR.k_ (v_cloneP w.bk h2) [1] rfl ?_ ?_ | refine V.FnR.a_ (v_cloneP w.bk h2) [1] rfl ?_ ?_); · exact V.D_) | (refine V.NDraw.any (by kernel_rfl) ?_) | fail)
  all_goals (conv => whnf)
  all_goals first
    | exact V.er2 4 5
    | exact V.er2 5 4
    | trace_state
set_option maxHeartbeats 8000000 in
theorem v_night_b (c : Cl) (t : List Tm) (x : Int) (w : Wd) (pr : List Int) (hc : c.hs.length ≤ 9223372036854775807) (ht : t.length ≤ 9223372036854775807) (hb : w.bk.length ≤ 9223372036854775807) (hp : pr.length ≤ 9223372036854775807)
    (h0 : (Cy.s0 c t x w pr).e = 0) (hS : ¬ (Pn.suL (Cy.du c t w pr)).length = 0) :
    V.FnR Tryz.prog 11 (nightO c t w pr) [ruV c x, .agg [.val (.int .i64 w.td), .ref 2, .ref 3], .one (.ref 4)] (.tup [.agg [.val (.int .i64 (Cy.nW c t x w pr).td), .ref 5, .ref 6], .one (.ref 7), .one (.val (.int .i64 (Cy.nE c t x w pr)))]) [.row 42 10 (Cy.nW c t x w pr).fs.length (ga encF (Cy.nW c t x w pr).fs), .row 65 3 (Cy.nW c t x w pr).bk.length (ga encP (Cy.nW c t x w pr).bk), .row 65 3 (Cy.nP c t x w pr).length (ga encP (Cy.nP c t x w pr))] := by
  obtain ⟨b0, p0, s0⟩ := Cy.s0_ok h0
  obtain ⟨r0, w0, k0, o0, y0⟩ := Cy.nB_ok b0
  obtain ⟨n60, n400⟩ := Cy.wE_len w0
  have cR := v_cyRules c t x hc ht
  rw [r0] at cR
  have cW := v_cyCheck w hb
  rw [w0] at cW
  have cP := v_prices pr hp
  rw [k0] at cP
  have cI := v_caIs c w.td hc
  obtain ⟨i0, _, q5, hbl, hou, hbk, hps⟩ := Cy.night_ok h0
  obtain ⟨e5, pE0⟩ := q5 hS
  rw [i0] at cI
  have cD := v_day c t w.fs pr w.td hc ht hp
  rw [y0, show Pn.yL c t w.fs pr w.td = Cy.du c t w pr from rfl] at cD
  have cS := v_psum (Cy.du c t w pr) (by have := Pn.yL_len c t w.fs pr w.td; unfold Cy.du; omega)
  rw [e5] at cS
  have sl : (Pn.suL (Cy.du c t w pr)).length ≤ 31 := by
    unfold Pn.suL
    split
    all_goals first | exact Pn.pos_len _ _ | exact Nat.zero_le _
  have cB := v_bkPost w.bk (Pn.suL (Cy.du c t w pr)) hb (by omega)
  rw [pE0] at cB
  have kc := (Cy.rE_ok r0).1
  obtain ⟨ht6, htw⟩ := Pn.tE_ok (Cy.rE_ok r0).2.1
  obtain ⟨hp20, _⟩ := P.chks_ok k0
  obtain ⟨_, hx, _⟩ := Cy.wE_ok w0
  have ok := Pn.all_ok hx
  obtain ⟨_, ef, _⟩ := Pn.y_ok y0
  have st0 := Cy.NJ.start (c := c) (t := t) (x := x) (pr := pr) (td := w.td) (fs := w.fs) hbl hou h0
  have res1 := fun z => @Cy.n_err c t x w pr z
  have res2 := fun z z' => @Cy.n_end c t x w pr z z'
  have res3 := fun z z' => @Cy.n_yes c t x w pr z z'
  rw [show Cy.s1 c t x w pr = Cy.run c t x pr w.td (Cy.s0 c t x w pr) w.fs from rfl] at res1 res2 res3
  have hbk1 : (Cy.s0 c t x w pr).bk = Bk.pL w.bk (Pn.suL (Cy.du c t w pr)) := hbk.trans (if_neg hS)
  rw [hbk1, hps] at st0
  have hsp : (Cy.s0 c t x w pr).ps.length ≤ 31 := by rw [hps]; exact sl
  clear b0 p0 s0 r0 w0 k0 o0 y0 h0 q5 i0 e5 pE0 hbl hou hbk hps hbk1
  generalize Cy.s0 c t x w pr = S0 at *
  generalize Pn.suL (Cy.du c t w pr) = S at *
  generalize Cy.du c t w pr = D at *
  generalize Bk.pL w.bk S = B1 at *
  have cT := v_caStep c w.td 1 hc
  generalize Cy.nE c t x w pr = NE at *
  generalize Cy.nW c t x w pr = NW at *
  generalize Cy.nP c t x w pr = NP at *
  refine V.FnR.mk_ V.Tok V.mixed Tryz.func11 rfl Tryz.ntmps11 (by kernel_rfl) rfl rfl rfl rfl ?_
  repeat' ((conv => whnf); first | (refine V.NDraw.any (by kernel_rfl) ?_) | (refine V.NIf.yes ?_ ?_; · (decide; done)) | (refine V.NIf.no ?_ ?_; · (decide; done)) | refine V.NCond.mk ?_ | refine V.NPick.l ?_ | refine V.NIf.not_ ?_ | refine V.NIf.dec_ ?_ | refine V.a4 ?_ | refine V.a5 ?_ | refine V.NIf.mk (fun _ => ?_) (fun _ => ?_) | refine V.a7 ?_ | refine V.a8 ?_ | refine V.a9 ?_ | refine V.NBoth.mk ?_ ?_ | refine V.b1 ?_ | refine V.b2 ?_ | refine V.NTF.dec ?_ | refine V.b3 ?_ | refine V.b4 ?_ | ((first | refine V.FnR.k_ (v_cyOwn w (by omega) (by omega)) [2, 3] rfl ?_ ?_ | refine V.FnR.a_ (v_cyOwn w (by omega) (by omega)) [2, 3] rfl ?_ ?_); · exact V.D_) | ((first | refine V.Fn.k (cR) [0, 1] rfl ?_ ?_ | refine V.Fn.q (cR) [0, 1] rfl ?_ ?_ | refine V.Fn.a (cR) [0, 1] rfl ?_ ?_); · exact V.D_) | ((first | refine V.Fn.k (cW) [2, 3] rfl ?_ ?_ | refine V.Fn.q (cW) [2, 3] rfl ?_ ?_ | refine V.Fn.a (cW) [2, 3] rfl ?_ ?_); · exact V.D_) | ((first | refine V.Fn.k (cP) [4] rfl ?_ ?_ | refine V.Fn.q (cP) [4] rfl ?_ ?_ | refine V.Fn.a (cP) [4] rfl ?_ ?_); · exact V.D_) | ((first | refine V.Fn.k (cI) [0] rfl ?_ ?_ | refine V.Fn.q (cI) [0] rfl ?_ ?_ | refine V.Fn.a (cI) [0] rfl ?_ ?_); · exact V.D_) | (refine V.NCall.inl (f := 38) V.Tok V.mixed Tryz.func38 rfl Tryz.ntmps38 (by kernel_rfl) rfl ?_) | (refine V.NCall.inl (f := 41) V.Tok V.mixed Tryz.func41 rfl Tryz.ntmps41 (by kernel_rfl) rfl ?_) | (refine V.NCall.inl (f := 67) V.Tok V.mixed Tryz.func67 rfl Tryz.ntmps67 (by kernel_rfl) rfl ?_) | ((first | refine V.FnR.k_ (cD) [0, 1, 9, 4] rfl ?_ ?_ | refine V.FnR.a_ (cD) [0, 1, 9, 4] rfl ?_ ?_); · exact V.D_) | ((first | refine V.FnR.k_ (cS) [12] rfl ?_ ?_ | refine V.FnR.a_ (cS) [12] rfl ?_ ?_); · exact V.D_) | ((first | refine V.FnR.k_ (cB) [10, 13] rfl ?_ ?_ | refine V.FnR.a_ (cB) [10, 13] rfl ?_ ?_); · exact V.D_) | (refine NOne.mk ?_ ?_; · (intro k hk; rfl)) | (refine NApp.all_ (by first | omega | (simp; omega)) (by omega) ?_) | (refine V.NDraw.any (by kernel_rfl) ?_) | fail)
  all_goals (conv => whnf)
  clear cR cW cP cI cD cS cB
  refine V.NLoop.auto (fun (s : Nat × List Fl × List Po × List Po × Int) => [(62, .one (.val (.int .i64 s.1)))]) (fun (s : Nat × List Fl × List Po × List Po × Int) => [(9, .row 42 10 s.2.1.length (ga encF s.2.1)), (14, .row 65 3 s.2.2.1.length (ga encP s.2.2.1)), (15, .row 65 3 s.2.2.2.1.length (ga encP s.2.2.2.1)), (11, .box 73 [.val (.int .i64 w.td), .ref 9, .ref 14, .val (.int .i64 c.we), .ref 0, .ref 1, .val (.int .i64 x), .ref 15, .val (.int .i64 s.2.2.2.2)])]) [] [] (fun (s : Nat × List Fl × List Po × List Po × Int) => w.fs.length - s.1) (fun (s : Nat × List Fl × List Po × List Po × Int) => Cy.NJ c t x pr w.td S0 w.fs s.1 s.2.1 s.2.2.1 s.2.2.2.1 s.2.2.2.2) (0, w.fs, B1, S, 0) st0 V.S_ V.S_ (fun _ => ⟨rfl, rfl⟩) ?_; (conv => whnf); refine ⟨⟨rfl, rfl⟩, ?_⟩
  rintro s hs
  generalize s.1 = k at *
  generalize s.2.1 = X at *
  generalize s.2.2.1 = b at *
  generalize s.2.2.2.1 = p at *
  generalize s.2.2.2.2 = e at *
  have xl := hs.xl
  have kl := hs.le
  by_cases hlt : k < w.fs.length
  · by_cases he : e = 0
    · subst he
      have o2 := (hs.ok rfl).2 k (Nat.le_refl _) hlt
      have o : F.Ok (X.getD k default) := by rw [o2]; exact ok _ (getD_mem hlt)
      obtain ⟨⟨_, _, _, hcl, hpa, _⟩, _⟩ := id o
      have sE : Ag.sE c (Pn.cl t (X.getD k default)) (X.getD k default) w.td = 0 := by rw [o2]; exact ef _ (getD_mem hlt)
      have cst := v_agStage c (Pn.cl t (X.getD k default)) (X.getD k default) w.td hc
      rw [sE, Ag.sV_yes sE] at cst
      have n1 := hs.s1 hlt
      have n2 := hs.s2 hlt
      have n3 := hs.s3 hlt
      have n4 := hs.s4 hlt
      have n5 := hs.s5 hlt
      have bl := hs.bl
      have pl := hs.pl
      rw [show P.pr pr (X.getD k default).pa = pr.getD ((X.getD k default).pa - 1).toNat default from rfl] at n2 n3 n4 n5
      have l2 := Cy.pL_len (X.getD k default) (pr.getD ((X.getD k default).pa - 1).toNat default) x
      have cpy := v_cpPay (X.getD k default) (pr.getD ((X.getD k default).pa - 1).toNat default) x
      have cbp := v_bkPost b (Cp.pL (X.getD k default) (pr.getD ((X.getD k default).pa - 1).toNat default) x) (by omega) (by omega)
      have bl2 : (Bk.pL b (Cp.pL (X.getD k default) (pr.getD ((X.getD k default).pa - 1).toNat default) x)).length ≤ 2121 := by
        unfold Bk.pL
        split
        · exact Bk.out_len _ _
        · exact Nat.zero_le _
      clear hs res1 res2 res3 cT st0 sE o2 ef ok o
      generalize Ag.stg c (Pn.cl t (X.getD k default)) (X.getD k default) w.td = G at *
      generalize Bk.pE b (Cp.pL (X.getD k default) (pr.getD ((X.getD k default).pa - 1).toNat default) x) = BE at *
      generalize Bk.pL b (Cp.pL (X.getD k default) (pr.getD ((X.getD k default).pa - 1).toNat default) x) = BL at *
      generalize Cp.pE (X.getD k default) (pr.getD ((X.getD k default).pa - 1).toNat default) x = PE at *
      generalize Cp.pL (X.getD k default) (pr.getD ((X.getD k default).pa - 1).toNat default) x = PL at *
      generalize hPF : Cp.pF (X.getD k default) (pr.getD ((X.getD k default).pa - 1).toNat default) x = PF at *
      clear hPF
      repeat' ((conv => whnf); first | (refine V.NDraw.any (by kernel_rfl) ?_) | (refine V.NIf.yes ?_ ?_; · (decide; done)) | (refine V.NIf.no ?_ ?_; · (decide; done)) | refine V.NCond.mk ?_ | refine V.NPick.l ?_ | refine V.NIf.not_ ?_ | refine V.NIf.dec_ ?_ | refine V.a4 ?_ | refine V.a5 ?_ | refine V.NIf.mk (fun _ => ?_) (fun _ => ?_) | refine V.a7 ?_ | refine V.a8 ?_ | refine V.a9 ?_ | refine V.NBoth.mk ?_ ?_ | refine V.b1 ?_ | refine V.b2 ?_ | refine V.NTF.dec ?_ | refine V.b3 ?_ | refine V.b4 ?_ | (refine V.NCall.inl (f := 42) V.Tok V.mixed Tryz.func42 rfl Tryz.ntmps42 (by kernel_rfl) rfl ?_) | (refine V.NCall.inl (f := 38) V.Tok V.mixed Tryz.func38 rfl Tryz.ntmps38 (by kernel_rfl) rfl ?_) | (refine V.NCall.inl (f := 67) V.Tok V.mixed Tryz.func67 rfl Tryz.ntmps67 (by kernel_rfl) rfl ?_) | (refine NIdx.mk ⟨k, rfl, by omega, ?_⟩) | (refine NIdx.mk ⟨(X.getD k default).cl.toNat, by omega, by omega, ?_⟩) | (refine NIdx.mk ⟨((X.getD k default).pa - 1).toNat, by omega, by omega, ?_⟩) | ((first | refine V.Fn.k (cst) [0] rfl ?_ ?_ | refine V.Fn.q (cst) [0] rfl ?_ ?_ | refine V.Fn.a (cst) [0] rfl ?_ ?_); · exact V.D_) | (first | refine V.FnR.k0 (cpy) rfl ?_ | refine V.FnR.a0 (cpy) rfl ?_) | (refine NPut.to (en := encF) PF rfl rfl ?_) | ((first | refine V.FnR.k_ (cbp) [14, 17] rfl ?_ ?_ | refine V.FnR.a_ (cbp) [14, 17] rfl ?_ ?_); · exact V.D_) | ((first | refine V.FnR.k_ (cbp) [14, 18] rfl ?_ ?_ | refine V.FnR.a_ (cbp) [14, 18] rfl ?_ ?_); · exact V.D_) | (refine NOne.mk ?_ ?_; · (intro k hk; rfl)) | (refine NApp.list (by first | omega | (simp; omega)) (by omega) ?_) | (refine V.NDraw.any (by kernel_rfl) ?_) | fail)
      all_goals (conv => whnf)
      all_goals first
        | exact V.NBack.at_ (k + 1, X, b, p, 0) [] (n1 (by assumption)) (by dsimp only; omega) V.S_ rfl ⟨ObLe.as_ rfl, ObLe.as_ rfl, ObLe.as_ rfl, rfl, trivial⟩ V.S_ V.S_
        | exact V.NBack.at_ (k + 1, X, b, p, PE) [] (n2 (by assumption) (by assumption)) (by dsimp only; omega) V.S_ rfl ⟨ObLe.as_ rfl, ObLe.as_ rfl, ObLe.as_ rfl, rfl, trivial⟩ V.S_ V.S_
        | (obtain rfl : PE = 0 := by assumption
           exact V.NBack.at_ (k + 1, X.set k PF, b, p, 0) [] (n3 (by assumption) rfl (by omega)) (by dsimp only; omega) V.S_ rfl ⟨ObLe.is_ rfl (by rw [List.length_set]), ObLe.as_ rfl, ObLe.as_ rfl, rfl, trivial⟩ V.S_ V.S_)
        | (obtain rfl : PE = 0 := by assumption
           exact V.NBack.at_ (k + 1, X.set k PF, b, p, BE) [] (n4 (by assumption) rfl (by omega) (by assumption)) (by dsimp only; omega) V.S_ rfl ⟨ObLe.is_ rfl (by rw [List.length_set]), ObLe.as_ rfl, ObLe.as_ rfl, rfl, trivial⟩ V.S_ V.S_)
        | (obtain rfl : PE = 0 := by assumption
           obtain rfl : BE = 0 := by assumption
           exact V.NBack.at_ (k + 1, X.set k PF, BL, p ++ PL, 0) [(14, 19), (15, 20)] (n5 (by assumption) rfl (by omega) rfl) (by dsimp only; omega) V.S_ rfl ⟨ObLe.is_ rfl (by rw [List.length_set]), ObLe.as_ rfl, ObLe.as_ rfl, rfl, trivial⟩ V.S_ V.S_)
        | trace_state
    · have hs' := hs.skip hlt he
      repeat' ((conv => whnf); first | (refine V.NIf.no ?_ ?_; · (assumption; done)) | refine V.NCond.mk ?_ | refine V.NPick.l ?_ | refine V.NIf.not_ ?_ | refine V.NIf.dec_ ?_ | refine V.a4 ?_ | refine V.a5 ?_ | refine V.NIf.mk (fun _ => ?_) (fun _ => ?_) | refine V.a7 ?_ | refine V.a8 ?_ | refine V.a9 ?_ | refine V.NBoth.mk ?_ ?_ | refine V.b1 ?_ | refine V.b2 ?_ | refine V.NTF.dec ?_ | refine V.b3 ?_ | refine V.b4 ?_ | (refine V.NDraw.any (by kernel_rfl) ?_) | fail)
      all_goals (conv => whnf)
      all_goals exact V.NBack.at_ (k + 1, X, b, p, e) [] hs' (by dsimp only; omega) V.S_ rfl ⟨ObLe.as_ rfl, ObLe.as_ rfl, ObLe.as_ rfl, rfl, trivial⟩ V.S_ V.S_
  · obtain rfl : k = w.fs.length := by omega
    obtain ⟨f1, f2⟩ := hs.fin
    by_cases he : e = 0
    · subst he
      have f3 := f2 rfl
      by_cases hT : Ca.sE c w.td 1 = 0
      · obtain ⟨r1, r2, r3⟩ := res3 f1 hT
        rw [f3] at r2 r3
        rw [r1, r2, r3]
        rw [hT] at cT
        repeat' ((conv => whnf); first | (refine V.NIf.yes ?_ ?_; · (decide; done)) | (refine V.NIf.no ?_ ?_; · (decide; done)) | refine V.NCond.mk ?_ | refine V.NPick.l ?_ | refine V.NIf.not_ ?_ | refine V.NIf.dec_ ?_ | refine V.a4 ?_ | refine V.a5 ?_ | refine V.NIf.mk (fun _ => ?_) (fun _ => ?_) | refine V.a7 ?_ | refine V.a8 ?_ | refine V.a9 ?_ | refine V.NBoth.mk ?_ ?_ | refine V.b1 ?_ | refine V.b2 ?_ | refine V.NTF.dec ?_ | refine V.b3 ?_ | refine V.b4 ?_ | ((first | refine V.Fn.k (cT) [0] rfl ?_ ?_ | refine V.Fn.q (cT) [0] rfl ?_ ?_ | refine V.Fn.a (cT) [0] rfl ?_ ?_); · exact V.D_) | (refine V.NCall.inl (f := 38) V.Tok V.mixed Tryz.func38 rfl Tryz.ntmps38 (by kernel_rfl) rfl ?_) | (refine V.NCall.inl (f := 44) V.Tok V.mixed Tryz.func44 rfl Tryz.ntmps44 (by kernel_rfl) rfl ?_) | (refine V.NDraw.any (by kernel_rfl) ?_) | fail)
        all_goals (conv => whnf)
        all_goals first
          | exact V.er3 9 14 15
          | trace_state
      · obtain ⟨r1, r2, r3⟩ := res2 f1 hT
        rw [r1, r2, r3]
        repeat' ((conv => whnf); first | (refine V.NIf.yes ?_ ?_; · (decide; done)) | (refine V.NIf.no ?_ ?_; · (assumption; done)) | (refine V.NIf.no ?_ ?_; · (decide; done)) | refine V.NCond.mk ?_ | refine V.NPick.l ?_ | refine V.NIf.not_ ?_ | refine V.NIf.dec_ ?_ | refine V.a4 ?_ | refine V.a5 ?_ | refine V.NIf.mk (fun _ => ?_) (fun _ => ?_) | refine V.a7 ?_ | refine V.a8 ?_ | refine V.a9 ?_ | refine V.NBoth.mk ?_ ?_ | refine V.b1 ?_ | refine V.b2 ?_ | refine V.NTF.dec ?_ | refine V.b3 ?_ | refine V.b4 ?_ | ((first | refine V.Fn.k (cT) [0] rfl ?_ ?_ | refine V.Fn.q (cT) [0] rfl ?_ ?_ | refine V.Fn.a (cT) [0] rfl ?_ ?_); · exact V.D_) | (refine V.NCall.inl (f := 38) V.Tok V.mixed Tryz.func38 rfl Tryz.ntmps38 (by kernel_rfl) rfl ?_) | (refine V.NCall.inl (f := 44) V.Tok V.mixed Tryz.func44 rfl Tryz.ntmps44 (by kernel_rfl) rfl ?_) | (refine V.NDraw.any (by kernel_rfl) ?_) | fail)
        all_goals (conv => whnf)
        all_goals first
          | exact V.er000
          | trace_state
    · obtain ⟨r1, r2, r3⟩ := res1 (by rw [f1]; exact he)
      rw [f1] at r1
      rw [r1, r2, r3]
      repeat' ((conv => whnf); first | (refine V.NIf.no ?_ ?_; · (assumption; done)) | (refine V.NIf.no ?_ ?_; · (decide; done)) | refine V.NCond.mk ?_ | refine V.NPick.l ?_ | refine V.NIf.not_ ?_ | refine V.NIf.dec_ ?_ | refine V.a4 ?_ | refine V.a5 ?_ | refine V.NIf.mk (fun _ => ?_) (fun _ => ?_) | refine V.a7 ?_ | refine V.a8 ?_ | refine V.a9 ?_ | refine V.NBoth.mk ?_ ?_ | refine V.b1 ?_ | refine V.b2 ?_ | refine V.NTF.dec ?_ | refine V.b3 ?_ | refine V.b4 ?_ | (refine V.NCall.inl (f := 44) V.Tok V.mixed Tryz.func44 rfl Tryz.ntmps44 (by kernel_rfl) rfl ?_) | (refine V.NDraw.any (by kernel_rfl) ?_) | fail)
      all_goals (conv => whnf)
      all_goals first
        | exact V.er000
        | trace_state
end Go.Proofs.YtpanlcnoopmchaaGreat

namespace Go.Proofs.YtpanlcnoopmchaaGreat
open Go Go.RowKit V
def psO (o : Option (List Po)) (l : Obs) : Obs := match o with
  | none => l
  | some p => (12, .row 65 3 p.length (ga encP p)) :: l
def psA (o : Option (List Po)) : At := match o with
  | none => .val (.slice none 0 0)
  | some _ => .ref 12
set_option maxHeartbeats 8000000 in
theorem v_night_a (c : Cl) (t : List Tm) (x : Int) (w : Wd) (pr : List Int) (hc : c.hs.length ≤ 9223372036854775807) (ht : t.length ≤ 9223372036854775807) (hb : w.bk.length ≤ 9223372036854775807) (hp : pr.length ≤ 9223372036854775807)
    (h0 : (Cy.s0 c t x w pr).e = 0) (hS : (Pn.suL (Cy.du c t w pr)).length = 0) :
    V.FnR Tryz.prog 11 (nightO c t w pr) [ruV c x, .agg [.val (.int .i64 w.td), .ref 2, .ref 3], .one (.ref 4)] (.tup [.agg [.val (.int .i64 (Cy.nW c t x w pr).td), .ref 5, .ref 6], .one (.ref 7), .one (.val (.int .i64 (Cy.nE c t x w pr)))]) [.row 42 10 (Cy.nW c t x w pr).fs.length (ga encF (Cy.nW c t x w pr).fs), .row 65 3 (Cy.nW c t x w pr).bk.length (ga encP (Cy.nW c t x w pr).bk), .row 65 3 (Cy.nP c t x w pr).length (ga encP (Cy.nP c t x w pr))] := by
  obtain ⟨b0, p0, s0⟩ := Cy.s0_ok h0
  obtain ⟨r0, w0, k0, o0, y0⟩ := Cy.nB_ok b0
  obtain ⟨n60, n400⟩ := Cy.wE_len w0
  have cR := v_cyRules c t x hc ht
  rw [r0] at cR
  have cW := v_cyCheck w hb
  rw [w0] at cW
  have cP := v_prices pr hp
  rw [k0] at cP
  have cI := v_caIs c w.td hc
  obtain ⟨i0, q5, _, hbl, hou, hbk, hps⟩ := Cy.night_ok h0
  have q5 : Pn.suE (Cy.du c t w pr) = 5 := by
    rcases q5 hS with z | z
    · exact z
    · obtain ⟨_, a, b⟩ := Pn.su_ok z
      rw [b] at hS
      exact absurd hS a
  rw [i0] at cI
  have cD := v_day c t w.fs pr w.td hc ht hp
  rw [y0, show Pn.yL c t w.fs pr w.td = Cy.du c t w pr from rfl] at cD
  have cS := v_psum (Cy.du c t w pr) (by have := Pn.yL_len c t w.fs pr w.td; unfold Cy.du; omega)
  have sl : (Pn.suL (Cy.du c t w pr)).length ≤ 31 := by
    unfold Pn.suL
    split
    all_goals first | exact Pn.pos_len _ _ | exact Nat.zero_le _
  have kc := (Cy.rE_ok r0).1
  obtain ⟨ht6, htw⟩ := Pn.tE_ok (Cy.rE_ok r0).2.1
  obtain ⟨hp20, _⟩ := P.chks_ok k0
  obtain ⟨_, hx, _⟩ := Cy.wE_ok w0
  have ok := Pn.all_ok hx
  obtain ⟨_, ef, _⟩ := Pn.y_ok y0
  have st0 := Cy.NJ.start (c := c) (t := t) (x := x) (pr := pr) (td := w.td) (fs := w.fs) hbl hou h0
  have res1 := fun z => @Cy.n_err c t x w pr z
  have res2 := fun z z' => @Cy.n_end c t x w pr z z'
  have res3 := fun z z' => @Cy.n_yes c t x w pr z z'
  rw [show Cy.s1 c t x w pr = Cy.run c t x pr w.td (Cy.s0 c t x w pr) w.fs from rfl] at res1 res2 res3
  have hbk1 : (Cy.s0 c t x w pr).bk = w.bk := hbk.trans (if_pos hS)
  have hS0 : Pn.suL (Cy.du c t w pr) = [] := List.length_eq_zero_iff.1 hS
  rw [hbk1, hps, hS0] at st0
  rw [hS0, q5] at cS
  have hsp : (Cy.s0 c t x w pr).ps.length ≤ 31 := by rw [hps]; exact sl
  clear b0 p0 s0 r0 w0 k0 o0 y0 h0 i0 hbl hou hbk hps hbk1 hS0 hS sl
  clear q5
  generalize Cy.s0 c t x w pr = S0 at *
  generalize Cy.du c t w pr = D at *
  have cT := v_caStep c w.td 1 hc
  generalize Cy.nE c t x w pr = NE at *
  generalize Cy.nW c t x w pr = NW at *
  generalize Cy.nP c t x w pr = NP at *
  refine V.FnR.mk_ V.Tok V.mixed Tryz.func11 rfl Tryz.ntmps11 (by kernel_rfl) rfl rfl rfl rfl ?_
  repeat' ((conv => whnf); first | (refine V.NDraw.any (by kernel_rfl) ?_) | (refine V.NIf.yes ?_ ?_; · (decide; done)) | (refine V.NIf.no ?_ ?_; · (decide; done)) | refine V.NCond.mk ?_ | refine V.NPick.l ?_ | refine V.NIf.not_ ?_ | refine V.NIf.dec_ ?_ | refine V.a4 ?_ | refine V.a5 ?_ | refine V.NIf.mk (fun _ => ?_) (fun _ => ?_) | refine V.a7 ?_ | refine V.a8 ?_ | refine V.a9 ?_ | refine V.NBoth.mk ?_ ?_ | refine V.b1 ?_ | refine V.b2 ?_ | refine V.NTF.dec ?_ | refine V.b3 ?_ | refine V.b4 ?_ | ((first | refine V.FnR.k_ (v_cyOwn w (by omega) (by omega)) [2, 3] rfl ?_ ?_ | refine V.FnR.a_ (v_cyOwn w (by omega) (by omega)) [2, 3] rfl ?_ ?_); · exact V.D_) | ((first | refine V.Fn.k (cR) [0, 1] rfl ?_ ?_ | refine V.Fn.q (cR) [0, 1] rfl ?_ ?_ | refine V.Fn.a (cR) [0, 1] rfl ?_ ?_); · exact V.D_) | ((first | refine V.Fn.k (cW) [2, 3] rfl ?_ ?_ | refine V.Fn.q (cW) [2, 3] rfl ?_ ?_ | refine V.Fn.a (cW) [2, 3] rfl ?_ ?_); · exact V.D_) | ((first | refine V.Fn.k (cP) [4] rfl ?_ ?_ | refine V.Fn.q (cP) [4] rfl ?_ ?_ | refine V.Fn.a (cP) [4] rfl ?_ ?_); · exact V.D_) | ((first | refine V.Fn.k (cI) [0] rfl ?_ ?_ | refine V.Fn.q (cI) [0] rfl ?_ ?_ | refine V.Fn.a (cI) [0] rfl ?_ ?_); · exact V.D_) | (refine V.NCall.inl (f := 38) V.Tok V.mixed Tryz.func38 rfl Tryz.ntmps38 (by kernel_rfl) rfl ?_) | (refine V.NCall.inl (f := 41) V.Tok V.mixed Tryz.func41 rfl Tryz.ntmps41 (by kernel_rfl) rfl ?_) | (refine V.NCall.inl (f := 67) V.Tok V.mixed Tryz.func67 rfl Tryz.ntmps67 (by kernel_rfl) rfl ?_) | ((first | refine V.FnR.k_ (cD) [0, 1, 9, 4] rfl ?_ ?_ | refine V.FnR.a_ (cD) [0, 1, 9, 4] rfl ?_ ?_); · exact V.D_) | ((first | refine V.FnR.k_ (cS) [12] rfl ?_ ?_ | refine V.FnR.a_ (cS) [12] rfl ?_ ?_); · exact V.D_) | (refine V.NDraw.any (by kernel_rfl) ?_) | fail)
  all_goals (conv => whnf)
  all_goals refine V.NLoop.auto (fun (s : Nat × List Fl × List Po × Option (List Po) × Int) => [(62, .one (.val (.int .i64 s.1)))]) (fun (s : Nat × List Fl × List Po × Option (List Po) × Int) => [(9, .row 42 10 s.2.1.length (ga encF s.2.1)), (10, .row 65 3 s.2.2.1.length (ga encP s.2.2.1)), (11, .box 73 [.val (.int .i64 w.td), .ref 9, .ref 10, .val (.int .i64 c.we), .ref 0, .ref 1, .val (.int .i64 x), psA s.2.2.2.1, .val (.int .i64 s.2.2.2.2)])] ++ psO s.2.2.2.1 []) [16, 18] [12] (fun s => w.fs.length - s.1) (fun s => Cy.NJ c t x pr w.td S0 w.fs s.1 s.2.1 s.2.2.1 (s.2.2.2.1.getD []) s.2.2.2.2) (0, w.fs, w.bk, none, 0) st0 V.S_ V.S_ (fun s => by obtain ⟨_, _, _, o, _⟩ := s; cases o <;> exact ⟨rfl, rfl⟩) ?_; (conv => whnf); refine ⟨⟨rfl, rfl⟩, ?_⟩
  rintro s hs
  generalize s.1 = k at *
  generalize s.2.1 = X at *
  generalize s.2.2.1 = b at *
  generalize s.2.2.2.1 = o at *
  generalize s.2.2.2.2 = e at *
  rcases o with _ | p
  · skip
    have hs : Cy.NJ c t x pr w.td S0 w.fs k X b [] e := hs
    have xl := hs.xl
    have kl := hs.le
    by_cases hlt : k < w.fs.length
    · by_cases he : e = 0
      · subst he
        have o2 := (hs.ok rfl).2 k (Nat.le_refl _) hlt
        have o : F.Ok (X.getD k default) := by rw [o2]; exact ok _ (getD_mem hlt)
        obtain ⟨⟨_, _, _, hcl, hpa, _⟩, _⟩ := id o
        have sE : Ag.sE c (Pn.cl t (X.getD k default)) (X.getD k default) w.td = 0 := by rw [o2]; exact ef _ (getD_mem hlt)
        have cst := v_agStage c (Pn.cl t (X.getD k default)) (X.getD k default) w.td hc
        rw [sE, Ag.sV_yes sE] at cst
        have n1 := hs.s1 hlt
        have n2 := hs.s2 hlt
        have n3 := hs.s3 hlt
        have n4 := hs.s4 hlt
        have n5 := hs.s5 hlt
        have bl := hs.bl
        have pl := hs.pl
        rw [show P.pr pr (X.getD k default).pa = pr.getD ((X.getD k default).pa - 1).toNat default from rfl] at n2 n3 n4 n5
        have l2 := Cy.pL_len (X.getD k default) (pr.getD ((X.getD k default).pa - 1).toNat default) x
        have cpy := v_cpPay (X.getD k default) (pr.getD ((X.getD k default).pa - 1).toNat default) x
        have cbp := v_bkPost b (Cp.pL (X.getD k default) (pr.getD ((X.getD k default).pa - 1).toNat default) x) (by omega) (by omega)
        have bl2 : (Bk.pL b (Cp.pL (X.getD k default) (pr.getD ((X.getD k default).pa - 1).toNat default) x)).length ≤ 2121 := by
          unfold Bk.pL
          split
          · exact Bk.out_len _ _
          · exact Nat.zero_le _
        clear hs res1 res2 res3 cT st0 sE o2 ef ok o
        generalize Ag.stg c (Pn.cl t (X.getD k default)) (X.getD k default) w.td = G at *
        generalize Bk.pE b (Cp.pL (X.getD k default) (pr.getD ((X.getD k default).pa - 1).toNat default) x) = BE at *
        generalize Bk.pL b (Cp.pL (X.getD k default) (pr.getD ((X.getD k default).pa - 1).toNat default) x) = BL at *
        generalize Cp.pE (X.getD k default) (pr.getD ((X.getD k default).pa - 1).toNat default) x = PE at *
        generalize Cp.pL (X.getD k default) (pr.getD ((X.getD k default).pa - 1).toNat default) x = PL at *
        generalize hPF : Cp.pF (X.getD k default) (pr.getD ((X.getD k default).pa - 1).toNat default) x = PF at *
        clear hPF
        repeat' ((conv => whnf); first | (refine V.NDraw.any (by kernel_rfl) ?_) | (refine V.NIf.yes ?_ ?_; · (decide; done)) | (refine V.NIf.no ?_ ?_; · (decide; done)) | refine V.NCond.mk ?_ | refine V.NPick.l ?_ | refine V.NIf.not_ ?_ | refine V.NIf.dec_ ?_ | refine V.a4 ?_ | refine V.a5 ?_ | refine V.NIf.mk (fun _ => ?_) (fun _ => ?_) | refine V.a7 ?_ | refine V.a8 ?_ | refine V.a9 ?_ | refine V.NBoth.mk ?_ ?_ | refine V.b1 ?_ | refine V.b2 ?_ | refine V.NTF.dec ?_ | refine V.b3 ?_ | refine V.b4 ?_ | (refine V.NCall.inl (f := 42) V.Tok V.mixed Tryz.func42 rfl Tryz.ntmps42 (by kernel_rfl) rfl ?_) | (refine V.NCall.inl (f := 38) V.Tok V.mixed Tryz.func38 rfl Tryz.ntmps38 (by kernel_rfl) rfl ?_) | (refine V.NCall.inl (f := 67) V.Tok V.mixed Tryz.func67 rfl Tryz.ntmps67 (by kernel_rfl) rfl ?_) | (refine NIdx.mk ⟨k, rfl, by omega, ?_⟩) | (refine NIdx.mk ⟨(X.getD k default).cl.toNat, by omega, by omega, ?_⟩) | (refine NIdx.mk ⟨((X.getD k default).pa - 1).toNat, by omega, by omega, ?_⟩) | ((first | refine V.Fn.k (cst) [0] rfl ?_ ?_ | refine V.Fn.q (cst) [0] rfl ?_ ?_ | refine V.Fn.a (cst) [0] rfl ?_ ?_); · exact V.D_) | (first | refine V.FnR.k0 (cpy) rfl ?_ | refine V.FnR.a0 (cpy) rfl ?_) | (refine NPut.to (en := encF) PF rfl rfl ?_) | ((first | refine V.FnR.k_ (cbp) [10, 15] rfl ?_ ?_ | refine V.FnR.a_ (cbp) [10, 15] rfl ?_ ?_); · exact V.D_) | ((first | refine V.FnR.k_ (cbp) [10, 16] rfl ?_ ?_ | refine V.FnR.a_ (cbp) [10, 16] rfl ?_ ?_); · exact V.D_) | (refine NOne.mk ?_ ?_; · (intro k hk; rfl)) | (refine NApp.all_ (by first | omega | (simp; omega)) (by omega) ?_) | (refine V.NDraw.any (by kernel_rfl) ?_) | fail)
        all_goals (conv => whnf)
        all_goals first
          | exact V.NBack.at_ (k + 1, X, b, none, 0) [] (n1 (by assumption)) (by dsimp only; omega) V.S_ rfl ⟨ObLe.as_ rfl, ObLe.as_ rfl, rfl, trivial⟩ V.S_ V.S_
          | exact V.NBack.at_ (k + 1, X, b, none, PE) [] (n2 (by assumption) (by assumption)) (by dsimp only; omega) V.S_ rfl ⟨ObLe.as_ rfl, ObLe.as_ rfl, rfl, trivial⟩ V.S_ V.S_
          | (obtain rfl : PE = 0 := by assumption
             exact V.NBack.at_ (k + 1, X.set k PF, b, none, 0) [] (n3 (by assumption) rfl (by omega)) (by dsimp only; omega) V.S_ rfl ⟨ObLe.is_ rfl (by rw [List.length_set]), ObLe.as_ rfl, rfl, trivial⟩ V.S_ V.S_)
          | (obtain rfl : PE = 0 := by assumption
             exact V.NBack.at_ (k + 1, X.set k PF, b, none, BE) [] (n4 (by assumption) rfl (by omega) (by assumption)) (by dsimp only; omega) V.S_ rfl ⟨ObLe.is_ rfl (by rw [List.length_set]), ObLe.as_ rfl, rfl, trivial⟩ V.S_ V.S_)
          | (obtain rfl : PE = 0 := by assumption
             obtain rfl : BE = 0 := by assumption
             exact V.NBack.at_ (k + 1, X.set k PF, BL, some PL, 0) [(10, 17), (12, 18)] (n5 (by assumption) rfl (by omega) rfl) (by dsimp only; omega) V.S_ rfl ⟨ObLe.is_ rfl (by rw [List.length_set]), ObLe.as_ rfl, rfl, ObLe.as_ rfl, trivial⟩ V.S_ V.S_)
          | trace_state
      · have hs' := hs.skip hlt he
        repeat' ((conv => whnf); first | (refine V.NIf.no ?_ ?_; · (assumption; done)) | refine V.NCond.mk ?_ | refine V.NPick.l ?_ | refine V.NIf.not_ ?_ | refine V.NIf.dec_ ?_ | refine V.a4 ?_ | refine V.a5 ?_ | refine V.NIf.mk (fun _ => ?_) (fun _ => ?_) | refine V.a7 ?_ | refine V.a8 ?_ | refine V.a9 ?_ | refine V.NBoth.mk ?_ ?_ | refine V.b1 ?_ | refine V.b2 ?_ | refine V.NTF.dec ?_ | refine V.b3 ?_ | refine V.b4 ?_ | (refine V.NDraw.any (by kernel_rfl) ?_) | fail)
        all_goals (conv => whnf)
        all_goals exact V.NBack.at_ (k + 1, X, b, none, e) [] hs' (by dsimp only; omega) V.S_ rfl ⟨ObLe.as_ rfl, ObLe.as_ rfl, rfl, trivial⟩ V.S_ V.S_
    · obtain rfl : k = w.fs.length := by omega
      obtain ⟨f1, f2⟩ := hs.fin
      by_cases he : e = 0
      · subst he
        have f3 := f2 rfl
        by_cases hT : Ca.sE c w.td 1 = 0
        · obtain ⟨r1, r2, r3⟩ := res3 f1 hT
          rw [f3] at r2 r3
          rw [r1, r2, r3]
          rw [hT] at cT
          repeat' ((conv => whnf); first | (refine V.NIf.yes ?_ ?_; · (decide; done)) | (refine V.NIf.no ?_ ?_; · (decide; done)) | refine V.NCond.mk ?_ | refine V.NPick.l ?_ | refine V.NIf.not_ ?_ | refine V.NIf.dec_ ?_ | refine V.a4 ?_ | refine V.a5 ?_ | refine V.NIf.mk (fun _ => ?_) (fun _ => ?_) | refine V.a7 ?_ | refine V.a8 ?_ | refine V.a9 ?_ | refine V.NBoth.mk ?_ ?_ | refine V.b1 ?_ | refine V.b2 ?_ | refine V.NTF.dec ?_ | refine V.b3 ?_ | refine V.b4 ?_ | ((first | refine V.Fn.k (cT) [0] rfl ?_ ?_ | refine V.Fn.q (cT) [0] rfl ?_ ?_ | refine V.Fn.a (cT) [0] rfl ?_ ?_); · exact V.D_) | (refine V.NCall.inl (f := 38) V.Tok V.mixed Tryz.func38 rfl Tryz.ntmps38 (by kernel_rfl) rfl ?_) | (refine V.NCall.inl (f := 44) V.Tok V.mixed Tryz.func44 rfl Tryz.ntmps44 (by kernel_rfl) rfl ?_) | (refine V.NDraw.any (by kernel_rfl) ?_) | fail)
          all_goals (conv => whnf)
          all_goals first
            | exact .mk_ [some 9, some 10, none] rfl (by (repeat' (first | exact rfl | exact trivial | exact Nat.le_of_ble_eq_true rfl | refine ⟨?_, ?_⟩))) ⟨⟨rfl, rfl, rfl, fun _ _ => rfl⟩, ⟨rfl, rfl, rfl, fun _ _ => rfl⟩, rfl, trivial⟩
            | trace_state
        · obtain ⟨r1, r2, r3⟩ := res2 f1 hT
          rw [r1, r2, r3]
          repeat' ((conv => whnf); first | (refine V.NIf.yes ?_ ?_; · (decide; done)) | (refine V.NIf.no ?_ ?_; · (assumption; done)) | (refine V.NIf.no ?_ ?_; · (decide; done)) | refine V.NCond.mk ?_ | refine V.NPick.l ?_ | refine V.NIf.not_ ?_ | refine V.NIf.dec_ ?_ | refine V.a4 ?_ | refine V.a5 ?_ | refine V.NIf.mk (fun _ => ?_) (fun _ => ?_) | refine V.a7 ?_ | refine V.a8 ?_ | refine V.a9 ?_ | refine V.NBoth.mk ?_ ?_ | refine V.b1 ?_ | refine V.b2 ?_ | refine V.NTF.dec ?_ | refine V.b3 ?_ | refine V.b4 ?_ | ((first | refine V.Fn.k (cT) [0] rfl ?_ ?_ | refine V.Fn.q (cT) [0] rfl ?_ ?_ | refine V.Fn.a (cT) [0] rfl ?_ ?_); · exact V.D_) | (refine V.NCall.inl (f := 38) V.Tok V.mixed Tryz.func38 rfl Tryz.ntmps38 (by kernel_rfl) rfl ?_) | (refine V.NCall.inl (f := 44) V.Tok V.mixed Tryz.func44 rfl Tryz.ntmps44 (by kernel_rfl) rfl ?_) | (refine V.NDraw.any (by kernel_rfl) ?_) | fail)
          all_goals (conv => whnf)
          all_goals first
            | exact V.er000
            | trace_state
      · obtain ⟨r1, r2, r3⟩ := res1 (by rw [f1]; exact he)
        rw [f1] at r1
        rw [r1, r2, r3]
        repeat' ((conv => whnf); first | (refine V.NIf.no ?_ ?_; · (assumption; done)) | (refine V.NIf.no ?_ ?_; · (decide; done)) | refine V.NCond.mk ?_ | refine V.NPick.l ?_ | refine V.NIf.not_ ?_ | refine V.NIf.dec_ ?_ | refine V.a4 ?_ | refine V.a5 ?_ | refine V.NIf.mk (fun _ => ?_) (fun _ => ?_) | refine V.a7 ?_ | refine V.a8 ?_ | refine V.a9 ?_ | refine V.NBoth.mk ?_ ?_ | refine V.b1 ?_ | refine V.b2 ?_ | refine V.NTF.dec ?_ | refine V.b3 ?_ | refine V.b4 ?_ | (refine V.NCall.inl (f := 44) V.Tok V.mixed Tryz.func44 rfl Tryz.ntmps44 (by kernel_rfl) rfl ?_) | (refine V.NDraw.any (by kernel_rfl) ?_) | fail)
        all_goals (conv => whnf)
        all_goals first
          | exact V.er000
          | trace_state
  · skip
    have hs : Cy.NJ c t x pr w.td S0 w.fs k X b p e := hs
    have xl := hs.xl
    have kl := hs.le
    by_cases hlt : k < w.fs.length
    · by_cases he : e = 0
      · subst he
        have o2 := (hs.ok rfl).2 k (Nat.le_refl _) hlt
        have o : F.Ok (X.getD k default) := by rw [o2]; exact ok _ (getD_mem hlt)
        obtain ⟨⟨_, _, _, hcl, hpa, _⟩, _⟩ := id o
        have sE : Ag.sE c (Pn.cl t (X.getD k default)) (X.getD k default) w.td = 0 := by rw [o2]; exact ef _ (getD_mem hlt)
        have cst := v_agStage c (Pn.cl t (X.getD k default)) (X.getD k default) w.td hc
        rw [sE, Ag.sV_yes sE] at cst
        have n1 := hs.s1 hlt
        have n2 := hs.s2 hlt
        have n3 := hs.s3 hlt
        have n4 := hs.s4 hlt
        have n5 := hs.s5 hlt
        have bl := hs.bl
        have pl := hs.pl
        rw [show P.pr pr (X.getD k default).pa = pr.getD ((X.getD k default).pa - 1).toNat default from rfl] at n2 n3 n4 n5
        have l2 := Cy.pL_len (X.getD k default) (pr.getD ((X.getD k default).pa - 1).toNat default) x
        have cpy := v_cpPay (X.getD k default) (pr.getD ((X.getD k default).pa - 1).toNat default) x
        have cbp := v_bkPost b (Cp.pL (X.getD k default) (pr.getD ((X.getD k default).pa - 1).toNat default) x) (by omega) (by omega)
        have bl2 : (Bk.pL b (Cp.pL (X.getD k default) (pr.getD ((X.getD k default).pa - 1).toNat default) x)).length ≤ 2121 := by
          unfold Bk.pL
          split
          · exact Bk.out_len _ _
          · exact Nat.zero_le _
        clear hs res1 res2 res3 cT st0 sE o2 ef ok o
        generalize Ag.stg c (Pn.cl t (X.getD k default)) (X.getD k default) w.td = G at *
        generalize Bk.pE b (Cp.pL (X.getD k default) (pr.getD ((X.getD k default).pa - 1).toNat default) x) = BE at *
        generalize Bk.pL b (Cp.pL (X.getD k default) (pr.getD ((X.getD k default).pa - 1).toNat default) x) = BL at *
        generalize Cp.pE (X.getD k default) (pr.getD ((X.getD k default).pa - 1).toNat default) x = PE at *
        generalize Cp.pL (X.getD k default) (pr.getD ((X.getD k default).pa - 1).toNat default) x = PL at *
        generalize hPF : Cp.pF (X.getD k default) (pr.getD ((X.getD k default).pa - 1).toNat default) x = PF at *
        clear hPF
        repeat' ((conv => whnf); first | (refine V.NDraw.any (by kernel_rfl) ?_) | (refine V.NIf.yes ?_ ?_; · (decide; done)) | (refine V.NIf.no ?_ ?_; · (decide; done)) | refine V.NCond.mk ?_ | refine V.NPick.l ?_ | refine V.NIf.not_ ?_ | refine V.NIf.dec_ ?_ | refine V.a4 ?_ | refine V.a5 ?_ | refine V.NIf.mk (fun _ => ?_) (fun _ => ?_) | refine V.a7 ?_ | refine V.a8 ?_ | refine V.a9 ?_ | refine V.NBoth.mk ?_ ?_ | refine V.b1 ?_ | refine V.b2 ?_ | refine V.NTF.dec ?_ | refine V.b3 ?_ | refine V.b4 ?_ | (refine V.NCall.inl (f := 42) V.Tok V.mixed Tryz.func42 rfl Tryz.ntmps42 (by kernel_rfl) rfl ?_) | (refine V.NCall.inl (f := 38) V.Tok V.mixed Tryz.func38 rfl Tryz.ntmps38 (by kernel_rfl) rfl ?_) | (refine V.NCall.inl (f := 67) V.Tok V.mixed Tryz.func67 rfl Tryz.ntmps67 (by kernel_rfl) rfl ?_) | (refine NIdx.mk ⟨k, rfl, by omega, ?_⟩) | (refine NIdx.mk ⟨(X.getD k default).cl.toNat, by omega, by omega, ?_⟩) | (refine NIdx.mk ⟨((X.getD k default).pa - 1).toNat, by omega, by omega, ?_⟩) | ((first | refine V.Fn.k (cst) [0] rfl ?_ ?_ | refine V.Fn.q (cst) [0] rfl ?_ ?_ | refine V.Fn.a (cst) [0] rfl ?_ ?_); · exact V.D_) | (first | refine V.FnR.k0 (cpy) rfl ?_ | refine V.FnR.a0 (cpy) rfl ?_) | (refine NPut.to (en := encF) PF rfl rfl ?_) | ((first | refine V.FnR.k_ (cbp) [10, 15] rfl ?_ ?_ | refine V.FnR.a_ (cbp) [10, 15] rfl ?_ ?_); · exact V.D_) | ((first | refine V.FnR.k_ (cbp) [10, 16] rfl ?_ ?_ | refine V.FnR.a_ (cbp) [10, 16] rfl ?_ ?_); · exact V.D_) | (refine NOne.mk ?_ ?_; · (intro k hk; rfl)) | (refine NApp.list (by first | omega | (simp; omega)) (by omega) ?_) | (refine V.NDraw.any (by kernel_rfl) ?_) | fail)
        all_goals (conv => whnf)
        all_goals first
          | exact V.NBack.at_ (k + 1, X, b, some p, 0) [] (n1 (by assumption)) (by dsimp only; omega) V.S_ rfl ⟨ObLe.as_ rfl, ObLe.as_ rfl, rfl, ObLe.as_ rfl, trivial⟩ V.S_ V.S_
          | exact V.NBack.at_ (k + 1, X, b, some p, PE) [] (n2 (by assumption) (by assumption)) (by dsimp only; omega) V.S_ rfl ⟨ObLe.as_ rfl, ObLe.as_ rfl, rfl, ObLe.as_ rfl, trivial⟩ V.S_ V.S_
          | (obtain rfl : PE = 0 := by assumption
             exact V.NBack.at_ (k + 1, X.set k PF, b, some p, 0) [] (n3 (by assumption) rfl (by omega)) (by dsimp only; omega) V.S_ rfl ⟨ObLe.is_ rfl (by rw [List.length_set]), ObLe.as_ rfl, rfl, ObLe.as_ rfl, trivial⟩ V.S_ V.S_)
          | (obtain rfl : PE = 0 := by assumption
             exact V.NBack.at_ (k + 1, X.set k PF, b, some p, BE) [] (n4 (by assumption) rfl (by omega) (by assumption)) (by dsimp only; omega) V.S_ rfl ⟨ObLe.is_ rfl (by rw [List.length_set]), ObLe.as_ rfl, rfl, ObLe.as_ rfl, trivial⟩ V.S_ V.S_)
          | (obtain rfl : PE = 0 := by assumption
             obtain rfl : BE = 0 := by assumption
             exact V.NBack.at_ (k + 1, X.set k PF, BL, some (p ++ PL), 0) [(10, 17), (12, 18)] (n5 (by assumption) rfl (by omega) rfl) (by dsimp only; omega) V.S_ rfl ⟨ObLe.is_ rfl (by rw [List.length_set]), ObLe.as_ rfl, rfl, ObLe.as_ rfl, trivial⟩ V.S_ V.S_)
          | trace_state
      · have hs' := hs.skip hlt he
        repeat' ((conv => whnf); first | (refine V.NIf.no ?_ ?_; · (assumption; done)) | refine V.NCond.mk ?_ | refine V.NPick.l ?_ | refine V.NIf.not_ ?_ | refine V.NIf.dec_ ?_ | refine V.a4 ?_ | refine V.a5 ?_ | refine V.NIf.mk (fun _ => ?_) (fun _ => ?_) | refine V.a7 ?_ | refine V.a8 ?_ | refine V.a9 ?_ | refine V.NBoth.mk ?_ ?_ | refine V.b1 ?_ | refine V.b2 ?_ | refine V.NTF.dec ?_ | refine V.b3 ?_ | refine V.b4 ?_ | (refine V.NDraw.any (by kernel_rfl) ?_) | fail)
        all_goals (conv => whnf)
        all_goals exact V.NBack.at_ (k + 1, X, b, some p, e) [] hs' (by dsimp only; omega) V.S_ rfl ⟨ObLe.as_ rfl, ObLe.as_ rfl, rfl, ObLe.as_ rfl, trivial⟩ V.S_ V.S_
    · obtain rfl : k = w.fs.length := by omega
      obtain ⟨f1, f2⟩ := hs.fin
      by_cases he : e = 0
      · subst he
        have f3 := f2 rfl
        by_cases hT : Ca.sE c w.td 1 = 0
        · obtain ⟨r1, r2, r3⟩ := res3 f1 hT
          rw [f3] at r2 r3
          rw [r1, r2, r3]
          rw [hT] at cT
          repeat' ((conv => whnf); first | (refine V.NIf.yes ?_ ?_; · (decide; done)) | (refine V.NIf.no ?_ ?_; · (decide; done)) | refine V.NCond.mk ?_ | refine V.NPick.l ?_ | refine V.NIf.not_ ?_ | refine V.NIf.dec_ ?_ | refine V.a4 ?_ | refine V.a5 ?_ | refine V.NIf.mk (fun _ => ?_) (fun _ => ?_) | refine V.a7 ?_ | refine V.a8 ?_ | refine V.a9 ?_ | refine V.NBoth.mk ?_ ?_ | refine V.b1 ?_ | refine V.b2 ?_ | refine V.NTF.dec ?_ | refine V.b3 ?_ | refine V.b4 ?_ | ((first | refine V.Fn.k (cT) [0] rfl ?_ ?_ | refine V.Fn.q (cT) [0] rfl ?_ ?_ | refine V.Fn.a (cT) [0] rfl ?_ ?_); · exact V.D_) | (refine V.NCall.inl (f := 38) V.Tok V.mixed Tryz.func38 rfl Tryz.ntmps38 (by kernel_rfl) rfl ?_) | (refine V.NCall.inl (f := 44) V.Tok V.mixed Tryz.func44 rfl Tryz.ntmps44 (by kernel_rfl) rfl ?_) | (refine V.NDraw.any (by kernel_rfl) ?_) | fail)
          all_goals (conv => whnf)
          all_goals first
            | exact V.er3 9 10 12
            | trace_state
        · obtain ⟨r1, r2, r3⟩ := res2 f1 hT
          rw [r1, r2, r3]
          repeat' ((conv => whnf); first | (refine V.NIf.yes ?_ ?_; · (decide; done)) | (refine V.NIf.no ?_ ?_; · (assumption; done)) | (refine V.NIf.no ?_ ?_; · (decide; done)) | refine V.NCond.mk ?_ | refine V.NPick.l ?_ | refine V.NIf.not_ ?_ | refine V.NIf.dec_ ?_ | refine V.a4 ?_ | refine V.a5 ?_ | refine V.NIf.mk (fun _ => ?_) (fun _ => ?_) | refine V.a7 ?_ | refine V.a8 ?_ | refine V.a9 ?_ | refine V.NBoth.mk ?_ ?_ | refine V.b1 ?_ | refine V.b2 ?_ | refine V.NTF.dec ?_ | refine V.b3 ?_ | refine V.b4 ?_ | ((first | refine V.Fn.k (cT) [0] rfl ?_ ?_ | refine V.Fn.q (cT) [0] rfl ?_ ?_ | refine V.Fn.a (cT) [0] rfl ?_ ?_); · exact V.D_) | (refine V.NCall.inl (f := 38) V.Tok V.mixed Tryz.func38 rfl Tryz.ntmps38 (by kernel_rfl) rfl ?_) | (refine V.NCall.inl (f := 44) V.Tok V.mixed Tryz.func44 rfl Tryz.ntmps44 (by kernel_rfl) rfl ?_) | (refine V.NDraw.any (by kernel_rfl) ?_) | fail)
          all_goals (conv => whnf)
          all_goals first
            | exact V.er000
            | trace_state
      · obtain ⟨r1, r2, r3⟩ := res1 (by rw [f1]; exact he)
        rw [f1] at r1
        rw [r1, r2, r3]
        repeat' ((conv => whnf); first | (refine V.NIf.no ?_ ?_; · (assumption; done)) | (refine V.NIf.no ?_ ?_; · (decide; done)) | refine V.NCond.mk ?_ | refine V.NPick.l ?_ | refine V.NIf.not_ ?_ | refine V.NIf.dec_ ?_ | refine V.a4 ?_ | refine V.a5 ?_ | refine V.NIf.mk (fun _ => ?_) (fun _ => ?_) | refine V.a7 ?_ | refine V.a8 ?_ | refine V.a9 ?_ | refine V.NBoth.mk ?_ ?_ | refine V.b1 ?_ | refine V.b2 ?_ | refine V.NTF.dec ?_ | refine V.b3 ?_ | refine V.b4 ?_ | (refine V.NCall.inl (f := 44) V.Tok V.mixed Tryz.func44 rfl Tryz.ntmps44 (by kernel_rfl) rfl ?_) | (refine V.NDraw.any (by kernel_rfl) ?_) | fail)
        all_goals (conv => whnf)
        all_goals first
          | exact V.er000
          | trace_state
end Go.Proofs.YtpanlcnoopmchaaGreat

namespace Go.Proofs.YtpanlcnoopmchaaGreat
namespace Cy
section
variable {c : Cl} {t : List Tm} {x : Int} {w : Wd} {pr : List Int}
theorem e_1 (h : ¬ rE c t x = 0) : (s0 c t x w pr).e = rE c t x := by rw [s0_1 (by rw [nB_1 h]; exact h)]; exact nB_1 h
theorem e_2 (h : rE c t x = 0) (k : ¬ wE w = 0) : (s0 c t x w pr).e = wE w := by rw [s0_1 (by rw [nB_2 h k]; exact k)]; exact nB_2 h k
theorem e_3 (h : rE c t x = 0) (k : wE w = 0) (p : ¬ P.chks pr = 0) : (s0 c t x w pr).e = P.chks pr := by rw [s0_1 (by rw [nB_3 h k p]; exact p)]; exact nB_3 h k p
theorem is_op {c : Cl} {w : Wd} (h : Ca.chk c = 0) (k : wE w = 0) : Ca.isV c w.td = decide (Ca.op c w.td = 1) := by
  obtain ⟨d0, _⟩ := wE_ok k
  exact Ca.isV_yes h (by have z := Ca.dchk w.td; unfold Ca.Day at *; omega)
theorem e_4 (h : rE c t x = 0) (k : wE w = 0) (p : P.chks pr = 0) (o : ¬ Ca.isV c w.td = true) : (s0 c t x w pr).e = 4 := by
  have o' : ¬ Ca.op c w.td = 1 := fun z => o (by rw [is_op (rE_ok h).1 k]; exact decide_eq_true z)
  rw [s0_1 (by rw [nB_4 h k p o']; decide)]; exact nB_4 h k p o'
theorem e_o (h : rE c t x = 0) (k : wE w = 0) (o : Ca.isV c w.td = true) : Ca.op c w.td = 1 := by
  rw [is_op (rE_ok h).1 k] at o
  exact of_decide_eq_true o
theorem e_5 (h : rE c t x = 0) (k : wE w = 0) (p : P.chks pr = 0) (o : Ca.isV c w.td = true) (y : ¬ Pn.yD c t w.fs pr w.td = 0) : (s0 c t x w pr).e = Pn.yD c t w.fs pr w.td := by
  have e := nB_5 h k p (e_o h k o)
  rw [s0_1 (by rw [e]; exact y)]; exact e
theorem e_6 (h : rE c t x = 0) (k : wE w = 0) (p : P.chks pr = 0) (o : Ca.isV c w.td = true) (y : Pn.yD c t w.fs pr w.td = 0) (s : ¬ Pn.suE (du c t w pr) = 0) (s' : ¬ Pn.suE (du c t w pr) = 5) : (s0 c t x w pr).e = Pn.suE (du c t w pr) := by
  have e := (nB_5 (pr := pr) h k p (e_o h k o)).trans y
  have q : psE w (du c t w pr) = Pn.suE (du c t w pr) := if_pos ⟨s, s'⟩
  rw [s0_2 e (by rw [q]; exact s)]; exact q
theorem e_7 (h : rE c t x = 0) (k : wE w = 0) (p : P.chks pr = 0) (o : Ca.isV c w.td = true) (y : Pn.yD c t w.fs pr w.td = 0) (s : Pn.suE (du c t w pr) = 0 ∨ Pn.suE (du c t w pr) = 5) (l : ¬ (Pn.suL (du c t w pr)).length = 0) (b : ¬ Bk.pE w.bk (Pn.suL (du c t w pr)) = 0) : (s0 c t x w pr).e = Bk.pE w.bk (Pn.suL (du c t w pr)) := by
  have e := (nB_5 (pr := pr) h k p (e_o h k o)).trans y
  have q : psE w (du c t w pr) = Bk.pE w.bk (Pn.suL (du c t w pr)) := (if_neg (by omega)).trans (if_neg l)
  rw [s0_2 e (by rw [q]; exact b)]; exact q
theorem e_8 (h : rE c t x = 0) (k : wE w = 0) (p : P.chks pr = 0) (o : Ca.isV c w.td = true) (y : Pn.yD c t w.fs pr w.td = 0) (s : Pn.suE (du c t w pr) = 0 ∨ Pn.suE (du c t w pr) = 5) (l : (Pn.suL (du c t w pr)).length = 0 ∨ Bk.pE w.bk (Pn.suL (du c t w pr)) = 0) : (s0 c t x w pr).e = 0 := by
  have e := (nB_5 (pr := pr) h k p (e_o h k o)).trans y
  have q : psE w (du c t w pr) = 0 := by
    unfold psE
    rw [if_neg (by omega)]
    split
    · rfl
    · rcases l with z | z
      · exact absurd z (by assumption)
      · exact z
  rw [s0_3 e q]
end
end Cy
end Go.Proofs.YtpanlcnoopmchaaGreat

namespace Go.Proofs.YtpanlcnoopmchaaGreat
open Go Go.RowKit V
set_option maxHeartbeats 8000000 in
theorem v_night_e (c : Cl) (t : List Tm) (x : Int) (w : Wd) (pr : List Int) (hc : c.hs.length ≤ 9223372036854775807) (ht : t.length ≤ 9223372036854775807) (hb : w.bk.length ≤ 9223372036854775807) (hp : pr.length ≤ 9223372036854775807)
    (hf1 : w.fs.length ≤ 1759218604390) (hb1 : w.bk.length ≤ 5864062014634) (h0 : ¬ (Cy.s0 c t x w pr).e = 0) :
    V.FnR Tryz.prog 11 (nightO c t w pr) [ruV c x, .agg [.val (.int .i64 w.td), .ref 2, .ref 3], .one (.ref 4)] (.tup [.agg [.val (.int .i64 (Cy.nW c t x w pr).td), .ref 5, .ref 6], .one (.ref 7), .one (.val (.int .i64 (Cy.nE c t x w pr)))]) [.row 42 10 (Cy.nW c t x w pr).fs.length (ga encF (Cy.nW c t x w pr).fs), .row 65 3 (Cy.nW c t x w pr).bk.length (ga encP (Cy.nW c t x w pr).bk), .row 65 3 (Cy.nP c t x w pr).length (ga encP (Cy.nP c t x w pr))] := by
  obtain ⟨r1, r2, r3⟩ := Cy.n_bad h0
  rw [r1, r2, r3]
  have cR := v_cyRules c t x hc ht
  have cW := v_cyCheck w hb
  have cP := v_prices pr hp
  have cI := v_caIs c w.td hc
  have cD := v_day c t w.fs pr w.td hc ht hp
  rw [show Pn.yL c t w.fs pr w.td = Cy.du c t w pr from rfl] at cD
  have cS := v_psum (Cy.du c t w pr) (by have := Pn.yL_len c t w.fs pr w.td; unfold Cy.du; omega)
  have sl : (Pn.suL (Cy.du c t w pr)).length ≤ 31 := by
    unfold Pn.suL
    split
    all_goals first | exact Pn.pos_len _ _ | exact Nat.zero_le _
  have cB := v_bkPost w.bk (Pn.suL (Cy.du c t w pr)) hb (by omega)
  have e1 := Cy.e_1 (c := c) (t := t) (x := x) (w := w) (pr := pr)
  have e2 := Cy.e_2 (c := c) (t := t) (x := x) (w := w) (pr := pr)
  have e3 := Cy.e_3 (c := c) (t := t) (x := x) (w := w) (pr := pr)
  have e4 := Cy.e_4 (c := c) (t := t) (x := x) (w := w) (pr := pr)
  have e5 := Cy.e_5 (c := c) (t := t) (x := x) (w := w) (pr := pr)
  have e6 := Cy.e_6 (c := c) (t := t) (x := x) (w := w) (pr := pr)
  have e7 := Cy.e_7 (c := c) (t := t) (x := x) (w := w) (pr := pr)
  have e8 := Cy.e_8 (c := c) (t := t) (x := x) (w := w) (pr := pr)
  generalize Pn.suE (Cy.du c t w pr) = SE at *
  generalize Pn.suL (Cy.du c t w pr) = S at *
  generalize Cy.du c t w pr = D at *
  generalize Bk.pE w.bk S = BE at *
  generalize Bk.pL w.bk S = B1 at *
  generalize Pn.yD c t w.fs pr w.td = YD at *
  generalize Cy.rE c t x = RE at *
  generalize Cy.wE w = WE at *
  generalize P.chks pr = CE at *
  generalize Ca.isV c w.td = IV at *
  generalize (Cy.s0 c t x w pr).e = E0 at *
  by_cases hse : SE = 0
  all_goals (
    refine V.FnR.mk_ V.Tok V.mixed Tryz.func11 rfl Tryz.ntmps11 (by kernel_rfl) rfl rfl rfl rfl ?_
    repeat' ((conv => whnf); first | (refine V.NDraw.any (by kernel_rfl) ?_) | (refine V.NIf.yes ?_ ?_; · (assumption; done)) | (refine V.NIf.no ?_ ?_; · (assumption; done)) | (refine V.NIf.yes ?_ ?_; · (decide; done)) | (refine V.NIf.no ?_ ?_; · (decide; done)) | refine V.NCond.mk ?_ | refine V.NPick.l ?_ | refine V.NIf.not_ ?_ | refine V.NIf.dec_ ?_ | refine V.a4 ?_ | refine V.a5 ?_ | refine V.NIf.mk (fun _ => ?_) (fun _ => ?_) | refine V.a7 ?_ | refine V.a8 ?_ | refine V.a9 ?_ | refine V.NBoth.mk ?_ ?_ | refine V.b1 ?_ | refine V.b2 ?_ | refine V.NTF.dec ?_ | refine V.b3 ?_ | refine V.b4 ?_ | ((first | refine V.FnR.k_ (v_cyOwn w hf1 hb1) [2, 3] rfl ?_ ?_ | refine V.FnR.a_ (v_cyOwn w hf1 hb1) [2, 3] rfl ?_ ?_); · exact V.D_) | ((first | refine V.Fn.k (cR) [0, 1] rfl ?_ ?_ | refine V.Fn.q (cR) [0, 1] rfl ?_ ?_ | refine V.Fn.a (cR) [0, 1] rfl ?_ ?_); · exact V.D_) | ((first | refine V.Fn.k (cW) [2, 3] rfl ?_ ?_ | refine V.Fn.q (cW) [2, 3] rfl ?_ ?_ | refine V.Fn.a (cW) [2, 3] rfl ?_ ?_); · exact V.D_) | ((first | refine V.Fn.k (cP) [4] rfl ?_ ?_ | refine V.Fn.q (cP) [4] rfl ?_ ?_ | refine V.Fn.a (cP) [4] rfl ?_ ?_); · exact V.D_) | ((first | refine V.Fn.k (cI) [0] rfl ?_ ?_ | refine V.Fn.q (cI) [0] rfl ?_ ?_ | refine V.Fn.a (cI) [0] rfl ?_ ?_); · exact V.D_) | (refine V.NCall.inl (f := 38) V.Tok V.mixed Tryz.func38 rfl Tryz.ntmps38 (by kernel_rfl) rfl ?_) | (refine V.NCall.inl (f := 41) V.Tok V.mixed Tryz.func41 rfl Tryz.ntmps41 (by kernel_rfl) rfl ?_) | (refine V.NCall.inl (f := 67) V.Tok V.mixed Tryz.func67 rfl Tryz.ntmps67 (by kernel_rfl) rfl ?_) | ((first | refine V.FnR.k_ (cD) [0, 1, 9, 4] rfl ?_ ?_ | refine V.FnR.a_ (cD) [0, 1, 9, 4] rfl ?_ ?_); · exact V.D_) | ((first | refine V.FnR.k_ (cS) [12] rfl ?_ ?_ | refine V.FnR.a_ (cS) [12] rfl ?_ ?_); · exact V.D_) | ((first | refine V.FnR.k_ (cB) [10, 13] rfl ?_ ?_ | refine V.FnR.a_ (cB) [10, 13] rfl ?_ ?_); · exact V.D_) | (refine NOne.mk ?_ ?_; · (intro k hk; rfl)) | (refine NApp.all_ (by first | omega | (simp; omega)) (by omega) ?_) | (refine V.NDraw.any (by kernel_rfl) ?_) | fail)
    all_goals (conv => whnf)
    all_goals clear cR cW cP cI cD cS cB
    all_goals first
      | exact absurd (e8 (by assumption) (by assumption) (by assumption) (by assumption) (by assumption) (by omega) (by omega)) h0
      | rw [e1 (by assumption)]
      | rw [e2 (by assumption) (by assumption)]
      | rw [e3 (by assumption) (by assumption) (by assumption)]
      | rw [e4 (by assumption) (by assumption) (by assumption) (by assumption)]
      | rw [e5 (by assumption) (by assumption) (by assumption) (by assumption) (by assumption)]
      | rw [e6 (by assumption) (by assumption) (by assumption) (by assumption) (by assumption) (by assumption) (by assumption)]
      | rw [e7 (by assumption) (by assumption) (by assumption) (by assumption) (by assumption) (by omega) (by omega) (by assumption)]
      | trace_state
    all_goals clear e1 e2 e3 e4 e5 e6 e7 e8 h0
    all_goals (
      refine V.NLoop.auto (fun (k : Nat) => [(62, .one (.val (.int .i64 k)))]) (fun (k : Nat) => []) [] [] (fun (k : Nat) => w.fs.length - k) (fun (k : Nat) => k ≤ w.fs.length) 0 (Nat.zero_le _) V.S_ V.S_ (fun _ => ⟨rfl, rfl⟩) ?_; (conv => whnf); refine ⟨⟨rfl, rfl⟩, ?_⟩
      rintro k hk
      by_cases hlt : k < w.fs.length
      · repeat' ((conv => whnf); first | (refine V.NIf.no ?_ ?_; · (assumption; done)) | (refine V.NIf.no ?_ ?_; · (decide; done)) | refine V.NCond.mk ?_ | refine V.NPick.l ?_ | refine V.NIf.not_ ?_ | refine V.NIf.dec_ ?_ | refine V.a4 ?_ | refine V.a5 ?_ | refine V.NIf.mk (fun _ => ?_) (fun _ => ?_) | refine V.a7 ?_ | refine V.a8 ?_ | refine V.a9 ?_ | refine V.NBoth.mk ?_ ?_ | refine V.b1 ?_ | refine V.b2 ?_ | refine V.NTF.dec ?_ | refine V.b3 ?_ | refine V.b4 ?_ | (refine V.NDraw.any (by kernel_rfl) ?_) | fail)
        all_goals (conv => whnf)
        all_goals first
          | exact V.NBack.at_ (k + 1) [] (by omega) (by omega) V.S_ rfl V.S_ V.S_ V.S_
          | trace_state
      · obtain rfl : k = w.fs.length := by omega
        repeat' ((conv => whnf); first | (refine V.NIf.no ?_ ?_; · (assumption; done)) | (refine V.NIf.no ?_ ?_; · (decide; done)) | refine V.NCond.mk ?_ | refine V.NPick.l ?_ | refine V.NIf.not_ ?_ | refine V.NIf.dec_ ?_ | refine V.a4 ?_ | refine V.a5 ?_ | refine V.NIf.mk (fun _ => ?_) (fun _ => ?_) | refine V.a7 ?_ | refine V.a8 ?_ | refine V.a9 ?_ | refine V.NBoth.mk ?_ ?_ | refine V.b1 ?_ | refine V.b2 ?_ | refine V.NTF.dec ?_ | refine V.b3 ?_ | refine V.b4 ?_ | (refine V.NCall.inl (f := 44) V.Tok V.mixed Tryz.func44 rfl Tryz.ntmps44 (by kernel_rfl) rfl ?_) | (refine V.NDraw.any (by kernel_rfl) ?_) | fail)
        all_goals (conv => whnf)
        all_goals first
          | exact V.er000
          | trace_state))
end Go.Proofs.YtpanlcnoopmchaaGreat

namespace Go.Proofs.YtpanlcnoopmchaaGreat
open Go Go.RowKit V
theorem v_night (c : Cl) (t : List Tm) (x : Int) (w : Wd) (pr : List Int) (hc : c.hs.length ≤ 9223372036854775807) (ht : t.length ≤ 9223372036854775807) (hp : pr.length ≤ 9223372036854775807) (hf1 : w.fs.length ≤ 1759218604390) (hb1 : w.bk.length ≤ 5864062014634) :
    V.FnR Tryz.prog 11 (nightO c t w pr) [ruV c x, .agg [.val (.int .i64 w.td), .ref 2, .ref 3], .one (.ref 4)] (.tup [.agg [.val (.int .i64 (Cy.nW c t x w pr).td), .ref 5, .ref 6], .one (.ref 7), .one (.val (.int .i64 (Cy.nE c t x w pr)))]) [.row 42 10 (Cy.nW c t x w pr).fs.length (ga encF (Cy.nW c t x w pr).fs), .row 65 3 (Cy.nW c t x w pr).bk.length (ga encP (Cy.nW c t x w pr).bk), .row 65 3 (Cy.nP c t x w pr).length (ga encP (Cy.nP c t x w pr))] := by
  by_cases h0 : (Cy.s0 c t x w pr).e = 0
  · by_cases hS : (Pn.suL (Cy.du c t w pr)).length = 0
    · exact v_night_a c t x w pr hc ht (by omega) hp h0 hS
    · exact v_night_b c t x w pr hc ht (by omega) hp h0 hS
  · exact v_night_e c t x w pr hc ht (by omega) hp hf1 hb1 h0
end Go.Proofs.YtpanlcnoopmchaaGreat
