/- What the document's answer on settling all at once is, round by round. (Under way.) -/
import Derived.Test.YtmbcdkgnlididaaVGridR
namespace Go.Proofs.Ytmbcdkgnlididaa
open Go Go.RowKit V
set_option maxRecDepth 100000
set_option linter.unusedVariables false
set_option maxHeartbeats 4000000 in
theorem v_rgsolve (has : List Int) (l : List Du) (ok : G.Ok has l) : V.FnR Try.prog 13 [.arr 1 has.length (ga e1 has), .arr 3 l.length (ga encD l)] [.one (.ref 0), .one (.ref 1)] (.one (.ref 2)) [.row 4 1 (G.best has l).length (ga eB (G.best has l))] := by
  have h60 := (N.chk_ok ok.c).1
  have ha := G.am_pos ok
  have hn := ok.n
  refine V.FnR.mk_ V.Tok V.mixed Try.func13 rfl Try.ntmps13 (by kernel_rfl) rfl rfl rfl rfl ?_
  repeat' ((conv => whnf); first | refine V.NCond.mk ?_ | refine V.NIf.not_ ?_ | refine V.NIf.dec_ ?_ | refine V.NIf.no (by omega) ?_ | refine V.NIf.yes (by omega) ?_ | refine V.NIf.mk (fun _ => ?_) (fun _ => ?_) | refine V.NWrap.ok (by omega) (by omega) ?_ | refine V.NWrap.u64 (by omega) (by omega) ?_ | refine V.NLt.mk (by omega) ?_ | refine V.NBoth.mk ?_ ?_ | refine V.NTF.yes (by omega) ?_ | refine V.NTF.no (by omega) ?_ | refine V.NTF.dec ?_ | refine V.NDraw.q (by exact rfl) (by kernel_rfl) ?_ | refine V.NApp.one (by first | omega | (simp; omega)) (by first | omega | (simp; omega)) ?_ | (refine NMake.mk ⟨l.length, l.length, rfl, rfl, by omega, by omega, by first | omega | (simp; omega), ?_⟩) | (refine V.NDraw.any (by kernel_rfl) ?_) | fail)
  (conv => whnf)
  refine V.NLoop.auto (fun (k : Nat) => [(6, .one (.val (.int .i64 k))), (5, .one (.ref 3))]) (fun (k : Nat) => [(3, .row 4 1 (G.fst l.length k).length (ga eB (G.fst l.length k)))]) [] [] (fun (k : Nat) => l.length - k) (fun (k : Nat) => k ≤ l.length) 0 (Nat.zero_le _) (by repeat' (first | exact rfl | exact Iff.rfl | exact trivial | exact (fun _ _ => rfl) | exact (fun _ h => absurd h (Nat.not_lt_zero _)) | refine ⟨?_, ?_⟩ | exact Iff.rfl | exact congrArg (fun z => V.SV.one (V.At.val (Value.int .i64 z))) (by omega))) (by (conv => whnf); exact ⟨ObLe.rep false (by simp [G.fst]) (fun _ => rfl), trivial⟩) (fun _ => ⟨rfl, rfl⟩) ?_; (conv => whnf); refine ⟨⟨rfl, rfl⟩, ?_⟩
  rintro k hk
  have fl := G.fst_len hk
  repeat' ((conv => whnf); first | refine V.NCond.mk ?_ | refine V.NIf.not_ ?_ | refine V.NIf.dec_ ?_ | refine V.NIf.no (by omega) ?_ | refine V.NIf.yes (by omega) ?_ | refine V.NIf.mk (fun _ => ?_) (fun _ => ?_) | refine V.NWrap.ok (by omega) (by omega) ?_ | refine V.NWrap.u64 (by omega) (by omega) ?_ | refine V.NLt.mk (by omega) ?_ | refine V.NBoth.mk ?_ ?_ | refine V.NTF.yes (by omega) ?_ | refine V.NTF.no (by omega) ?_ | refine V.NTF.dec ?_ | refine V.NDraw.q (by exact rfl) (by kernel_rfl) ?_ | refine V.NApp.one (by first | omega | (simp; omega)) (by first | omega | (simp; omega)) ?_ | (refine NIdx.mk ⟨k, rfl, by omega, ?_⟩) | (refine NPut.to _ (by first | rfl | simp) rfl ?_) | (refine V.NDraw.any (by kernel_rfl) ?_) | fail)
  · (conv => whnf)
    have hlt : k < l.length := by omega
    exact V.NBack.at_ (k + 1) [] (by omega) (by omega) (by repeat' (first | exact rfl | exact Iff.rfl | exact trivial | exact (fun _ _ => rfl) | exact (fun _ h => absurd h (Nat.not_lt_zero _)) | refine ⟨?_, ?_⟩ | exact Iff.rfl | exact congrArg (fun z => V.SV.one (V.At.val (Value.int .i64 z))) (by omega))) rfl ⟨ObLe.is_ (G.fst_succ hlt).symm (by rw [G.fst_len (by omega), G.fst_len (by omega)]), trivial⟩ (by repeat' (first | exact rfl | exact Iff.rfl | exact trivial | exact (fun _ _ => rfl) | exact (fun _ h => absurd h (Nat.not_lt_zero _)) | refine ⟨?_, ?_⟩ | exact Iff.rfl | exact congrArg (fun z => V.SV.one (V.At.val (Value.int .i64 z))) (by omega))) (by repeat' (first | exact rfl | exact Iff.rfl | exact trivial | exact (fun _ _ => rfl) | exact (fun _ h => absurd h (Nat.not_lt_zero _)) | refine ⟨?_, ?_⟩ | exact Iff.rfl | exact congrArg (fun z => V.SV.one (V.At.val (Value.int .i64 z))) (by omega)))
  obtain rfl : k = l.length := by omega
  refine V.NLoop.auto (fun (⟨b, ag⟩ : List Bool × Bool) => [(7, .one (.tf ag)), (5, .one (.ref 3))]) (fun (⟨b, ag⟩ : List Bool × Bool) => [(3, .row 4 1 b.length (ga eB b))]) [] [] (fun (⟨b, ag⟩ : List Bool × Bool) => G.cnt b + (if ag then 1 else 0)) (fun (⟨b, ag⟩ : List Bool × Bool) => G.Inv has l b ∧ (ag = false → G.Great has l b)) (G.fst l.length l.length, true) ⟨G.inv_start, by simp⟩ (by repeat' (first | exact rfl | exact Iff.rfl | exact trivial | exact (fun _ _ => rfl) | exact (fun _ h => absurd h (Nat.not_lt_zero _)) | refine ⟨?_, ?_⟩ | exact Iff.rfl | exact congrArg (fun z => V.SV.one (V.At.val (Value.int .i64 z))) (by omega))) (by repeat' (first | exact rfl | exact Iff.rfl | exact trivial | exact (fun _ _ => rfl) | exact (fun _ h => absurd h (Nat.not_lt_zero _)) | refine ⟨?_, ?_⟩ | exact Iff.rfl | exact congrArg (fun z => V.SV.one (V.At.val (Value.int .i64 z))) (by omega))) (fun _ => ⟨rfl, rfl⟩) ?_; (conv => whnf); refine ⟨⟨rfl, rfl⟩, ?_⟩
  rintro ⟨b, ag⟩ ⟨iv, hgr⟩
  have bl := iv.n
  cases ag with
  | false =>
    have e := G.best_is (hgr rfl)
    repeat' ((conv => whnf); first | refine V.NCond.mk ?_ | refine V.NIf.not_ ?_ | refine V.NIf.dec_ ?_ | refine V.NIf.no (by omega) ?_ | refine V.NIf.yes (by omega) ?_ | refine V.NIf.mk (fun _ => ?_) (fun _ => ?_) | refine V.NWrap.ok (by omega) (by omega) ?_ | refine V.NWrap.u64 (by omega) (by omega) ?_ | refine V.NLt.mk (by omega) ?_ | refine V.NBoth.mk ?_ ?_ | refine V.NTF.yes (by omega) ?_ | refine V.NTF.no (by omega) ?_ | refine V.NTF.dec ?_ | refine V.NDraw.q (by exact rfl) (by kernel_rfl) ?_ | refine V.NApp.one (by first | omega | (simp; omega)) (by first | omega | (simp; omega)) ?_ | (refine V.NDraw.any (by kernel_rfl) ?_) | fail)
    refine NRet.mk_ [some 3] rfl ?_ ?_
    · exact rfl
    · exact ⟨ObLe.as_ e, trivial⟩
  | true =>
    repeat' ((conv => whnf); first | refine V.NCond.mk ?_ | refine V.NIf.not_ ?_ | refine V.NIf.dec_ ?_ | refine V.NIf.no (by omega) ?_ | refine V.NIf.yes (by omega) ?_ | refine V.NIf.mk (fun _ => ?_) (fun _ => ?_) | refine V.NWrap.ok (by omega) (by omega) ?_ | refine V.NWrap.u64 (by omega) (by omega) ?_ | refine V.NLt.mk (by omega) ?_ | refine V.NBoth.mk ?_ ?_ | refine V.NTF.yes (by omega) ?_ | refine V.NTF.no (by omega) ?_ | refine V.NTF.dec ?_ | refine V.NDraw.q (by exact rfl) (by kernel_rfl) ?_ | refine V.NApp.one (by first | omega | (simp; omega)) (by first | omega | (simp; omega)) ?_ | (refine NOne.mk ?_ ?_; · (intro k hk; rfl)) | (refine NApp.all_ (en := eB) (by first | omega | (simp; omega)) (by omega) ?_) | (refine V.NDraw.any (by kernel_rfl) ?_) | fail)
    refine V.NLoop.auto (fun (⟨p, ag⟩ : Nat × Bool) => [(9, .one (.val (.int .i64 p))), (7, .one (.tf ag)), (8, .one (.ref 5))]) (fun (⟨p, ag⟩ : Nat × Bool) => [(5, .row 4 1 (G.half has l b p 0).length (ga eB (G.half has l b p 0)))]) [] [] (fun (⟨p, ag⟩ : Nat × Bool) => 31 - p) (fun (⟨p, ag⟩ : Nat × Bool) => p ≤ 31 ∧ (ag = true ↔ G.struck has l b p 0)) (0, false) ⟨by omega, ⟨fun h => (nomatch h), fun h => absurd h (G.struck_no ok)⟩⟩ (by repeat' (first | exact rfl | exact Iff.rfl | exact trivial | exact (fun _ _ => rfl) | exact (fun _ h => absurd h (Nat.not_lt_zero _)) | refine ⟨?_, ?_⟩ | exact Iff.rfl | exact congrArg (fun z => V.SV.one (V.At.val (Value.int .i64 z))) (by omega))) (by (conv => whnf); exact ⟨ObLe.as_ (G.half_start bl ok), trivial⟩) (fun _ => ⟨rfl, rfl⟩) ?_; (conv => whnf); refine ⟨⟨rfl, rfl⟩, ?_⟩
    rintro ⟨p, ag⟩ ⟨hp, hag⟩
    have hl := G.half_len has l b p 0
    by_cases hp31 : p < 31
    · have p0 := (ok.h _ (getD_mem (l := has) (k := p) (by rw [ok.n]; exact hp31)))
      repeat' ((conv => whnf); first | refine V.NCond.mk ?_ | refine V.NIf.not_ ?_ | refine V.NIf.dec_ ?_ | refine V.NIf.no (by omega) ?_ | refine V.NIf.yes (by omega) ?_ | refine V.NIf.mk (fun _ => ?_) (fun _ => ?_) | refine V.NWrap.ok (by omega) (by omega) ?_ | refine V.NWrap.u64 (by omega) (by omega) ?_ | refine V.NLt.mk (by omega) ?_ | refine V.NBoth.mk ?_ ?_ | refine V.NTF.yes (by omega) ?_ | refine V.NTF.no (by omega) ?_ | refine V.NTF.dec ?_ | refine V.NDraw.q (by exact rfl) (by kernel_rfl) ?_ | refine V.NApp.one (by first | omega | (simp; omega)) (by first | omega | (simp; omega)) ?_ | (refine NIdx.mk ⟨p, rfl, by omega, ?_⟩) | (refine V.NDraw.any (by kernel_rfl) ?_) | fail)
      (conv => whnf)
      rw [show has.getD p default = has.getD p default + G.sf (G.gi p) (l.take 0) (b.take 0) by rw [G.sf_zero, Int.add_zero]]
      refine V.NLoop.auto (fun (k : Nat) => [(11, .one (.val (.int .i64 k))), (10, .one (.val (.int .i64 (has.getD p default + G.sf (G.gi p) (l.take k) (b.take k)))))]) (fun (k : Nat) => []) [] [] (fun (k : Nat) => l.length - k) (fun (k : Nat) => k ≤ l.length) 0 (Nat.zero_le _) (by repeat' (first | exact rfl | exact Iff.rfl | exact trivial | exact (fun _ _ => rfl) | exact (fun _ h => absurd h (Nat.not_lt_zero _)) | refine ⟨?_, ?_⟩ | exact Iff.rfl | exact congrArg (fun z => V.SV.one (V.At.val (Value.int .i64 z))) (by omega))) (by repeat' (first | exact rfl | exact Iff.rfl | exact trivial | exact (fun _ _ => rfl) | exact (fun _ h => absurd h (Nat.not_lt_zero _)) | refine ⟨?_, ?_⟩ | exact Iff.rfl | exact congrArg (fun z => V.SV.one (V.At.val (Value.int .i64 z))) (by omega))) (fun _ => ⟨rfl, rfl⟩) ?_; (conv => whnf); refine ⟨⟨rfl, rfl⟩, ?_⟩
      have pe := G.mem_sum (fun a ha => (ok.h a ha).1) _ (getD_mem (l := has) (k := p) (by rw [ok.n]; exact hp31))
      have os := ok.s
      rintro k hk
      have g0 := G.sf_bd (f := G.gi p) bl (G.gi_am ha) k hk
      have g1 := G.sumD_take ha k
      by_cases hlt : k < l.length
      · have g2 := g1.2.2 hlt
        have am := ha _ (getD_mem hlt)
        have step := G.sf_snoc (f := G.gi p) hlt bl
        have ge : G.gi p (l.getD k default, b.getD k default) = if b.getD k default = true ∧ (l.getD k default).to = p then (l.getD k default).am else 0 := rfl
        rw [ge] at step
        clear ge
        repeat' ((conv => whnf); first | refine V.NCond.mk ?_ | refine V.NIf.not_ ?_ | refine V.NIf.dec_ ?_ | refine V.NIf.no (by omega) ?_ | refine V.NIf.yes (by omega) ?_ | refine V.NIf.mk (fun _ => ?_) (fun _ => ?_) | refine V.NWrap.ok (by omega) (by omega) ?_ | refine V.NWrap.u64 (by omega) (by omega) ?_ | refine V.NLt.mk (by omega) ?_ | refine V.NBoth.mk ?_ ?_ | refine V.NTF.yes (by omega) ?_ | refine V.NTF.no (by omega) ?_ | refine V.NTF.dec ?_ | refine V.NDraw.q (by exact rfl) (by kernel_rfl) ?_ | refine V.NApp.one (by first | omega | (simp; omega)) (by first | omega | (simp; omega)) ?_ | (refine NIdx.mk ⟨k, rfl, by omega, ?_⟩) | (refine V.NDraw.any (by kernel_rfl) ?_) | fail)
        all_goals (conv => whnf)
        all_goals refine V.NBack.at_ (k + 1) [] (by omega) (by omega) ⟨(by repeat' (first | exact rfl | exact Iff.rfl | exact trivial | exact (fun _ _ => rfl) | exact (fun _ h => absurd h (Nat.not_lt_zero _)) | refine ⟨?_, ?_⟩ | exact Iff.rfl | exact congrArg (fun z => V.SV.one (V.At.val (Value.int .i64 z))) (by omega))), ?_, trivial⟩ rfl (by repeat' (first | exact rfl | exact Iff.rfl | exact trivial | exact (fun _ _ => rfl) | exact (fun _ h => absurd h (Nat.not_lt_zero _)) | refine ⟨?_, ?_⟩ | exact Iff.rfl | exact congrArg (fun z => V.SV.one (V.At.val (Value.int .i64 z))) (by omega))) (by repeat' (first | exact rfl | exact Iff.rfl | exact trivial | exact (fun _ _ => rfl) | exact (fun _ h => absurd h (Nat.not_lt_zero _)) | refine ⟨?_, ?_⟩ | exact Iff.rfl | exact congrArg (fun z => V.SV.one (V.At.val (Value.int .i64 z))) (by omega))) (by repeat' (first | exact rfl | exact Iff.rfl | exact trivial | exact (fun _ _ => rfl) | exact (fun _ h => absurd h (Nat.not_lt_zero _)) | refine ⟨?_, ?_⟩ | exact Iff.rfl | exact congrArg (fun z => V.SV.one (V.At.val (Value.int .i64 z))) (by omega)))
        all_goals refine congrArg (fun z => V.SV.one (V.At.val (Value.int .i64 z))) ?_
        all_goals rw [step]
        · rw [if_pos ⟨by assumption, by assumption⟩]; omega
        · rw [if_neg (fun q => absurd q.2 (by assumption))]; omega
        · rw [if_neg (fun q => absurd q.1 (by assumption))]; omega
      obtain rfl : k = l.length := by omega
      have hin : has.getD p default + G.sf (G.gi p) (l.take l.length) (b.take l.length) = G.inn has p l b := by
        unfold G.inn; rw [G.sf_whole bl, Int.toNat_natCast]
      have inp := G.inn_pos ok bl (p := p) (by omega) (by omega)
      have inb : G.inn has p l b ≤ 1152921504606846976 := by rw [← hin]; omega
      have o0 : G.outs p l b 0 = 0 := G.sf_zero
      repeat' ((conv => whnf); first | refine V.NCond.mk ?_ | refine V.NIf.not_ ?_ | refine V.NIf.dec_ ?_ | refine V.NIf.no (by omega) ?_ | refine V.NIf.yes (by omega) ?_ | refine V.NIf.mk (fun _ => ?_) (fun _ => ?_) | refine V.NWrap.ok (by omega) (by omega) ?_ | refine V.NWrap.u64 (by omega) (by omega) ?_ | refine V.NLt.mk (by omega) ?_ | refine V.NBoth.mk ?_ ?_ | refine V.NTF.yes (by omega) ?_ | refine V.NTF.no (by omega) ?_ | refine V.NTF.dec ?_ | refine V.NDraw.q (by exact rfl) (by kernel_rfl) ?_ | refine V.NApp.one (by first | omega | (simp; omega)) (by first | omega | (simp; omega)) ?_ | (refine V.NDraw.any (by kernel_rfl) ?_) | fail)
      (conv => whnf)
      refine V.NLoop.auto (fun (⟨k, ag⟩ : Nat × Bool) => [(13, .one (.val (.int .i64 k))), (12, .one (.prop (G.inn has p l b < G.outs p l b k))), (10, .one (.val (.int .i64 (G.inn has p l b - G.outs p l b k)))), (7, .one (.tf ag)), (8, .one (.ref 5))]) (fun (⟨k, ag⟩ : Nat × Bool) => [(5, .row 4 1 (G.half has l b p k).length (ga eB (G.half has l b p k)))]) [] [] (fun (⟨k, ag⟩ : Nat × Bool) => l.length - k) (fun (⟨k, ag⟩ : Nat × Bool) => k ≤ l.length ∧ (ag = true ↔ G.struck has l b p k)) (0, ag) ⟨by omega, hag⟩ (by (conv => whnf); exact ⟨rfl, ⟨fun h => (nomatch h), fun h => by omega⟩, congrArg (fun z => V.SV.one (V.At.val (Value.int .i64 z))) (by rw [hin]; omega), rfl, rfl, trivial⟩) (by (conv => whnf); exact ⟨ObLe.as_ rfl, trivial⟩) (fun _ => ⟨rfl, rfl⟩) ?_; (conv => whnf); refine ⟨⟨rfl, rfl⟩, ?_⟩
      rintro ⟨k, ag⟩ ⟨hk, hag⟩
      have hl := G.half_len has l b p k
      by_cases hlt : k < l.length
      · have am := N.ck_ok ((N.chk_ok ok.c).2 _ (getD_mem hlt))
        have step := G.outs_succ (p := p) hlt bl
        have ge : G.go p (l.getD k default, b.getD k default) = if b.getD k default = true ∧ (l.getD k default).fr = p then (l.getD k default).am else 0 := rfl
        rw [ge] at step
        clear ge
        have ob := G.sf_bd (f := G.go p) bl (G.go_am ha) k (by omega)
        change 0 ≤ G.outs p l b k ∧ G.outs p l b k ≤ _ at ob
        have g1 := G.sumD_take ha k
        have g2 := g1.2.2 hlt
        have hps := G.sum_pos fun a ha => (ok.h a ha).1
        have kp : b.getD k default = true → (l.getD k default).fr = p → G.keep has l b k = decide (G.outs p l b (k + 1) ≤ G.inn has p l b) := fun h1 h2 => by
          unfold G.keep; rw [h1, h2]; rfl
        have b2 : 0 ≤ G.outs p l b k ∧ G.outs p l b k + (l.getD k default).am ≤ 1152921504606846976 := by omega
        have b3 : 1 ≤ (l.getD k default).am := am.2.2.1.1
        have Hag := hid hag
        have Hst := hid step
        have Hkp := hid kp
        clear hag kp step g1 g2 ob hps p0 pe os g0 am o0 hin
        repeat' ((conv => whnf); first | refine V.NCond.mk ?_ | refine V.NIf.not_ ?_ | refine V.NIf.dec_ ?_ | refine V.NIf.no (by omega) ?_ | refine V.NIf.yes (by omega) ?_ | refine V.NIf.mk (fun _ => ?_) (fun _ => ?_) | refine V.NWrap.ok (by omega) (by omega) ?_ | refine V.NWrap.u64 (by omega) (by omega) ?_ | refine V.NLt.mk (by omega) ?_ | refine V.NBoth.mk ?_ ?_ | refine V.NTF.yes (by omega) ?_ | refine V.NTF.no (by omega) ?_ | refine V.NTF.dec ?_ | refine V.NDraw.q (by exact rfl) (by kernel_rfl) ?_ | refine V.NApp.one (by first | omega | (simp; omega)) (by first | omega | (simp; omega)) ?_ | (refine NIdx.mk ⟨k, rfl, by omega, ?_⟩) | (refine NPut.to _ (by first | rfl | simp) rfl ?_) | (refine V.NDraw.any (by kernel_rfl) ?_) | fail)
        all_goals (conv => whnf)
        all_goals
          have step := Hst.out
          have kp := Hkp.out
          have hag := Hag.out
        · have so : G.outs p l b (k + 1) = G.outs p l b k + (l.getD k default).am := by rw [step, if_pos ⟨by assumption, by assumption⟩]
          have kf : G.keep has l b k = false := by rw [kp (by assumption) (by assumption)]; exact decide_eq_false (by omega)
          refine V.NBack.at_ (k + 1, true) [] ⟨by omega, fun _ => G.struck_off hlt (by assumption) (by assumption) kf, fun _ => rfl⟩ (show _ < _ by simp only; omega) ⟨rfl, ⟨fun _ => by omega, fun _ => rfl⟩, congrArg (fun z => V.SV.one (V.At.val (Value.int .i64 z))) (by omega), rfl, rfl, trivial⟩ rfl ⟨ObLe.is_ (G.half_off hlt (by assumption) kf) (by rw [G.half_len, G.half_len]), trivial⟩ (by repeat' (first | exact rfl | exact Iff.rfl | exact trivial | exact (fun _ _ => rfl) | exact (fun _ h => absurd h (Nat.not_lt_zero _)) | refine ⟨?_, ?_⟩ | exact Iff.rfl | exact congrArg (fun z => V.SV.one (V.At.val (Value.int .i64 z))) (by omega))) (by repeat' (first | exact rfl | exact Iff.rfl | exact trivial | exact (fun _ _ => rfl) | exact (fun _ h => absurd h (Nat.not_lt_zero _)) | refine ⟨?_, ?_⟩ | exact Iff.rfl | exact congrArg (fun z => V.SV.one (V.At.val (Value.int .i64 z))) (by omega)))
        · have so : G.outs p l b (k + 1) = G.outs p l b k + (l.getD k default).am := by rw [step, if_pos ⟨by assumption, by assumption⟩]
          have kf : G.keep has l b k = false := by rw [kp (by assumption) (by assumption)]; exact decide_eq_false (by omega)
          refine V.NBack.at_ (k + 1, true) [] ⟨by omega, fun _ => G.struck_off hlt (by assumption) (by assumption) kf, fun _ => rfl⟩ (show _ < _ by simp only; omega) ⟨rfl, ⟨fun _ => by omega, fun _ => by omega⟩, congrArg (fun z => V.SV.one (V.At.val (Value.int .i64 z))) (by omega), rfl, rfl, trivial⟩ rfl ⟨ObLe.is_ (G.half_off hlt (by assumption) kf) (by rw [G.half_len, G.half_len]), trivial⟩ (by repeat' (first | exact rfl | exact Iff.rfl | exact trivial | exact (fun _ _ => rfl) | exact (fun _ h => absurd h (Nat.not_lt_zero _)) | refine ⟨?_, ?_⟩ | exact Iff.rfl | exact congrArg (fun z => V.SV.one (V.At.val (Value.int .i64 z))) (by omega))) (by repeat' (first | exact rfl | exact Iff.rfl | exact trivial | exact (fun _ _ => rfl) | exact (fun _ h => absurd h (Nat.not_lt_zero _)) | refine ⟨?_, ?_⟩ | exact Iff.rfl | exact congrArg (fun z => V.SV.one (V.At.val (Value.int .i64 z))) (by omega)))
        · have so : G.outs p l b (k + 1) = G.outs p l b k + (l.getD k default).am := by rw [step, if_pos ⟨by assumption, by assumption⟩]
          have kt : G.keep has l b k = true := by rw [kp (by assumption) (by assumption)]; exact decide_eq_true (by omega)
          refine V.NBack.at_ (k + 1, ag) [] ⟨by omega, hag.trans (G.struck_on hlt (.inr kt)).symm⟩ (show _ < _ by simp only; omega) ⟨rfl, ⟨fun q => by omega, fun q => by omega⟩, congrArg (fun z => V.SV.one (V.At.val (Value.int .i64 z))) (by omega), rfl, rfl, trivial⟩ rfl ⟨ObLe.as_ (G.half_on hlt (.inr kt)), trivial⟩ (by repeat' (first | exact rfl | exact Iff.rfl | exact trivial | exact (fun _ _ => rfl) | exact (fun _ h => absurd h (Nat.not_lt_zero _)) | refine ⟨?_, ?_⟩ | exact Iff.rfl | exact congrArg (fun z => V.SV.one (V.At.val (Value.int .i64 z))) (by omega))) (by repeat' (first | exact rfl | exact Iff.rfl | exact trivial | exact (fun _ _ => rfl) | exact (fun _ h => absurd h (Nat.not_lt_zero _)) | refine ⟨?_, ?_⟩ | exact Iff.rfl | exact congrArg (fun z => V.SV.one (V.At.val (Value.int .i64 z))) (by omega)))
        · have so : G.outs p l b (k + 1) = G.outs p l b k := by rw [step, if_neg (fun q => absurd q.2 (by assumption)), Int.add_zero]
          have no : ¬ (b.getD k default = true ∧ (l.getD k default).fr = p) := fun q => absurd q.2 (by assumption)
          refine V.NBack.at_ (k + 1, ag) [] ⟨by omega, hag.trans (G.struck_on hlt (.inl no)).symm⟩ (show _ < _ by simp only; omega) ⟨rfl, (by rw [so]; exact Iff.rfl), congrArg (fun z => V.SV.one (V.At.val (Value.int .i64 z))) (by omega), rfl, rfl, trivial⟩ rfl ⟨ObLe.as_ (G.half_on hlt (.inl no)), trivial⟩ (by repeat' (first | exact rfl | exact Iff.rfl | exact trivial | exact (fun _ _ => rfl) | exact (fun _ h => absurd h (Nat.not_lt_zero _)) | refine ⟨?_, ?_⟩ | exact Iff.rfl | exact congrArg (fun z => V.SV.one (V.At.val (Value.int .i64 z))) (by omega))) (by repeat' (first | exact rfl | exact Iff.rfl | exact trivial | exact (fun _ _ => rfl) | exact (fun _ h => absurd h (Nat.not_lt_zero _)) | refine ⟨?_, ?_⟩ | exact Iff.rfl | exact congrArg (fun z => V.SV.one (V.At.val (Value.int .i64 z))) (by omega)))
        · have so : G.outs p l b (k + 1) = G.outs p l b k := by rw [step, if_neg (fun q => absurd q.1 (by assumption)), Int.add_zero]
          have no : ¬ (b.getD k default = true ∧ (l.getD k default).fr = p) := fun q => absurd q.1 (by assumption)
          refine V.NBack.at_ (k + 1, ag) [] ⟨by omega, hag.trans (G.struck_on hlt (.inl no)).symm⟩ (show _ < _ by simp only; omega) ⟨rfl, (by rw [so]; exact Iff.rfl), congrArg (fun z => V.SV.one (V.At.val (Value.int .i64 z))) (by omega), rfl, rfl, trivial⟩ rfl ⟨ObLe.as_ (G.half_on hlt (.inl no)), trivial⟩ (by repeat' (first | exact rfl | exact Iff.rfl | exact trivial | exact (fun _ _ => rfl) | exact (fun _ h => absurd h (Nat.not_lt_zero _)) | refine ⟨?_, ?_⟩ | exact Iff.rfl | exact congrArg (fun z => V.SV.one (V.At.val (Value.int .i64 z))) (by omega))) (by repeat' (first | exact rfl | exact Iff.rfl | exact trivial | exact (fun _ _ => rfl) | exact (fun _ h => absurd h (Nat.not_lt_zero _)) | refine ⟨?_, ?_⟩ | exact Iff.rfl | exact congrArg (fun z => V.SV.one (V.At.val (Value.int .i64 z))) (by omega)))
      · obtain rfl : k = l.length := by omega
        repeat' ((conv => whnf); first | refine V.NCond.mk ?_ | refine V.NIf.not_ ?_ | refine V.NIf.dec_ ?_ | refine V.NIf.no (by omega) ?_ | refine V.NIf.yes (by omega) ?_ | refine V.NIf.mk (fun _ => ?_) (fun _ => ?_) | refine V.NWrap.ok (by omega) (by omega) ?_ | refine V.NWrap.u64 (by omega) (by omega) ?_ | refine V.NLt.mk (by omega) ?_ | refine V.NBoth.mk ?_ ?_ | refine V.NTF.yes (by omega) ?_ | refine V.NTF.no (by omega) ?_ | refine V.NTF.dec ?_ | refine V.NDraw.q (by exact rfl) (by kernel_rfl) ?_ | refine V.NApp.one (by first | omega | (simp; omega)) (by first | omega | (simp; omega)) ?_ | (refine V.NDraw.any (by kernel_rfl) ?_) | fail)
        (conv => whnf)
        exact V.NBack.at_ (p + 1, ag) [] ⟨by omega, hag.trans G.struck_next⟩ (show _ < _ by simp only; omega) (by repeat' (first | exact rfl | exact Iff.rfl | exact trivial | exact (fun _ _ => rfl) | exact (fun _ h => absurd h (Nat.not_lt_zero _)) | refine ⟨?_, ?_⟩ | exact Iff.rfl | exact congrArg (fun z => V.SV.one (V.At.val (Value.int .i64 z))) (by omega))) rfl ⟨ObLe.as_ G.half_next.symm, trivial⟩ (by repeat' (first | exact rfl | exact Iff.rfl | exact trivial | exact (fun _ _ => rfl) | exact (fun _ h => absurd h (Nat.not_lt_zero _)) | refine ⟨?_, ?_⟩ | exact Iff.rfl | exact congrArg (fun z => V.SV.one (V.At.val (Value.int .i64 z))) (by omega))) (by repeat' (first | exact rfl | exact Iff.rfl | exact trivial | exact (fun _ _ => rfl) | exact (fun _ h => absurd h (Nat.not_lt_zero _)) | refine ⟨?_, ?_⟩ | exact Iff.rfl | exact congrArg (fun z => V.SV.one (V.At.val (Value.int .i64 z))) (by omega)))
    · obtain rfl : p = 31 := by omega
      have he := G.half_end (b := b) ok
      repeat' ((conv => whnf); first | refine V.NCond.mk ?_ | refine V.NIf.not_ ?_ | refine V.NIf.dec_ ?_ | refine V.NIf.no (by omega) ?_ | refine V.NIf.yes (by omega) ?_ | refine V.NIf.mk (fun _ => ?_) (fun _ => ?_) | refine V.NWrap.ok (by omega) (by omega) ?_ | refine V.NWrap.u64 (by omega) (by omega) ?_ | refine V.NLt.mk (by omega) ?_ | refine V.NBoth.mk ?_ ?_ | refine V.NTF.yes (by omega) ?_ | refine V.NTF.no (by omega) ?_ | refine V.NTF.dec ?_ | refine V.NDraw.q (by exact rfl) (by kernel_rfl) ?_ | refine V.NApp.one (by first | omega | (simp; omega)) (by first | omega | (simp; omega)) ?_ | (refine V.NDraw.any (by kernel_rfl) ?_) | fail)
      (conv => whnf)
      refine V.NBack.at_ (G.nxt has l b, ag) [(3, 5)] ⟨G.inv_nxt ok iv, fun q => ?_⟩ ?_ (by repeat' (first | exact rfl | exact Iff.rfl | exact trivial | exact (fun _ _ => rfl) | exact (fun _ h => absurd h (Nat.not_lt_zero _)) | refine ⟨?_, ?_⟩ | exact Iff.rfl | exact congrArg (fun z => V.SV.one (V.At.val (Value.int .i64 z))) (by omega))) rfl ⟨ObLe.as_ he.symm, trivial⟩ (by repeat' (first | exact rfl | exact Iff.rfl | exact trivial | exact (fun _ _ => rfl) | exact (fun _ h => absurd h (Nat.not_lt_zero _)) | refine ⟨?_, ?_⟩ | exact Iff.rfl | exact congrArg (fun z => V.SV.one (V.At.val (Value.int .i64 z))) (by omega))) (by repeat' (first | exact rfl | exact Iff.rfl | exact trivial | exact (fun _ _ => rfl) | exact (fun _ h => absurd h (Nat.not_lt_zero _)) | refine ⟨?_, ?_⟩ | exact Iff.rfl | exact congrArg (fun z => V.SV.one (V.At.val (Value.int .i64 z))) (by omega)))
      · have ns : ¬ G.struck has l b 31 0 := fun z => by rw [hag.2 z] at q; cases q
        rw [(G.nxt_same ok bl ns).1]
        exact G.great_nxt ok iv (G.nxt_same ok bl ns).2
      · cases ag with
        | true => have := G.nxt_less bl (hag.1 rfl); simp; omega
        | false =>
          have ns : ¬ G.struck has l b 31 0 := fun z => by have := hag.2 z; cases this
          rw [(G.nxt_same ok bl ns).1]; simp
end Go.Proofs.Ytmbcdkgnlididaa
