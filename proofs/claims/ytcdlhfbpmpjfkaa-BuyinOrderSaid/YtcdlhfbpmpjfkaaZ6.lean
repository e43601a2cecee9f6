/- Shared texts, one behind the other: VBuy2, BuyPl3, VBuy3, VLoan6, VBuy4, VOpenI, VBuy5, VLoan7, VLoan3, VSh6, VLoan8, VBuy6, BuyPl4, VOpenOf -/
import Derived.Test.YtcdlhfbpmpjfkaaZ1
import Derived.Test.YtcdlhfbpmpjfkaaZ2
import Derived.Test.YtcdlhfbpmpjfkaaZ3
import Derived.Test.YtcdlhfbpmpjfkaaZ4
import Derived.Test.YtcdlhfbpmpjfkaaZ5

/- What the functions of buying in answer: what is taken. -/
namespace Go.Proofs.Ytcdlhfbpmpjfkaa
open Go Go.Sort Go.RowKit V
set_option maxRecDepth 100000
set_option linter.unusedVariables false
set_option linter.unusedSimpArgs false
set_option maxHeartbeats 4000000
theorem v_byErr (l : List Of) (m : Int) (hn : l.length ≤ 9223372036854775807) : V.Fn Try.prog 27 [.arr 3 l.length (ga encO l)] [.one (.ref 0), .one (.val (.int .i64 m))] (.int .i64 (B.err l m)) := by
  have ck := v_lnCheck l hn
  rcases B.err_cases l m with ⟨a, e⟩ | ⟨a, b, e⟩ | ⟨a, b, e⟩
  · rw [e]
    generalize O.chk l = C at *
    refine V.Fn.mk_ V.Tok V.mixed Try.func27 rfl Try.ntmps27 (by kernel_rfl) rfl rfl ?_
    repeat' ((conv => whnf); first | (refine V.NIf.yes ?_ ?_; · (decide; done)) | (refine V.NIf.no ?_ ?_; · (decide; done)) | refine V.NCond.mk ?_ | refine V.NIf.not_ ?_ | refine V.NIf.dec_ ?_ | refine V.NIf.no (by omega) ?_ | refine V.NIf.yes (by omega) ?_ | refine V.NIf.mk (fun _ => ?_) (fun _ => ?_) | refine V.NWrap.ok (by omega) (by omega) ?_ | refine V.NWrap.u64 (by omega) (by omega) ?_ | refine V.NLt.mk (by omega) ?_ | refine V.NBoth.mk ?_ ?_ | refine V.NTF.yes (by omega) ?_ | refine V.NTF.no (by omega) ?_ | refine V.NTF.dec ?_ | refine V.NDraw.q (by exact rfl) (by kernel_rfl) ?_ | refine V.NApp.one (by first | omega | (simp; omega)) (by first | omega | (simp; omega)) ?_ | ((first | refine V.Fn.k (ck) [0] rfl ?_ ?_ | refine V.Fn.q (ck) [0] rfl ?_ ?_ | refine V.Fn.a (ck) [0] rfl ?_ ?_); · ((repeat' (first | exact rfl | exact Iff.rfl | exact trivial | exact (fun _ _ => rfl) | exact (fun _ h => absurd h (Nat.not_lt_zero _)) | refine ⟨?_, ?_⟩ | exact Iff.rfl | exact congrArg (fun z => V.SV.one (V.At.val (Value.int .i64 z))) (by omega))); done)) | (refine V.NDraw.any (by kernel_rfl) ?_) | fail)
    all_goals (conv => whnf)
    all_goals exact V.fin1 rfl
  all_goals (
    rw [e]
    rw [a] at ck
    refine V.Fn.mk_ V.Tok V.mixed Try.func27 rfl Try.ntmps27 (by kernel_rfl) rfl rfl ?_
    repeat' ((conv => whnf); first | (refine V.NIf.yes ?_ ?_; · (decide; done)) | (refine V.NIf.no ?_ ?_; · (decide; done)) | refine V.NCond.mk ?_ | refine V.NIf.not_ ?_ | refine V.NIf.dec_ ?_ | refine V.NIf.no (by omega) ?_ | refine V.NIf.yes (by omega) ?_ | refine V.NIf.mk (fun _ => ?_) (fun _ => ?_) | refine V.NWrap.ok (by omega) (by omega) ?_ | refine V.NWrap.u64 (by omega) (by omega) ?_ | refine V.NLt.mk (by omega) ?_ | refine V.NBoth.mk ?_ ?_ | refine V.NTF.yes (by omega) ?_ | refine V.NTF.no (by omega) ?_ | refine V.NTF.dec ?_ | refine V.NDraw.q (by exact rfl) (by kernel_rfl) ?_ | refine V.NApp.one (by first | omega | (simp; omega)) (by first | omega | (simp; omega)) ?_ | ((first | refine V.Fn.k (ck) [0] rfl ?_ ?_ | refine V.Fn.q (ck) [0] rfl ?_ ?_ | refine V.Fn.a (ck) [0] rfl ?_ ?_); · ((repeat' (first | exact rfl | exact Iff.rfl | exact trivial | exact (fun _ _ => rfl) | exact (fun _ h => absurd h (Nat.not_lt_zero _)) | refine ⟨?_, ?_⟩ | exact Iff.rfl | exact congrArg (fun z => V.SV.one (V.At.val (Value.int .i64 z))) (by omega))); done)) | (refine V.NDraw.any (by kernel_rfl) ?_) | fail)
    all_goals (conv => whnf)
    all_goals exact V.fin1 rfl)
def _root_.Go.Proofs.Ytcdlhfbpmpjfkaa.B.oL (l : List Of) : List Int := if O.chk l = 0 then nats (B.ord l) else []
theorem v_byOrder (l : List Of) (hn : l.length ≤ 9223372036854775807) : V.FnR Try.prog 9 [.arr 3 l.length (ga encO l)] [.one (.ref 0)] (.tup [.one (.ref 1), .one (.val (.int .i64 (O.chk l)))]) [.row 3 1 (B.oL l).length (ga e1 (B.oL l))] := by
  have ck := v_lnCheck l hn
  by_cases h : O.chk l = 0
  · have co := v_ordered l (O.chk_ok h).le
    rw [show B.oL l = nats (B.ord l) from if_pos h]
    rw [h] at ck ⊢
    generalize nats (B.ord l) = R at *
    refine V.FnR.mk_ V.Tok V.mixed Try.func9 rfl Try.ntmps9 (by kernel_rfl) rfl rfl rfl rfl ?_
    repeat' ((conv => whnf); first | (refine V.NIf.yes ?_ ?_; · (decide; done)) | (refine V.NIf.no ?_ ?_; · (decide; done)) | refine V.NCond.mk ?_ | refine V.NIf.not_ ?_ | refine V.NIf.dec_ ?_ | refine V.NIf.no (by omega) ?_ | refine V.NIf.yes (by omega) ?_ | refine V.NIf.mk (fun _ => ?_) (fun _ => ?_) | refine V.NWrap.ok (by omega) (by omega) ?_ | refine V.NWrap.u64 (by omega) (by omega) ?_ | refine V.NLt.mk (by omega) ?_ | refine V.NBoth.mk ?_ ?_ | refine V.NTF.yes (by omega) ?_ | refine V.NTF.no (by omega) ?_ | refine V.NTF.dec ?_ | refine V.NDraw.q (by exact rfl) (by kernel_rfl) ?_ | refine V.NApp.one (by first | omega | (simp; omega)) (by first | omega | (simp; omega)) ?_ | ((first | refine V.Fn.k (ck) [0] rfl ?_ ?_ | refine V.Fn.q (ck) [0] rfl ?_ ?_ | refine V.Fn.a (ck) [0] rfl ?_ ?_); · ((repeat' (first | exact rfl | exact Iff.rfl | exact trivial | exact (fun _ _ => rfl) | exact (fun _ h => absurd h (Nat.not_lt_zero _)) | refine ⟨?_, ?_⟩ | exact Iff.rfl | exact congrArg (fun z => V.SV.one (V.At.val (Value.int .i64 z))) (by omega))); done)) | ((first | refine V.FnR.k_ (co) [0] rfl ?_ ?_ | refine V.FnR.a_ (co) [0] rfl ?_ ?_); · ((repeat' (first | exact rfl | exact Iff.rfl | exact trivial | exact (fun _ _ => rfl) | exact (fun _ h => absurd h (Nat.not_lt_zero _)) | refine ⟨?_, ?_⟩ | exact Iff.rfl | exact congrArg (fun z => V.SV.one (V.At.val (Value.int .i64 z))) (by omega))); done)) | (refine V.NDraw.any (by kernel_rfl) ?_) | fail)
    all_goals (conv => whnf)
    all_goals exact NRet.mk_ [some 2] rfl ⟨rfl, rfl, trivial⟩ ⟨⟨rfl, rfl, rfl, fun k hk => rfl⟩, trivial⟩
  · rw [show B.oL l = [] from if_neg h]
    generalize O.chk l = C at *
    refine V.FnR.mk_ V.Tok V.mixed Try.func9 rfl Try.ntmps9 (by kernel_rfl) rfl rfl rfl rfl ?_
    repeat' ((conv => whnf); first | (refine V.NIf.yes ?_ ?_; · (decide; done)) | (refine V.NIf.no ?_ ?_; · (decide; done)) | refine V.NCond.mk ?_ | refine V.NIf.not_ ?_ | refine V.NIf.dec_ ?_ | refine V.NIf.no (by omega) ?_ | refine V.NIf.yes (by omega) ?_ | refine V.NIf.mk (fun _ => ?_) (fun _ => ?_) | refine V.NWrap.ok (by omega) (by omega) ?_ | refine V.NWrap.u64 (by omega) (by omega) ?_ | refine V.NLt.mk (by omega) ?_ | refine V.NBoth.mk ?_ ?_ | refine V.NTF.yes (by omega) ?_ | refine V.NTF.no (by omega) ?_ | refine V.NTF.dec ?_ | refine V.NDraw.q (by exact rfl) (by kernel_rfl) ?_ | refine V.NApp.one (by first | omega | (simp; omega)) (by first | omega | (simp; omega)) ?_ | ((first | refine V.Fn.k (ck) [0] rfl ?_ ?_ | refine V.Fn.q (ck) [0] rfl ?_ ?_ | refine V.Fn.a (ck) [0] rfl ?_ ?_); · ((repeat' (first | exact rfl | exact Iff.rfl | exact trivial | exact (fun _ _ => rfl) | exact (fun _ h => absurd h (Nat.not_lt_zero _)) | refine ⟨?_, ?_⟩ | exact Iff.rfl | exact congrArg (fun z => V.SV.one (V.At.val (Value.int .i64 z))) (by omega))); done)) | (refine V.NDraw.any (by kernel_rfl) ?_) | fail)
    all_goals (conv => whnf)
    all_goals exact NRet.mk_ [some 2] rfl ⟨rfl, rfl, trivial⟩ ⟨⟨rfl, rfl, rfl, fun k hk => absurd hk (Nat.not_lt_zero _)⟩, trivial⟩
theorem v_taken (l : List Of) (m p : Int) (ok : O.Oks l) (hm : 1 ≤ m ∧ m ≤ 1073741824) : V.FnR Try.prog 29 [.arr 3 l.length (ga encO l)] [.one (.ref 0), .one (.val (.int .i64 m)), .one (.val (.int .i64 p))] (.tup [.one (.ref 1), .one (.val (.int .i64 (B.lef l m p))), .one (.val (.int .i64 (B.lst l m p)))]) [.row 3 1 (B.tak l m p).length (ga e1 (B.tak l m p))] := by
  have le := ok.le
  have co := v_ordered l le
  have lD : (nats (B.ord l)).length = l.length := by rw [nats_len]; exact Od.srt_len _ _
  have tl := B.tak_len l m p
  have f0 := B.F_0 (l := l) (m := m) (p := p) (by omega)
  have o0 := Gr.outs_0 (u := B.V l p) (bf := B.bf l) (n := l.length) (m := m)
  rw [lD] at co
  refine V.FnR.mk_ V.Tok V.mixed Try.func29 rfl Try.ntmps29 (by kernel_rfl) rfl rfl rfl rfl ?_
  repeat' ((conv => whnf); first | refine V.NCond.mk ?_ | refine V.NIf.not_ ?_ | refine V.NIf.dec_ ?_ | refine V.NIf.no (by omega) ?_ | refine V.NIf.yes (by omega) ?_ | refine V.NIf.mk (fun _ => ?_) (fun _ => ?_) | refine V.NWrap.ok (by omega) (by omega) ?_ | refine V.NWrap.u64 (by omega) (by omega) ?_ | refine V.NLt.mk (by omega) ?_ | refine V.NBoth.mk ?_ ?_ | refine V.NTF.yes (by omega) ?_ | refine V.NTF.no (by omega) ?_ | refine V.NTF.dec ?_ | refine V.NDraw.q (by exact rfl) (by kernel_rfl) ?_ | refine V.NApp.one (by first | omega | (simp; omega)) (by first | omega | (simp; omega)) ?_ | (refine NMake.mk ⟨l.length, l.length, rfl, rfl, by omega, by omega, by first | omega | decide | (simp; done) | (simp; omega), ?_⟩) | ((first | refine V.FnR.k_ (co) [0] rfl ?_ ?_ | refine V.FnR.a_ (co) [0] rfl ?_ ?_); · ((repeat' (first | exact rfl | exact Iff.rfl | exact trivial | exact (fun _ _ => rfl) | exact (fun _ h => absurd h (Nat.not_lt_zero _)) | refine ⟨?_, ?_⟩ | exact Iff.rfl | exact congrArg (fun z => V.SV.one (V.At.val (Value.int .i64 z))) (by omega))); done)) | (refine V.NDraw.any (by kernel_rfl) ?_) | fail)
  all_goals (conv => whnf)
  refine V.NLoop.auto (fun (k : Nat) => [(18, .one (.val (.int .i64 k))), (7, .one (.val (.int .i64 (B.F l m p k)))), (8, .one (.val (.int .i64 (B.lsK l k)))), (6, .one (.ref 2))]) (fun (k : Nat) => [(2, .row 3 1 l.length (ga e1 (Gr.outs (B.V l p) (B.bf l) l.length m k)))]) [] [] (fun (k : Nat) => l.length - k) (fun (k : Nat) => k ≤ l.length ∧ ∀ j, j < k → B.stp l m p j = false) 0 ⟨Nat.zero_le _, fun j h => absurd h (Nat.not_lt_zero _)⟩ (by (conv => whnf); exact ⟨rfl, congrArg (fun z => V.SV.one (V.At.val (Value.int .i64 z))) f0.symm, rfl, rfl, trivial⟩) (by (conv => whnf); exact ⟨⟨rfl, rfl, rfl, fun k hk => (by rw [o0, ga_at (by simpa using hk)]; simp; rfl)⟩, trivial⟩) (fun _ => ⟨rfl, rfl⟩) ?_; (conv => whnf); refine ⟨⟨rfl, rfl⟩, ?_⟩
  clear o0 f0 co
  rintro k ⟨hk, hJ⟩
  have fin : k = l.length ∨ B.stp l m p k = true → B.F l m p k = B.lef l m p ∧ Gr.outs (B.V l p) (B.bf l) l.length m k = B.tak l m p ∧ B.lsK l k = B.lst l m p := fun h => by
    obtain ⟨a, b⟩ := B.stop_at ok hk h
    refine ⟨a, b, ?_⟩
    unfold B.lst
    rw [B.np_is hk hJ h]
    rfl
  by_cases hlt : k < l.length
  · have na : (nats (B.ord l)).getD k default = ((B.at_ l k : Nat) : Int) := nats_at (by rw [B.ord_len]; exact hlt)
    have al := B.at_lt hlt
    have u := O.U_bd ok al
    have eU : O.U l (B.at_ l k) = (l.getD (B.at_ l k) default).un := rfl
    have eP : O.pr l (B.at_ l k) = (l.getD (B.at_ l k) default).pr := rfl
    have es : B.stp l m p k = decide (p < O.pr l (B.at_ l k) ∨ B.F l m p k = 0) := rfl
    have fb := B.F_bd (p := p) (m := m) ok (by omega) hk
    rw [eP] at es
    by_cases hs : p < (l.getD (B.at_ l k) default).pr ∨ B.F l m p k = 0
    · obtain ⟨a, b, c⟩ := fin (.inr (es.trans (decide_eq_true hs)))
      have lo := Gr.outs_len (u := B.V l p) (bf := B.bf l) (n := l.length) (m := m) k
      clear fin hJ es
      generalize B.at_ l k = q at *
      rw [b]
      rw [a] at hs fb ⊢
      rw [c]
      generalize B.lef l m p = X at *
      repeat' ((conv => whnf); first | refine V.NCond.mk ?_ | refine V.NIf.not_ ?_ | refine V.NIf.dec_ ?_ | refine V.NIf.no (by omega) ?_ | refine V.NIf.yes (by omega) ?_ | refine V.NIf.mk (fun _ => ?_) (fun _ => ?_) | refine V.NWrap.ok (by omega) (by omega) ?_ | refine V.NWrap.u64 (by omega) (by omega) ?_ | refine V.NLt.mk (by omega) ?_ | refine V.NBoth.mk ?_ ?_ | refine V.NTF.yes (by omega) ?_ | refine V.NTF.no (by omega) ?_ | refine V.NTF.dec ?_ | refine V.NDraw.q (by exact rfl) (by kernel_rfl) ?_ | refine V.NApp.one (by first | omega | (simp; omega)) (by first | omega | (simp; omega)) ?_ | (refine NIdx.mk ⟨k, rfl, by omega, ?_⟩) | (refine NIdx.mk ⟨q, by omega, by omega, ?_⟩) | (refine V.NDraw.any (by kernel_rfl) ?_) | fail)
      all_goals (conv => whnf)
      all_goals first
        | (exfalso; omega)
        | exact NRet.mk_ [some 2] rfl ⟨rfl, rfl, rfl, trivial⟩ ⟨⟨rfl, rfl, tl.symm, fun k hk => rfl⟩, trivial⟩
    · have ns := es.trans (decide_eq_false hs)
      have hJ' : ∀ j, j < k + 1 → B.stp l m p j = false := fun j hj => by
        by_cases z : j = k
        · subst z; exact ns
        · exact hJ j (by omega)
      have tk := B.tk_in (m := m) (p := p) ok hlt (by rw [eP]; omega)
      have fs := B.F_succ (m := m) (p := p) ok hlt
      have os : (Gr.outs (B.V l p) (B.bf l) l.length m k).set (B.at_ l k) (Gr.tk (B.V l p) (B.bf l) l.length m (B.at_ l k)) = Gr.outs (B.V l p) (B.bf l) l.length m (k + 1) := Gr.outs_set hlt
      have oa := Gr.outs_at (u := B.V l p) (bf := B.bf l) (n := l.length) (m := m) (k := k + 1) al
      rw [if_pos (by unfold B.at_ B.ord; rw [Od.take_succ hlt]; simp)] at oa
      have lo := Gr.outs_len (u := B.V l p) (bf := B.bf l) (n := l.length) (m := m) k
      have lo1 := Gr.outs_len (u := B.V l p) (bf := B.bf l) (n := l.length) (m := m) (k + 1)
      have ek : B.lsK l (k + 1) = (l.getD (B.at_ l k) default).pr := by
        unfold B.lsK
        rw [if_neg (by omega)]
        rfl
      rw [eU] at tk u
      clear fin hJ es ns
      generalize B.at_ l k = q at *
      generalize hW1 : Gr.outs (B.V l p) (B.bf l) l.length m (k + 1) = W1 at *
      generalize Gr.outs (B.V l p) (B.bf l) l.length m k = W0 at *
      generalize Gr.tk (B.V l p) (B.bf l) l.length m q = T at *
      generalize hF1 : B.F l m p (k + 1) = F1 at *
      generalize B.F l m p k = F0 at *
      repeat' ((conv => whnf); first | (refine NPut.is_ (en := e1) (l := W0) T W1 os (by omega) (congrArg (fun z => [Value.int .i64 z]) tk.symm) ?_) | refine V.NCond.mk ?_ | refine V.NIf.not_ ?_ | refine V.NIf.dec_ ?_ | refine V.NIf.no (by omega) ?_ | refine V.NIf.yes (by omega) ?_ | refine V.NIf.mk (fun _ => ?_) (fun _ => ?_) | refine V.NWrap.ok (by omega) (by omega) ?_ | refine V.NWrap.u64 (by omega) (by omega) ?_ | refine V.NLt.mk (by omega) ?_ | refine V.NBoth.mk ?_ ?_ | refine V.NTF.yes (by omega) ?_ | refine V.NTF.no (by omega) ?_ | refine V.NTF.dec ?_ | refine V.NDraw.q (by exact rfl) (by kernel_rfl) ?_ | refine V.NApp.one (by first | omega | (simp; omega)) (by first | omega | (simp; omega)) ?_ | (refine NIdx.mk ⟨k, rfl, by omega, ?_⟩) | (refine NIdx.mk ⟨q, by omega, by omega, ?_⟩) | (refine V.NDraw.any (by kernel_rfl) ?_) | fail)
      all_goals (conv => whnf)
      all_goals first
        | (exfalso; omega)
        | exact V.NBack.at_ (k + 1) [] ⟨by omega, hJ'⟩ (by omega) ⟨(by repeat' (first | exact rfl | exact Iff.rfl | exact trivial | exact (fun _ _ => rfl) | exact (fun _ h => absurd h (Nat.not_lt_zero _)) | refine ⟨?_, ?_⟩ | exact Iff.rfl | exact congrArg (fun z => V.SV.one (V.At.val (Value.int .i64 z))) (by omega))), congrArg (fun z => V.SV.one (V.At.val (Value.int .i64 z))) (by omega), congrArg (fun z => V.SV.one (V.At.val (Value.int .i64 z))) ek.symm, rfl, trivial⟩ rfl ⟨⟨rfl, rfl, rfl, fun _ _ => (by rw [hW1])⟩, trivial⟩ (by repeat' (first | exact rfl | exact Iff.rfl | exact trivial | exact (fun _ _ => rfl) | exact (fun _ h => absurd h (Nat.not_lt_zero _)) | refine ⟨?_, ?_⟩ | exact Iff.rfl | exact congrArg (fun z => V.SV.one (V.At.val (Value.int .i64 z))) (by omega))) (by repeat' (first | exact rfl | exact Iff.rfl | exact trivial | exact (fun _ _ => rfl) | exact (fun _ h => absurd h (Nat.not_lt_zero _)) | refine ⟨?_, ?_⟩ | exact Iff.rfl | exact congrArg (fun z => V.SV.one (V.At.val (Value.int .i64 z))) (by omega)))
        | trace_state
  · obtain rfl : k = l.length := by omega
    obtain ⟨a, b, c⟩ := fin (.inl rfl)
    rw [a, b, c]
    repeat' ((conv => whnf); first | refine V.NCond.mk ?_ | refine V.NIf.not_ ?_ | refine V.NIf.dec_ ?_ | refine V.NIf.no (by omega) ?_ | refine V.NIf.yes (by omega) ?_ | refine V.NIf.mk (fun _ => ?_) (fun _ => ?_) | refine V.NWrap.ok (by omega) (by omega) ?_ | refine V.NWrap.u64 (by omega) (by omega) ?_ | refine V.NLt.mk (by omega) ?_ | refine V.NBoth.mk ?_ ?_ | refine V.NTF.yes (by omega) ?_ | refine V.NTF.no (by omega) ?_ | refine V.NTF.dec ?_ | refine V.NDraw.q (by exact rfl) (by kernel_rfl) ?_ | refine V.NApp.one (by first | omega | (simp; omega)) (by first | omega | (simp; omega)) ?_ | (refine V.NDraw.any (by kernel_rfl) ?_) | fail)
    all_goals (conv => whnf)
    all_goals exact NRet.mk_ [some 2] rfl ⟨rfl, rfl, rfl, trivial⟩ ⟨⟨rfl, rfl, tl.symm, fun k hk => rfl⟩, trivial⟩
end Go.Proofs.Ytcdlhfbpmpjfkaa

/- Plain facts on what is bought in: the document's ways to the same. -/
namespace Go.Proofs.Ytcdlhfbpmpjfkaa
set_option linter.unusedVariables false
set_option linter.unusedSimpArgs false
namespace B
open O
/-- places that were chosen -/
def usd (l : List Of) (k q : Nat) : Bool := decide (q ∈ (ord l).take k)
theorem usd_0 (l : List Of) (q : Nat) : usd l 0 q = false := by simp [usd]
theorem usd_succ {l : List Of} {k : Nat} (h : k < l.length) (q : Nat) : usd l (k + 1) q = if q = at_ l k then true else usd l k q := by
  unfold usd ord at_
  rw [Od.take_succ h]
  by_cases e : q = (ord l).getD k default
  · rw [if_pos e]
    have : q ∈ (Od.srt (bf l) l.length).take k ++ [(Od.srt (bf l) l.length).getD k default] := by simp [e, ord]
    exact decide_eq_true this
  · rw [if_neg e]
    have e' : q ≠ (Od.srt (bf l) l.length).getD k default := e
    refine decide_eq_decide.2 ⟨fun h => ?_, fun h => List.mem_append_left _ h⟩
    rcases List.mem_append.1 h with h | h
    · exact h
    · exact absurd (List.mem_singleton.1 h) e'
theorem usd_at {l : List Of} {k j : Nat} (hk : k ≤ l.length) (hj : j < l.length) : usd l k (at_ l j) = decide (j < k) := by
  unfold usd
  exact decide_eq_decide.2 (Od.mem_take hk hj)
def bs (l : List Of) (k : Nat) : Nat → Int
  | 0 => -1
  | i + 1 => if usd l k i = false ∧ (bs l k i < 0 ∨ bf l i (bs l k i).toNat = true) then (i : Int) else bs l k i
theorem bs_spec (l : List Of) (k : Nat) : ∀ i, (bs l k i = -1 ∧ ∀ j, j < i → usd l k j = true) ∨ ∃ b : Nat, bs l k i = b ∧ b < i ∧ usd l k b = false ∧ ∀ j, j < i → usd l k j = false → j ≠ b → bf l b j = true
  | 0 => .inl ⟨rfl, fun j h => absurd h (Nat.not_lt_zero _)⟩
  | i + 1 => by
    have S := sto l
    rcases bs_spec l k i with ⟨e, h⟩ | ⟨b, e, hb, hu, h⟩
    · by_cases u : usd l k i = false
      · refine .inr ⟨i, ?_, by omega, u, fun j hj hjf hne => ?_⟩
        · show (if _ then _ else _) = _
          rw [if_pos ⟨u, .inl (by omega)⟩]
        · have := h j (by omega)
          rw [hjf] at this; cases this
      · refine .inl ⟨?_, fun j hj => ?_⟩
        · show (if _ then _ else _) = _
          rw [if_neg (fun q => u q.1), e]
        · by_cases z : j = i
          · subst z; simpa using u
          · exact h j (by omega)
    · by_cases c : usd l k i = false ∧ bf l i b = true
      · refine .inr ⟨i, ?_, by omega, c.1, fun j hj hjf hne => ?_⟩
        · show (if _ then _ else _) = _
          rw [e, if_pos ⟨c.1, .inr (by simpa using c.2)⟩]
        · by_cases z : j = b
          · subst z; exact c.2
          · exact S.tr _ _ _ c.2 (h j (by omega) hjf z)
      · refine .inr ⟨b, ?_, by omega, hu, fun j hj hjf hne => ?_⟩
        · show (if _ then _ else _) = _
          rw [e, if_neg (fun q => c ⟨q.1, by
            rcases q.2 with z | z
            · omega
            · simpa using z⟩)]
        · by_cases z : j = i
          · subst z
            rcases S.tot b j (by omega) with y | y
            · exact y
            · exact absurd ⟨hjf, y⟩ c
          · exact h j (by omega) hjf hne
theorem bs_bd (l : List Of) (k i : Nat) : -1 ≤ bs l k i ∧ bs l k i < i := by
  rcases bs_spec l k i with ⟨e, h⟩ | ⟨b, e, hb, _⟩ <;> omega
theorem bs_end {l : List Of} {k : Nat} (h : k < l.length) : bs l k l.length = at_ l k := by
  have S := sto l
  have uk : usd l k (at_ l k) = false := by rw [usd_at (by omega) h]; simp
  rcases bs_spec l k l.length with ⟨e, q⟩ | ⟨b, e, hb, hu, q⟩
  · have := q _ (at_lt h)
    rw [uk] at this; cases this
  · obtain ⟨j, hj, ej⟩ := Od.srt_ix (bf := bf l) hb
    have ej : at_ l j = b := ej
    rw [← ej, usd_at (by omega) hj] at hu
    have hkj : k ≤ j := by simpa using hu
    by_cases z : k = j
    · subst z; rw [e, ej]
    · have a := q (at_ l k) (at_lt h) uk (fun y => by
        rw [← ej] at y
        exact z (Od.inj_at (bf := bf l) h hj y))
      have c : bf l (at_ l k) (at_ l j) = true := Od.bf_of S (show k < j by omega) hj
      rw [ej] at c
      have := S.tr _ _ _ a c
      rw [S.irr] at this; cases this
/-- what costs too much is passed by -/
theorem skip {l : List Of} (ok : Oks l) {m p : Int} {k : Nat} (h : k < l.length) (hp : ¬ pr l (at_ l k) ≤ p) : F l m p (k + 1) = F l m p k ∧ Gr.outs (V l p) (bf l) l.length m (k + 1) = Gr.outs (V l p) (bf l) l.length m k := by
  have t := tk_V0 (m := m) ok (b := bf l) (at_lt h) hp
  have f := F_succ (m := m) (p := p) ok h
  rw [t] at f
  refine ⟨by omega, ?_⟩
  have s : (Gr.outs (V l p) (bf l) l.length m k).set (at_ l k) (Gr.tk (V l p) (bf l) l.length m (at_ l k)) = Gr.outs (V l p) (bf l) l.length m (k + 1) := Gr.outs_set h
  rw [← s, t]
  have lo := Gr.outs_len (u := V l p) (bf := bf l) (n := l.length) (m := m) k
  have o := Gr.outs_at (u := V l p) (bf := bf l) (n := l.length) (m := m) (k := k) (at_lt h)
  rw [if_neg (fun q => by
    have := (Od.mem_take (bf := bf l) (n := l.length) (k := k) (by omega) h).1 q
    omega)] at o
  rw [← o, getD_at (by rw [lo]; exact at_lt h)]
  exact List.set_getElem_self _
/-! the one price -/
def b1 (l : List Of) (m : Int) : Nat → Int
  | 0 => -1
  | i + 1 => if lef l m (pr l i) = 0 ∧ (b1 l m i < 0 ∨ pr l i < b1 l m i) then pr l i else b1 l m i
theorem b1_spec {l : List Of} (ok : Oks l) (m : Int) : ∀ i, i ≤ l.length → (b1 l m i = -1 ∧ ∀ j, j < i → ¬ lef l m (pr l j) = 0) ∨ (0 ≤ b1 l m i ∧ (∃ j, j < i ∧ b1 l m i = pr l j ∧ lef l m (pr l j) = 0) ∧ ∀ j, j < i → lef l m (pr l j) = 0 → b1 l m i ≤ pr l j)
  | 0, _ => .inl ⟨rfl, fun j h => absurd h (Nat.not_lt_zero _)⟩
  | i + 1, hi => by
    have p0 : 0 ≤ pr l i := (pr_bd ok (show i < l.length by omega)).1
    have ee : b1 l m (i + 1) = if lef l m (pr l i) = 0 ∧ (b1 l m i < 0 ∨ pr l i < b1 l m i) then pr l i else b1 l m i := rfl
    rcases b1_spec ok m i (by omega) with ⟨e, h⟩ | ⟨h0, ⟨j0, hj0, e, f⟩, h⟩
    · by_cases z : lef l m (pr l i) = 0
      · rw [if_pos ⟨z, .inl (by omega)⟩] at ee
        refine .inr ⟨by omega, ⟨i, by omega, ee, z⟩, fun j hj hf => ?_⟩
        by_cases y : j = i
        · subst y; omega
        · exact absurd hf (h j (by omega))
      · rw [if_neg (fun q => z q.1)] at ee
        refine .inl ⟨by omega, fun j hj => ?_⟩
        by_cases y : j = i
        · subst y; exact z
        · exact h j (by omega)
    · by_cases z : lef l m (pr l i) = 0 ∧ pr l i < b1 l m i
      · rw [if_pos ⟨z.1, .inr z.2⟩] at ee
        refine .inr ⟨by omega, ⟨i, by omega, ee, z.1⟩, fun j hj hf => ?_⟩
        by_cases y : j = i
        · subst y; omega
        · have := h j (by omega) hf; omega
      · rw [if_neg (fun q => z ⟨q.1, by omega⟩)] at ee
        refine .inr ⟨by omega, ⟨j0, by omega, by omega, f⟩, fun j hj hf => ?_⟩
        by_cases y : j = i
        · subst y
          have : ¬ pr l j < b1 l m j := fun w => z ⟨hf, w⟩
          omega
        · have := h j (by omega) hf; omega
theorem lef_0 {l : List Of} {m p : Int} : lef l m p = 0 ↔ m ≤ tot l p := by
  unfold lef; split <;> omega
theorem tot_le {l : List Of} (ok : Oks l) (p : Int) : tot l p ≤ Sh.sm (us l) := by
  have h1 : tot l p ≤ Sg l.length (U l) := Sg_le fun i hi => V_le ok p hi
  have h2 : Sg l.length (U l) = Sh.sm (us l) := by unfold Sg; rw [us_range]
  omega
theorem b1_end {l : List Of} {m : Int} (ok : Oks l) (hm : 1 ≤ m) : b1 l m l.length = if Sh.sm (us l) < m then -1 else lst l m 1099511627776 := by
  by_cases h : Sh.sm (us l) < m
  · rw [if_pos h]
    rcases b1_spec ok m l.length (Nat.le_refl _) with ⟨e, _⟩ | ⟨_, ⟨j, _, _, f⟩, _⟩
    · exact e
    · have := lef_0.1 f
      have := tot_le ok (pr l j)
      omega
  · rw [if_neg h]
    obtain ⟨h1, h2, i, hi, e, _⟩ := one_is ok hm (by omega)
    have fi : lef l m (pr l i) = 0 := by rw [e]; exact lef_0.2 h1
    rcases b1_spec ok m l.length (Nat.le_refl _) with ⟨_, q⟩ | ⟨_, ⟨j, hj, ej, f⟩, q⟩
    · exact absurd fi (q i hi)
    · have a := q i hi fi
      rw [ej] at a ⊢
      have : ¬ pr l j < lst l m 1099511627776 := fun z => by
        have := h2 _ z
        have := lef_0.1 f
        omega
      omega
theorem Sg_same {f g : Nat → Int} : ∀ {n : Nat}, (∀ i, i < n → f i ≤ g i) → Sg n f = Sg n g → ∀ i, i < n → f i = g i
  | 0, _, _, i, hi => by omega
  | n + 1, h, e, i, hi => by
    have a := Sg_le (n := n) (f := f) (g := g) fun i hi => h i (by omega)
    have b := h n (by omega)
    rw [Sg_succ, Sg_succ] at e
    by_cases z : i = n
    · subst z; omega
    · exact Sg_same (n := n) (fun i hi => h i (by omega)) (by omega) i (by omega)
theorem tak_Sg {l : List Of} {m p : Int} (ok : Oks l) (hm : 0 ≤ m) : Sg l.length (Gr.tk (V l p) (bf l) l.length m) = m - lef l m p := tak_sum ok hm
/-- with a higher limit no less is taken from anybody -/
theorem tk_limit {l : List Of} (ok : Oks l) {m p q : Int} (h : p ≤ q) {i : Nat} (hi : i < l.length) : Gr.tk (V l p) (bf l) l.length m i ≤ Gr.tk (V l q) (bf l) l.length m i := by
  by_cases a : pr l i ≤ p
  · rw [tk_V (byB l) a, tk_V (byB l) (show pr l i ≤ q by omega)]
    exact Int.le_refl _
  · rw [tk_V0 ok hi a]
    exact (Gr.tk_bd (V_bd ok q) hi).1
/-- at the one price all is taken that is taken -/
theorem tak_one {l : List Of} {m : Int} (ok : Oks l) (hm : 1 ≤ m) (hs : m ≤ Sh.sm (us l)) : tak l m (lst l m 1099511627776) = tak l m 1099511627776 ∧ lef l m (lst l m 1099511627776) = 0 ∧ lef l m 1099511627776 = 0 := by
  obtain ⟨h1, h2, i, hi, e, _⟩ := one_is ok hm hs
  have a : lef l m (lst l m 1099511627776) = 0 := lef_0.2 h1
  have b : lef l m 1099511627776 = 0 := lef_0.2 (by rw [tot_all ok (Int.le_refl _)]; exact hs)
  refine ⟨?_, a, b⟩
  have le : lst l m 1099511627776 ≤ 1099511627776 := by rw [← e]; exact (pr_bd ok hi).2
  have s := Sg_same (n := l.length) (fun j hj => tk_limit (m := m) ok le hj) (by rw [tak_Sg ok (by omega), tak_Sg ok (by omega), a, b])
  exact List.map_congr_left fun j hj => s j (List.mem_range.1 hj)
end B
end Go.Proofs.Ytcdlhfbpmpjfkaa

/- What the functions of buying in answer: Take, One, Apart. -/
namespace Go.Proofs.Ytcdlhfbpmpjfkaa
open Go Go.Sort Go.RowKit V
set_option maxRecDepth 100000
set_option linter.unusedVariables false
set_option linter.unusedSimpArgs false
set_option maxHeartbeats 4000000
def _root_.Go.Proofs.Ytcdlhfbpmpjfkaa.B.tE (l : List Of) (m p : Int) : Int := if B.err l m ≠ 0 then B.err l m else P.chk p
def _root_.Go.Proofs.Ytcdlhfbpmpjfkaa.B.tL (l : List Of) (m p : Int) : List Int := if B.tE l m p = 0 then B.tak l m p else []
def _root_.Go.Proofs.Ytcdlhfbpmpjfkaa.B.tR (l : List Of) (m p : Int) : Int := if B.tE l m p = 0 then B.lef l m p else 0
theorem _root_.Go.Proofs.Ytcdlhfbpmpjfkaa.B.tE_cases (l : List Of) (m p : Int) : (¬ B.err l m = 0 ∧ B.tE l m p = B.err l m) ∨ (B.err l m = 0 ∧ ¬ P.Ok p ∧ B.tE l m p = 3) ∨ (B.err l m = 0 ∧ P.Ok p ∧ B.tE l m p = 0) := by
  unfold B.tE
  by_cases h : B.err l m = 0
  · rw [if_neg (fun z => z h)]
    by_cases q : P.Ok p
    · exact .inr (.inr ⟨h, q, P.chk_yes q⟩)
    · exact .inr (.inl ⟨h, q, P.chk_no q⟩)
  · rw [if_pos h]; exact .inl ⟨h, rfl⟩
theorem v_byTake (l : List Of) (m p : Int) (hn : l.length ≤ 9223372036854775807) : V.FnR Try.prog 10 [.arr 3 l.length (ga encO l)] [.one (.ref 0), .one (.val (.int .i64 m)), .one (.val (.int .i64 p))] (.tup [.one (.ref 1), .one (.val (.int .i64 (B.tR l m p))), .one (.val (.int .i64 (B.tE l m p)))]) [.row 3 1 (B.tL l m p).length (ga e1 (B.tL l m p))] := by
  have ck := v_byErr l m hn
  have pc := v_pcheck p
  rcases B.tE_cases l m p with ⟨a, e⟩ | ⟨a, b, e⟩ | ⟨a, b, e⟩
  · rw [show B.tL l m p = [] from if_neg (by rw [e]; exact a), show B.tR l m p = 0 from if_neg (by rw [e]; exact a), e]
    generalize B.err l m = C at *
    refine V.FnR.mk_ V.Tok V.mixed Try.func10 rfl Try.ntmps10 (by kernel_rfl) rfl rfl rfl rfl ?_
    repeat' ((conv => whnf); first | (refine V.NIf.yes ?_ ?_; · (decide; done)) | (refine V.NIf.no ?_ ?_; · (decide; done)) | refine V.NCond.mk ?_ | refine V.NIf.not_ ?_ | refine V.NIf.dec_ ?_ | refine V.NIf.no (by omega) ?_ | refine V.NIf.yes (by omega) ?_ | refine V.NIf.mk (fun _ => ?_) (fun _ => ?_) | refine V.NWrap.ok (by omega) (by omega) ?_ | refine V.NWrap.u64 (by omega) (by omega) ?_ | refine V.NLt.mk (by omega) ?_ | refine V.NBoth.mk ?_ ?_ | refine V.NTF.yes (by omega) ?_ | refine V.NTF.no (by omega) ?_ | refine V.NTF.dec ?_ | refine V.NDraw.q (by exact rfl) (by kernel_rfl) ?_ | refine V.NApp.one (by first | omega | (simp; omega)) (by first | omega | (simp; omega)) ?_ | ((first | refine V.Fn.k (ck) [0] rfl ?_ ?_ | refine V.Fn.q (ck) [0] rfl ?_ ?_ | refine V.Fn.a (ck) [0] rfl ?_ ?_); · ((repeat' (first | exact rfl | exact Iff.rfl | exact trivial | exact (fun _ _ => rfl) | exact (fun _ h => absurd h (Nat.not_lt_zero _)) | refine ⟨?_, ?_⟩ | exact Iff.rfl | exact congrArg (fun z => V.SV.one (V.At.val (Value.int .i64 z))) (by omega))); done)) | (refine V.NDraw.any (by kernel_rfl) ?_) | fail)
    all_goals (conv => whnf)
    all_goals exact NRet.mk_ [some 2] rfl ⟨rfl, rfl, rfl, trivial⟩ ⟨⟨rfl, rfl, rfl, fun k hk => absurd hk (Nat.not_lt_zero _)⟩, trivial⟩
  · rw [show B.tL l m p = [] from if_neg (by rw [e]; decide), show B.tR l m p = 0 from if_neg (by rw [e]; decide), e]
    rw [a] at ck
    rw [P.chk_no b] at pc
    refine V.FnR.mk_ V.Tok V.mixed Try.func10 rfl Try.ntmps10 (by kernel_rfl) rfl rfl rfl rfl ?_
    repeat' ((conv => whnf); first | (refine V.NIf.yes ?_ ?_; · (decide; done)) | (refine V.NIf.no ?_ ?_; · (decide; done)) | refine V.NCond.mk ?_ | refine V.NIf.not_ ?_ | refine V.NIf.dec_ ?_ | refine V.NIf.no (by omega) ?_ | refine V.NIf.yes (by omega) ?_ | refine V.NIf.mk (fun _ => ?_) (fun _ => ?_) | refine V.NWrap.ok (by omega) (by omega) ?_ | refine V.NWrap.u64 (by omega) (by omega) ?_ | refine V.NLt.mk (by omega) ?_ | refine V.NBoth.mk ?_ ?_ | refine V.NTF.yes (by omega) ?_ | refine V.NTF.no (by omega) ?_ | refine V.NTF.dec ?_ | refine V.NDraw.q (by exact rfl) (by kernel_rfl) ?_ | refine V.NApp.one (by first | omega | (simp; omega)) (by first | omega | (simp; omega)) ?_ | ((first | refine V.Fn.k (ck) [0] rfl ?_ ?_ | refine V.Fn.q (ck) [0] rfl ?_ ?_ | refine V.Fn.a (ck) [0] rfl ?_ ?_); · ((repeat' (first | exact rfl | exact Iff.rfl | exact trivial | exact (fun _ _ => rfl) | exact (fun _ h => absurd h (Nat.not_lt_zero _)) | refine ⟨?_, ?_⟩ | exact Iff.rfl | exact congrArg (fun z => V.SV.one (V.At.val (Value.int .i64 z))) (by omega))); done)) | (first | refine V.Fn.k0 (pc) rfl ?_ | refine V.Fn.q0 (pc) rfl ?_ | refine V.Fn.a0 (pc) rfl ?_) | (refine V.NDraw.any (by kernel_rfl) ?_) | fail)
    all_goals (conv => whnf)
    all_goals exact NRet.mk_ [some 2] rfl ⟨rfl, rfl, rfl, trivial⟩ ⟨⟨rfl, rfl, rfl, fun k hk => absurd hk (Nat.not_lt_zero _)⟩, trivial⟩
  · obtain ⟨_, ok, hm⟩ := B.err_0 a
    have ct := v_taken l m p ok hm
    rw [show B.tL l m p = B.tak l m p from if_pos e, show B.tR l m p = B.lef l m p from if_pos e, e]
    rw [a] at ck
    rw [P.chk_yes b] at pc
    generalize B.tak l m p = R at *
    generalize B.lef l m p = X at *
    generalize B.lst l m p = Y at *
    refine V.FnR.mk_ V.Tok V.mixed Try.func10 rfl Try.ntmps10 (by kernel_rfl) rfl rfl rfl rfl ?_
    repeat' ((conv => whnf); first | (refine V.NIf.yes ?_ ?_; · (decide; done)) | (refine V.NIf.no ?_ ?_; · (decide; done)) | refine V.NCond.mk ?_ | refine V.NIf.not_ ?_ | refine V.NIf.dec_ ?_ | refine V.NIf.no (by omega) ?_ | refine V.NIf.yes (by omega) ?_ | refine V.NIf.mk (fun _ => ?_) (fun _ => ?_) | refine V.NWrap.ok (by omega) (by omega) ?_ | refine V.NWrap.u64 (by omega) (by omega) ?_ | refine V.NLt.mk (by omega) ?_ | refine V.NBoth.mk ?_ ?_ | refine V.NTF.yes (by omega) ?_ | refine V.NTF.no (by omega) ?_ | refine V.NTF.dec ?_ | refine V.NDraw.q (by exact rfl) (by kernel_rfl) ?_ | refine V.NApp.one (by first | omega | (simp; omega)) (by first | omega | (simp; omega)) ?_ | ((first | refine V.Fn.k (ck) [0] rfl ?_ ?_ | refine V.Fn.q (ck) [0] rfl ?_ ?_ | refine V.Fn.a (ck) [0] rfl ?_ ?_); · ((repeat' (first | exact rfl | exact Iff.rfl | exact trivial | exact (fun _ _ => rfl) | exact (fun _ h => absurd h (Nat.not_lt_zero _)) | refine ⟨?_, ?_⟩ | exact Iff.rfl | exact congrArg (fun z => V.SV.one (V.At.val (Value.int .i64 z))) (by omega))); done)) | (first | refine V.Fn.k0 (pc) rfl ?_ | refine V.Fn.q0 (pc) rfl ?_ | refine V.Fn.a0 (pc) rfl ?_) | ((first | refine V.FnR.k_ (ct) [0] rfl ?_ ?_ | refine V.FnR.a_ (ct) [0] rfl ?_ ?_); · ((repeat' (first | exact rfl | exact Iff.rfl | exact trivial | exact (fun _ _ => rfl) | exact (fun _ h => absurd h (Nat.not_lt_zero _)) | refine ⟨?_, ?_⟩ | exact Iff.rfl | exact congrArg (fun z => V.SV.one (V.At.val (Value.int .i64 z))) (by omega))); done)) | (refine V.NDraw.any (by kernel_rfl) ?_) | fail)
    all_goals (conv => whnf)
    all_goals exact NRet.mk_ [some 2] rfl ⟨rfl, rfl, rfl, trivial⟩ ⟨⟨rfl, rfl, rfl, fun k hk => rfl⟩, trivial⟩
def _root_.Go.Proofs.Ytcdlhfbpmpjfkaa.B.nE (l : List Of) (m : Int) : Int := if B.err l m ≠ 0 then B.err l m else if Sh.sm (O.us l) < m then 5 else 0
def _root_.Go.Proofs.Ytcdlhfbpmpjfkaa.B.nL (l : List Of) (m : Int) : List Int := if B.nE l m = 0 then B.tak l m 1099511627776 else []
def _root_.Go.Proofs.Ytcdlhfbpmpjfkaa.B.nP (l : List Of) (m : Int) : Int := if B.nE l m = 0 then B.lst l m 1099511627776 else 0
theorem _root_.Go.Proofs.Ytcdlhfbpmpjfkaa.B.nE_cases (l : List Of) (m : Int) : (¬ B.err l m = 0 ∧ B.nE l m = B.err l m) ∨ (B.err l m = 0 ∧ Sh.sm (O.us l) < m ∧ B.nE l m = 5) ∨ (B.err l m = 0 ∧ m ≤ Sh.sm (O.us l) ∧ B.nE l m = 0) := by
  unfold B.nE
  by_cases h : B.err l m = 0
  · rw [if_neg (fun z => z h)]
    by_cases q : Sh.sm (O.us l) < m
    · exact .inr (.inl ⟨h, q, if_pos q⟩)
    · exact .inr (.inr ⟨h, by omega, if_neg q⟩)
  · rw [if_pos h]; exact .inl ⟨h, rfl⟩
theorem v_byOne (l : List Of) (m : Int) (hn : l.length ≤ 9223372036854775807) : V.FnR Try.prog 12 [.arr 3 l.length (ga encO l)] [.one (.ref 0), .one (.val (.int .i64 m))] (.tup [.one (.val (.int .i64 (B.nP l m))), .one (.ref 1), .one (.val (.int .i64 (B.nE l m)))]) [.row 3 1 (B.nL l m).length (ga e1 (B.nL l m))] := by
  have ck := v_byErr l m hn
  rcases B.nE_cases l m with ⟨a, e⟩ | ⟨a, b, e⟩ | ⟨a, b, e⟩
  · rw [show B.nL l m = [] from if_neg (by rw [e]; exact a), show B.nP l m = 0 from if_neg (by rw [e]; exact a), e]
    generalize B.err l m = C at *
    refine V.FnR.mk_ V.Tok V.mixed Try.func12 rfl Try.ntmps12 (by kernel_rfl) rfl rfl rfl rfl ?_
    repeat' ((conv => whnf); first | (refine V.NIf.yes ?_ ?_; · (decide; done)) | (refine V.NIf.no ?_ ?_; · (decide; done)) | refine V.NCond.mk ?_ | refine V.NIf.not_ ?_ | refine V.NIf.dec_ ?_ | refine V.NIf.no (by omega) ?_ | refine V.NIf.yes (by omega) ?_ | refine V.NIf.mk (fun _ => ?_) (fun _ => ?_) | refine V.NWrap.ok (by omega) (by omega) ?_ | refine V.NWrap.u64 (by omega) (by omega) ?_ | refine V.NLt.mk (by omega) ?_ | refine V.NBoth.mk ?_ ?_ | refine V.NTF.yes (by omega) ?_ | refine V.NTF.no (by omega) ?_ | refine V.NTF.dec ?_ | refine V.NDraw.q (by exact rfl) (by kernel_rfl) ?_ | refine V.NApp.one (by first | omega | (simp; omega)) (by first | omega | (simp; omega)) ?_ | ((first | refine V.Fn.k (ck) [0] rfl ?_ ?_ | refine V.Fn.q (ck) [0] rfl ?_ ?_ | refine V.Fn.a (ck) [0] rfl ?_ ?_); · ((repeat' (first | exact rfl | exact Iff.rfl | exact trivial | exact (fun _ _ => rfl) | exact (fun _ h => absurd h (Nat.not_lt_zero _)) | refine ⟨?_, ?_⟩ | exact Iff.rfl | exact congrArg (fun z => V.SV.one (V.At.val (Value.int .i64 z))) (by omega))); done)) | (refine V.NDraw.any (by kernel_rfl) ?_) | fail)
    all_goals (conv => whnf)
    all_goals exact NRet.mk_ [some 2] rfl ⟨rfl, rfl, rfl, trivial⟩ ⟨⟨rfl, rfl, rfl, fun k hk => absurd hk (Nat.not_lt_zero _)⟩, trivial⟩
  · obtain ⟨_, ok, hm⟩ := B.err_0 a
    have ct := v_taken l m 1099511627776 ok hm
    have lp : 0 < B.lef l m 1099511627776 := by
      unfold B.lef
      rw [B.tot_all ok (Int.le_refl _), if_neg (by omega)]; omega
    rw [show B.nL l m = [] from if_neg (by rw [e]; decide), show B.nP l m = 0 from if_neg (by rw [e]; decide), e]
    rw [a] at ck
    generalize B.tak l m 1099511627776 = R at *
    generalize B.lef l m 1099511627776 = X at *
    generalize B.lst l m 1099511627776 = Y at *
    refine V.FnR.mk_ V.Tok V.mixed Try.func12 rfl Try.ntmps12 (by kernel_rfl) rfl rfl rfl rfl ?_
    repeat' ((conv => whnf); first | (refine V.NIf.yes ?_ ?_; · (decide; done)) | (refine V.NIf.no ?_ ?_; · (decide; done)) | refine V.NCond.mk ?_ | refine V.NIf.not_ ?_ | refine V.NIf.dec_ ?_ | refine V.NIf.no (by omega) ?_ | refine V.NIf.yes (by omega) ?_ | refine V.NIf.mk (fun _ => ?_) (fun _ => ?_) | refine V.NWrap.ok (by omega) (by omega) ?_ | refine V.NWrap.u64 (by omega) (by omega) ?_ | refine V.NLt.mk (by omega) ?_ | refine V.NBoth.mk ?_ ?_ | refine V.NTF.yes (by omega) ?_ | refine V.NTF.no (by omega) ?_ | refine V.NTF.dec ?_ | refine V.NDraw.q (by exact rfl) (by kernel_rfl) ?_ | refine V.NApp.one (by first | omega | (simp; omega)) (by first | omega | (simp; omega)) ?_ | ((first | refine V.Fn.k (ck) [0] rfl ?_ ?_ | refine V.Fn.q (ck) [0] rfl ?_ ?_ | refine V.Fn.a (ck) [0] rfl ?_ ?_); · ((repeat' (first | exact rfl | exact Iff.rfl | exact trivial | exact (fun _ _ => rfl) | exact (fun _ h => absurd h (Nat.not_lt_zero _)) | refine ⟨?_, ?_⟩ | exact Iff.rfl | exact congrArg (fun z => V.SV.one (V.At.val (Value.int .i64 z))) (by omega))); done)) | ((first | refine V.FnR.k_ (ct) [0] rfl ?_ ?_ | refine V.FnR.a_ (ct) [0] rfl ?_ ?_); · ((repeat' (first | exact rfl | exact Iff.rfl | exact trivial | exact (fun _ _ => rfl) | exact (fun _ h => absurd h (Nat.not_lt_zero _)) | refine ⟨?_, ?_⟩ | exact Iff.rfl | exact congrArg (fun z => V.SV.one (V.At.val (Value.int .i64 z))) (by omega))); done)) | (refine V.NDraw.any (by kernel_rfl) ?_) | fail)
    all_goals (conv => whnf)
    all_goals exact NRet.mk_ [some 3] rfl ⟨rfl, rfl, rfl, trivial⟩ ⟨⟨rfl, rfl, rfl, fun k hk => absurd hk (Nat.not_lt_zero _)⟩, trivial⟩
  · obtain ⟨_, ok, hm⟩ := B.err_0 a
    have ct := v_taken l m 1099511627776 ok hm
    rw [(B.tak_one ok hm.1 b).2.2] at ct
    rw [show B.nL l m = B.tak l m 1099511627776 from if_pos e, show B.nP l m = B.lst l m 1099511627776 from if_pos e, e]
    rw [a] at ck
    generalize B.tak l m 1099511627776 = R at *
    generalize B.lst l m 1099511627776 = Y at *
    refine V.FnR.mk_ V.Tok V.mixed Try.func12 rfl Try.ntmps12 (by kernel_rfl) rfl rfl rfl rfl ?_
    repeat' ((conv => whnf); first | (refine V.NIf.yes ?_ ?_; · (decide; done)) | (refine V.NIf.no ?_ ?_; · (decide; done)) | refine V.NCond.mk ?_ | refine V.NIf.not_ ?_ | refine V.NIf.dec_ ?_ | refine V.NIf.no (by omega) ?_ | refine V.NIf.yes (by omega) ?_ | refine V.NIf.mk (fun _ => ?_) (fun _ => ?_) | refine V.NWrap.ok (by omega) (by omega) ?_ | refine V.NWrap.u64 (by omega) (by omega) ?_ | refine V.NLt.mk (by omega) ?_ | refine V.NBoth.mk ?_ ?_ | refine V.NTF.yes (by omega) ?_ | refine V.NTF.no (by omega) ?_ | refine V.NTF.dec ?_ | refine V.NDraw.q (by exact rfl) (by kernel_rfl) ?_ | refine V.NApp.one (by first | omega | (simp; omega)) (by first | omega | (simp; omega)) ?_ | ((first | refine V.Fn.k (ck) [0] rfl ?_ ?_ | refine V.Fn.q (ck) [0] rfl ?_ ?_ | refine V.Fn.a (ck) [0] rfl ?_ ?_); · ((repeat' (first | exact rfl | exact Iff.rfl | exact trivial | exact (fun _ _ => rfl) | exact (fun _ h => absurd h (Nat.not_lt_zero _)) | refine ⟨?_, ?_⟩ | exact Iff.rfl | exact congrArg (fun z => V.SV.one (V.At.val (Value.int .i64 z))) (by omega))); done)) | ((first | refine V.FnR.k_ (ct) [0] rfl ?_ ?_ | refine V.FnR.a_ (ct) [0] rfl ?_ ?_); · ((repeat' (first | exact rfl | exact Iff.rfl | exact trivial | exact (fun _ _ => rfl) | exact (fun _ h => absurd h (Nat.not_lt_zero _)) | refine ⟨?_, ?_⟩ | exact Iff.rfl | exact congrArg (fun z => V.SV.one (V.At.val (Value.int .i64 z))) (by omega))); done)) | (refine V.NDraw.any (by kernel_rfl) ?_) | fail)
    all_goals (conv => whnf)
    all_goals exact NRet.mk_ [some 2] rfl ⟨rfl, rfl, rfl, trivial⟩ ⟨⟨rfl, rfl, rfl, fun k hk => rfl⟩, trivial⟩
def _root_.Go.Proofs.Ytcdlhfbpmpjfkaa.B.aE (u a p : Int) : Int := if (0 ≤ u ∧ u ≤ 1073741824) ∧ P.Ok a ∧ P.Ok p then 0 else 3
def _root_.Go.Proofs.Ytcdlhfbpmpjfkaa.B.aV (u a p : Int) : Int := if (0 ≤ u ∧ u ≤ 1073741824) ∧ P.Ok a ∧ P.Ok p then P.cost u p - P.cost u a else 0
theorem v_costOk (u p : Int) (hu : 0 ≤ u ∧ u ≤ 1073741824) : (P.Ok p → V.Fn Try.prog 30 [] [.one (.val (.int .i64 u)), .one (.val (.int .i64 p))] (.tuple #[.int .i64 (P.cost u p), .int .i64 (M.prR u p 10000), .int .i64 0])) ∧ (¬ P.Ok p → V.Fn Try.prog 30 [] [.one (.val (.int .i64 u)), .one (.val (.int .i64 p))] (.tuple #[.int .i64 0, .int .i64 0, .int .i64 3])) := by
  have c := v_cost u p
  constructor
  · intro h
    obtain ⟨a, b⟩ := P.part_cost hu h
    rwa [a, b] at c
  · intro h
    obtain ⟨a, b, d⟩ := M.pr_1 (a := u) (b := p) (c := 10000) (fun k => h k.2.1)
    rwa [a, b, d] at c
theorem v_byApart (u a p : Int) : V.Fn Try.prog 11 [] [.one (.val (.int .i64 u)), .one (.val (.int .i64 a)), .one (.val (.int .i64 p))] (.tuple #[.int .i64 (B.aV u a p), .int .i64 (B.aE u a p)]) := by
  by_cases hu : 0 ≤ u ∧ u ≤ 1073741824
  · obtain ⟨c1, c2⟩ := v_costOk u a hu
    obtain ⟨d1, d2⟩ := v_costOk u p hu
    by_cases ha : P.Ok a
    · have c1 := c1 ha
      have ba := P.cost_bd hu ha
      by_cases hp : P.Ok p
      · have d1 := d1 hp
        have bp := P.cost_bd hu hp
        rw [show B.aV u a p = P.cost u p - P.cost u a from if_pos ⟨hu, ha, hp⟩, show B.aE u a p = 0 from if_pos ⟨hu, ha, hp⟩]
        clear c2 d2
        generalize P.cost u a = A at *
        generalize P.cost u p = Q at *
        refine V.Fn.mk_ V.Tok V.mixed Try.func11 rfl Try.ntmps11 (by kernel_rfl) rfl rfl ?_
        repeat' ((conv => whnf); first | (refine V.NIf.yes ?_ ?_; · (decide; done)) | (refine V.NIf.no ?_ ?_; · (decide; done)) | refine V.NCond.mk ?_ | refine V.NIf.not_ ?_ | refine V.NIf.dec_ ?_ | refine V.NIf.no (by omega) ?_ | refine V.NIf.yes (by omega) ?_ | refine V.NIf.mk (fun _ => ?_) (fun _ => ?_) | refine V.NWrap.ok (by omega) (by omega) ?_ | refine V.NWrap.u64 (by omega) (by omega) ?_ | refine V.NLt.mk (by omega) ?_ | refine V.NBoth.mk ?_ ?_ | refine V.NTF.yes (by omega) ?_ | refine V.NTF.no (by omega) ?_ | refine V.NTF.dec ?_ | refine V.NDraw.q (by exact rfl) (by kernel_rfl) ?_ | refine V.NApp.one (by first | omega | (simp; omega)) (by first | omega | (simp; omega)) ?_ | (first | refine V.Fn.k0 (c1) rfl ?_ | refine V.Fn.q0 (c1) rfl ?_ | refine V.Fn.a0 (c1) rfl ?_) | (first | refine V.Fn.k0 (d1) rfl ?_ | refine V.Fn.q0 (d1) rfl ?_ | refine V.Fn.a0 (d1) rfl ?_) | (refine V.NDraw.any (by kernel_rfl) ?_) | fail)
        all_goals (conv => whnf)
        all_goals exact V.fin2 ⟨rfl, rfl⟩
      · have d2 := d2 hp
        rw [show B.aV u a p = 0 from if_neg (fun z => hp z.2.2), show B.aE u a p = 3 from if_neg (fun z => hp z.2.2)]
        clear c2 d1
        refine V.Fn.mk_ V.Tok V.mixed Try.func11 rfl Try.ntmps11 (by kernel_rfl) rfl rfl ?_
        repeat' ((conv => whnf); first | (refine V.NIf.yes ?_ ?_; · (decide; done)) | (refine V.NIf.no ?_ ?_; · (decide; done)) | refine V.NCond.mk ?_ | refine V.NIf.not_ ?_ | refine V.NIf.dec_ ?_ | refine V.NIf.no (by omega) ?_ | refine V.NIf.yes (by omega) ?_ | refine V.NIf.mk (fun _ => ?_) (fun _ => ?_) | refine V.NWrap.ok (by omega) (by omega) ?_ | refine V.NWrap.u64 (by omega) (by omega) ?_ | refine V.NLt.mk (by omega) ?_ | refine V.NBoth.mk ?_ ?_ | refine V.NTF.yes (by omega) ?_ | refine V.NTF.no (by omega) ?_ | refine V.NTF.dec ?_ | refine V.NDraw.q (by exact rfl) (by kernel_rfl) ?_ | refine V.NApp.one (by first | omega | (simp; omega)) (by first | omega | (simp; omega)) ?_ | (first | refine V.Fn.k0 (c1) rfl ?_ | refine V.Fn.q0 (c1) rfl ?_ | refine V.Fn.a0 (c1) rfl ?_) | (first | refine V.Fn.k0 (d2) rfl ?_ | refine V.Fn.q0 (d2) rfl ?_ | refine V.Fn.a0 (d2) rfl ?_) | (refine V.NDraw.any (by kernel_rfl) ?_) | fail)
        all_goals (conv => whnf)
        all_goals exact V.fin2 ⟨rfl, rfl⟩
    · have c2 := c2 ha
      rw [show B.aV u a p = 0 from if_neg (fun z => ha z.2.1), show B.aE u a p = 3 from if_neg (fun z => ha z.2.1)]
      clear c1 d1 d2
      refine V.Fn.mk_ V.Tok V.mixed Try.func11 rfl Try.ntmps11 (by kernel_rfl) rfl rfl ?_
      repeat' ((conv => whnf); first | (refine V.NIf.yes ?_ ?_; · (decide; done)) | (refine V.NIf.no ?_ ?_; · (decide; done)) | refine V.NCond.mk ?_ | refine V.NIf.not_ ?_ | refine V.NIf.dec_ ?_ | refine V.NIf.no (by omega) ?_ | refine V.NIf.yes (by omega) ?_ | refine V.NIf.mk (fun _ => ?_) (fun _ => ?_) | refine V.NWrap.ok (by omega) (by omega) ?_ | refine V.NWrap.u64 (by omega) (by omega) ?_ | refine V.NLt.mk (by omega) ?_ | refine V.NBoth.mk ?_ ?_ | refine V.NTF.yes (by omega) ?_ | refine V.NTF.no (by omega) ?_ | refine V.NTF.dec ?_ | refine V.NDraw.q (by exact rfl) (by kernel_rfl) ?_ | refine V.NApp.one (by first | omega | (simp; omega)) (by first | omega | (simp; omega)) ?_ | (first | refine V.Fn.k0 (c2) rfl ?_ | refine V.Fn.q0 (c2) rfl ?_ | refine V.Fn.a0 (c2) rfl ?_) | (refine V.NDraw.any (by kernel_rfl) ?_) | fail)
      all_goals (conv => whnf)
      all_goals exact V.fin2 ⟨rfl, rfl⟩
  · rw [show B.aV u a p = 0 from if_neg (fun z => hu z.1), show B.aE u a p = 3 from if_neg (fun z => hu z.1)]
    refine V.Fn.mk_ V.Tok V.mixed Try.func11 rfl Try.ntmps11 (by kernel_rfl) rfl rfl ?_
    repeat' ((conv => whnf); first | (refine V.NIf.yes ?_ ?_; · (decide; done)) | (refine V.NIf.no ?_ ?_; · (decide; done)) | refine V.NCond.mk ?_ | refine V.NIf.not_ ?_ | refine V.NIf.dec_ ?_ | refine V.NIf.no (by omega) ?_ | refine V.NIf.yes (by omega) ?_ | refine V.NIf.mk (fun _ => ?_) (fun _ => ?_) | refine V.NWrap.ok (by omega) (by omega) ?_ | refine V.NWrap.u64 (by omega) (by omega) ?_ | refine V.NLt.mk (by omega) ?_ | refine V.NBoth.mk ?_ ?_ | refine V.NTF.yes (by omega) ?_ | refine V.NTF.no (by omega) ?_ | refine V.NTF.dec ?_ | refine V.NDraw.q (by exact rfl) (by kernel_rfl) ?_ | refine V.NApp.one (by first | omega | (simp; omega)) (by first | omega | (simp; omega)) ?_ | (refine V.NDraw.any (by kernel_rfl) ?_) | fail)
    all_goals (conv => whnf)
    all_goals exact V.fin2 ⟨rfl, rfl⟩
end Go.Proofs.Ytcdlhfbpmpjfkaa

/- What the document's functions on offers answer: at the least cost, and what comes back. -/
namespace Go.Proofs.Ytcdlhfbpmpjfkaa
open Go Go.RowKit V
set_option maxRecDepth 100000
set_option linter.unusedVariables false
set_option linter.unusedSimpArgs false
set_option maxHeartbeats 4000000
theorem v_rcost (a b : Int) (ha : 0 ≤ a ∧ a ≤ 1073741824) (hb : P.Ok b) : V.Fn Try.prog 33 [] [.one (.val (.int .i64 a)), .one (.val (.int .i64 b)), .one (.val (.int .i64 10000))] (.tuple #[.int .i64 (P.cost a b), .int .i64 (M.poR a b 10000)]) := by
  have hb' : 0 ≤ b ∧ b ≤ 1099511627776 := hb
  have s := v_partOfW a b 10000 (by omega) hb' (by omega)
  have cb := P.cost_bd ha hb
  have ec : P.cost a b = a * b / 10000 := rfl
  rcases M.po_at (a := a) (b := b) (c := 10000) ha.1 hb'.1 (by omega) with ⟨_, k⟩ | ⟨e1, e2, _⟩
  · omega
  · rw [e1, ← ec] at s; exact s
end Go.Proofs.Ytcdlhfbpmpjfkaa

/- What the document's functions of buying in answer. -/
namespace Go.Proofs.Ytcdlhfbpmpjfkaa
open Go Go.Sort Go.RowKit V
set_option maxRecDepth 100000
set_option linter.unusedVariables false
set_option linter.unusedSimpArgs false
set_option maxHeartbeats 4000000
theorem v_cheaper (l : List Of) (i k : Nat) (hi : i < l.length) (hk : k < l.length) : V.Fn Try.prog 32 [.arr 3 l.length (ga encO l)] [.one (.ref 0), .one (.val (.int .i64 ((i : Int)))), .one (.val (.int .i64 ((k : Int))))] (.bool (B.bf l i k)) := by
  have b := B.bf_iff l i k
  have e1 : O.pr l i = (l.getD i default).pr := rfl
  have e2 : O.pr l k = (l.getD k default).pr := rfl
  have e3 : O.U l i = (l.getD i default).un := rfl
  have e4 : O.U l k = (l.getD k default).un := rfl
  rw [e1, e2, e3, e4] at b
  generalize B.bf l i k = X at *
  refine V.Fn.mk_ V.Tok V.mixed Try.func32 rfl Try.ntmps32 (by kernel_rfl) rfl rfl ?_
  repeat' ((conv => whnf); first | refine V.NCond.mk ?_ | refine V.NIf.not_ ?_ | refine V.NIf.dec_ ?_ | refine V.NIf.no (by omega) ?_ | refine V.NIf.yes (by omega) ?_ | refine V.NIf.mk (fun _ => ?_) (fun _ => ?_) | refine V.NWrap.ok (by omega) (by omega) ?_ | refine V.NWrap.u64 (by omega) (by omega) ?_ | refine V.NLt.mk (by omega) ?_ | refine V.NBoth.mk ?_ ?_ | refine V.NTF.yes (by omega) ?_ | refine V.NTF.no (by omega) ?_ | refine V.NTF.dec ?_ | refine V.NDraw.q (by exact rfl) (by kernel_rfl) ?_ | refine V.NApp.one (by first | omega | (simp; omega)) (by first | omega | (simp; omega)) ?_ | (refine NIdx.mk ⟨i, rfl, by omega, ?_⟩) | (refine NIdx.mk ⟨k, rfl, by omega, ?_⟩) | (refine V.NDraw.any (by kernel_rfl) ?_) | fail)
  all_goals (conv => whnf)
  all_goals exact ⟨X, rfl, by rw [b]; omega⟩
theorem v_rbyErr (l : List Of) (m : Int) (hn : l.length ≤ 9223372036854775807) : V.Fn Try.prog 14 [.arr 3 l.length (ga encO l)] [.one (.ref 0), .one (.val (.int .i64 m))] (.int .i64 (B.err l m)) := by
  have ck := v_rofCheck l hn
  rcases B.err_cases l m with ⟨a, e⟩ | ⟨a, b, e⟩ | ⟨a, b, e⟩
  · rw [e]
    generalize O.chk l = C at *
    refine V.Fn.mk_ V.Tok V.mixed Try.func14 rfl Try.ntmps14 (by kernel_rfl) rfl rfl ?_
    repeat' ((conv => whnf); first | (refine V.NIf.yes ?_ ?_; · (decide; done)) | (refine V.NIf.no ?_ ?_; · (decide; done)) | refine V.NCond.mk ?_ | refine V.NIf.not_ ?_ | refine V.NIf.dec_ ?_ | refine V.NIf.no (by omega) ?_ | refine V.NIf.yes (by omega) ?_ | refine V.NIf.mk (fun _ => ?_) (fun _ => ?_) | refine V.NWrap.ok (by omega) (by omega) ?_ | refine V.NWrap.u64 (by omega) (by omega) ?_ | refine V.NLt.mk (by omega) ?_ | refine V.NBoth.mk ?_ ?_ | refine V.NTF.yes (by omega) ?_ | refine V.NTF.no (by omega) ?_ | refine V.NTF.dec ?_ | refine V.NDraw.q (by exact rfl) (by kernel_rfl) ?_ | refine V.NApp.one (by first | omega | (simp; omega)) (by first | omega | (simp; omega)) ?_ | ((first | refine V.Fn.k (ck) [0] rfl ?_ ?_ | refine V.Fn.q (ck) [0] rfl ?_ ?_ | refine V.Fn.a (ck) [0] rfl ?_ ?_); · ((repeat' (first | exact rfl | exact Iff.rfl | exact trivial | exact (fun _ _ => rfl) | exact (fun _ h => absurd h (Nat.not_lt_zero _)) | refine ⟨?_, ?_⟩ | exact Iff.rfl | exact congrArg (fun z => V.SV.one (V.At.val (Value.int .i64 z))) (by omega))); done)) | (first | refine V.Fn.k0 (v_rbetween _ _ _) rfl ?_ | refine V.Fn.q0 (v_rbetween _ _ _) rfl ?_ | refine V.Fn.a0 (v_rbetween _ _ _) rfl ?_) | (refine V.NDraw.any (by kernel_rfl) ?_) | fail)
    all_goals (conv => whnf)
    all_goals exact V.fin1 rfl
  all_goals (
    rw [e]
    rw [a] at ck
    refine V.Fn.mk_ V.Tok V.mixed Try.func14 rfl Try.ntmps14 (by kernel_rfl) rfl rfl ?_
    repeat' ((conv => whnf); first | (refine V.NIf.yes ?_ ?_; · (decide; done)) | (refine V.NIf.no ?_ ?_; · (decide; done)) | refine V.NCond.mk ?_ | refine V.NIf.not_ ?_ | refine V.NIf.dec_ ?_ | refine V.NIf.no (by omega) ?_ | refine V.NIf.yes (by omega) ?_ | refine V.NIf.mk (fun _ => ?_) (fun _ => ?_) | refine V.NWrap.ok (by omega) (by omega) ?_ | refine V.NWrap.u64 (by omega) (by omega) ?_ | refine V.NLt.mk (by omega) ?_ | refine V.NBoth.mk ?_ ?_ | refine V.NTF.yes (by omega) ?_ | refine V.NTF.no (by omega) ?_ | refine V.NTF.dec ?_ | refine V.NDraw.q (by exact rfl) (by kernel_rfl) ?_ | refine V.NApp.one (by first | omega | (simp; omega)) (by first | omega | (simp; omega)) ?_ | ((first | refine V.Fn.k (ck) [0] rfl ?_ ?_ | refine V.Fn.q (ck) [0] rfl ?_ ?_ | refine V.Fn.a (ck) [0] rfl ?_ ?_); · ((repeat' (first | exact rfl | exact Iff.rfl | exact trivial | exact (fun _ _ => rfl) | exact (fun _ h => absurd h (Nat.not_lt_zero _)) | refine ⟨?_, ?_⟩ | exact Iff.rfl | exact congrArg (fun z => V.SV.one (V.At.val (Value.int .i64 z))) (by omega))); done)) | (first | refine V.Fn.k0 (v_rbetween _ _ _) rfl ?_ | refine V.Fn.q0 (v_rbetween _ _ _) rfl ?_ | refine V.Fn.a0 (v_rbetween _ _ _) rfl ?_) | (refine V.NDraw.any (by kernel_rfl) ?_) | fail)
    all_goals (conv => whnf)
    all_goals exact V.fin1 rfl)
theorem v_rbyApart (u a p : Int) : V.Fn Try.prog 19 [] [.one (.val (.int .i64 u)), .one (.val (.int .i64 a)), .one (.val (.int .i64 p))] (.tuple #[.int .i64 (B.aV u a p), .int .i64 (B.aE u a p)]) := by
  have ca := v_rpcheck a
  have cp := v_rpcheck p
  by_cases h : (0 ≤ u ∧ u ≤ 1073741824) ∧ P.Ok a ∧ P.Ok p
  · obtain ⟨hu, ha, hp⟩ := h
    rw [show B.aV u a p = P.cost u p - P.cost u a from if_pos ⟨hu, ha, hp⟩, show B.aE u a p = 0 from if_pos ⟨hu, ha, hp⟩]
    have c := v_rcost u a hu ha
    have d := v_rcost u p hu hp
    have ba := P.cost_bd hu ha
    have bp := P.cost_bd hu hp
    rw [P.chk_yes ha] at ca
    rw [P.chk_yes hp] at cp
    generalize P.cost u a = A at *
    generalize P.cost u p = Q at *
    refine V.Fn.mk_ V.Tok V.mixed Try.func19 rfl Try.ntmps19 (by kernel_rfl) rfl rfl ?_
    repeat' ((conv => whnf); first | (refine V.NIf.yes ?_ ?_; · (decide; done)) | (refine V.NIf.no ?_ ?_; · (decide; done)) | refine V.NCond.mk ?_ | refine V.NIf.not_ ?_ | refine V.NIf.dec_ ?_ | refine V.NIf.no (by omega) ?_ | refine V.NIf.yes (by omega) ?_ | refine V.NIf.mk (fun _ => ?_) (fun _ => ?_) | refine V.NWrap.ok (by omega) (by omega) ?_ | refine V.NWrap.u64 (by omega) (by omega) ?_ | refine V.NLt.mk (by omega) ?_ | refine V.NBoth.mk ?_ ?_ | refine V.NTF.yes (by omega) ?_ | refine V.NTF.no (by omega) ?_ | refine V.NTF.dec ?_ | refine V.NDraw.q (by exact rfl) (by kernel_rfl) ?_ | refine V.NApp.one (by first | omega | (simp; omega)) (by first | omega | (simp; omega)) ?_ | (first | refine V.Fn.k0 (ca) rfl ?_ | refine V.Fn.q0 (ca) rfl ?_ | refine V.Fn.a0 (ca) rfl ?_) | (first | refine V.Fn.k0 (cp) rfl ?_ | refine V.Fn.q0 (cp) rfl ?_ | refine V.Fn.a0 (cp) rfl ?_) | (first | refine V.Fn.k0 (c) rfl ?_ | refine V.Fn.q0 (c) rfl ?_ | refine V.Fn.a0 (c) rfl ?_) | (first | refine V.Fn.k0 (d) rfl ?_ | refine V.Fn.q0 (d) rfl ?_ | refine V.Fn.a0 (d) rfl ?_) | (first | refine V.Fn.k0 (v_rbetween _ _ _) rfl ?_ | refine V.Fn.q0 (v_rbetween _ _ _) rfl ?_ | refine V.Fn.a0 (v_rbetween _ _ _) rfl ?_) | (refine V.NDraw.any (by kernel_rfl) ?_) | fail)
    all_goals (conv => whnf)
    all_goals first
      | exact V.fin2 ⟨rfl, rfl⟩
      | (exfalso; omega)
  · rw [show B.aV u a p = 0 from if_neg h, show B.aE u a p = 3 from if_neg h]
    have ka : P.chk a = 0 ↔ P.Ok a := ⟨fun q => Classical.byContradiction fun z => by rw [P.chk_no z] at q; omega, P.chk_yes⟩
    have kp : P.chk p = 0 ↔ P.Ok p := ⟨fun q => Classical.byContradiction fun z => by rw [P.chk_no z] at q; omega, P.chk_yes⟩
    rw [← ka, ← kp] at h
    generalize P.chk a = A at *
    generalize P.chk p = Q at *
    refine V.Fn.mk_ V.Tok V.mixed Try.func19 rfl Try.ntmps19 (by kernel_rfl) rfl rfl ?_
    repeat' ((conv => whnf); first | (refine V.NIf.yes ?_ ?_; · (decide; done)) | (refine V.NIf.no ?_ ?_; · (decide; done)) | refine V.NCond.mk ?_ | refine V.NIf.not_ ?_ | refine V.NIf.dec_ ?_ | refine V.NIf.no (by omega) ?_ | refine V.NIf.yes (by omega) ?_ | refine V.NIf.mk (fun _ => ?_) (fun _ => ?_) | refine V.NWrap.ok (by omega) (by omega) ?_ | refine V.NWrap.u64 (by omega) (by omega) ?_ | refine V.NLt.mk (by omega) ?_ | refine V.NBoth.mk ?_ ?_ | refine V.NTF.yes (by omega) ?_ | refine V.NTF.no (by omega) ?_ | refine V.NTF.dec ?_ | refine V.NDraw.q (by exact rfl) (by kernel_rfl) ?_ | refine V.NApp.one (by first | omega | (simp; omega)) (by first | omega | (simp; omega)) ?_ | (first | refine V.Fn.k0 (ca) rfl ?_ | refine V.Fn.q0 (ca) rfl ?_ | refine V.Fn.a0 (ca) rfl ?_) | (first | refine V.Fn.k0 (cp) rfl ?_ | refine V.Fn.q0 (cp) rfl ?_ | refine V.Fn.a0 (cp) rfl ?_) | (first | refine V.Fn.k0 (v_rbetween _ _ _) rfl ?_ | refine V.Fn.q0 (v_rbetween _ _ _) rfl ?_ | refine V.Fn.a0 (v_rbetween _ _ _) rfl ?_) | (refine V.NDraw.any (by kernel_rfl) ?_) | fail)
    all_goals (conv => whnf)
    all_goals first
      | exact V.fin2 ⟨rfl, rfl⟩
      | (exfalso; omega)
theorem B.put_usd {l : List Of} {k : Nat} (h : k < l.length) (j : Nat) : [Value.bool (B.usd l (k + 1) j)] = if j = B.at_ l k then [Value.bool true] else [Value.bool (B.usd l k j)] := by
  rw [B.usd_succ h]
  by_cases e : j = B.at_ l k
  · rw [if_pos e, if_pos e]
  · rw [if_neg e, if_neg e]
theorem v_rbyOrder (l : List Of) (le : l.length ≤ 40) : V.FnR Try.prog 15 [.arr 3 l.length (ga encO l)] [.one (.ref 0)] (.one (.ref 1)) [.row 3 1 (nats (B.ord l)).length (ga e1 (nats (B.ord l)))] := by
  have lD : (nats (B.ord l)).length = l.length := by rw [nats_len]; exact Od.srt_len _ _
  have ch := fun i k hi hk => v_cheaper l i k hi hk
  have F1 : ∀ k i, B.bs l k (i + 1) = if B.usd l k i = false ∧ (B.bs l k i < 0 ∨ B.bf l i (B.bs l k i).toNat = true) then (i : Int) else B.bs l k i := fun k i => rfl
  have F2 := fun k => @B.put_usd l k
  have F3 := B.usd_0 l
  generalize B.usd l = ud at *
  refine V.FnR.mk_ V.Tok V.mixed Try.func15 rfl Try.ntmps15 (by kernel_rfl) rfl rfl rfl rfl ?_
  repeat' ((conv => whnf); first | refine V.NCond.mk ?_ | refine V.NIf.not_ ?_ | refine V.NIf.dec_ ?_ | refine V.NIf.no (by omega) ?_ | refine V.NIf.yes (by omega) ?_ | refine V.NIf.mk (fun _ => ?_) (fun _ => ?_) | refine V.NWrap.ok (by omega) (by omega) ?_ | refine V.NWrap.u64 (by omega) (by omega) ?_ | refine V.NLt.mk (by omega) ?_ | refine V.NBoth.mk ?_ ?_ | refine V.NTF.yes (by omega) ?_ | refine V.NTF.no (by omega) ?_ | refine V.NTF.dec ?_ | refine V.NDraw.q (by exact rfl) (by kernel_rfl) ?_ | refine V.NApp.one (by first | omega | (simp; omega)) (by first | omega | (simp; omega)) ?_ | (refine NMake.mk ⟨l.length, l.length, rfl, rfl, by omega, by omega, by first | omega | decide | (simp; done) | (simp; omega), ?_⟩) | (refine V.NDraw.any (by kernel_rfl) ?_) | fail)
  all_goals (conv => whnf)
  refine V.NLoop.auto (fun (k : Nat) => [(3, .one (.ref 2)), (4, .one (.ref 3))]) (fun (k : Nat) => [(2, .row 3 1 ((nats (B.ord l)).take k).length (ga e1 ((nats (B.ord l)).take k))), (3, .row 4 1 l.length (fun q => [.bool (ud k q)]))]) [] [] (fun (k : Nat) => l.length - k) (fun (k : Nat) => k ≤ l.length) 0 (Nat.zero_le _) (by repeat' (first | exact rfl | exact Iff.rfl | exact trivial | exact (fun _ _ => rfl) | exact (fun _ h => absurd h (Nat.not_lt_zero _)) | refine ⟨?_, ?_⟩ | exact Iff.rfl | exact congrArg (fun z => V.SV.one (V.At.val (Value.int .i64 z))) (by omega))) (by (conv => whnf); exact ⟨⟨rfl, rfl, rfl, fun k hk => absurd hk (Nat.not_lt_zero _)⟩, ⟨rfl, rfl, rfl, fun q hq => (show [Value.bool false] = [Value.bool (ud 0 q)] by rw [F3])⟩, trivial⟩) (fun _ => ⟨rfl, rfl⟩) ?_; (conv => whnf); refine ⟨⟨rfl, rfl⟩, ?_⟩
  rintro k hk
  have lk : ((nats (B.ord l)).take k).length = k := by rw [List.length_take]; omega
  by_cases hlt : k < l.length
  · have be := B.bs_end hlt
    have al := B.at_lt hlt
    have us := F2 k hlt
    have sn : (nats (B.ord l)).take (k + 1) = (nats (B.ord l)).take k ++ [((B.at_ l k : Nat) : Int)] := by
      rw [List.take_succ_eq_append_getElem (by omega), ← getD_at (by omega), nats_at (by rw [B.ord_len]; exact hlt)]
      rfl
    generalize hA : (nats (B.ord l)).take k = A at *
    repeat' ((conv => whnf); first | refine V.NCond.mk ?_ | refine V.NIf.not_ ?_ | refine V.NIf.dec_ ?_ | refine V.NIf.no (by omega) ?_ | refine V.NIf.yes (by omega) ?_ | refine V.NIf.mk (fun _ => ?_) (fun _ => ?_) | refine V.NWrap.ok (by omega) (by omega) ?_ | refine V.NWrap.u64 (by omega) (by omega) ?_ | refine V.NLt.mk (by omega) ?_ | refine V.NBoth.mk ?_ ?_ | refine V.NTF.yes (by omega) ?_ | refine V.NTF.no (by omega) ?_ | refine V.NTF.dec ?_ | refine V.NDraw.q (by exact rfl) (by kernel_rfl) ?_ | refine V.NApp.one (by first | omega | (simp; omega)) (by first | omega | (simp; omega)) ?_ | (refine V.NDraw.any (by kernel_rfl) ?_) | fail)
    all_goals (conv => whnf)
    refine V.NLoop.auto (fun (i : Nat) => [(6, .one (.val (.int .i64 i))), (5, .one (.val (.int .i64 (B.bs l k i))))]) (fun (i : Nat) => []) [] [] (fun (i : Nat) => l.length - i) (fun (i : Nat) => i ≤ l.length) 0 (Nat.zero_le _) (by repeat' (first | exact rfl | exact Iff.rfl | exact trivial | exact (fun _ _ => rfl) | exact (fun _ h => absurd h (Nat.not_lt_zero _)) | refine ⟨?_, ?_⟩ | exact Iff.rfl | exact congrArg (fun z => V.SV.one (V.At.val (Value.int .i64 z))) (by omega))) (by repeat' (first | exact rfl | exact Iff.rfl | exact trivial | exact (fun _ _ => rfl) | exact (fun _ h => absurd h (Nat.not_lt_zero _)) | refine ⟨?_, ?_⟩ | exact Iff.rfl | exact congrArg (fun z => V.SV.one (V.At.val (Value.int .i64 z))) (by omega))) (fun _ => ⟨rfl, rfl⟩) ?_; (conv => whnf); refine ⟨⟨rfl, rfl⟩, ?_⟩
    rintro i hi
    have bb := B.bs_bd l k i
    by_cases hil : i < l.length
    · have bn : B.bs l k (i + 1) = if ud k i = false ∧ (B.bs l k i < 0 ∨ B.bf l i (B.bs l k i).toNat = true) then (i : Int) else B.bs l k i := F1 k i
      obtain ⟨b, hb⟩ : ∃ b : Nat, b = (B.bs l k i).toNat := ⟨_, rfl⟩
      rw [← hb] at bn
      have c := fun z : 0 ≤ B.bs l k i => ch i b hil (by omega)
      have n1 : ud k i = true → B.bs l k (i + 1) = B.bs l k i := fun h => bn.trans (if_neg (fun q => by rw [h] at q; cases q.1))
      have n2 : ¬ ud k i = true → B.bs l k i < 0 → B.bs l k (i + 1) = i := fun h z => bn.trans (if_pos ⟨by simpa using h, .inl z⟩)
      have n3 : ¬ ud k i = true → B.bf l i b = true → B.bs l k (i + 1) = i := fun h z => bn.trans (if_pos ⟨by simpa using h, .inr z⟩)
      have n4 : ¬ B.bs l k i < 0 → ¬ B.bf l i b = true → B.bs l k (i + 1) = B.bs l k i := fun h z => bn.trans (if_neg (fun q => q.2.elim h z))
      clear bn
      generalize hX : B.bs l k i = X at *
      generalize hY : B.bs l k (i + 1) = Y at *
      generalize B.bf l i b = H at *
      cases hG : ud k i
      all_goals rw [hG] at n1 n2 n3
      · by_cases hx : X < 0
        · have e := (n2 (by decide) hx).symm.trans hY.symm
          clear n1 n2 n3 n4 c
          repeat' ((conv => whnf); first | (refine V.NIf.yes ?_ ?_; · (rw [hG]; decide; done)) | (refine V.NIf.no ?_ ?_; · (rw [hG]; decide; done)) | (refine V.NIf.yes ?_ ?_; · (decide; done)) | (refine V.NIf.no ?_ ?_; · (decide; done)) | refine V.NCond.mk ?_ | refine V.NIf.not_ ?_ | refine V.NIf.dec_ ?_ | refine V.NIf.no (by omega) ?_ | refine V.NIf.yes (by omega) ?_ | refine V.NIf.mk (fun _ => ?_) (fun _ => ?_) | refine V.NWrap.ok (by omega) (by omega) ?_ | refine V.NWrap.u64 (by omega) (by omega) ?_ | refine V.NLt.mk (by omega) ?_ | refine V.NBoth.mk ?_ ?_ | refine V.NTF.yes (by omega) ?_ | refine V.NTF.no (by omega) ?_ | refine V.NTF.dec ?_ | refine V.NDraw.q (by exact rfl) (by kernel_rfl) ?_ | refine V.NApp.one (by first | omega | (simp; omega)) (by first | omega | (simp; omega)) ?_ | (refine NIdx.mk ⟨i, rfl, by omega, ?_⟩) | (refine V.NDraw.any (by kernel_rfl) ?_) | fail)
          all_goals (conv => whnf)
          all_goals exact V.NBack.at_ (i + 1) [] (by omega) (by omega) ⟨(by repeat' (first | exact rfl | exact Iff.rfl | exact trivial | exact (fun _ _ => rfl) | exact (fun _ h => absurd h (Nat.not_lt_zero _)) | refine ⟨?_, ?_⟩ | exact Iff.rfl | exact congrArg (fun z => V.SV.one (V.At.val (Value.int .i64 z))) (by omega))), congrArg (fun z => V.SV.one (V.At.val (Value.int .i64 z))) (e), trivial⟩ rfl (by repeat' (first | exact rfl | exact Iff.rfl | exact trivial | exact (fun _ _ => rfl) | exact (fun _ h => absurd h (Nat.not_lt_zero _)) | refine ⟨?_, ?_⟩ | exact Iff.rfl | exact congrArg (fun z => V.SV.one (V.At.val (Value.int .i64 z))) (by omega))) (by repeat' (first | exact rfl | exact Iff.rfl | exact trivial | exact (fun _ _ => rfl) | exact (fun _ h => absurd h (Nat.not_lt_zero _)) | refine ⟨?_, ?_⟩ | exact Iff.rfl | exact congrArg (fun z => V.SV.one (V.At.val (Value.int .i64 z))) (by omega))) (by repeat' (first | exact rfl | exact Iff.rfl | exact trivial | exact (fun _ _ => rfl) | exact (fun _ h => absurd h (Nat.not_lt_zero _)) | refine ⟨?_, ?_⟩ | exact Iff.rfl | exact congrArg (fun z => V.SV.one (V.At.val (Value.int .i64 z))) (by omega)))
        · have c := c (by omega)
          rw [show ((b : Nat) : Int) = X by omega] at c
          cases H
          · have e := (n4 hx (by decide)).symm.trans hY.symm
            clear n1 n2 n3 n4
            repeat' ((conv => whnf); first | (refine V.NIf.yes ?_ ?_; · (rw [hG]; decide; done)) | (refine V.NIf.no ?_ ?_; · (rw [hG]; decide; done)) | (refine V.NIf.yes ?_ ?_; · (decide; done)) | (refine V.NIf.no ?_ ?_; · (decide; done)) | refine V.NCond.mk ?_ | refine V.NIf.not_ ?_ | refine V.NIf.dec_ ?_ | refine V.NIf.no (by omega) ?_ | refine V.NIf.yes (by omega) ?_ | refine V.NIf.mk (fun _ => ?_) (fun _ => ?_) | refine V.NWrap.ok (by omega) (by omega) ?_ | refine V.NWrap.u64 (by omega) (by omega) ?_ | refine V.NLt.mk (by omega) ?_ | refine V.NBoth.mk ?_ ?_ | refine V.NTF.yes (by omega) ?_ | refine V.NTF.no (by omega) ?_ | refine V.NTF.dec ?_ | refine V.NDraw.q (by exact rfl) (by kernel_rfl) ?_ | refine V.NApp.one (by first | omega | (simp; omega)) (by first | omega | (simp; omega)) ?_ | (refine NIdx.mk ⟨i, rfl, by omega, ?_⟩) | ((first | refine V.Fn.k (c) [0] rfl ?_ ?_ | refine V.Fn.q (c) [0] rfl ?_ ?_ | refine V.Fn.a (c) [0] rfl ?_ ?_); · ((repeat' (first | exact rfl | exact Iff.rfl | exact trivial | exact (fun _ _ => rfl) | exact (fun _ h => absurd h (Nat.not_lt_zero _)) | refine ⟨?_, ?_⟩ | exact Iff.rfl | exact congrArg (fun z => V.SV.one (V.At.val (Value.int .i64 z))) (by omega))); done)) | (refine V.NDraw.any (by kernel_rfl) ?_) | fail)
            all_goals (conv => whnf)
            all_goals exact V.NBack.at_ (i + 1) [] (by omega) (by omega) ⟨(by repeat' (first | exact rfl | exact Iff.rfl | exact trivial | exact (fun _ _ => rfl) | exact (fun _ h => absurd h (Nat.not_lt_zero _)) | refine ⟨?_, ?_⟩ | exact Iff.rfl | exact congrArg (fun z => V.SV.one (V.At.val (Value.int .i64 z))) (by omega))), congrArg (fun z => V.SV.one (V.At.val (Value.int .i64 z))) (e), trivial⟩ rfl (by repeat' (first | exact rfl | exact Iff.rfl | exact trivial | exact (fun _ _ => rfl) | exact (fun _ h => absurd h (Nat.not_lt_zero _)) | refine ⟨?_, ?_⟩ | exact Iff.rfl | exact congrArg (fun z => V.SV.one (V.At.val (Value.int .i64 z))) (by omega))) (by repeat' (first | exact rfl | exact Iff.rfl | exact trivial | exact (fun _ _ => rfl) | exact (fun _ h => absurd h (Nat.not_lt_zero _)) | refine ⟨?_, ?_⟩ | exact Iff.rfl | exact congrArg (fun z => V.SV.one (V.At.val (Value.int .i64 z))) (by omega))) (by repeat' (first | exact rfl | exact Iff.rfl | exact trivial | exact (fun _ _ => rfl) | exact (fun _ h => absurd h (Nat.not_lt_zero _)) | refine ⟨?_, ?_⟩ | exact Iff.rfl | exact congrArg (fun z => V.SV.one (V.At.val (Value.int .i64 z))) (by omega)))
          · have e := (n3 (by decide) rfl).symm.trans hY.symm
            clear n1 n2 n3 n4
            repeat' ((conv => whnf); first | (refine V.NIf.yes ?_ ?_; · (rw [hG]; decide; done)) | (refine V.NIf.no ?_ ?_; · (rw [hG]; decide; done)) | (refine V.NIf.yes ?_ ?_; · (decide; done)) | (refine V.NIf.no ?_ ?_; · (decide; done)) | refine V.NCond.mk ?_ | refine V.NIf.not_ ?_ | refine V.NIf.dec_ ?_ | refine V.NIf.no (by omega) ?_ | refine V.NIf.yes (by omega) ?_ | refine V.NIf.mk (fun _ => ?_) (fun _ => ?_) | refine V.NWrap.ok (by omega) (by omega) ?_ | refine V.NWrap.u64 (by omega) (by omega) ?_ | refine V.NLt.mk (by omega) ?_ | refine V.NBoth.mk ?_ ?_ | refine V.NTF.yes (by omega) ?_ | refine V.NTF.no (by omega) ?_ | refine V.NTF.dec ?_ | refine V.NDraw.q (by exact rfl) (by kernel_rfl) ?_ | refine V.NApp.one (by first | omega | (simp; omega)) (by first | omega | (simp; omega)) ?_ | (refine NIdx.mk ⟨i, rfl, by omega, ?_⟩) | ((first | refine V.Fn.k (c) [0] rfl ?_ ?_ | refine V.Fn.q (c) [0] rfl ?_ ?_ | refine V.Fn.a (c) [0] rfl ?_ ?_); · ((repeat' (first | exact rfl | exact Iff.rfl | exact trivial | exact (fun _ _ => rfl) | exact (fun _ h => absurd h (Nat.not_lt_zero _)) | refine ⟨?_, ?_⟩ | exact Iff.rfl | exact congrArg (fun z => V.SV.one (V.At.val (Value.int .i64 z))) (by omega))); done)) | (refine V.NDraw.any (by kernel_rfl) ?_) | fail)
            all_goals (conv => whnf)
            all_goals exact V.NBack.at_ (i + 1) [] (by omega) (by omega) ⟨(by repeat' (first | exact rfl | exact Iff.rfl | exact trivial | exact (fun _ _ => rfl) | exact (fun _ h => absurd h (Nat.not_lt_zero _)) | refine ⟨?_, ?_⟩ | exact Iff.rfl | exact congrArg (fun z => V.SV.one (V.At.val (Value.int .i64 z))) (by omega))), congrArg (fun z => V.SV.one (V.At.val (Value.int .i64 z))) (e), trivial⟩ rfl (by repeat' (first | exact rfl | exact Iff.rfl | exact trivial | exact (fun _ _ => rfl) | exact (fun _ h => absurd h (Nat.not_lt_zero _)) | refine ⟨?_, ?_⟩ | exact Iff.rfl | exact congrArg (fun z => V.SV.one (V.At.val (Value.int .i64 z))) (by omega))) (by repeat' (first | exact rfl | exact Iff.rfl | exact trivial | exact (fun _ _ => rfl) | exact (fun _ h => absurd h (Nat.not_lt_zero _)) | refine ⟨?_, ?_⟩ | exact Iff.rfl | exact congrArg (fun z => V.SV.one (V.At.val (Value.int .i64 z))) (by omega))) (by repeat' (first | exact rfl | exact Iff.rfl | exact trivial | exact (fun _ _ => rfl) | exact (fun _ h => absurd h (Nat.not_lt_zero _)) | refine ⟨?_, ?_⟩ | exact Iff.rfl | exact congrArg (fun z => V.SV.one (V.At.val (Value.int .i64 z))) (by omega)))
      · have e := (n1 rfl).symm.trans hY.symm
        clear n1 n2 n3 n4 c
        repeat' ((conv => whnf); first | (refine V.NIf.yes ?_ ?_; · (rw [hG]; decide; done)) | (refine V.NIf.no ?_ ?_; · (rw [hG]; decide; done)) | (refine V.NIf.yes ?_ ?_; · (decide; done)) | (refine V.NIf.no ?_ ?_; · (decide; done)) | refine V.NCond.mk ?_ | refine V.NIf.not_ ?_ | refine V.NIf.dec_ ?_ | refine V.NIf.no (by omega) ?_ | refine V.NIf.yes (by omega) ?_ | refine V.NIf.mk (fun _ => ?_) (fun _ => ?_) | refine V.NWrap.ok (by omega) (by omega) ?_ | refine V.NWrap.u64 (by omega) (by omega) ?_ | refine V.NLt.mk (by omega) ?_ | refine V.NBoth.mk ?_ ?_ | refine V.NTF.yes (by omega) ?_ | refine V.NTF.no (by omega) ?_ | refine V.NTF.dec ?_ | refine V.NDraw.q (by exact rfl) (by kernel_rfl) ?_ | refine V.NApp.one (by first | omega | (simp; omega)) (by first | omega | (simp; omega)) ?_ | (refine NIdx.mk ⟨i, rfl, by omega, ?_⟩) | (refine V.NDraw.any (by kernel_rfl) ?_) | fail)
        all_goals (conv => whnf)
        all_goals exact V.NBack.at_ (i + 1) [] (by omega) (by omega) ⟨(by repeat' (first | exact rfl | exact Iff.rfl | exact trivial | exact (fun _ _ => rfl) | exact (fun _ h => absurd h (Nat.not_lt_zero _)) | refine ⟨?_, ?_⟩ | exact Iff.rfl | exact congrArg (fun z => V.SV.one (V.At.val (Value.int .i64 z))) (by omega))), congrArg (fun z => V.SV.one (V.At.val (Value.int .i64 z))) (e), trivial⟩ rfl (by repeat' (first | exact rfl | exact Iff.rfl | exact trivial | exact (fun _ _ => rfl) | exact (fun _ h => absurd h (Nat.not_lt_zero _)) | refine ⟨?_, ?_⟩ | exact Iff.rfl | exact congrArg (fun z => V.SV.one (V.At.val (Value.int .i64 z))) (by omega))) (by repeat' (first | exact rfl | exact Iff.rfl | exact trivial | exact (fun _ _ => rfl) | exact (fun _ h => absurd h (Nat.not_lt_zero _)) | refine ⟨?_, ?_⟩ | exact Iff.rfl | exact congrArg (fun z => V.SV.one (V.At.val (Value.int .i64 z))) (by omega))) (by repeat' (first | exact rfl | exact Iff.rfl | exact trivial | exact (fun _ _ => rfl) | exact (fun _ h => absurd h (Nat.not_lt_zero _)) | refine ⟨?_, ?_⟩ | exact Iff.rfl | exact congrArg (fun z => V.SV.one (V.At.val (Value.int .i64 z))) (by omega)))
    · obtain rfl : i = l.length := by omega
      rw [be]
      generalize B.at_ l k = q at *
      repeat' ((conv => whnf); first | (refine NApp.one (en := e1) (l := A) (x := (q : Int)) (by first | omega | (simp; omega)) (by first | omega | (simp; omega)) ?_) | refine V.NCond.mk ?_ | refine V.NIf.not_ ?_ | refine V.NIf.dec_ ?_ | refine V.NIf.no (by omega) ?_ | refine V.NIf.yes (by omega) ?_ | refine V.NIf.mk (fun _ => ?_) (fun _ => ?_) | refine V.NWrap.ok (by omega) (by omega) ?_ | refine V.NWrap.u64 (by omega) (by omega) ?_ | refine V.NLt.mk (by omega) ?_ | refine V.NBoth.mk ?_ ?_ | refine V.NTF.yes (by omega) ?_ | refine V.NTF.no (by omega) ?_ | refine V.NTF.dec ?_ | refine V.NDraw.q (by exact rfl) (by kernel_rfl) ?_ | refine V.NApp.one (by first | omega | (simp; omega)) (by first | omega | (simp; omega)) ?_ | (refine NIdx.mk ⟨q, rfl, by omega, ?_⟩) | (refine ⟨⟨fun j => [.bool (ud (k + 1) j)], fun j hj => us j, ?_⟩⟩) | (refine V.NDraw.any (by kernel_rfl) ?_) | fail)
      all_goals (conv => whnf)
      all_goals first
        | exact V.NBack.at_ (k + 1) [(2, 5)] (by omega) (by omega) (by repeat' (first | exact rfl | exact Iff.rfl | exact trivial | exact (fun _ _ => rfl) | exact (fun _ h => absurd h (Nat.not_lt_zero _)) | refine ⟨?_, ?_⟩ | exact Iff.rfl | exact congrArg (fun z => V.SV.one (V.At.val (Value.int .i64 z))) (by omega))) rfl ⟨ObLe.as_ sn, ⟨rfl, rfl, rfl, fun _ _ => rfl⟩, trivial⟩ (by repeat' (first | exact rfl | exact Iff.rfl | exact trivial | exact (fun _ _ => rfl) | exact (fun _ h => absurd h (Nat.not_lt_zero _)) | refine ⟨?_, ?_⟩ | exact Iff.rfl | exact congrArg (fun z => V.SV.one (V.At.val (Value.int .i64 z))) (by omega))) (by repeat' (first | exact rfl | exact Iff.rfl | exact trivial | exact (fun _ _ => rfl) | exact (fun _ h => absurd h (Nat.not_lt_zero _)) | refine ⟨?_, ?_⟩ | exact Iff.rfl | exact congrArg (fun z => V.SV.one (V.At.val (Value.int .i64 z))) (by omega)))
        | trace_state
  · obtain rfl : k = l.length := by omega
    rw [List.take_of_length_le (by omega)]
    repeat' ((conv => whnf); first | refine V.NCond.mk ?_ | refine V.NIf.not_ ?_ | refine V.NIf.dec_ ?_ | refine V.NIf.no (by omega) ?_ | refine V.NIf.yes (by omega) ?_ | refine V.NIf.mk (fun _ => ?_) (fun _ => ?_) | refine V.NWrap.ok (by omega) (by omega) ?_ | refine V.NWrap.u64 (by omega) (by omega) ?_ | refine V.NLt.mk (by omega) ?_ | refine V.NBoth.mk ?_ ?_ | refine V.NTF.yes (by omega) ?_ | refine V.NTF.no (by omega) ?_ | refine V.NTF.dec ?_ | refine V.NDraw.q (by exact rfl) (by kernel_rfl) ?_ | refine V.NApp.one (by first | omega | (simp; omega)) (by first | omega | (simp; omega)) ?_ | (refine V.NDraw.any (by kernel_rfl) ?_) | fail)
    all_goals (conv => whnf)
    all_goals exact NRet.mk_ [some 2] rfl rfl ⟨⟨rfl, rfl, rfl, fun k hk => rfl⟩, trivial⟩
end Go.Proofs.Ytcdlhfbpmpjfkaa

/- How a list of numbers is read off an argument. -/
namespace Go.Proofs.Ytcdlhfbpmpjfkaa
set_option maxRecDepth 100000
open Go Go.RowKit Go.ChangeShapes Go.WideShapes Go.Deep V
theorem intCells : Try.prog.cellsOf 3 = 1 := by kernel_rfl
theorem open_il {H : Type} {enc : TypeId × Value → H} {W : World} {base : Nat} {spare : Nat → Bool} {held : Bool} {r : Reach} {b0 : Nat} {v : Value} {d : DataW H} {p : List MemPlace} (hv : Value.okWide Try.prog W r b0 23 v) (h : DataW.Trod enc Try.prog W base spare held 23 v d p) :
    ∃ l : List Int, ArrIs W v 1 l.length (ga e1 l) ∧ ∀ f ∈ l, (Lit.int .i64 f).wf = true :=
  open_ints_ Try.underlying23 Try.underlying3 intCells hv h
end Go.Proofs.Ytcdlhfbpmpjfkaa

/- What the document's functions of buying in answer: what is taken, and the one price. -/
namespace Go.Proofs.Ytcdlhfbpmpjfkaa
open Go Go.Sort Go.RowKit V
set_option maxRecDepth 100000
set_option linter.unusedVariables false
set_option linter.unusedSimpArgs false
set_option maxHeartbeats 4000000
theorem v_rbyTake (l : List Of) (m p : Int) (ok : O.Oks l) (hm : 1 ≤ m ∧ m ≤ 1073741824) : V.FnR Try.prog 17 [.arr 3 l.length (ga encO l)] [.one (.ref 0), .one (.val (.int .i64 m)), .one (.val (.int .i64 p))] (.tup [.one (.ref 1), .one (.val (.int .i64 (B.lef l m p)))]) [.row 3 1 (B.tak l m p).length (ga e1 (B.tak l m p))] := by
  have le := ok.le
  have co := v_rbyOrder l le
  have lD : (nats (B.ord l)).length = l.length := by rw [nats_len]; exact Od.srt_len _ _
  have tl := B.tak_len l m p
  have f0 := B.F_0 (l := l) (m := m) (p := p) (by omega)
  have o0 := Gr.outs_0 (u := B.V l p) (bf := B.bf l) (n := l.length) (m := m)
  rw [lD] at co
  refine V.FnR.mk_ V.Tok V.mixed Try.func17 rfl Try.ntmps17 (by kernel_rfl) rfl rfl rfl rfl ?_
  repeat' ((conv => whnf); first | refine V.NCond.mk ?_ | refine V.NIf.not_ ?_ | refine V.NIf.dec_ ?_ | refine V.NIf.no (by omega) ?_ | refine V.NIf.yes (by omega) ?_ | refine V.NIf.mk (fun _ => ?_) (fun _ => ?_) | refine V.NWrap.ok (by omega) (by omega) ?_ | refine V.NWrap.u64 (by omega) (by omega) ?_ | refine V.NLt.mk (by omega) ?_ | refine V.NBoth.mk ?_ ?_ | refine V.NTF.yes (by omega) ?_ | refine V.NTF.no (by omega) ?_ | refine V.NTF.dec ?_ | refine V.NDraw.q (by exact rfl) (by kernel_rfl) ?_ | refine V.NApp.one (by first | omega | (simp; omega)) (by first | omega | (simp; omega)) ?_ | (refine NMake.mk ⟨l.length, l.length, rfl, rfl, by omega, by omega, by first | omega | decide | (simp; done) | (simp; omega), ?_⟩) | ((first | refine V.FnR.k_ (co) [0] rfl ?_ ?_ | refine V.FnR.a_ (co) [0] rfl ?_ ?_); · ((repeat' (first | exact rfl | exact Iff.rfl | exact trivial | exact (fun _ _ => rfl) | exact (fun _ h => absurd h (Nat.not_lt_zero _)) | refine ⟨?_, ?_⟩ | exact Iff.rfl | exact congrArg (fun z => V.SV.one (V.At.val (Value.int .i64 z))) (by omega))); done)) | (refine V.NDraw.any (by kernel_rfl) ?_) | fail)
  all_goals (conv => whnf)
  refine V.NLoop.auto (fun (k : Nat) => [(10, .one (.val (.int .i64 k))), (1, .one (.val (.int .i64 (B.F l m p k)))), (8, .one (.ref 2))]) (fun (k : Nat) => [(2, .row 3 1 l.length (ga e1 (Gr.outs (B.V l p) (B.bf l) l.length m k)))]) [] [] (fun (k : Nat) => l.length - k) (fun (k : Nat) => k ≤ l.length) 0 (Nat.zero_le _) (by (conv => whnf); exact ⟨rfl, congrArg (fun z => V.SV.one (V.At.val (Value.int .i64 z))) f0.symm, rfl, trivial⟩) (by (conv => whnf); exact ⟨⟨rfl, rfl, rfl, fun k hk => (by rw [o0, ga_at (by simpa using hk)]; simp; rfl)⟩, trivial⟩) (fun _ => ⟨rfl, rfl⟩) ?_; (conv => whnf); refine ⟨⟨rfl, rfl⟩, ?_⟩
  clear o0 f0 co
  rintro k hk
  by_cases hlt : k < l.length
  · have na : (nats (B.ord l)).getD k default = ((B.at_ l k : Nat) : Int) := nats_at (by rw [B.ord_len]; exact hlt)
    have al := B.at_lt hlt
    have u := O.U_bd ok al
    have eU : O.U l (B.at_ l k) = (l.getD (B.at_ l k) default).un := rfl
    have eP : O.pr l (B.at_ l k) = (l.getD (B.at_ l k) default).pr := rfl
    have fb := B.F_bd (p := p) (m := m) ok (by omega) hk
    have lo := Gr.outs_len (u := B.V l p) (bf := B.bf l) (n := l.length) (m := m) k
    by_cases hs : (l.getD (B.at_ l k) default).pr ≤ p
    · have tk := B.tk_in (m := m) (p := p) ok hlt (by rw [eP]; exact hs)
      have fs := B.F_succ (m := m) (p := p) ok hlt
      have os : (Gr.outs (B.V l p) (B.bf l) l.length m k).set (B.at_ l k) (Gr.tk (B.V l p) (B.bf l) l.length m (B.at_ l k)) = Gr.outs (B.V l p) (B.bf l) l.length m (k + 1) := Gr.outs_set hlt
      have oa := Gr.outs_at (u := B.V l p) (bf := B.bf l) (n := l.length) (m := m) (k := k + 1) al
      rw [if_pos (by unfold B.at_ B.ord; rw [Od.take_succ hlt]; simp)] at oa
      have lo1 := Gr.outs_len (u := B.V l p) (bf := B.bf l) (n := l.length) (m := m) (k + 1)
      rw [eU] at tk u
      generalize B.at_ l k = q at *
      generalize hW1 : Gr.outs (B.V l p) (B.bf l) l.length m (k + 1) = W1 at *
      generalize Gr.outs (B.V l p) (B.bf l) l.length m k = W0 at *
      generalize Gr.tk (B.V l p) (B.bf l) l.length m q = T at *
      generalize hF1 : B.F l m p (k + 1) = F1 at *
      generalize B.F l m p k = F0 at *
      have g0 : (W0.set q (l.getD q default).un).getD q default = (l.getD q default).un := by rw [getD_at (by simp; omega)]; simp
      have ss : (W0.set q (l.getD q default).un).set q T = W1 := by rw [List.set_set]; exact os
      have ls : (W0.set q (l.getD q default).un).length = l.length := by simp; omega
      by_cases hc : F0 < (l.getD q default).un
      · have hT : T = F0 := by rw [tk, if_neg (by omega)]
        rw [hT] at ss
        generalize hWm : W0.set q (l.getD q default).un = Wm at *
        repeat' ((conv => whnf); first | (refine NPut.is_ (en := e1) (l := W0) (l.getD q default).un Wm hWm (by omega) rfl ?_) | (refine NPut.is_ (en := e1) (l := Wm) F0 W1 ss (by omega) rfl ?_) | refine V.NCond.mk ?_ | refine V.NIf.not_ ?_ | refine V.NIf.dec_ ?_ | refine V.NIf.no (by omega) ?_ | refine V.NIf.yes (by omega) ?_ | refine V.NIf.mk (fun _ => ?_) (fun _ => ?_) | refine V.NWrap.ok (by omega) (by omega) ?_ | refine V.NWrap.u64 (by omega) (by omega) ?_ | refine V.NLt.mk (by omega) ?_ | refine V.NBoth.mk ?_ ?_ | refine V.NTF.yes (by omega) ?_ | refine V.NTF.no (by omega) ?_ | refine V.NTF.dec ?_ | refine V.NDraw.q (by exact rfl) (by kernel_rfl) ?_ | refine V.NApp.one (by first | omega | (simp; omega)) (by first | omega | (simp; omega)) ?_ | (refine NIdx.mk ⟨k, rfl, by omega, ?_⟩) | (refine NIdx.mk ⟨q, by omega, by omega, ?_⟩) | (refine V.NDraw.any (by kernel_rfl) ?_) | fail)
        all_goals (conv => whnf)
        all_goals first
          | (exfalso; omega)
          | exact V.NBack.at_ (k + 1) [] (by omega) (by omega) ⟨(by repeat' (first | exact rfl | exact Iff.rfl | exact trivial | exact (fun _ _ => rfl) | exact (fun _ h => absurd h (Nat.not_lt_zero _)) | refine ⟨?_, ?_⟩ | exact Iff.rfl | exact congrArg (fun z => V.SV.one (V.At.val (Value.int .i64 z))) (by omega))), congrArg (fun z => V.SV.one (V.At.val (Value.int .i64 z))) (by omega), rfl, trivial⟩ rfl ⟨⟨rfl, rfl, rfl, fun _ _ => (by rw [hW1])⟩, trivial⟩ (by repeat' (first | exact rfl | exact Iff.rfl | exact trivial | exact (fun _ _ => rfl) | exact (fun _ h => absurd h (Nat.not_lt_zero _)) | refine ⟨?_, ?_⟩ | exact Iff.rfl | exact congrArg (fun z => V.SV.one (V.At.val (Value.int .i64 z))) (by omega))) (by repeat' (first | exact rfl | exact Iff.rfl | exact trivial | exact (fun _ _ => rfl) | exact (fun _ h => absurd h (Nat.not_lt_zero _)) | refine ⟨?_, ?_⟩ | exact Iff.rfl | exact congrArg (fun z => V.SV.one (V.At.val (Value.int .i64 z))) (by omega)))
          | trace_state
      · have hT : T = (l.getD q default).un := by
          rw [tk]; split <;> omega
        rw [hT] at os
        repeat' ((conv => whnf); first | (refine NPut.is_ (en := e1) (l := W0) (l.getD q default).un W1 os (by omega) rfl ?_) | refine V.NCond.mk ?_ | refine V.NIf.not_ ?_ | refine V.NIf.dec_ ?_ | refine V.NIf.no (by omega) ?_ | refine V.NIf.yes (by omega) ?_ | refine V.NIf.mk (fun _ => ?_) (fun _ => ?_) | refine V.NWrap.ok (by omega) (by omega) ?_ | refine V.NWrap.u64 (by omega) (by omega) ?_ | refine V.NLt.mk (by omega) ?_ | refine V.NBoth.mk ?_ ?_ | refine V.NTF.yes (by omega) ?_ | refine V.NTF.no (by omega) ?_ | refine V.NTF.dec ?_ | refine V.NDraw.q (by exact rfl) (by kernel_rfl) ?_ | refine V.NApp.one (by first | omega | (simp; omega)) (by first | omega | (simp; omega)) ?_ | (refine NIdx.mk ⟨k, rfl, by omega, ?_⟩) | (refine NIdx.mk ⟨q, by omega, by omega, ?_⟩) | (refine V.NDraw.any (by kernel_rfl) ?_) | fail)
        all_goals (conv => whnf)
        all_goals first
          | (exfalso; omega)
          | exact V.NBack.at_ (k + 1) [] (by omega) (by omega) ⟨(by repeat' (first | exact rfl | exact Iff.rfl | exact trivial | exact (fun _ _ => rfl) | exact (fun _ h => absurd h (Nat.not_lt_zero _)) | refine ⟨?_, ?_⟩ | exact Iff.rfl | exact congrArg (fun z => V.SV.one (V.At.val (Value.int .i64 z))) (by omega))), congrArg (fun z => V.SV.one (V.At.val (Value.int .i64 z))) (by omega), rfl, trivial⟩ rfl ⟨⟨rfl, rfl, rfl, fun _ _ => (by rw [hW1])⟩, trivial⟩ (by repeat' (first | exact rfl | exact Iff.rfl | exact trivial | exact (fun _ _ => rfl) | exact (fun _ h => absurd h (Nat.not_lt_zero _)) | refine ⟨?_, ?_⟩ | exact Iff.rfl | exact congrArg (fun z => V.SV.one (V.At.val (Value.int .i64 z))) (by omega))) (by repeat' (first | exact rfl | exact Iff.rfl | exact trivial | exact (fun _ _ => rfl) | exact (fun _ h => absurd h (Nat.not_lt_zero _)) | refine ⟨?_, ?_⟩ | exact Iff.rfl | exact congrArg (fun z => V.SV.one (V.At.val (Value.int .i64 z))) (by omega)))
          | trace_state
    · obtain ⟨s1, s2⟩ := B.skip (m := m) ok hlt (p := p) (by rw [eP]; exact hs)
      generalize B.at_ l k = q at *
      repeat' ((conv => whnf); first | refine V.NCond.mk ?_ | refine V.NIf.not_ ?_ | refine V.NIf.dec_ ?_ | refine V.NIf.no (by omega) ?_ | refine V.NIf.yes (by omega) ?_ | refine V.NIf.mk (fun _ => ?_) (fun _ => ?_) | refine V.NWrap.ok (by omega) (by omega) ?_ | refine V.NWrap.u64 (by omega) (by omega) ?_ | refine V.NLt.mk (by omega) ?_ | refine V.NBoth.mk ?_ ?_ | refine V.NTF.yes (by omega) ?_ | refine V.NTF.no (by omega) ?_ | refine V.NTF.dec ?_ | refine V.NDraw.q (by exact rfl) (by kernel_rfl) ?_ | refine V.NApp.one (by first | omega | (simp; omega)) (by first | omega | (simp; omega)) ?_ | (refine NIdx.mk ⟨k, rfl, by omega, ?_⟩) | (refine NIdx.mk ⟨q, by omega, by omega, ?_⟩) | (refine V.NDraw.any (by kernel_rfl) ?_) | fail)
      all_goals (conv => whnf)
      all_goals first
        | (exfalso; omega)
        | exact V.NBack.at_ (k + 1) [] (by omega) (by omega) ⟨(by repeat' (first | exact rfl | exact Iff.rfl | exact trivial | exact (fun _ _ => rfl) | exact (fun _ h => absurd h (Nat.not_lt_zero _)) | refine ⟨?_, ?_⟩ | exact Iff.rfl | exact congrArg (fun z => V.SV.one (V.At.val (Value.int .i64 z))) (by omega))), congrArg (fun z => V.SV.one (V.At.val (Value.int .i64 z))) s1.symm, rfl, trivial⟩ rfl ⟨⟨rfl, rfl, rfl, fun _ _ => (by rw [s2])⟩, trivial⟩ (by repeat' (first | exact rfl | exact Iff.rfl | exact trivial | exact (fun _ _ => rfl) | exact (fun _ h => absurd h (Nat.not_lt_zero _)) | refine ⟨?_, ?_⟩ | exact Iff.rfl | exact congrArg (fun z => V.SV.one (V.At.val (Value.int .i64 z))) (by omega))) (by repeat' (first | exact rfl | exact Iff.rfl | exact trivial | exact (fun _ _ => rfl) | exact (fun _ h => absurd h (Nat.not_lt_zero _)) | refine ⟨?_, ?_⟩ | exact Iff.rfl | exact congrArg (fun z => V.SV.one (V.At.val (Value.int .i64 z))) (by omega)))
        | trace_state
  · obtain rfl : k = l.length := by omega
    obtain ⟨a, b⟩ := B.stop_at (m := m) (p := p) ok (Nat.le_refl _) (.inl rfl)
    rw [a, b]
    repeat' ((conv => whnf); first | refine V.NCond.mk ?_ | refine V.NIf.not_ ?_ | refine V.NIf.dec_ ?_ | refine V.NIf.no (by omega) ?_ | refine V.NIf.yes (by omega) ?_ | refine V.NIf.mk (fun _ => ?_) (fun _ => ?_) | refine V.NWrap.ok (by omega) (by omega) ?_ | refine V.NWrap.u64 (by omega) (by omega) ?_ | refine V.NLt.mk (by omega) ?_ | refine V.NBoth.mk ?_ ?_ | refine V.NTF.yes (by omega) ?_ | refine V.NTF.no (by omega) ?_ | refine V.NTF.dec ?_ | refine V.NDraw.q (by exact rfl) (by kernel_rfl) ?_ | refine V.NApp.one (by first | omega | (simp; omega)) (by first | omega | (simp; omega)) ?_ | (refine V.NDraw.any (by kernel_rfl) ?_) | fail)
    all_goals (conv => whnf)
    all_goals exact NRet.mk_ [some 2] rfl ⟨rfl, rfl, trivial⟩ ⟨⟨rfl, rfl, tl.symm, fun k hk => rfl⟩, trivial⟩
theorem v_rbyOne (l : List Of) (m : Int) (ok : O.Oks l) (hm : 1 ≤ m ∧ m ≤ 1073741824) : V.Fn Try.prog 18 [.arr 3 l.length (ga encO l)] [.one (.ref 0), .one (.val (.int .i64 m))] (.int .i64 (if Sh.sm (O.us l) < m then -1 else B.lst l m 1099511627776)) := by
  have le := ok.le
  have ct := fun p => v_rbyTake l m p ok hm
  rw [← B.b1_end ok hm.1]
  refine V.Fn.mk_ V.Tok V.mixed Try.func18 rfl Try.ntmps18 (by kernel_rfl) rfl rfl ?_
  repeat' ((conv => whnf); first | refine V.NCond.mk ?_ | refine V.NIf.not_ ?_ | refine V.NIf.dec_ ?_ | refine V.NIf.no (by omega) ?_ | refine V.NIf.yes (by omega) ?_ | refine V.NIf.mk (fun _ => ?_) (fun _ => ?_) | refine V.NWrap.ok (by omega) (by omega) ?_ | refine V.NWrap.u64 (by omega) (by omega) ?_ | refine V.NLt.mk (by omega) ?_ | refine V.NBoth.mk ?_ ?_ | refine V.NTF.yes (by omega) ?_ | refine V.NTF.no (by omega) ?_ | refine V.NTF.dec ?_ | refine V.NDraw.q (by exact rfl) (by kernel_rfl) ?_ | refine V.NApp.one (by first | omega | (simp; omega)) (by first | omega | (simp; omega)) ?_ | (refine V.NDraw.any (by kernel_rfl) ?_) | fail)
  all_goals (conv => whnf)
  refine V.NLoop.auto (fun (i : Nat) => [(6, .one (.val (.int .i64 i))), (5, .one (.val (.int .i64 (B.b1 l m i))))]) (fun (i : Nat) => []) [] [] (fun (i : Nat) => l.length - i) (fun (i : Nat) => i ≤ l.length) 0 (Nat.zero_le _) (by repeat' (first | exact rfl | exact Iff.rfl | exact trivial | exact (fun _ _ => rfl) | exact (fun _ h => absurd h (Nat.not_lt_zero _)) | refine ⟨?_, ?_⟩ | exact Iff.rfl | exact congrArg (fun z => V.SV.one (V.At.val (Value.int .i64 z))) (by omega))) (by repeat' (first | exact rfl | exact Iff.rfl | exact trivial | exact (fun _ _ => rfl) | exact (fun _ h => absurd h (Nat.not_lt_zero _)) | refine ⟨?_, ?_⟩ | exact Iff.rfl | exact congrArg (fun z => V.SV.one (V.At.val (Value.int .i64 z))) (by omega))) (fun _ => ⟨rfl, rfl⟩) ?_; (conv => whnf); refine ⟨⟨rfl, rfl⟩, ?_⟩
  rintro i hi
  by_cases hlt : i < l.length
  · have c := ct (l.getD i default).pr
    have bn : B.b1 l m (i + 1) = if B.lef l m (l.getD i default).pr = 0 ∧ (B.b1 l m i < 0 ∨ (l.getD i default).pr < B.b1 l m i) then (l.getD i default).pr else B.b1 l m i := rfl
    generalize B.tak l m (l.getD i default).pr = R at *
    generalize B.lef l m (l.getD i default).pr = X at *
    generalize hY : B.b1 l m (i + 1) = Y at *
    generalize hZ : B.b1 l m i = Z at *
    by_cases h : X = 0 ∧ (Z < 0 ∨ (l.getD i default).pr < Z)
    · rw [if_pos h] at bn
      repeat' ((conv => whnf); first | refine V.NCond.mk ?_ | refine V.NIf.not_ ?_ | refine V.NIf.dec_ ?_ | refine V.NIf.no (by omega) ?_ | refine V.NIf.yes (by omega) ?_ | refine V.NIf.mk (fun _ => ?_) (fun _ => ?_) | refine V.NWrap.ok (by omega) (by omega) ?_ | refine V.NWrap.u64 (by omega) (by omega) ?_ | refine V.NLt.mk (by omega) ?_ | refine V.NBoth.mk ?_ ?_ | refine V.NTF.yes (by omega) ?_ | refine V.NTF.no (by omega) ?_ | refine V.NTF.dec ?_ | refine V.NDraw.q (by exact rfl) (by kernel_rfl) ?_ | refine V.NApp.one (by first | omega | (simp; omega)) (by first | omega | (simp; omega)) ?_ | (refine NIdx.mk ⟨i, rfl, by omega, ?_⟩) | ((first | refine V.FnR.k_ (c) [0] rfl ?_ ?_ | refine V.FnR.a_ (c) [0] rfl ?_ ?_); · ((repeat' (first | exact rfl | exact Iff.rfl | exact trivial | exact (fun _ _ => rfl) | exact (fun _ h => absurd h (Nat.not_lt_zero _)) | refine ⟨?_, ?_⟩ | exact Iff.rfl | exact congrArg (fun z => V.SV.one (V.At.val (Value.int .i64 z))) (by omega))); done)) | (refine V.NDraw.any (by kernel_rfl) ?_) | fail)
      all_goals (conv => whnf)
      all_goals first
        | (exfalso; omega)
        | exact V.NBack.at_ (i + 1) [] (by omega) (by omega) ⟨(by repeat' (first | exact rfl | exact Iff.rfl | exact trivial | exact (fun _ _ => rfl) | exact (fun _ h => absurd h (Nat.not_lt_zero _)) | refine ⟨?_, ?_⟩ | exact Iff.rfl | exact congrArg (fun z => V.SV.one (V.At.val (Value.int .i64 z))) (by omega))), congrArg (fun z => V.SV.one (V.At.val (Value.int .i64 z))) (bn.symm.trans hY.symm), trivial⟩ rfl (by repeat' (first | exact rfl | exact Iff.rfl | exact trivial | exact (fun _ _ => rfl) | exact (fun _ h => absurd h (Nat.not_lt_zero _)) | refine ⟨?_, ?_⟩ | exact Iff.rfl | exact congrArg (fun z => V.SV.one (V.At.val (Value.int .i64 z))) (by omega))) (by repeat' (first | exact rfl | exact Iff.rfl | exact trivial | exact (fun _ _ => rfl) | exact (fun _ h => absurd h (Nat.not_lt_zero _)) | refine ⟨?_, ?_⟩ | exact Iff.rfl | exact congrArg (fun z => V.SV.one (V.At.val (Value.int .i64 z))) (by omega))) (by repeat' (first | exact rfl | exact Iff.rfl | exact trivial | exact (fun _ _ => rfl) | exact (fun _ h => absurd h (Nat.not_lt_zero _)) | refine ⟨?_, ?_⟩ | exact Iff.rfl | exact congrArg (fun z => V.SV.one (V.At.val (Value.int .i64 z))) (by omega)))
        | trace_state
    · rw [if_neg h] at bn
      repeat' ((conv => whnf); first | refine V.NCond.mk ?_ | refine V.NIf.not_ ?_ | refine V.NIf.dec_ ?_ | refine V.NIf.no (by omega) ?_ | refine V.NIf.yes (by omega) ?_ | refine V.NIf.mk (fun _ => ?_) (fun _ => ?_) | refine V.NWrap.ok (by omega) (by omega) ?_ | refine V.NWrap.u64 (by omega) (by omega) ?_ | refine V.NLt.mk (by omega) ?_ | refine V.NBoth.mk ?_ ?_ | refine V.NTF.yes (by omega) ?_ | refine V.NTF.no (by omega) ?_ | refine V.NTF.dec ?_ | refine V.NDraw.q (by exact rfl) (by kernel_rfl) ?_ | refine V.NApp.one (by first | omega | (simp; omega)) (by first | omega | (simp; omega)) ?_ | (refine NIdx.mk ⟨i, rfl, by omega, ?_⟩) | ((first | refine V.FnR.k_ (c) [0] rfl ?_ ?_ | refine V.FnR.a_ (c) [0] rfl ?_ ?_); · ((repeat' (first | exact rfl | exact Iff.rfl | exact trivial | exact (fun _ _ => rfl) | exact (fun _ h => absurd h (Nat.not_lt_zero _)) | refine ⟨?_, ?_⟩ | exact Iff.rfl | exact congrArg (fun z => V.SV.one (V.At.val (Value.int .i64 z))) (by omega))); done)) | (refine V.NDraw.any (by kernel_rfl) ?_) | fail)
      all_goals (conv => whnf)
      all_goals first
        | (exfalso; omega)
        | exact V.NBack.at_ (i + 1) [] (by omega) (by omega) ⟨(by repeat' (first | exact rfl | exact Iff.rfl | exact trivial | exact (fun _ _ => rfl) | exact (fun _ h => absurd h (Nat.not_lt_zero _)) | refine ⟨?_, ?_⟩ | exact Iff.rfl | exact congrArg (fun z => V.SV.one (V.At.val (Value.int .i64 z))) (by omega))), congrArg (fun z => V.SV.one (V.At.val (Value.int .i64 z))) (bn.symm.trans hY.symm), trivial⟩ rfl (by repeat' (first | exact rfl | exact Iff.rfl | exact trivial | exact (fun _ _ => rfl) | exact (fun _ h => absurd h (Nat.not_lt_zero _)) | refine ⟨?_, ?_⟩ | exact Iff.rfl | exact congrArg (fun z => V.SV.one (V.At.val (Value.int .i64 z))) (by omega))) (by repeat' (first | exact rfl | exact Iff.rfl | exact trivial | exact (fun _ _ => rfl) | exact (fun _ h => absurd h (Nat.not_lt_zero _)) | refine ⟨?_, ?_⟩ | exact Iff.rfl | exact congrArg (fun z => V.SV.one (V.At.val (Value.int .i64 z))) (by omega))) (by repeat' (first | exact rfl | exact Iff.rfl | exact trivial | exact (fun _ _ => rfl) | exact (fun _ h => absurd h (Nat.not_lt_zero _)) | refine ⟨?_, ?_⟩ | exact Iff.rfl | exact congrArg (fun z => V.SV.one (V.At.val (Value.int .i64 z))) (by omega)))
        | trace_state
  · obtain rfl : i = l.length := by omega
    repeat' ((conv => whnf); first | refine V.NCond.mk ?_ | refine V.NIf.not_ ?_ | refine V.NIf.dec_ ?_ | refine V.NIf.no (by omega) ?_ | refine V.NIf.yes (by omega) ?_ | refine V.NIf.mk (fun _ => ?_) (fun _ => ?_) | refine V.NWrap.ok (by omega) (by omega) ?_ | refine V.NWrap.u64 (by omega) (by omega) ?_ | refine V.NLt.mk (by omega) ?_ | refine V.NBoth.mk ?_ ?_ | refine V.NTF.yes (by omega) ?_ | refine V.NTF.no (by omega) ?_ | refine V.NTF.dec ?_ | refine V.NDraw.q (by exact rfl) (by kernel_rfl) ?_ | refine V.NApp.one (by first | omega | (simp; omega)) (by first | omega | (simp; omega)) ?_ | (refine V.NDraw.any (by kernel_rfl) ?_) | fail)
    all_goals (conv => whnf)
    all_goals exact V.fin1 rfl
end Go.Proofs.Ytcdlhfbpmpjfkaa

/- What the document's functions on offers answer: what comes back. -/
namespace Go.Proofs.Ytcdlhfbpmpjfkaa
open Go Go.RowKit V
set_option maxRecDepth 100000
set_option linter.unusedVariables false
set_option linter.unusedSimpArgs false
set_option maxHeartbeats 4000000
end Go.Proofs.Ytcdlhfbpmpjfkaa

/- What the functions on offers answer: at the least cost. -/
namespace Go.Proofs.Ytcdlhfbpmpjfkaa
open Go Go.Sort Go.RowKit V
set_option maxRecDepth 100000
set_option linter.unusedVariables false
set_option linter.unusedSimpArgs false
set_option maxHeartbeats 4000000
theorem v_bestCmp (l : List Of) (i k : Nat) (hi : i < l.length) (hk : k < l.length) : V.Fn Try.prog 37 [.cel [.ref 1], .arr 3 l.length (ga encO l)] [.one (.val (.int .i64 ((i : Int)))), .one (.val (.int .i64 ((k : Int)))), .one (.ptr 0 0 0 0)] (.int .i64 (cmpI (l.getD i default).pr (l.getD k default).pr)) := by
  have c := v_compare (l.getD i default).pr (l.getD k default).pr
  refine V.Fn.mk_ V.Tok V.mixed Try.func37 rfl Try.ntmps37 (by kernel_rfl) rfl rfl ?_
  repeat' ((conv => whnf); first | refine V.NCond.mk ?_ | refine V.NIf.not_ ?_ | refine V.NIf.dec_ ?_ | refine V.NIf.no (by omega) ?_ | refine V.NIf.yes (by omega) ?_ | refine V.NIf.mk (fun _ => ?_) (fun _ => ?_) | refine V.NWrap.ok (by omega) (by omega) ?_ | refine V.NWrap.u64 (by omega) (by omega) ?_ | refine V.NLt.mk (by omega) ?_ | refine V.NBoth.mk ?_ ?_ | refine V.NTF.yes (by omega) ?_ | refine V.NTF.no (by omega) ?_ | refine V.NTF.dec ?_ | refine V.NDraw.q (by exact rfl) (by kernel_rfl) ?_ | refine V.NApp.one (by first | omega | (simp; omega)) (by first | omega | (simp; omega)) ?_ | (refine NIdx.mk ⟨i, rfl, by omega, ?_⟩) | (refine NIdx.mk ⟨k, rfl, by omega, ?_⟩) | (first | refine V.Fn.k0 (c) rfl ?_ | refine V.Fn.q0 (c) rfl ?_ | refine V.Fn.a0 (c) rfl ?_) | (refine V.NDraw.any (by kernel_rfl) ?_) | fail)
  all_goals (conv => whnf)
  all_goals exact V.fin1 rfl
theorem cmpI_lt (u v : Int) : decide (cmpI u v < 0) = decide (u < v) := by
  unfold cmpI
  by_cases q : u < v
  · rw [if_pos q]; simp [q]
  · rw [if_neg q]
    by_cases q2 : v < u
    · rw [if_pos q2]; simp; omega
    · rw [if_neg q2]; simp; omega
theorem v_lnBest (l : List Of) (m : Int) (hn : l.length ≤ 9223372036854775807) : V.FnR Try.prog 23 [.arr 3 l.length (ga encO l)] [.one (.ref 0), .one (.val (.int .i64 m))] (.tup [.one (.ref 1), .one (.val (.int .i64 (O.bC l m))), .one (.val (.int .i64 (O.err l m)))]) [.row 3 1 (O.bL l m).length (ga e1 (O.bL l m))] := by
  have ck := v_lnErr l m hn
  by_cases h : O.err l m = 0
  · obtain ⟨ok, b, c, z⟩ := O.err_0 h
    rw [show O.bL l m = O.bst l m from if_pos h, show O.bC l m = O.cost l m from if_pos h]
    rw [h] at ck ⊢
    have le := ok.le
    refine V.FnR.mk_ V.Tok V.mixed Try.func23 rfl Try.ntmps23 (by kernel_rfl) rfl rfl rfl rfl ?_
    repeat' ((conv => whnf); first | (refine V.NIf.yes ?_ ?_; · (decide; done)) | (refine V.NIf.no ?_ ?_; · (decide; done)) | refine V.NCond.mk ?_ | refine V.NIf.not_ ?_ | refine V.NIf.dec_ ?_ | refine V.NIf.no (by omega) ?_ | refine V.NIf.yes (by omega) ?_ | refine V.NIf.mk (fun _ => ?_) (fun _ => ?_) | refine V.NWrap.ok (by omega) (by omega) ?_ | refine V.NWrap.u64 (by omega) (by omega) ?_ | refine V.NLt.mk (by omega) ?_ | refine V.NBoth.mk ?_ ?_ | refine V.NTF.yes (by omega) ?_ | refine V.NTF.no (by omega) ?_ | refine V.NTF.dec ?_ | refine V.NDraw.q (by exact rfl) (by kernel_rfl) ?_ | refine V.NApp.one (by first | omega | (simp; omega)) (by first | omega | (simp; omega)) ?_ | ((first | refine V.Fn.k (ck) [0] rfl ?_ ?_ | refine V.Fn.q (ck) [0] rfl ?_ ?_ | refine V.Fn.a (ck) [0] rfl ?_ ?_); · ((repeat' (first | exact rfl | exact Iff.rfl | exact trivial | exact (fun _ _ => rfl) | exact (fun _ h => absurd h (Nat.not_lt_zero _)) | refine ⟨?_, ?_⟩ | exact Iff.rfl | exact congrArg (fun z => V.SV.one (V.At.val (Value.int .i64 z))) (by omega))); done)) | (refine NMake.mk ⟨l.length, l.length, rfl, rfl, by omega, by omega, by first | omega | decide | (simp; done) | (simp; omega), ?_⟩) | (refine V.NDraw.any (by kernel_rfl) ?_) | fail)
    all_goals (conv => whnf)
    have li := ints_len l.length
    have ia := fun k => @ints_at l.length k
    refine V.NLoop.auto (fun (k : Nat) => [(29, .one (.val (.int .i64 k))), (8, .one (.ref 3))]) (fun (k : Nat) => [(3, .row 3 1 l.length (ga e1 (Sh.ow (ints l.length) l.length k)))]) [] [] (fun (k : Nat) => l.length - k) (fun (k : Nat) => k ≤ l.length) 0 (Nat.zero_le _) (by repeat' (first | exact rfl | exact Iff.rfl | exact trivial | exact (fun _ _ => rfl) | exact (fun _ h => absurd h (Nat.not_lt_zero _)) | refine ⟨?_, ?_⟩ | exact Iff.rfl | exact congrArg (fun z => V.SV.one (V.At.val (Value.int .i64 z))) (by omega))) (by (conv => whnf); exact ⟨⟨rfl, rfl, rfl, fun k hk => (by rw [Sh.ow_0, ga_at (by simpa using hk)]; simp; rfl)⟩, trivial⟩) (fun _ => ⟨rfl, rfl⟩) ?_; (conv => whnf); refine ⟨⟨rfl, rfl⟩, ?_⟩
    rintro k hk
    have lo := Sh.ow_len li hk
    by_cases hlt : k < l.length
    · have os := Sh.ow_set li hlt
      rw [ia k hlt] at os
      generalize Sh.ow (ints l.length) l.length k = W at *
      repeat' ((conv => whnf); first | (refine NPut.is_ (en := e1) (l := W) (k : Int) (Sh.ow (ints l.length) l.length (k + 1)) os (by omega) rfl ?_) | refine V.NCond.mk ?_ | refine V.NIf.not_ ?_ | refine V.NIf.dec_ ?_ | refine V.NIf.no (by omega) ?_ | refine V.NIf.yes (by omega) ?_ | refine V.NIf.mk (fun _ => ?_) (fun _ => ?_) | refine V.NWrap.ok (by omega) (by omega) ?_ | refine V.NWrap.u64 (by omega) (by omega) ?_ | refine V.NLt.mk (by omega) ?_ | refine V.NBoth.mk ?_ ?_ | refine V.NTF.yes (by omega) ?_ | refine V.NTF.no (by omega) ?_ | refine V.NTF.dec ?_ | refine V.NDraw.q (by exact rfl) (by kernel_rfl) ?_ | refine V.NApp.one (by first | omega | (simp; omega)) (by first | omega | (simp; omega)) ?_ | (refine NIdx.mk ⟨k, rfl, by omega, ?_⟩) | (refine V.NDraw.any (by kernel_rfl) ?_) | fail)
      all_goals (conv => whnf)
      exact V.NBack.at_ (k + 1) [] (by omega) (by omega) (by repeat' (first | exact rfl | exact Iff.rfl | exact trivial | exact (fun _ _ => rfl) | exact (fun _ h => absurd h (Nat.not_lt_zero _)) | refine ⟨?_, ?_⟩ | exact Iff.rfl | exact congrArg (fun z => V.SV.one (V.At.val (Value.int .i64 z))) (by omega))) rfl (by repeat' (first | exact rfl | exact Iff.rfl | exact trivial | exact (fun _ _ => rfl) | exact (fun _ h => absurd h (Nat.not_lt_zero _)) | refine ⟨?_, ?_⟩ | exact Iff.rfl | exact congrArg (fun z => V.SV.one (V.At.val (Value.int .i64 z))) (by omega))) (by repeat' (first | exact rfl | exact Iff.rfl | exact trivial | exact (fun _ _ => rfl) | exact (fun _ h => absurd h (Nat.not_lt_zero _)) | refine ⟨?_, ?_⟩ | exact Iff.rfl | exact congrArg (fun z => V.SV.one (V.At.val (Value.int .i64 z))) (by omega))) (by repeat' (first | exact rfl | exact Iff.rfl | exact trivial | exact (fun _ _ => rfl) | exact (fun _ h => absurd h (Nat.not_lt_zero _)) | refine ⟨?_, ?_⟩ | exact Iff.rfl | exact congrArg (fun z => V.SV.one (V.At.val (Value.int .i64 z))) (by omega)))
    · obtain rfl : k = l.length := by omega
      rw [Sh.ow_n li]
      obtain ⟨Z, hZ⟩ : ∃ Z, l.length = Z + 1 := ⟨l.length - 1, by omega⟩
      have hcm : CmpI (Z := Z) 3 [(3, .arr 3 l.length (ga encO l)), (2, .row 3 1 0 (fun _ => [])), (1, .box 22 [.ref 3])] 37 1 (fun x y => cmpI (l.getD x.q.toNat default).pr (l.getD y.q.toNat default).pr) := fun x y n get K hK => by
        have x1 := x.ok
        have y1 := y.ok
        have c := v_bestCmp l x.q.toNat y.q.toNat (by omega) (by omega)
        rw [show ((x.q.toNat : Nat) : Int) = x.q by omega, show ((y.q.toNat : Nat) : Int) = y.q by omega] at c
        exact Fn.use c [1, 3] (by repeat' (first | exact rfl | exact Iff.rfl | exact trivial | exact (fun _ _ => rfl) | exact (fun _ h => absurd h (Nat.not_lt_zero _)) | refine ⟨?_, ?_⟩ | exact Iff.rfl | exact congrArg (fun z => V.SV.one (V.At.val (Value.int .i64 z))) (by omega))) (by repeat' (first | exact rfl | exact Iff.rfl | exact trivial | exact (fun _ _ => rfl) | exact (fun _ h => absurd h (Nat.not_lt_zero _)) | refine ⟨?_, ?_⟩ | exact Iff.rfl | exact congrArg (fun z => V.SV.one (V.At.val (Value.int .i64 z))) (by omega))) hK
      have sq := v_sortI 3 [(3, .arr 3 l.length (ga encO l)), (2, .row 3 1 0 (fun _ => [])), (1, .box 22 [.ref 3])] (Tail.of rfl rfl) 37 1 rfl _ hcm (O.kb l) (O.kb1 l) (O.kb2 l) (O.kb3 l) (fun x y => cmpI_lt _ _) (by omega)
      rw [← hZ] at sq
      have eD : Od.srt (Od.tie (O.kb l)) l.length = Od.srt (O.bf l) l.length := rfl
      rw [eD] at sq
      have lD : (nats (Od.srt (O.bf l) l.length)).length = l.length := by rw [nats_len, Od.srt_len]
      have uu := fun i (hi : i < l.length) => (O.U_bd ok hi)
      have un : ∀ i, i < l.length → 0 ≤ O.U l i := fun i hi => by have := uu i hi; omega
      have o0 := Gr.outs_0 (u := O.U l) (bf := O.bf l) (n := l.length) (m := m)
      have f0 := Gr.lf_0 (u := O.U l) (bf := O.bf l) (n := l.length) (m := m) (by omega)
      repeat' ((conv => whnf); first | refine V.NCond.mk ?_ | refine V.NIf.not_ ?_ | refine V.NIf.dec_ ?_ | refine V.NIf.no (by omega) ?_ | refine V.NIf.yes (by omega) ?_ | refine V.NIf.mk (fun _ => ?_) (fun _ => ?_) | refine V.NWrap.ok (by omega) (by omega) ?_ | refine V.NWrap.u64 (by omega) (by omega) ?_ | refine V.NLt.mk (by omega) ?_ | refine V.NBoth.mk ?_ ?_ | refine V.NTF.yes (by omega) ?_ | refine V.NTF.no (by omega) ?_ | refine V.NTF.dec ?_ | refine V.NDraw.q (by exact rfl) (by kernel_rfl) ?_ | refine V.NApp.one (by first | omega | (simp; omega)) (by first | omega | (simp; omega)) ?_ | (refine Fam.callQ sq (Tail.of rfl rfl) [(3, 0), (0, 3)] [(3, .row 3 1 l.length (ga e1 (nats (Od.srt (O.bf l) l.length)))), (0, .arr 3 l.length (ga encO l)), (1, .box 22 [.ref 0]), (2, .row 3 1 0 (fun _ => []))] rfl rfl rfl (by decide) ⟨⟨rfl, rfl, rfl, fun _ _ => rfl⟩, ⟨rfl, rfl, fun _ _ => rfl⟩, ⟨rfl, rfl, rfl, fun _ _ => rfl⟩, rfl, trivial⟩ rfl (fun g hg => ⟨⟨rfl, rfl, rfl, hg⟩, ⟨rfl, rfl, fun _ _ => rfl⟩, rfl, ⟨rfl, rfl, rfl, fun _ _ => rfl⟩, trivial⟩) ?_) | (refine NMake.mk ⟨l.length, l.length, rfl, rfl, by omega, by omega, by first | omega | decide | (simp; done) | (simp; omega), ?_⟩) | (refine V.NCall.inl (f := 39) V.Tok V.mixed Try.func39 rfl Try.ntmps39 (by kernel_rfl) rfl ?_) | (refine V.NDraw.any (by kernel_rfl) ?_) | fail)
      all_goals (conv => whnf)
      refine V.NLoop.auto (fun (k : Nat) => [(47, .one (.val (.int .i64 k))), (11, .one (.val (.int .i64 (Sh.sm (((Od.srt (O.bf l) l.length).take k).map (O.cs l m)))))), (10, .one (.ref 4))]) (fun (k : Nat) => [(4, .row 3 1 l.length (ga e1 (Gr.outs (O.U l) (O.bf l) l.length m k))), (5, .box 3 [.val (.int .i64 (Gr.lf (O.U l) (O.bf l) l.length m k))])]) [] [] (fun (k : Nat) => l.length - k) (fun (k : Nat) => k ≤ l.length) 0 (Nat.zero_le _) (by repeat' (first | exact rfl | exact Iff.rfl | exact trivial | exact (fun _ _ => rfl) | exact (fun _ h => absurd h (Nat.not_lt_zero _)) | refine ⟨?_, ?_⟩ | exact Iff.rfl | exact congrArg (fun z => V.SV.one (V.At.val (Value.int .i64 z))) (by omega))) (by (conv => whnf); exact ⟨⟨rfl, rfl, rfl, fun k hk => (by rw [o0, ga_at (by simpa using hk)]; simp; rfl)⟩, congrArg (fun z => V.Ob.box 3 [V.At.val (Value.int .i64 z)]) f0.symm, trivial⟩) (fun _ => ⟨rfl, rfl⟩) ?_; (conv => whnf); refine ⟨⟨rfl, rfl⟩, ?_⟩
      rintro k hk
      have lo2 := Gr.outs_len (u := O.U l) (bf := O.bf l) (n := l.length) (m := m)
      have csb := O.cs_sum ok m k
      by_cases hlt : k < l.length
      · have na := nats_at (l := Od.srt (O.bf l) l.length) (k := k) (by rw [Od.srt_len]; exact hlt)
        have pl := Od.srt_at (bf := O.bf l) hlt
        have ps := Gr.outs_set (u := O.U l) (bf := O.bf l) (n := l.length) (m := m) hlt
        have oa := Gr.outs_at (u := O.U l) (bf := O.bf l) (n := l.length) (m := m) (k := k + 1) pl
        rw [if_pos (by rw [Od.take_succ hlt]; simp)] at oa
        have ta := Gr.tk_at (m := m) (O.sto l) hlt un
        have ls := Gr.lf_succ (m := m) (O.sto l) hlt un
        have ln := Gr.lf_nn (u := O.U l) (bf := O.bf l) (n := l.length) (m := m) k
        have ll := Gr.lf_le (bf := O.bf l) (m := m) (by omega) un hk
        have cc := O.cs_succ (m := m) hlt
        have cb := O.cs_bd (m := m) ok pl
        have tb := O.tk_le (m := m) ok pl
        have ub := uu _ pl
        have pb := O.pr_bd ok pl
        have pc := P.part_cost tb pb
        have ecs : O.cs l m ((Od.srt (O.bf l) l.length).getD k default) = P.cost (Gr.tk (O.U l) (O.bf l) l.length m ((Od.srt (O.bf l) l.length).getD k default)) (l.getD ((Od.srt (O.bf l) l.length).getD k default) default).pr := rfl
        have eU : O.U l ((Od.srt (O.bf l) l.length).getD k default) = (l.getD ((Od.srt (O.bf l) l.length).getD k default) default).un := rfl
        have lo2k := lo2 k
        have lo2k' := lo2 (k + 1)
        have csb' := O.cs_sum ok m (k + 1)
        clear o0 f0 sq hcm uu lo2 un
        generalize Sh.sm (((Od.srt (O.bf l) l.length).take k).map (O.cs l m)) = C0 at *
        generalize hC1 : Sh.sm (((Od.srt (O.bf l) l.length).take (k + 1)).map (O.cs l m)) = C1 at *
        generalize Od.srt (O.bf l) l.length = D at *
        generalize D.getD k default = p at *
        generalize O.cs l m p = Cp at *
        generalize Gr.tk (O.U l) (O.bf l) l.length m p = T at *
        generalize Gr.lf (O.U l) (O.bf l) l.length m k = F0 at *
        generalize hF1 : Gr.lf (O.U l) (O.bf l) l.length m (k + 1) = F1 at *
        generalize Gr.outs (O.U l) (O.bf l) l.length m k = W0 at *
        generalize hW1 : Gr.outs (O.U l) (O.bf l) l.length m (k + 1) = W1 at *
        have vc := v_cost (W1.getD p default) (l.getD p default).pr
        rw [oa, pc.1, pc.2, ← ecs] at vc
        rw [eU] at ta ub
        rw [← oa] at vc
        repeat' ((conv => whnf); first | (refine NPut.is_ (en := e1) (l := W0) T W1 ps (by omega) (congrArg (fun z => [Value.int .i64 z]) ta.symm) ?_) | refine V.NCond.mk ?_ | refine V.NIf.not_ ?_ | refine V.NIf.dec_ ?_ | refine V.NIf.no (by omega) ?_ | refine V.NIf.yes (by omega) ?_ | refine V.NIf.mk (fun _ => ?_) (fun _ => ?_) | refine V.NWrap.ok (by omega) (by omega) ?_ | refine V.NWrap.u64 (by omega) (by omega) ?_ | refine V.NLt.mk (by omega) ?_ | refine V.NBoth.mk ?_ ?_ | refine V.NTF.yes (by omega) ?_ | refine V.NTF.no (by omega) ?_ | refine V.NTF.dec ?_ | refine V.NDraw.q (by exact rfl) (by kernel_rfl) ?_ | refine V.NApp.one (by first | omega | (simp; omega)) (by first | omega | (simp; omega)) ?_ | (refine NIdx.mk ⟨k, rfl, by omega, ?_⟩) | (refine NIdx.mk ⟨p, by omega, by omega, ?_⟩) | (refine V.NCall.inl (f := 49) V.Tok V.mixed Try.func49 rfl Try.ntmps49 (by kernel_rfl) rfl ?_) | (first | refine V.Fn.k0 (vc) rfl ?_ | refine V.Fn.q0 (vc) rfl ?_ | refine V.Fn.a0 (vc) rfl ?_) | (refine V.NDraw.any (by kernel_rfl) ?_) | fail)
        all_goals (conv => whnf)
        exact V.NBack.at_ (k + 1) [] (by omega) (by omega) ⟨(by repeat' (first | exact rfl | exact Iff.rfl | exact trivial | exact (fun _ _ => rfl) | exact (fun _ h => absurd h (Nat.not_lt_zero _)) | refine ⟨?_, ?_⟩ | exact Iff.rfl | exact congrArg (fun z => V.SV.one (V.At.val (Value.int .i64 z))) (by omega))), congrArg (fun z => V.SV.one (V.At.val (Value.int .i64 z))) (cc.symm.trans hC1.symm), rfl, trivial⟩ rfl ⟨⟨rfl, rfl, rfl, fun _ _ => (by rw [hW1])⟩, congrArg (fun z => V.Ob.box 3 [V.At.val (Value.int .i64 z)]) (show F0 - (if (l.getD p default).un < F0 then (l.getD p default).un else F0) = Gr.lf (O.U l) (O.bf l) l.length m (k + 1) by rw [hF1, ← ta]; omega), trivial⟩ (by repeat' (first | exact rfl | exact Iff.rfl | exact trivial | exact (fun _ _ => rfl) | exact (fun _ h => absurd h (Nat.not_lt_zero _)) | refine ⟨?_, ?_⟩ | exact Iff.rfl | exact congrArg (fun z => V.SV.one (V.At.val (Value.int .i64 z))) (by omega))) (by repeat' (first | exact rfl | exact Iff.rfl | exact trivial | exact (fun _ _ => rfl) | exact (fun _ h => absurd h (Nat.not_lt_zero _)) | refine ⟨?_, ?_⟩ | exact Iff.rfl | exact congrArg (fun z => V.SV.one (V.At.val (Value.int .i64 z))) (by omega)))
      · obtain rfl : k = l.length := by omega
        have oe := Gr.outs_n (u := O.U l) (bf := O.bf l) (n := l.length) (m := m)
        have ce := O.cs_end l m
        rw [oe, ce]
        have lb : (Gr.all (O.U l) (O.bf l) l.length m).length = l.length := Gr.all_len
        have eb : O.bst l m = Gr.all (O.U l) (O.bf l) l.length m := rfl
        rw [eb]
        repeat' ((conv => whnf); first | refine V.NCond.mk ?_ | refine V.NIf.not_ ?_ | refine V.NIf.dec_ ?_ | refine V.NIf.no (by omega) ?_ | refine V.NIf.yes (by omega) ?_ | refine V.NIf.mk (fun _ => ?_) (fun _ => ?_) | refine V.NWrap.ok (by omega) (by omega) ?_ | refine V.NWrap.u64 (by omega) (by omega) ?_ | refine V.NLt.mk (by omega) ?_ | refine V.NBoth.mk ?_ ?_ | refine V.NTF.yes (by omega) ?_ | refine V.NTF.no (by omega) ?_ | refine V.NTF.dec ?_ | refine V.NDraw.q (by exact rfl) (by kernel_rfl) ?_ | refine V.NApp.one (by first | omega | (simp; omega)) (by first | omega | (simp; omega)) ?_ | (refine V.NDraw.any (by kernel_rfl) ?_) | fail)
        all_goals (conv => whnf)
        all_goals exact NRet.mk_ [some 4] rfl ⟨rfl, rfl, rfl, trivial⟩ ⟨⟨rfl, rfl, lb.symm, fun k hk => rfl⟩, trivial⟩
  · rw [show O.bL l m = [] from if_neg h, show O.bC l m = 0 from if_neg h]
    generalize O.err l m = E at *
    refine V.FnR.mk_ V.Tok V.mixed Try.func23 rfl Try.ntmps23 (by kernel_rfl) rfl rfl rfl rfl ?_
    repeat' ((conv => whnf); first | (refine V.NIf.yes ?_ ?_; · (decide; done)) | (refine V.NIf.no ?_ ?_; · (decide; done)) | refine V.NCond.mk ?_ | refine V.NIf.not_ ?_ | refine V.NIf.dec_ ?_ | refine V.NIf.no (by omega) ?_ | refine V.NIf.yes (by omega) ?_ | refine V.NIf.mk (fun _ => ?_) (fun _ => ?_) | refine V.NWrap.ok (by omega) (by omega) ?_ | refine V.NWrap.u64 (by omega) (by omega) ?_ | refine V.NLt.mk (by omega) ?_ | refine V.NBoth.mk ?_ ?_ | refine V.NTF.yes (by omega) ?_ | refine V.NTF.no (by omega) ?_ | refine V.NTF.dec ?_ | refine V.NDraw.q (by exact rfl) (by kernel_rfl) ?_ | refine V.NApp.one (by first | omega | (simp; omega)) (by first | omega | (simp; omega)) ?_ | ((first | refine V.Fn.k (ck) [0] rfl ?_ ?_ | refine V.Fn.q (ck) [0] rfl ?_ ?_ | refine V.Fn.a (ck) [0] rfl ?_ ?_); · ((repeat' (first | exact rfl | exact Iff.rfl | exact trivial | exact (fun _ _ => rfl) | exact (fun _ h => absurd h (Nat.not_lt_zero _)) | refine ⟨?_, ?_⟩ | exact Iff.rfl | exact congrArg (fun z => V.SV.one (V.At.val (Value.int .i64 z))) (by omega))); done)) | (refine V.NDraw.any (by kernel_rfl) ?_) | fail)
    all_goals (conv => whnf)
    all_goals exact NRet.mk_ [some 3] rfl ⟨rfl, rfl, rfl, trivial⟩ ⟨⟨rfl, rfl, rfl, fun k hk => absurd hk (Nat.not_lt_zero _)⟩, trivial⟩
end Go.Proofs.Ytcdlhfbpmpjfkaa

/- What the document's way to part a total answers. -/
namespace Go.Proofs.Ytcdlhfbpmpjfkaa
open Go Go.RowKit V
set_option maxRecDepth 100000
set_option linter.unusedVariables false
set_option linter.unusedSimpArgs false
set_option maxHeartbeats 4000000
end Go.Proofs.Ytcdlhfbpmpjfkaa

/- What must be in any case, of loans. -/
namespace Go.Proofs.Ytcdlhfbpmpjfkaa
open Go Go.RowKit V
set_option maxRecDepth 100000
set_option linter.unusedVariables false
set_option linter.unusedSimpArgs false
set_option maxHeartbeats 4000000
def offs : List Of := [⟨4, 30, 50000⟩, ⟨2, 50, 40000⟩, ⟨9, 20, 40000⟩]
theorem v_offers : V.FnR Try.prog 34 [] [] (.one (.ref 0)) [.arr 3 3 (ga encO offs)] := by
  refine V.FnR.mk_ V.Tok V.mixed Try.func34 rfl Try.ntmps34 (by kernel_rfl) rfl rfl rfl rfl ?_
  repeat' ((conv => whnf); first | refine V.NCond.mk ?_ | refine V.NIf.not_ ?_ | refine V.NIf.dec_ ?_ | refine V.NIf.no (by omega) ?_ | refine V.NIf.yes (by omega) ?_ | refine V.NIf.mk (fun _ => ?_) (fun _ => ?_) | refine V.NWrap.ok (by omega) (by omega) ?_ | refine V.NWrap.u64 (by omega) (by omega) ?_ | refine V.NLt.mk (by omega) ?_ | refine V.NBoth.mk ?_ ?_ | refine V.NTF.yes (by omega) ?_ | refine V.NTF.no (by omega) ?_ | refine V.NTF.dec ?_ | refine V.NDraw.q (by exact rfl) (by kernel_rfl) ?_ | refine V.NApp.one (by first | omega | (simp; omega)) (by first | omega | (simp; omega)) ?_ | (refine V.NDraw.any (by kernel_rfl) ?_) | fail)
  all_goals (conv => whnf)
  refine NRet.mk_ [some 1] rfl ?_ ?_
  · exact rfl
  · exact ⟨⟨rfl, rfl, by repeat' (first | exact trivial | refine ⟨?_, ?_⟩ | rfl)⟩, trivial⟩
theorem ln_1 : O.shL offs 10 = [3, 5, 2] ∧ O.err offs 10 = 0 := by
  have e : O.err offs 10 = 0 := by decide +kernel
  refine ⟨?_, e⟩
  rw [show O.shL offs 10 = Sh.raw 10 (O.us offs) from if_pos e]
  unfold Sh.raw
  rw [show Sh.rst 10 (O.us offs) = 0 by decide +kernel]
  show Sh.raws 10 (O.us offs) 0 = _
  rw [show Sh.raws 10 (O.us offs) 0 = Sh.whs 10 (O.us offs) from rfl]
  decide +kernel
theorem ln_2 : O.bL offs 75 = [5, 50, 20] ∧ O.bC offs 75 = 305 ∧ O.err offs 75 = 0 := ⟨by decide +kernel, by decide +kernel, by decide +kernel⟩
theorem ln_3 : O.bB offs [5, 50, 20] 30 = [5, 40, 0] ∧ O.bE offs [5, 50, 20] 30 = 0 := ⟨by decide +kernel, by decide +kernel⟩
theorem ln_4 : O.shL offs 101 = [] ∧ O.err offs 101 = 5 := ⟨if_neg (by decide +kernel), by decide +kernel⟩
theorem ln_5 : O.bB offs [1, 1, 1] 4 = [] ∧ O.bE offs [1, 1, 1] 4 = 8 := ⟨by decide +kernel, by decide +kernel⟩
theorem ln_6 : O.chk [⟨0, 1, 0⟩, ⟨0, 1, 0⟩] = 6 := by decide +kernel
theorem v_lnBegun : V.Fn Try.prog 24 [] [] (.bool true) := by
  have a1 := v_lnShare offs 10 (by decide)
  have a2 := v_lnBest offs 75 (by decide)
  have a3 := v_lnBack offs [5, 50, 20] 30 (by decide)
  have a4 := v_lnShare offs 101 (by decide)
  have a5 := v_lnBack offs [1, 1, 1] 4 (by decide)
  have a6 := v_lnCheck [⟨0, 1, 0⟩, ⟨0, 1, 0⟩] (by decide)
  have s1 := v_sameints [3, 5, 2] [3, 5, 2] (by decide)
  have s2 := v_sameints [5, 50, 20] [5, 50, 20] (by decide)
  have s3 := v_sameints [5, 40, 0] [5, 40, 0] (by decide)
  rw [ln_1.1, ln_1.2] at a1
  rw [ln_2.1, ln_2.2.1, ln_2.2.2] at a2
  rw [ln_3.1, ln_3.2] at a3
  rw [ln_4.1, ln_4.2] at a4
  rw [ln_5.1, ln_5.2] at a5
  rw [ln_6] at a6
  rw [show offs.length = 3 from rfl] at a1 a2 a3 a4 a5
  refine V.Fn.mk_ V.Tok V.mixed Try.func24 rfl Try.ntmps24 (by kernel_rfl) rfl rfl ?_
  repeat' ((conv => whnf); first | (refine V.NIf.yes ?_ ?_; · (decide; done)) | (refine V.NIf.no ?_ ?_; · (decide; done)) | refine V.NCond.mk ?_ | refine V.NIf.not_ ?_ | refine V.NIf.dec_ ?_ | refine V.NIf.no (by omega) ?_ | refine V.NIf.yes (by omega) ?_ | refine V.NIf.mk (fun _ => ?_) (fun _ => ?_) | refine V.NWrap.ok (by omega) (by omega) ?_ | refine V.NWrap.u64 (by omega) (by omega) ?_ | refine V.NLt.mk (by omega) ?_ | refine V.NBoth.mk ?_ ?_ | refine V.NTF.yes (by omega) ?_ | refine V.NTF.no (by omega) ?_ | refine V.NTF.dec ?_ | refine V.NDraw.q (by exact rfl) (by kernel_rfl) ?_ | refine V.NApp.one (by first | omega | (simp; omega)) (by first | omega | (simp; omega)) ?_ | (first | refine V.FnR.k0 (v_offers) rfl ?_ | refine V.FnR.a0 (v_offers) rfl ?_) | ((first | refine V.FnR.k_ (a1) [0] rfl ?_ ?_ | refine V.FnR.a_ (a1) [0] rfl ?_ ?_); · ((repeat' (first | exact rfl | exact Iff.rfl | exact trivial | exact (fun _ _ => rfl) | exact (fun _ h => absurd h (Nat.not_lt_zero _)) | refine ⟨?_, ?_⟩ | exact Iff.rfl | exact congrArg (fun z => V.SV.one (V.At.val (Value.int .i64 z))) (by omega))); done)) | ((first | refine V.FnR.k_ (a2) [2] rfl ?_ ?_ | refine V.FnR.a_ (a2) [2] rfl ?_ ?_); · ((repeat' (first | exact rfl | exact Iff.rfl | exact trivial | exact (fun _ _ => rfl) | exact (fun _ h => absurd h (Nat.not_lt_zero _)) | refine ⟨?_, ?_⟩ | exact Iff.rfl | exact congrArg (fun z => V.SV.one (V.At.val (Value.int .i64 z))) (by omega))); done)) | ((first | refine V.FnR.k_ (a3) [4, 5] rfl ?_ ?_ | refine V.FnR.a_ (a3) [4, 5] rfl ?_ ?_); · ((repeat' (first | exact rfl | exact Iff.rfl | exact trivial | exact (fun _ _ => rfl) | exact (fun _ h => absurd h (Nat.not_lt_zero _)) | refine ⟨?_, ?_⟩ | exact Iff.rfl | exact congrArg (fun z => V.SV.one (V.At.val (Value.int .i64 z))) (by omega))); done)) | ((first | refine V.FnR.k_ (a4) [7] rfl ?_ ?_ | refine V.FnR.a_ (a4) [7] rfl ?_ ?_); · ((repeat' (first | exact rfl | exact Iff.rfl | exact trivial | exact (fun _ _ => rfl) | exact (fun _ h => absurd h (Nat.not_lt_zero _)) | refine ⟨?_, ?_⟩ | exact Iff.rfl | exact congrArg (fun z => V.SV.one (V.At.val (Value.int .i64 z))) (by omega))); done)) | ((first | refine V.FnR.k_ (a5) [9, 10] rfl ?_ ?_ | refine V.FnR.a_ (a5) [9, 10] rfl ?_ ?_); · ((repeat' (first | exact rfl | exact Iff.rfl | exact trivial | exact (fun _ _ => rfl) | exact (fun _ h => absurd h (Nat.not_lt_zero _)) | refine ⟨?_, ?_⟩ | exact Iff.rfl | exact congrArg (fun z => V.SV.one (V.At.val (Value.int .i64 z))) (by omega))); done)) | ((first | refine V.Fn.k (s1) [1, 12] rfl ?_ ?_ | refine V.Fn.q (s1) [1, 12] rfl ?_ ?_ | refine V.Fn.a (s1) [1, 12] rfl ?_ ?_); · ((repeat' (first | exact rfl | exact Iff.rfl | exact trivial | exact (fun _ _ => rfl) | exact (fun _ h => absurd h (Nat.not_lt_zero _)) | refine ⟨?_, ?_⟩ | exact Iff.rfl | exact congrArg (fun z => V.SV.one (V.At.val (Value.int .i64 z))) (by omega))); done)) | ((first | refine V.Fn.k (s2) [3, 13] rfl ?_ ?_ | refine V.Fn.q (s2) [3, 13] rfl ?_ ?_ | refine V.Fn.a (s2) [3, 13] rfl ?_ ?_); · ((repeat' (first | exact rfl | exact Iff.rfl | exact trivial | exact (fun _ _ => rfl) | exact (fun _ h => absurd h (Nat.not_lt_zero _)) | refine ⟨?_, ?_⟩ | exact Iff.rfl | exact congrArg (fun z => V.SV.one (V.At.val (Value.int .i64 z))) (by omega))); done)) | ((first | refine V.Fn.k (s3) [6, 14] rfl ?_ ?_ | refine V.Fn.q (s3) [6, 14] rfl ?_ ?_ | refine V.Fn.a (s3) [6, 14] rfl ?_ ?_); · ((repeat' (first | exact rfl | exact Iff.rfl | exact trivial | exact (fun _ _ => rfl) | exact (fun _ h => absurd h (Nat.not_lt_zero _)) | refine ⟨?_, ?_⟩ | exact Iff.rfl | exact congrArg (fun z => V.SV.one (V.At.val (Value.int .i64 z))) (by omega))); done)) | ((first | refine V.Fn.k (a6) [15] rfl ?_ ?_ | refine V.Fn.q (a6) [15] rfl ?_ ?_ | refine V.Fn.a (a6) [15] rfl ?_ ?_); · ((repeat' (first | exact rfl | exact Iff.rfl | exact trivial | exact (fun _ _ => rfl) | exact (fun _ h => absurd h (Nat.not_lt_zero _)) | refine ⟨?_, ?_⟩ | exact Iff.rfl | exact congrArg (fun z => V.SV.one (V.At.val (Value.int .i64 z))) (by omega))); done)) | (refine V.NDraw.any (by kernel_rfl) ?_) | fail)
  all_goals (conv => whnf)
  all_goals first
    | exact ⟨true, rfl, iff_of_true rfl rfl⟩
    | trace_state
end Go.Proofs.Ytcdlhfbpmpjfkaa

/- What must be in any case, of buying in. -/
namespace Go.Proofs.Ytcdlhfbpmpjfkaa
open Go Go.RowKit V
set_option maxRecDepth 100000
set_option linter.unusedVariables false
set_option linter.unusedSimpArgs false
set_option maxHeartbeats 4000000
theorem by_ord : B.ord offs = [1, 2, 0] := (Od.srt_uniq (B.sto offs) (n := 3) (l := [1, 2, 0]) (by decide) (by decide +kernel)).symm
theorem by_1 : B.oL offs = [1, 2, 0] ∧ O.chk offs = 0 := by
  have e : O.chk offs = 0 := by decide +kernel
  exact ⟨by rw [show B.oL offs = nats (B.ord offs) from if_pos e, by_ord]; rfl, e⟩
theorem by_2 : B.tL offs 75 40000 = [0, 50, 20] ∧ B.tR offs 75 40000 = 5 ∧ B.tE offs 75 40000 = 0 := ⟨by decide +kernel, by decide +kernel, by decide +kernel⟩
theorem by_3 : B.aV 3 20000 15000 = -2 ∧ B.aE 3 20000 15000 = 0 := ⟨by decide +kernel, by decide +kernel⟩
theorem by_4 : B.nP offs 75 = 50000 ∧ B.nL offs 75 = [5, 50, 20] ∧ B.nE offs 75 = 0 := by
  have e : B.nE offs 75 = 0 := by decide +kernel
  refine ⟨?_, by decide +kernel, e⟩
  rw [show B.nP offs 75 = B.lst offs 75 1099511627776 from if_pos e]
  obtain ⟨h1, _, i, hi, h3, _⟩ := B.one_is (l := offs) (m := 75) (O.chk_ok by_1.2) (by decide) (by decide +kernel)
  rw [← h3] at h1 ⊢
  match i, hi with
  | 0, _ => decide +kernel
  | 1, _ => exact absurd h1 (by decide +kernel)
  | 2, _ => exact absurd h1 (by decide +kernel)
theorem by_5 : B.nP offs 101 = 0 ∧ B.nL offs 101 = [] ∧ B.nE offs 101 = 5 := by
  have e : B.nE offs 101 = 5 := by decide +kernel
  exact ⟨if_neg (by rw [e]; decide), if_neg (by rw [e]; decide), e⟩
theorem by_6 : B.tL offs 0 0 = [] ∧ B.tR offs 0 0 = 0 ∧ B.tE offs 0 0 = 3 := by
  have e : B.tE offs 0 0 = 3 := by decide +kernel
  exact ⟨if_neg (by rw [e]; decide), if_neg (by rw [e]; decide), e⟩
theorem v_byBegun : V.Fn Try.prog 20 [] [] (.bool true) := by
  have a1 := v_byOrder offs (by decide)
  have a2 := v_byTake offs 75 40000 (by decide)
  have a3 := v_byApart 3 20000 15000
  have a4 := v_byOne offs 75 (by decide)
  have a5 := v_byOne offs 101 (by decide)
  have a6 := v_byTake offs 0 0 (by decide)
  have s1 := v_sameints [1, 2, 0] [1, 2, 0] (by decide)
  have s2 := v_sameints [0, 50, 20] [0, 50, 20] (by decide)
  have s3 := v_sameints [5, 50, 20] [5, 50, 20] (by decide)
  rw [by_1.1, by_1.2] at a1
  rw [by_2.1, by_2.2.1, by_2.2.2] at a2
  rw [by_3.1, by_3.2] at a3
  rw [by_4.1, by_4.2.1, by_4.2.2] at a4
  rw [by_5.1, by_5.2.1, by_5.2.2] at a5
  rw [by_6.1, by_6.2.1, by_6.2.2] at a6
  rw [show offs.length = 3 from rfl] at a1 a2 a4 a5 a6
  refine V.Fn.mk_ V.Tok V.mixed Try.func20 rfl Try.ntmps20 (by kernel_rfl) rfl rfl ?_
  repeat' ((conv => whnf); first | (refine V.NIf.yes ?_ ?_; · (decide; done)) | (refine V.NIf.no ?_ ?_; · (decide; done)) | refine V.NCond.mk ?_ | refine V.NIf.not_ ?_ | refine V.NIf.dec_ ?_ | refine V.NIf.no (by omega) ?_ | refine V.NIf.yes (by omega) ?_ | refine V.NIf.mk (fun _ => ?_) (fun _ => ?_) | refine V.NWrap.ok (by omega) (by omega) ?_ | refine V.NWrap.u64 (by omega) (by omega) ?_ | refine V.NLt.mk (by omega) ?_ | refine V.NBoth.mk ?_ ?_ | refine V.NTF.yes (by omega) ?_ | refine V.NTF.no (by omega) ?_ | refine V.NTF.dec ?_ | refine V.NDraw.q (by exact rfl) (by kernel_rfl) ?_ | refine V.NApp.one (by first | omega | (simp; omega)) (by first | omega | (simp; omega)) ?_ | (first | refine V.FnR.k0 (v_offers) rfl ?_ | refine V.FnR.a0 (v_offers) rfl ?_) | ((first | refine V.FnR.k_ (a1) [0] rfl ?_ ?_ | refine V.FnR.a_ (a1) [0] rfl ?_ ?_); · ((repeat' (first | exact rfl | exact Iff.rfl | exact trivial | exact (fun _ _ => rfl) | exact (fun _ h => absurd h (Nat.not_lt_zero _)) | refine ⟨?_, ?_⟩ | exact Iff.rfl | exact congrArg (fun z => V.SV.one (V.At.val (Value.int .i64 z))) (by omega))); done)) | ((first | refine V.FnR.k_ (a2) [2] rfl ?_ ?_ | refine V.FnR.a_ (a2) [2] rfl ?_ ?_); · ((repeat' (first | exact rfl | exact Iff.rfl | exact trivial | exact (fun _ _ => rfl) | exact (fun _ h => absurd h (Nat.not_lt_zero _)) | refine ⟨?_, ?_⟩ | exact Iff.rfl | exact congrArg (fun z => V.SV.one (V.At.val (Value.int .i64 z))) (by omega))); done)) | (first | refine V.Fn.k0 (a3) rfl ?_ | refine V.Fn.q0 (a3) rfl ?_ | refine V.Fn.a0 (a3) rfl ?_) | ((first | refine V.FnR.k_ (a4) [4] rfl ?_ ?_ | refine V.FnR.a_ (a4) [4] rfl ?_ ?_); · ((repeat' (first | exact rfl | exact Iff.rfl | exact trivial | exact (fun _ _ => rfl) | exact (fun _ h => absurd h (Nat.not_lt_zero _)) | refine ⟨?_, ?_⟩ | exact Iff.rfl | exact congrArg (fun z => V.SV.one (V.At.val (Value.int .i64 z))) (by omega))); done)) | ((first | refine V.FnR.k_ (a5) [6] rfl ?_ ?_ | refine V.FnR.a_ (a5) [6] rfl ?_ ?_); · ((repeat' (first | exact rfl | exact Iff.rfl | exact trivial | exact (fun _ _ => rfl) | exact (fun _ h => absurd h (Nat.not_lt_zero _)) | refine ⟨?_, ?_⟩ | exact Iff.rfl | exact congrArg (fun z => V.SV.one (V.At.val (Value.int .i64 z))) (by omega))); done)) | ((first | refine V.FnR.k_ (a6) [8] rfl ?_ ?_ | refine V.FnR.a_ (a6) [8] rfl ?_ ?_); · ((repeat' (first | exact rfl | exact Iff.rfl | exact trivial | exact (fun _ _ => rfl) | exact (fun _ h => absurd h (Nat.not_lt_zero _)) | refine ⟨?_, ?_⟩ | exact Iff.rfl | exact congrArg (fun z => V.SV.one (V.At.val (Value.int .i64 z))) (by omega))); done)) | ((first | refine V.Fn.k (s1) [1, 10] rfl ?_ ?_ | refine V.Fn.q (s1) [1, 10] rfl ?_ ?_ | refine V.Fn.a (s1) [1, 10] rfl ?_ ?_); · ((repeat' (first | exact rfl | exact Iff.rfl | exact trivial | exact (fun _ _ => rfl) | exact (fun _ h => absurd h (Nat.not_lt_zero _)) | refine ⟨?_, ?_⟩ | exact Iff.rfl | exact congrArg (fun z => V.SV.one (V.At.val (Value.int .i64 z))) (by omega))); done)) | ((first | refine V.Fn.k (s2) [3, 11] rfl ?_ ?_ | refine V.Fn.q (s2) [3, 11] rfl ?_ ?_ | refine V.Fn.a (s2) [3, 11] rfl ?_ ?_); · ((repeat' (first | exact rfl | exact Iff.rfl | exact trivial | exact (fun _ _ => rfl) | exact (fun _ h => absurd h (Nat.not_lt_zero _)) | refine ⟨?_, ?_⟩ | exact Iff.rfl | exact congrArg (fun z => V.SV.one (V.At.val (Value.int .i64 z))) (by omega))); done)) | ((first | refine V.Fn.k (s3) [5, 12] rfl ?_ ?_ | refine V.Fn.q (s3) [5, 12] rfl ?_ ?_ | refine V.Fn.a (s3) [5, 12] rfl ?_ ?_); · ((repeat' (first | exact rfl | exact Iff.rfl | exact trivial | exact (fun _ _ => rfl) | exact (fun _ h => absurd h (Nat.not_lt_zero _)) | refine ⟨?_, ?_⟩ | exact Iff.rfl | exact congrArg (fun z => V.SV.one (V.At.val (Value.int .i64 z))) (by omega))); done)) | (refine V.NDraw.any (by kernel_rfl) ?_) | fail)
  all_goals (conv => whnf)
  all_goals first
    | exact ⟨true, rfl, iff_of_true rfl rfl⟩
    | trace_state
end Go.Proofs.Ytcdlhfbpmpjfkaa

/- Plain laws of buying in. -/
namespace Go.Proofs.Ytcdlhfbpmpjfkaa
set_option linter.unusedVariables false
set_option linter.unusedSimpArgs false
namespace B
open O
theorem tak_bd {l : List Of} (ok : Oks l) {m p : Int} (hm : 0 ≤ m) {i : Nat} (hi : i < l.length) : 0 ≤ (tak l m p).getD i default ∧ (tak l m p).getD i default ≤ U l i ∧ (0 < (tak l m p).getD i default → pr l i ≤ p) ∧ (0 < lef l m p → pr l i ≤ p → (tak l m p).getD i default = U l i) := by
  rw [tak_at hi]
  have t := Gr.tk_bd (u := V l p) (bf := bf l) (m := m) (V_bd ok p) hi
  have v := V_le ok p hi
  refine ⟨t.1, by omega, fun q => ?_, fun q r => ?_⟩
  · refine Classical.byContradiction fun z => ?_
    rw [tk_V0 ok hi z] at q; omega
  · have s := tak_Sg (m := m) (p := p) ok hm
    have e : m - lef l m p = tot l p := by
      unfold lef at q ⊢
      split at q
      · omega
      · rename_i w; rw [if_neg w]; omega
    rw [e] at s
    have := Sg_same (n := l.length) (fun j hj => (Gr.tk_bd (u := V l p) (bf := bf l) (m := m) (V_bd ok p) hj).2) s i hi
    rw [this]
    exact if_pos r
theorem tak_nn {l : List Of} (ok : Oks l) {m p : Int} (hm : 0 ≤ m) : ∀ x ∈ tak l m p, 0 ≤ x := fun x hx => by
  obtain ⟨i, hi, rfl⟩ := List.getElem_of_mem hx
  rw [← getD_at hi]
  exact (tak_bd ok hm (by rw [tak_len] at hi; exact hi)).1
theorem lef_bd {l : List Of} (ok : Oks l) {m p : Int} (hm : 0 ≤ m) : 0 ≤ lef l m p ∧ lef l m p ≤ m := by
  have := tot_bd ok p
  unfold lef; split <;> omega
theorem lef_mono {l : List Of} (ok : Oks l) {m p q : Int} (h : p ≤ q) : lef l m q ≤ lef l m p := by
  have := tot_mono ok h
  unfold lef
  (repeat' split) <;> omega
theorem lef_below {l : List Of} {m : Int} (ok : Oks l) (hm : 1 ≤ m) (hs : m ≤ Sh.sm (us l)) {p : Int} (h : p < lst l m 1099511627776) : 0 < lef l m p := by
  have := (one_is ok hm hs).2.1 p h
  unfold lef; split <;> omega
theorem one_some {l : List Of} {m : Int} (ok : Oks l) (hm : 1 ≤ m) (hs : m ≤ Sh.sm (us l)) : P.Ok (lst l m 1099511627776) ∧ ∃ i, i < l.length ∧ 0 < (tak l m 1099511627776).getD i default ∧ pr l i = lst l m 1099511627776 := by
  obtain ⟨_, _, i, hi, e, h⟩ := one_is ok hm hs
  refine ⟨by rw [← e]; exact pr_bd ok hi, i, hi, ?_, e⟩
  rw [tak_at hi, tk_V (byB l) (pr_bd ok hi).2]
  exact h
theorem cost_mono2 {u p q : Int} (hu : 0 ≤ u) (h : p ≤ q) : P.cost u p ≤ P.cost u q := by
  have := Int.mul_le_mul_of_nonneg_left h hu
  unfold P.cost
  generalize u * p = x at *
  generalize u * q = y at *
  omega
/-! as many at each price -/
def atP (l : List Of) (b : Nat → Nat → Bool) (m q : Int) (n : Nat) : Int := Sg n fun i => if pr l i = q then Gr.tk (U l) b l.length m i else 0
theorem upto {l : List Of} {b : Nat → Nat → Bool} (ok : Oks l) (S : Od.Sto b) (h : ByPr l b) {m : Int} (hm : 0 ≤ m) (p : Int) : Sg l.length (fun i => if pr l i ≤ p then Gr.tk (U l) b l.length m i else 0) = m - lef l m p := by
  have a := Gr.all_sum (u := V l p) (m := m) S hm (V_bd ok p)
  have e : Gr.lf (V l p) b l.length m l.length = lef l m p := Gr.lf_end S
  rw [e] at a
  refine Eq.trans ?_ a
  refine Sg_eq fun i hi => ?_
  by_cases q : pr l i ≤ p
  · rw [if_pos q, tk_V h q]
  · rw [if_neg q, tk_V0 ok hi q]
theorem atP_is {l : List Of} {b : Nat → Nat → Bool} (ok : Oks l) (S : Od.Sto b) (h : ByPr l b) {m : Int} (hm : 0 ≤ m) (q : Int) : atP l b m q l.length = lef l m (q - 1) - lef l m q := by
  have a := upto ok S h hm q
  have c := upto ok S h hm (q - 1)
  have d : atP l b m q l.length = Sg l.length (fun i => if pr l i ≤ q then Gr.tk (U l) b l.length m i else 0) - Sg l.length (fun i => if pr l i ≤ q - 1 then Gr.tk (U l) b l.length m i else 0) := by
    rw [← Sg_sub]
    refine Sg_eq fun i hi => ?_
    by_cases z : pr l i = q
    · rw [if_pos z, if_pos (by omega), if_neg (by omega)]; omega
    · rw [if_neg z]
      by_cases y : pr l i ≤ q
      · rw [if_pos y, if_pos (by omega)]; omega
      · rw [if_neg y, if_neg (by omega)]; omega
  omega
theorem same {l : List Of} (ok : Oks l) {m : Int} (hm : 0 ≤ m) (q : Int) : atP l (bf l) m q l.length = atP l (O.bf l) m q l.length := by
  rw [atP_is ok (sto l) (byB l) hm, atP_is ok (O.sto l) (byO l) hm]
/-! the other way round -/
theorem chk_nd {l : List Of} (h : chk l = 0) : (l.map (·.pt)).Nodup := by
  have ok := chk_ok h
  have n : ¬ 40 < l.length := by have := ok.le; omega
  rw [chk_2 n] at h
  have a := Ca.fe_ok h
  refine List.pairwise_iff_getElem.2 fun i j hi hj hij => ?_
  rw [List.length_map] at hi hj
  rw [List.getElem_map, List.getElem_map]
  intro e
  have b := a j hj
  unfold eAt at b
  split at b
  · omega
  · split at b
    · omega
    · rename_i z
      exact z ((seen_iff (by omega) _).2 ⟨i, hij, by rw [getD_at hi, getD_at hj]; exact e⟩)
theorem chk_is {l : List Of} (n : l.length ≤ 40) (h : ∀ o ∈ l, Ok o) (nd : (l.map (·.pt)).Nodup) : chk l = 0 := by
  rw [chk_2 (by omega)]
  refine Ca.fe_end fun k hk => ?_
  unfold eAt
  rw [if_neg (fun z => z (h _ (getD_mem hk))), if_neg]
  intro z
  obtain ⟨j, hj, e⟩ := (seen_iff (by omega) _).1 z
  have := List.pairwise_iff_getElem.1 nd j k (by rw [List.length_map]; omega) (by rw [List.length_map]; exact hk) hj
  rw [List.getElem_map, List.getElem_map] at this
  rw [getD_at (by omega), getD_at hk] at e
  exact this e
theorem chk_rev {l : List Of} (h : chk l = 0) : chk l.reverse = 0 := by
  have ok := chk_ok h
  refine chk_is (by simpa using ok.le) (fun o ho => ok.all o (by simpa using ho)) ?_
  rw [List.map_reverse]
  exact (List.reverse_perm _).nodup_iff.2 (chk_nd h)
/-- none is better than the first one -/
theorem first {l : List Of} (h : 0 < l.length) {j : Nat} (hj : j < l.length) : pr l (at_ l 0) < pr l j ∨ (pr l (at_ l 0) = pr l j ∧ U l j ≤ U l (at_ l 0)) := by
  obtain ⟨k, hk, rfl⟩ := Od.srt_ix (bf := bf l) hj
  by_cases z : k = 0
  · subst z; exact .inr ⟨rfl, Int.le_refl _⟩
  · have := (bf_iff l _ _).1 (Od.bf_of (sto l) (show 0 < k by omega) hk)
    show pr l ((Od.srt (bf l) l.length).getD 0 default) < _ ∨ (pr l ((Od.srt (bf l) l.length).getD 0 default) = _ ∧ _ ≤ U l ((Od.srt (bf l) l.length).getD 0 default))
    omega
theorem first_rev {l : List Of} (h : 0 < l.length) : (l.reverse.getD (at_ l.reverse 0) default).pr = (l.getD (at_ l 0) default).pr ∧ (l.reverse.getD (at_ l.reverse 0) default).un = (l.getD (at_ l 0) default).un := by
  have hr : 0 < l.reverse.length := by simpa using h
  have rv : ∀ i, i < l.length → ∃ j, j < l.length ∧ l.reverse.getD i default = l.getD j default := fun i hi => by
    refine ⟨l.length - 1 - i, by omega, ?_⟩
    rw [getD_at (by simpa using hi), getD_at (by omega), List.getElem_reverse]
  have vr : ∀ j, j < l.length → ∃ i, i < l.length ∧ l.reverse.getD i default = l.getD j default := fun j hj => by
    refine ⟨l.length - 1 - j, by omega, ?_⟩
    rw [getD_at (by simp; omega), getD_at hj, List.getElem_reverse]
    congr 1; omega
  have a1 := at_lt (l := l.reverse) hr
  rw [List.length_reverse] at a1
  obtain ⟨j, hj, ej⟩ := rv _ a1
  obtain ⟨i, hi, ei⟩ := vr _ (at_lt h)
  have f1 := first h hj
  have f2 := first hr (j := i) (by simpa using hi)
  unfold pr U at f1 f2
  rw [ei] at f2
  rw [← ej] at f1
  omega
end B
end Go.Proofs.Ytcdlhfbpmpjfkaa

/- How a struct api.Offer, and a list of such, are read off an argument. -/
namespace Go.Proofs.Ytcdlhfbpmpjfkaa
open Go Go.RowKit Go.ChangeShapes Go.WideShapes Go.Deep V
set_option linter.unusedVariables false
set_option maxRecDepth 100000
noncomputable def ofFields : Array Field := (match Try.prog.underlying 45 with | some (.struct fs) => fs | _ => #[])
theorem ofStruct : Try.prog.underlying 45 = some (.struct ofFields) := by kernel_rfl
theorem ofOne : oneCellFields Try.prog ofFields = true := by kernel_rfl
theorem ofSize : ofFields.size = 3 := by kernel_rfl
theorem ofCells : Try.prog.cellsOf 45 = 3 := by kernel_rfl
theorem ofInts : (List.range 3).all (fun j => (ofFields[j]?).all (fun f => decide (f.type = 3))) = true := by kernel_rfl
theorem ofInt (j : Nat) (f : Field) (h : ofFields[j]? = some f) : Try.prog.underlying f.type = some (.int .i64) := by
  have hj : j < 3 := by have := (Array.getElem?_eq_some_iff.1 h).1; rw [ofSize] at this; exact this
  have := List.all_eq_true.1 ofInts j (List.mem_range.2 hj)
  rw [h] at this
  have e : f.type = 3 := by simpa using this
  rw [e]
  exact Try.underlying3
def WfOf (d : Of) : Prop := ∀ n ∈ [d.pt, d.un, d.pr], (Lit.int .i64 n).wf = true
theorem of_of {H : Type} {enc : TypeId × Value → H} {w : World} {base : Nat} {spare : Nat → Bool} {held : Bool} {fuel : Nat} {cs : List Value} {x : DataW H × List MemPlace} (h : DataW.trod enc Try.prog w base spare held fuel 45 cs = some x) :
    ∃ f : Of, cs = encO f ∧ WfOf f := by
  obtain ⟨ns, e, hl, wf⟩ := ints_struct ofStruct ofOne (ofCells.trans ofSize.symm) ofInt h
  rw [ofSize] at hl
  match ns, hl with
  | [a0, a1, a2], _ => exact ⟨⟨a0, a1, a2⟩, by simpa [encO] using e, wf⟩
theorem open_of {H : Type} {enc : TypeId × Value → H} {W : World} {base : Nat} {spare : Nat → Bool} {held : Bool} {r : Reach} {b0 : Nat} {v : Value} {d : DataW H} {p : List MemPlace} (hv : Value.okWide Try.prog W r b0 45 v) (h : DataW.Trod enc Try.prog W base spare held 45 v d p) :
    ∃ f : Of, v = .agg #[.int .i64 f.pt, .int .i64 f.un, .int .i64 f.pr] ∧ WfOf f := by
  obtain ⟨cs, rfl, _⟩ := okWide_struct ofStruct hv
  obtain ⟨fuel, hf⟩ := h
  obtain ⟨f, e, wf⟩ := of_of hf
  refine ⟨f, ?_, wf⟩
  obtain ⟨l⟩ := cs
  simp only [Value.cells] at e
  subst e
  rfl
theorem open_ofs {H : Type} {enc : TypeId × Value → H} {W : World} {base : Nat} {spare : Nat → Bool} {held : Bool} {r : Reach} {b0 : Nat} {v : Value} {d : DataW H} {p : List MemPlace} {t : Nat} (ht : Try.prog.underlying t = some (.slice 45)) (hv : Value.okWide Try.prog W r b0 t v) (h : DataW.Trod enc Try.prog W base spare held t v d p) :
    ∃ l : List Of, ArrIs W v 3 l.length (ga encO l) ∧ ∀ f ∈ l, WfOf f :=
  open_list ht ofCells (by omega) (fun fuel cs x hx => by
    obtain ⟨f, e, wf⟩ := of_of hx
    exact ⟨f, e, wf⟩) hv h
end Go.Proofs.Ytcdlhfbpmpjfkaa
