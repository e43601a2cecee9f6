/- The statement of ShareEven: the call returns true for every input, and its input reads as it did. No condition. -/
import Derived.Test.YtfmejgohpokiaaaRows
import Derived.WalkKit
import Derived.ProofKit
import Derived.OpenShut
import Derived.Test.YtfmejgohpokiaaaZ1
import Derived.Test.YtfmejgohpokiaaaZ2
import Derived.Test.YtfmejgohpokiaaaZ3
import Derived.Test.YtfmejgohpokiaaaZ4

/- What ShareEven answers: true. -/
namespace Go.Proofs.Ytfmejgohpokiaaa
open Go Go.RowKit V
set_option maxRecDepth 100000
set_option linter.unusedVariables false
set_option linter.unusedSimpArgs false
theorem Sh.rep_ok {n : Nat} {w : Int} (hn : 1 ≤ n ∧ n ≤ 40) (hw : 1 ≤ w ∧ w ≤ 1099511627776) : Sh.Oks (List.replicate n w) :=
  ⟨by simp; omega, by simp; omega, fun x hx => by have := List.eq_of_mem_replicate hx; omega, w, List.mem_replicate.2 ⟨by omega, rfl⟩, by omega⟩
/-- a list of whose places the first ones have one more -/
def Sh.Flat (L : List Int) (n : Nat) (e : Int) : Prop := e = 0 → L.length = n ∧ (∀ x ∈ L, 0 ≤ x ∧ x ≤ 1152921504606846976) ∧ ∀ i j, i < j → j < n → L.getD j default ≤ L.getD i default ∧ L.getD i default ≤ L.getD j default + 1
theorem Sh.flat_p {t w : Int} {n : Nat} (hn : 1 ≤ n ∧ n ≤ 40) (hw : 1 ≤ w ∧ w ≤ 1099511627776) : Sh.Flat (Sh.pL t (List.replicate n w)) n (Sh.pE t (List.replicate n w)) := by
  intro h
  have ok := Sh.rep_ok hn hw
  rcases Sh.pE_cases t (List.replicate n w) with ⟨a, e, l⟩ | ⟨a, b, e, l⟩ | ⟨a, b, _, e, l⟩
  · omega
  · omega
  · rw [l]
    refine ⟨by rw [Sh.raw_len ok, List.length_replicate], fun x hx => ?_, fun i j h1 h2 => Sh.even_raw ok h1 h2⟩
    obtain ⟨i, hi, rfl⟩ := List.getElem_of_mem hx
    rw [← getD_at hi]
    rw [Sh.raw_len ok] at hi
    have := Sh.raw_bd ok b.1 hi
    omega
theorem Sh.flat_s {t w k : Int} {n : Nat} (hn : 1 ≤ n ∧ n ≤ 40) (hw : 1 ≤ w ∧ w ≤ 1099511627776) : Sh.Flat (Sh.sL t (List.replicate n w) k) n (Sh.sE t (List.replicate n w) k) := by
  intro h
  obtain ⟨ok, hm, hk, el⟩ := Sh.sE_ok h
  rw [el]
  refine ⟨by rw [Sh.seats_len, List.length_replicate], fun x hx => ?_, fun i j h1 h2 => Sh.even_seats (by omega) (by omega) _ i j h1 h2⟩
  have := Sh.seats_bd k _ ok.pos _ x hx
  omega
theorem Sh.flat_at {L : List Int} {n i : Nat} {e : Int} (f : Sh.Flat L n e) (h : 1 ≤ i ∧ i < n) (z : e = 0) : L.length = n ∧ (0 ≤ L.getD i default ∧ L.getD i default ≤ 1152921504606846976) ∧ (0 ≤ L.getD 0 default ∧ L.getD 0 default ≤ 1152921504606846976) ∧ L.getD i default ≤ L.getD (i - 1) default ∧ L.getD 0 default ≤ L.getD i default + 1 := by
  obtain ⟨a, b, c⟩ := f z
  exact ⟨a, b _ (getD_mem (by omega)), b _ (getD_mem (by omega)), (c (i - 1) i (by omega) h.2).1, (c 0 i (by omega) h.2).2⟩
set_option maxHeartbeats 4000000 in
theorem v_shareEven (total : Int) (w_total : (Lit.int .i64 total).wf = true) (many : Int) (w_many : (Lit.int .i64 many).wf = true) (kind : Int) (w_kind : (Lit.int .i64 kind).wf = true) (w : Int) (w_w : (Lit.int .i64 w).wf = true) : V.Fn Try.prog 9 [] [.one (.val (.int .i64 total)), .one (.val (.int .i64 many)), .one (.val (.int .i64 kind)), .one (.val (.int .i64 w))] (.bool true) := by
  clear w_total w_many w_kind w_w
  by_cases hc : (1 ≤ many ∧ many ≤ 40) ∧ 1 ≤ w ∧ w ≤ 1099511627776
  · obtain ⟨hm, hw⟩ := hc
    obtain ⟨n, rfl⟩ : ∃ n : Nat, many = n := ⟨many.toNat, by omega⟩
    have f1 := Sh.flat_p (t := total) (w := w) (n := n) (by omega) hw
    have f2 := Sh.flat_s (t := total) (w := w) (n := n) (k := kind) (by omega) hw
    have lr : (List.replicate n w).length = n := List.length_replicate
    have c1 := v_shParts total (List.replicate n w) (by omega)
    have c2 := v_shSeats total (List.replicate n w) kind (by omega)
    generalize Sh.pL total (List.replicate n w) = L1 at *
    generalize Sh.sL total (List.replicate n w) kind = L2 at *
    generalize Sh.pE total (List.replicate n w) = E1 at *
    generalize Sh.sE total (List.replicate n w) kind = E2 at *
    refine V.Fn.mk_ V.Tok V.mixed Try.func9 rfl Try.ntmps9 (by kernel_rfl) rfl rfl ?_
    repeat' ((conv => whnf); first | (refine V.NIf.yes ?_ ?_; · (decide; done)) | (refine V.NIf.no ?_ ?_; · (decide; done)) | refine V.NCond.mk ?_ | refine V.NIf.not_ ?_ | refine V.NIf.dec_ ?_ | refine V.NIf.no (by omega) ?_ | refine V.NIf.yes (by omega) ?_ | refine V.NIf.mk (fun _ => ?_) (fun _ => ?_) | refine V.NWrap.ok (by omega) (by omega) ?_ | refine V.NWrap.u64 (by omega) (by omega) ?_ | refine V.NLt.mk (by omega) ?_ | refine V.NBoth.mk ?_ ?_ | refine V.NTF.yes (by omega) ?_ | refine V.NTF.no (by omega) ?_ | refine V.NTF.dec ?_ | refine V.NDraw.q (by exact rfl) (by kernel_rfl) ?_ | refine V.NApp.one (by first | omega | (simp; omega)) (by first | omega | (simp; omega)) ?_ | (first | refine V.Fn.k0 (v_shBegun) rfl ?_ | refine V.Fn.q0 (v_shBegun) rfl ?_ | refine V.Fn.a0 (v_shBegun) rfl ?_) | (refine V.NDraw.any (by kernel_rfl) ?_) | fail)
    all_goals (conv => whnf)
    refine V.NLoop.auto (fun (k : Nat) => [(10, .one (.val (.int .i64 k))), (9, .one (.ref 0))]) (fun (k : Nat) => [(0, .row 3 1 (List.replicate k w).length (ga e1 (List.replicate k w)))]) [] [] (fun (k : Nat) => n - k) (fun (k : Nat) => k ≤ n) 0 (Nat.zero_le _) (by repeat' (first | exact rfl | exact Iff.rfl | exact trivial | exact (fun _ _ => rfl) | exact (fun _ h => absurd h (Nat.not_lt_zero _)) | refine ⟨?_, ?_⟩ | exact Iff.rfl | exact congrArg (fun z => V.SV.one (V.At.val (Value.int .i64 z))) (by omega))) (by (conv => whnf); exact ⟨⟨rfl, rfl, rfl, fun k hk => absurd hk (Nat.not_lt_zero _)⟩, trivial⟩) (fun _ => ⟨rfl, rfl⟩) ?_; (conv => whnf); refine ⟨⟨rfl, rfl⟩, ?_⟩
    rintro k hk
    have lk : (List.replicate k w).length = k := List.length_replicate
    by_cases hlt : k < n
    · have qs : List.replicate (k + 1) w = List.replicate k w ++ [w] := List.replicate_succ'
      generalize List.replicate k w = A at *
      repeat' ((conv => whnf); first | (refine NApp.one (en := e1) (l := A) (x := w) (by first | omega | (simp; omega)) (by first | omega | (simp; omega)) ?_) | refine V.NCond.mk ?_ | refine V.NIf.not_ ?_ | refine V.NIf.dec_ ?_ | refine V.NIf.no (by omega) ?_ | refine V.NIf.yes (by omega) ?_ | refine V.NIf.mk (fun _ => ?_) (fun _ => ?_) | refine V.NWrap.ok (by omega) (by omega) ?_ | refine V.NWrap.u64 (by omega) (by omega) ?_ | refine V.NLt.mk (by omega) ?_ | refine V.NBoth.mk ?_ ?_ | refine V.NTF.yes (by omega) ?_ | refine V.NTF.no (by omega) ?_ | refine V.NTF.dec ?_ | refine V.NDraw.q (by exact rfl) (by kernel_rfl) ?_ | refine V.NApp.one (by first | omega | (simp; omega)) (by first | omega | (simp; omega)) ?_ | (refine V.NDraw.any (by kernel_rfl) ?_) | fail)
      all_goals (conv => whnf)
      exact V.NBack.at_ (k + 1) [(0, 2)] (by omega) (by omega) (by repeat' (first | exact rfl | exact Iff.rfl | exact trivial | exact (fun _ _ => rfl) | exact (fun _ h => absurd h (Nat.not_lt_zero _)) | refine ⟨?_, ?_⟩ | exact Iff.rfl | exact congrArg (fun z => V.SV.one (V.At.val (Value.int .i64 z))) (by omega))) rfl ⟨ObLe.as_ qs, trivial⟩ (by repeat' (first | exact rfl | exact Iff.rfl | exact trivial | exact (fun _ _ => rfl) | exact (fun _ h => absurd h (Nat.not_lt_zero _)) | refine ⟨?_, ?_⟩ | exact Iff.rfl | exact congrArg (fun z => V.SV.one (V.At.val (Value.int .i64 z))) (by omega))) (by repeat' (first | exact rfl | exact Iff.rfl | exact trivial | exact (fun _ _ => rfl) | exact (fun _ h => absurd h (Nat.not_lt_zero _)) | refine ⟨?_, ?_⟩ | exact Iff.rfl | exact congrArg (fun z => V.SV.one (V.At.val (Value.int .i64 z))) (by omega)))
    · obtain rfl : k = n := by omega
      repeat' ((conv => whnf); first | (refine V.NIf.yes ?_ ?_; · (decide; done)) | (refine V.NIf.no ?_ ?_; · (decide; done)) | refine V.NCond.mk ?_ | refine V.NIf.not_ ?_ | refine V.NIf.dec_ ?_ | refine V.NIf.no (by omega) ?_ | refine V.NIf.yes (by omega) ?_ | refine V.NIf.mk (fun _ => ?_) (fun _ => ?_) | refine V.NWrap.ok (by omega) (by omega) ?_ | refine V.NWrap.u64 (by omega) (by omega) ?_ | refine V.NLt.mk (by omega) ?_ | refine V.NBoth.mk ?_ ?_ | refine V.NTF.yes (by omega) ?_ | refine V.NTF.no (by omega) ?_ | refine V.NTF.dec ?_ | refine V.NDraw.q (by exact rfl) (by kernel_rfl) ?_ | refine V.NApp.one (by first | omega | (simp; omega)) (by first | omega | (simp; omega)) ?_ | ((first | refine V.FnR.k_ (c1) [0] rfl ?_ ?_ | refine V.FnR.a_ (c1) [0] rfl ?_ ?_); · ((repeat' (first | exact rfl | exact Iff.rfl | exact trivial | exact (fun _ _ => rfl) | exact (fun _ h => absurd h (Nat.not_lt_zero _)) | refine ⟨?_, ?_⟩ | exact Iff.rfl | exact congrArg (fun z => V.SV.one (V.At.val (Value.int .i64 z))) (by omega))); done)) | ((first | refine V.FnR.k_ (c2) [0] rfl ?_ ?_ | refine V.FnR.a_ (c2) [0] rfl ?_ ?_); · ((repeat' (first | exact rfl | exact Iff.rfl | exact trivial | exact (fun _ _ => rfl) | exact (fun _ h => absurd h (Nat.not_lt_zero _)) | refine ⟨?_, ?_⟩ | exact Iff.rfl | exact congrArg (fun z => V.SV.one (V.At.val (Value.int .i64 z))) (by omega))); done)) | (refine V.NDraw.any (by kernel_rfl) ?_) | fail)
      all_goals (conv => whnf)
      refine V.NLoop.auto (fun (i : Nat) => [(15, .one (.val (.int .i64 i)))]) (fun (i : Nat) => []) [] [] (fun (i : Nat) => k - i) (fun (i : Nat) => 1 ≤ i ∧ i ≤ k) 1 (And.intro (Nat.le_refl 1) (by omega)) (by repeat' (first | exact rfl | exact Iff.rfl | exact trivial | exact (fun _ _ => rfl) | exact (fun _ h => absurd h (Nat.not_lt_zero _)) | refine ⟨?_, ?_⟩ | exact Iff.rfl | exact congrArg (fun z => V.SV.one (V.At.val (Value.int .i64 z))) (by omega))) (by repeat' (first | exact rfl | exact Iff.rfl | exact trivial | exact (fun _ _ => rfl) | exact (fun _ h => absurd h (Nat.not_lt_zero _)) | refine ⟨?_, ?_⟩ | exact Iff.rfl | exact congrArg (fun z => V.SV.one (V.At.val (Value.int .i64 z))) (by omega))) (fun _ => ⟨rfl, rfl⟩) ?_; (conv => whnf); refine ⟨⟨rfl, rfl⟩, ?_⟩
      rintro i hi
      by_cases hlt : i < k
      · have g1 := Sh.flat_at f1 ⟨hi.1, hlt⟩
        have g2 := Sh.flat_at f2 ⟨hi.1, hlt⟩
        clear f1 f2 c1 c2
        by_cases z1 : E1 = 0
        · have g1 := g1 z1
          by_cases z2 : E2 = 0
          · have g2 := g2 z2
            repeat' ((conv => whnf); first | refine V.NCond.mk ?_ | refine V.NIf.not_ ?_ | refine V.NIf.dec_ ?_ | refine V.NIf.no (by omega) ?_ | refine V.NIf.yes (by omega) ?_ | refine V.NIf.mk (fun _ => ?_) (fun _ => ?_) | refine V.NWrap.ok (by omega) (by omega) ?_ | refine V.NWrap.u64 (by omega) (by omega) ?_ | refine V.NLt.mk (by omega) ?_ | refine V.NBoth.mk ?_ ?_ | refine V.NTF.yes (by omega) ?_ | refine V.NTF.no (by omega) ?_ | refine V.NTF.dec ?_ | refine V.NDraw.q (by exact rfl) (by kernel_rfl) ?_ | refine V.NApp.one (by first | omega | (simp; omega)) (by first | omega | (simp; omega)) ?_ | (refine NIdx.mk ⟨i, rfl, by omega, ?_⟩) | (refine NIdx.mk ⟨i - 1, by omega, by omega, ?_⟩) | (refine NIdx.mk ⟨0, rfl, by omega, ?_⟩) | (refine V.NDraw.any (by kernel_rfl) ?_) | fail)
            all_goals (conv => whnf)
            exact V.NBack.at_ (i + 1) [] (by omega) (by omega) (by repeat' (first | exact rfl | exact Iff.rfl | exact trivial | exact (fun _ _ => rfl) | exact (fun _ h => absurd h (Nat.not_lt_zero _)) | refine ⟨?_, ?_⟩ | exact Iff.rfl | exact congrArg (fun z => V.SV.one (V.At.val (Value.int .i64 z))) (by omega))) rfl (by repeat' (first | exact rfl | exact Iff.rfl | exact trivial | exact (fun _ _ => rfl) | exact (fun _ h => absurd h (Nat.not_lt_zero _)) | refine ⟨?_, ?_⟩ | exact Iff.rfl | exact congrArg (fun z => V.SV.one (V.At.val (Value.int .i64 z))) (by omega))) (by repeat' (first | exact rfl | exact Iff.rfl | exact trivial | exact (fun _ _ => rfl) | exact (fun _ h => absurd h (Nat.not_lt_zero _)) | refine ⟨?_, ?_⟩ | exact Iff.rfl | exact congrArg (fun z => V.SV.one (V.At.val (Value.int .i64 z))) (by omega))) (by repeat' (first | exact rfl | exact Iff.rfl | exact trivial | exact (fun _ _ => rfl) | exact (fun _ h => absurd h (Nat.not_lt_zero _)) | refine ⟨?_, ?_⟩ | exact Iff.rfl | exact congrArg (fun z => V.SV.one (V.At.val (Value.int .i64 z))) (by omega)))
          · clear g2
            repeat' ((conv => whnf); first | refine V.NCond.mk ?_ | refine V.NIf.not_ ?_ | refine V.NIf.dec_ ?_ | refine V.NIf.no (by omega) ?_ | refine V.NIf.yes (by omega) ?_ | refine V.NIf.mk (fun _ => ?_) (fun _ => ?_) | refine V.NWrap.ok (by omega) (by omega) ?_ | refine V.NWrap.u64 (by omega) (by omega) ?_ | refine V.NLt.mk (by omega) ?_ | refine V.NBoth.mk ?_ ?_ | refine V.NTF.yes (by omega) ?_ | refine V.NTF.no (by omega) ?_ | refine V.NTF.dec ?_ | refine V.NDraw.q (by exact rfl) (by kernel_rfl) ?_ | refine V.NApp.one (by first | omega | (simp; omega)) (by first | omega | (simp; omega)) ?_ | (refine NIdx.mk ⟨i, rfl, by omega, ?_⟩) | (refine NIdx.mk ⟨i - 1, by omega, by omega, ?_⟩) | (refine NIdx.mk ⟨0, rfl, by omega, ?_⟩) | (refine V.NDraw.any (by kernel_rfl) ?_) | fail)
            all_goals (conv => whnf)
            exact V.NBack.at_ (i + 1) [] (by omega) (by omega) (by repeat' (first | exact rfl | exact Iff.rfl | exact trivial | exact (fun _ _ => rfl) | exact (fun _ h => absurd h (Nat.not_lt_zero _)) | refine ⟨?_, ?_⟩ | exact Iff.rfl | exact congrArg (fun z => V.SV.one (V.At.val (Value.int .i64 z))) (by omega))) rfl (by repeat' (first | exact rfl | exact Iff.rfl | exact trivial | exact (fun _ _ => rfl) | exact (fun _ h => absurd h (Nat.not_lt_zero _)) | refine ⟨?_, ?_⟩ | exact Iff.rfl | exact congrArg (fun z => V.SV.one (V.At.val (Value.int .i64 z))) (by omega))) (by repeat' (first | exact rfl | exact Iff.rfl | exact trivial | exact (fun _ _ => rfl) | exact (fun _ h => absurd h (Nat.not_lt_zero _)) | refine ⟨?_, ?_⟩ | exact Iff.rfl | exact congrArg (fun z => V.SV.one (V.At.val (Value.int .i64 z))) (by omega))) (by repeat' (first | exact rfl | exact Iff.rfl | exact trivial | exact (fun _ _ => rfl) | exact (fun _ h => absurd h (Nat.not_lt_zero _)) | refine ⟨?_, ?_⟩ | exact Iff.rfl | exact congrArg (fun z => V.SV.one (V.At.val (Value.int .i64 z))) (by omega)))
        · clear g1
          by_cases z2 : E2 = 0
          · have g2 := g2 z2
            repeat' ((conv => whnf); first | refine V.NCond.mk ?_ | refine V.NIf.not_ ?_ | refine V.NIf.dec_ ?_ | refine V.NIf.no (by omega) ?_ | refine V.NIf.yes (by omega) ?_ | refine V.NIf.mk (fun _ => ?_) (fun _ => ?_) | refine V.NWrap.ok (by omega) (by omega) ?_ | refine V.NWrap.u64 (by omega) (by omega) ?_ | refine V.NLt.mk (by omega) ?_ | refine V.NBoth.mk ?_ ?_ | refine V.NTF.yes (by omega) ?_ | refine V.NTF.no (by omega) ?_ | refine V.NTF.dec ?_ | refine V.NDraw.q (by exact rfl) (by kernel_rfl) ?_ | refine V.NApp.one (by first | omega | (simp; omega)) (by first | omega | (simp; omega)) ?_ | (refine NIdx.mk ⟨i, rfl, by omega, ?_⟩) | (refine NIdx.mk ⟨i - 1, by omega, by omega, ?_⟩) | (refine NIdx.mk ⟨0, rfl, by omega, ?_⟩) | (refine V.NDraw.any (by kernel_rfl) ?_) | fail)
            all_goals (conv => whnf)
            exact V.NBack.at_ (i + 1) [] (by omega) (by omega) (by repeat' (first | exact rfl | exact Iff.rfl | exact trivial | exact (fun _ _ => rfl) | exact (fun _ h => absurd h (Nat.not_lt_zero _)) | refine ⟨?_, ?_⟩ | exact Iff.rfl | exact congrArg (fun z => V.SV.one (V.At.val (Value.int .i64 z))) (by omega))) rfl (by repeat' (first | exact rfl | exact Iff.rfl | exact trivial | exact (fun _ _ => rfl) | exact (fun _ h => absurd h (Nat.not_lt_zero _)) | refine ⟨?_, ?_⟩ | exact Iff.rfl | exact congrArg (fun z => V.SV.one (V.At.val (Value.int .i64 z))) (by omega))) (by repeat' (first | exact rfl | exact Iff.rfl | exact trivial | exact (fun _ _ => rfl) | exact (fun _ h => absurd h (Nat.not_lt_zero _)) | refine ⟨?_, ?_⟩ | exact Iff.rfl | exact congrArg (fun z => V.SV.one (V.At.val (Value.int .i64 z))) (by omega))) (by repeat' (first | exact rfl | exact Iff.rfl | exact trivial | exact (fun _ _ => rfl) | exact (fun _ h => absurd h (Nat.not_lt_zero _)) | refine ⟨?_, ?_⟩ | exact Iff.rfl | exact congrArg (fun z => V.SV.one (V.At.val (Value.int .i64 z))) (by omega)))
          · clear g2
            repeat' ((conv => whnf); first | refine V.NCond.mk ?_ | refine V.NIf.not_ ?_ | refine V.NIf.dec_ ?_ | refine V.NIf.no (by omega) ?_ | refine V.NIf.yes (by omega) ?_ | refine V.NIf.mk (fun _ => ?_) (fun _ => ?_) | refine V.NWrap.ok (by omega) (by omega) ?_ | refine V.NWrap.u64 (by omega) (by omega) ?_ | refine V.NLt.mk (by omega) ?_ | refine V.NBoth.mk ?_ ?_ | refine V.NTF.yes (by omega) ?_ | refine V.NTF.no (by omega) ?_ | refine V.NTF.dec ?_ | refine V.NDraw.q (by exact rfl) (by kernel_rfl) ?_ | refine V.NApp.one (by first | omega | (simp; omega)) (by first | omega | (simp; omega)) ?_ | (refine V.NDraw.any (by kernel_rfl) ?_) | fail)
            all_goals (conv => whnf)
            exact V.NBack.at_ (i + 1) [] (by omega) (by omega) (by repeat' (first | exact rfl | exact Iff.rfl | exact trivial | exact (fun _ _ => rfl) | exact (fun _ h => absurd h (Nat.not_lt_zero _)) | refine ⟨?_, ?_⟩ | exact Iff.rfl | exact congrArg (fun z => V.SV.one (V.At.val (Value.int .i64 z))) (by omega))) rfl (by repeat' (first | exact rfl | exact Iff.rfl | exact trivial | exact (fun _ _ => rfl) | exact (fun _ h => absurd h (Nat.not_lt_zero _)) | refine ⟨?_, ?_⟩ | exact Iff.rfl | exact congrArg (fun z => V.SV.one (V.At.val (Value.int .i64 z))) (by omega))) (by repeat' (first | exact rfl | exact Iff.rfl | exact trivial | exact (fun _ _ => rfl) | exact (fun _ h => absurd h (Nat.not_lt_zero _)) | refine ⟨?_, ?_⟩ | exact Iff.rfl | exact congrArg (fun z => V.SV.one (V.At.val (Value.int .i64 z))) (by omega))) (by repeat' (first | exact rfl | exact Iff.rfl | exact trivial | exact (fun _ _ => rfl) | exact (fun _ h => absurd h (Nat.not_lt_zero _)) | refine ⟨?_, ?_⟩ | exact Iff.rfl | exact congrArg (fun z => V.SV.one (V.At.val (Value.int .i64 z))) (by omega)))
      · repeat' ((conv => whnf); first | refine V.NCond.mk ?_ | refine V.NIf.not_ ?_ | refine V.NIf.dec_ ?_ | refine V.NIf.no (by omega) ?_ | refine V.NIf.yes (by omega) ?_ | refine V.NIf.mk (fun _ => ?_) (fun _ => ?_) | refine V.NWrap.ok (by omega) (by omega) ?_ | refine V.NWrap.u64 (by omega) (by omega) ?_ | refine V.NLt.mk (by omega) ?_ | refine V.NBoth.mk ?_ ?_ | refine V.NTF.yes (by omega) ?_ | refine V.NTF.no (by omega) ?_ | refine V.NTF.dec ?_ | refine V.NDraw.q (by exact rfl) (by kernel_rfl) ?_ | refine V.NApp.one (by first | omega | (simp; omega)) (by first | omega | (simp; omega)) ?_ | (refine V.NDraw.any (by kernel_rfl) ?_) | fail)
        all_goals (conv => whnf)
        all_goals first
          | rfl
          | exact ⟨true, rfl, iff_of_true rfl rfl⟩
          | trace_state
  · refine V.Fn.mk_ V.Tok V.mixed Try.func9 rfl Try.ntmps9 (by kernel_rfl) rfl rfl ?_
    repeat' ((conv => whnf); first | (refine V.NIf.yes ?_ ?_; · (decide; done)) | (refine V.NIf.no ?_ ?_; · (decide; done)) | refine V.NCond.mk ?_ | refine V.NIf.not_ ?_ | refine V.NIf.dec_ ?_ | refine V.NIf.no (by omega) ?_ | refine V.NIf.yes (by omega) ?_ | refine V.NIf.mk (fun _ => ?_) (fun _ => ?_) | refine V.NWrap.ok (by omega) (by omega) ?_ | refine V.NWrap.u64 (by omega) (by omega) ?_ | refine V.NLt.mk (by omega) ?_ | refine V.NBoth.mk ?_ ?_ | refine V.NTF.yes (by omega) ?_ | refine V.NTF.no (by omega) ?_ | refine V.NTF.dec ?_ | refine V.NDraw.q (by exact rfl) (by kernel_rfl) ?_ | refine V.NApp.one (by first | omega | (simp; omega)) (by first | omega | (simp; omega)) ?_ | (first | refine V.Fn.k0 (v_shBegun) rfl ?_ | refine V.Fn.q0 (v_shBegun) rfl ?_ | refine V.Fn.a0 (v_shBegun) rfl ?_) | (refine V.NDraw.any (by kernel_rfl) ?_) | fail)
    all_goals (conv => whnf)
    all_goals first
      | rfl
      | (exfalso; omega)
      | trace_state
end Go.Proofs.Ytfmejgohpokiaaa

/- The statement of ShareEven: for every input the call returns true and its input reads as it did. No condition. -/
namespace Go.Proofs.Ytfmejgohpokiaaa.shareEven
open Go.ChangeShapes Go.WideShapes Go.ChangeAt Go.RowKit

theorem own : ownKnob Try.prog.godebug = none := by kernel_rfl

set_option maxRecDepth 100000 in
theorem lifted (os : Os) (started : os.Started) (H : Type) (enc : TypeId × Value → H) :
    ReturnsInHanded {} Try.checked os 9 .any (Rows.shareEvenSpec.pre6 enc Try.prog Try.f9 Rows.shareEvenRow.domain false) (Rows.shareEvenSpec.post enc Try.prog Try.f9 false true false false) := by
  refine returnsInHanded_of_change (C := Try.checked) own started (by kernel_rfl) Try.func9
    (ChangeSpec.witness6 (enc := enc) (C := Try.checked) false ⟨#[], #[.int .i64 0, .int .i64 0, .int .i64 0, .int .i64 0], []⟩ 8 (by kernel_rfl) (by kernel_rfl) (by kernel_rfl) (by kernel_rfl)) ?_
  intro W base args ds gs before hval0 hW _ _
  have hval : ∀ (j : Nat) t v, Try.f9.params[j]? = some t → args[j]? = some v → Value.okWide Try.prog W .any base t v := hval0
  have hW' := hW
  obtain ⟨p, q, hA0, hV, rfl, hfz, hnd⟩ := hW
  have hA : DataW.TrodAll enc Try.prog W 0 (fun _ => true) true Try.f9.params.toList args.toList ds p := hA0
  rw [Try.params9] at hA hval
  obtain ⟨v0, vs0, d0, ds0, p0, q0, hargs, rfl, rfl, h0, r0⟩ := trodAll_cons hA
  obtain ⟨v1, vs1, d1, ds1, p1, q1, rfl, rfl, rfl, h1, r1⟩ := trodAll_cons r0
  obtain ⟨v2, vs2, d2, ds2, p2, q2, rfl, rfl, rfl, h2, r2⟩ := trodAll_cons r1
  obtain ⟨v3, vs3, d3, ds3, p3, q3, rfl, rfl, rfl, h3, r3⟩ := trodAll_cons r2
  obtain ⟨rfl, rfl, rfl⟩ := trodAll_nil r3
  obtain rfl : args = #[v0, v1, v2, v3] := by cases args; simp_all
  obtain ⟨rfl, rfl⟩ := trodVars_none hV
  obtain ⟨a0, rfl, rfl, rfl, w0⟩ := open_int Try.underlying3 (hval 0 3 v0 rfl rfl) h0
  obtain ⟨a1, rfl, rfl, rfl, w1⟩ := open_int Try.underlying3 (hval 1 3 v1 rfl rfl) h1
  obtain ⟨a2, rfl, rfl, rfl, w2⟩ := open_int Try.underlying3 (hval 2 3 v2 rfl rfl) h2
  obtain ⟨a3, rfl, rfl, rfl, w3⟩ := open_int Try.underlying3 (hval 3 3 v3 rfl rfl) h3
  clear hval0
  simp only [List.append_nil] at hW'
  refine ((v_shareEven a0 w0 a1 w1 a2 w2 a3 w3).c W (fun i => [][i]?) [_, _, _, _] (fun i o ho => by simp at ho) ⟨_, _, rfl, rfl, ⟨_, _, rfl, rfl, ⟨_, _, rfl, rfl, ⟨_, _, rfl, rfl, rfl⟩⟩⟩⟩).mono fun e W' ⟨he, hg⟩ => ?_
  subst he
  exact ⟨_, rfl, post_of_below (pa := _) (pv := []) hW' (fun _ _ _ => (trodAll_cons_mk (shut_bool Try.underlying4 _) trodAll_mk0)) (fun sp hsp => all_stays laidOut (by kernel_rfl) hA0 (fun x hx => hg.same (hW'.lt x (by revert hx; simp))) (fun x hx => hsp x (by revert hx; simp))) (fun _ _ => rfl) (by simp)
    hg (ok_one (by kernel_rfl) rfl (okWide_bool_mk Try.underlying4 _))⟩

theorem over : Rows.shareEvenRow.holds Try.pinned (OpenSpec.ofChange Rows.shareEvenSpec) :=
  OpenClaim.holds_of_wide 9 Try.f9 rfl rfl rfl rfl rfl rfl rfl ⟨rfl, rfl, rfl, rfl, rfl⟩ rfl rfl rfl rfl rfl (by kernel_rfl) Try.func9 (by kernel_rfl)
    (of_decide_eq_true (by kernel_rfl)) (by unfold Func.isWrapper; first | (rw [if_pos (by decide +kernel)]; kernel_rfl) | (rw [if_neg (by decide +kernel)]; exact ⟨rfl, rfl⟩))
    (fun os started H enc _ => lifted os started H enc)

theorem proved : Rows.ShareEvenSaid :=
  over
end Go.Proofs.Ytfmejgohpokiaaa.shareEven
