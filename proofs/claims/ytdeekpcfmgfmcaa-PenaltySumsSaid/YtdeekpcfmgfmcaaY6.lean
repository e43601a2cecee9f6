/- Shared texts, one behind the other: VBook12, VOpenD -/
import Derived.Test.YtdeekpcfmgfmcaaY1
import Derived.Test.YtdeekpcfmgfmcaaY2
import Derived.Test.YtdeekpcfmgfmcaaY3
import Derived.Test.YtdeekpcfmgfmcaaY4
import Derived.Test.YtdeekpcfmgfmcaaY5

/- What the book's law begins with: it is true. -/
namespace Go.Proofs.Ytdeekpcfmgfmcaa
open Go Go.Sort Go.RowKit V
set_option maxRecDepth 100000
set_option linter.unusedVariables false
set_option linter.unusedSimpArgs false
set_option maxHeartbeats 4000000
theorem cut2 (k : Nat) (hk : k < 2) : ga encP l0 (0 + k) = ga encP (l0.take 2) k := by rw [Nat.zero_add, ga_take hk (by decide)]
theorem v_bkBegun : V.Fn Try.prog 24 [] [] (.bool true) := by
  have p1 := v_bkPost [] l0 (by decide) (by decide)
  have p2 := v_bkBalance b0 1 0 (by decide)
  have p3 := v_bkTurn l0 (by decide)
  have p4 := v_bkPost b0 t0 (by decide) (by decide)
  have p5 := v_bkTrial b0 (by decide)
  have p6 := v_bkPost b0 (l0.take 2) (by decide) (by decide)
  have p7 := v_bkCheck [] (by decide)
  have p8 := v_bkLines [] (by decide)
  rw [bg1, bg2] at p1
  rw [bg3.1, bg3.2] at p2
  rw [bg4.1, bg4.2] at p3
  rw [bg5.1, bg5.2] at p4
  rw [bg6.1, bg6.2] at p5
  rw [bg7.1, bg7.2] at p6
  rw [bg8.1] at p7
  rw [bg8.2] at p8
  refine V.Fn.mk_ V.Tok V.mixed Try.func24 rfl Try.ntmps24 (by kernel_rfl) rfl rfl ?_
  have s1 := v_sameposts b0 b0 (by decide)
  have s2 := v_sameposts t0 t0 (by decide)
  rw [show decide (b0 = b0) = true from decide_eq_true rfl] at s1
  rw [show decide (t0 = t0) = true from decide_eq_true rfl] at s2
  repeat' ((conv => whnf); first | (refine V.NIf.yes ?_ ?_; · (decide; done)) | (refine V.NIf.no ?_ ?_; · (decide; done)) | refine V.NCond.mk ?_ | refine V.NIf.not_ ?_ | refine V.NIf.dec_ ?_ | refine V.a4 ?_ | refine V.a5 ?_ | refine V.NIf.mk (fun _ => ?_) (fun _ => ?_) | refine V.a7 ?_ | refine V.a8 ?_ | refine V.a9 ?_ | refine V.NBoth.mk ?_ ?_ | refine V.b1 ?_ | refine V.b2 ?_ | refine V.NTF.dec ?_ | refine V.b3 ?_ | refine V.b4 ?_ | (refine NCall.nil_ 0 3 rfl ?_; refine NCall.lit_ (n := 3) (g := ga encP l0) 0 rfl V.S_ ?_) | ((first | refine V.FnR.k_ (p1) [1, 0] rfl ?_ ?_ | refine V.FnR.a_ (p1) [1, 0] rfl ?_ ?_); · exact V.D_) | ((first | refine V.Fn.k (p2) [2] rfl ?_ ?_ | refine V.Fn.q (p2) [2] rfl ?_ ?_ | refine V.Fn.a (p2) [2] rfl ?_ ?_); · exact V.D_) | ((first | refine V.FnR.k_ (p3) [0] rfl ?_ ?_ | refine V.FnR.a_ (p3) [0] rfl ?_ ?_); · exact V.D_) | ((first | refine V.FnR.k_ (p4) [2, 3] rfl ?_ ?_ | refine V.FnR.a_ (p4) [2, 3] rfl ?_ ?_); · exact V.D_) | ((first | refine V.FnR.k_ (p5) [2] rfl ?_ ?_ | refine V.FnR.a_ (p5) [2] rfl ?_ ?_); · exact V.D_) | (refine NCut.mk ⟨0, 2, rfl, rfl, by decide, by decide, ?_⟩) | (refine NIdx.mk ⟨0, rfl, by decide, ?_⟩) | (refine V.NLt.mk (by decide) ?_) | ((refine V.FnR.k_ p6 [2, 6] rfl ?_ ?_); · exact ⟨⟨rfl, rfl, fun k hk => rfl⟩, ⟨rfl, rfl, fun k hk => cut2 k hk⟩, trivial⟩) | (refine NCall.nil_ 0 3 rfl ?_) | ((first | refine V.Fn.k (p7) [10] rfl ?_ ?_ | refine V.Fn.q (p7) [10] rfl ?_ ?_ | refine V.Fn.a (p7) [10] rfl ?_ ?_); · exact V.D_) | ((first | refine V.Fn.k (p8) [11] rfl ?_ ?_ | refine V.Fn.q (p8) [11] rfl ?_ ?_ | refine V.Fn.a (p8) [11] rfl ?_ ?_); · exact V.D_) | ((first | refine V.Fn.k (s1) [2, 8] rfl ?_ ?_ | refine V.Fn.q (s1) [2, 8] rfl ?_ ?_ | refine V.Fn.a (s1) [2, 8] rfl ?_ ?_); · exact V.D_) | ((first | refine V.Fn.k (s2) [3, 9] rfl ?_ ?_ | refine V.Fn.q (s2) [3, 9] rfl ?_ ?_ | refine V.Fn.a (s2) [3, 9] rfl ?_ ?_); · exact V.D_) | (refine V.NDraw.any (by kernel_rfl) ?_) | fail)
  all_goals (conv => whnf)
  exact ⟨true, rfl, iff_of_true rfl rfl⟩
end Go.Proofs.Ytdeekpcfmgfmcaa

/- How a list of dues is read off an argument. -/
namespace Go.Proofs.Ytdeekpcfmgfmcaa
set_option maxRecDepth 100000
open Go Go.RowKit Go.ChangeShapes Go.WideShapes Go.Deep V
noncomputable def dueFields : Array Field := (match Try.prog.underlying 45 with | some (.struct fs) => fs | _ => #[])
theorem dueStruct : Try.prog.underlying 45 = some (.struct dueFields) := by kernel_rfl
theorem dueOne : oneCellFields Try.prog dueFields = true := by kernel_rfl
theorem dueSize : dueFields.size = 3 := by kernel_rfl
theorem dueCells : Try.prog.cellsOf 45 = 3 := by kernel_rfl
theorem dueInts : (List.range 3).all (fun j => (dueFields[j]?).all (fun f => decide (f.type = 3))) = true := by kernel_rfl
theorem dueInt (j : Nat) (f : Field) (h : dueFields[j]? = some f) : Try.prog.underlying f.type = some (.int .i64) := by
  have hj : j < 3 := by have := (Array.getElem?_eq_some_iff.1 h).1; rw [dueSize] at this; exact this
  have := List.all_eq_true.1 dueInts j (List.mem_range.2 hj)
  rw [h] at this
  have e : f.type = 3 := by simpa using this
  rw [e]
  exact Try.underlying3
def WfD (d : Du) : Prop := ∀ n ∈ [d.fr, d.to, d.am], (Lit.int .i64 n).wf = true
theorem du_of {H : Type} {enc : TypeId × Value → H} {w : World} {base : Nat} {spare : Nat → Bool} {held : Bool} {fuel : Nat} {cs : List Value} {x : DataW H × List MemPlace} (h : DataW.trod enc Try.prog w base spare held fuel 45 cs = some x) :
    ∃ f : Du, cs = encD f ∧ WfD f := by
  obtain ⟨ns, e, hl, wf⟩ := ints_struct dueStruct dueOne (dueCells.trans dueSize.symm) dueInt h
  rw [dueSize] at hl
  match ns, hl with
  | [a, b, c], _ => exact ⟨⟨a, b, c⟩, by simpa [encD] using e, wf⟩
theorem open_dus {H : Type} {enc : TypeId × Value → H} {W : World} {base : Nat} {spare : Nat → Bool} {held : Bool} {r : Reach} {b0 : Nat} {v : Value} {d : DataW H} {p : List MemPlace} (hv : Value.okWide Try.prog W r b0 30 v) (h : DataW.Trod enc Try.prog W base spare held 30 v d p) :
    ∃ l : List Du, ArrIs W v 3 l.length (ga encD l) ∧ ∀ f ∈ l, WfD f :=
  open_list Try.underlying30 dueCells (by omega) (fun fuel cs x hx => by
    obtain ⟨f, e, wf⟩ := du_of hx
    exact ⟨f, e, wf⟩) hv h
end Go.Proofs.Ytdeekpcfmgfmcaa
