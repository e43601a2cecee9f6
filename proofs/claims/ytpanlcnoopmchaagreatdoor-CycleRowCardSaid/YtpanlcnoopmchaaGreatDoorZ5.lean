/- Shared texts, one behind the other: VOr, StP, StP2, StP3, StP4, StP5, StP6, VFam2, LotPl, VSame, BookPl2, VBook, VBook2, VBook3, VBook4, VGrow, VNil, BookPl3, VBook7, VBook8, VBook5, VBook6, VBook9, VBook10, VBook11, BookPl5, CompPl, CyPl, VCy, VSlI, VComp -/
import Derived.Shelf.Spec.SlicesGrow
import Derived.Test.YtpanlcnoopmchaaGreatDoorZ1
import Derived.Test.YtpanlcnoopmchaaGreatDoorZ2
import Derived.Test.YtpanlcnoopmchaaGreatDoorZ3
import Derived.Test.YtpanlcnoopmchaaGreatDoorZ4
set_option linter.unusedVariables false
set_option linter.unusedSimpArgs false
set_option maxRecDepth 100000

namespace Go.Proofs.YtpanlcnoopmchaaGreatDoor
open Go Go.Sort Go.RowKit V
set_option maxHeartbeats 4000000
def orI (u v : Int) : Int := if u = 0 then v else u
theorem v_or (u v : Int) : V.Fn Tryz.prog 88 [.arr 1 2 (ga e1 [u, v])] [.one (.ref 0)] (.int .i64 (orI u v)) := by
  have o1 : ¬ u = 0 → orI u v = u := fun h => if_neg h
  have o2 : u = 0 → orI u v = v := fun h => if_pos h
  refine V.Fn.mk_ V.Tok V.mixed Tryz.func88 rfl Tryz.ntmps88 (by kernel_rfl) rfl rfl ?_
  repeat' ((conv => whnf); first | refine V.NCond.mk ?_ | refine V.NPick.l ?_ | refine V.NIf.not_ ?_ | refine V.NIf.dec_ ?_ | refine V.a4 ?_ | refine V.a5 ?_ | refine V.NIf.mk (fun _ => ?_) (fun _ => ?_) | refine V.a7 ?_ | refine V.a8 ?_ | refine V.a9 ?_ | refine V.NBoth.mk ?_ ?_ | refine V.b1 ?_ | refine V.b2 ?_ | refine V.NTF.dec ?_ | refine V.b3 ?_ | refine V.b4 ?_ | (refine V.NDraw.any (by kernel_rfl) ?_) | fail)
  all_goals (conv => whnf)
  refine V.NLoop.auto (fun (k : Nat) => [(8, .one (.val (.int .i64 k)))]) (fun (k : Nat) => []) [] [] (fun (k : Nat) => 2 - k) (fun (k : Nat) => k ≤ 2 ∧ (0 < k → u = 0) ∧ (1 < k → v = 0)) 0 ⟨Nat.zero_le _, fun h => absurd h (by decide), fun h => absurd h (by decide)⟩ V.S_ V.S_ (fun _ => ⟨rfl, rfl⟩) ?_; (conv => whnf); refine ⟨⟨rfl, rfl⟩, ?_⟩
  rintro k ⟨hk, h1, h2⟩
  match k, hk with
  | 0, _ =>
    repeat' ((conv => whnf); first | refine V.NCond.mk ?_ | refine V.NPick.l ?_ | refine V.NIf.not_ ?_ | refine V.NIf.dec_ ?_ | refine V.a4 ?_ | refine V.a5 ?_ | refine V.NIf.mk (fun _ => ?_) (fun _ => ?_) | refine V.a7 ?_ | refine V.a8 ?_ | refine V.a9 ?_ | refine V.NBoth.mk ?_ ?_ | refine V.b1 ?_ | refine V.b2 ?_ | refine V.NTF.dec ?_ | refine V.b3 ?_ | refine V.b4 ?_ | (refine NIdx.mk ⟨0, rfl, by omega, ?_⟩) | (refine V.NDraw.any (by kernel_rfl) ?_) | fail)
    all_goals (conv => whnf)
    all_goals first
      | exact V.fin1 (o1 (by assumption))
      | (rename_i q; exact V.NBack.at_ 1 [] ⟨by omega, fun _ => q, fun h => absurd h (by decide)⟩ (by omega) V.S_ rfl V.S_ V.S_ V.S_)
  | 1, _ =>
    have := h1 (by decide)
    repeat' ((conv => whnf); first | refine V.NCond.mk ?_ | refine V.NPick.l ?_ | refine V.NIf.not_ ?_ | refine V.NIf.dec_ ?_ | refine V.a4 ?_ | refine V.a5 ?_ | refine V.NIf.mk (fun _ => ?_) (fun _ => ?_) | refine V.a7 ?_ | refine V.a8 ?_ | refine V.a9 ?_ | refine V.NBoth.mk ?_ ?_ | refine V.b1 ?_ | refine V.b2 ?_ | refine V.NTF.dec ?_ | refine V.b3 ?_ | refine V.b4 ?_ | (refine NIdx.mk ⟨1, rfl, by omega, ?_⟩) | (refine V.NDraw.any (by kernel_rfl) ?_) | fail)
    all_goals (conv => whnf)
    all_goals first
      | exact V.fin1 (o2 this)
      | (rename_i q; exact V.NBack.at_ 2 [] ⟨by omega, fun _ => this, fun _ => q⟩ (by omega) V.S_ rfl V.S_ V.S_ V.S_)
  | 2, _ =>
    have a := h1 (by decide)
    have b := h2 (by decide)
    repeat' ((conv => whnf); first | refine V.NCond.mk ?_ | refine V.NPick.l ?_ | refine V.NIf.not_ ?_ | refine V.NIf.dec_ ?_ | refine V.a4 ?_ | refine V.a5 ?_ | refine V.NIf.mk (fun _ => ?_) (fun _ => ?_) | refine V.a7 ?_ | refine V.a8 ?_ | refine V.a9 ?_ | refine V.NBoth.mk ?_ ?_ | refine V.b1 ?_ | refine V.b2 ?_ | refine V.NTF.dec ?_ | refine V.b3 ?_ | refine V.b4 ?_ | (refine V.NDraw.any (by kernel_rfl) ?_) | fail)
    all_goals (conv => whnf)
    exact V.fin1 ((o2 a).trans b)
theorem cmpI_lt' (u v : Int) : decide (cmpI u v < 0) = decide (u < v) := by
  unfold cmpI
  by_cases q : u < v
  · rw [if_pos q]; simp [q]
  · rw [if_neg q]
    by_cases q2 : v < u
    · rw [if_pos q2]; simp; omega
    · rw [if_neg q2]; simp; omega
theorem orI_lt (a b c d : Int) : decide (orI (cmpI a b) (cmpI c d) < 0) = decide (a < b ∨ (a = b ∧ c < d)) := by
  have h1 := cmpI_lt' a b
  have h2 := cmpI_lt' c d
  rw [decide_eq_decide] at h1 h2 ⊢
  have z : cmpI a b = 0 ↔ a = b := by
    unfold cmpI
    by_cases q : a < b
    · rw [if_pos q]; omega
    · rw [if_neg q]
      by_cases q2 : b < a
      · rw [if_pos q2]; omega
      · rw [if_neg q2]; omega
  unfold orI
  by_cases q : cmpI a b = 0
  · rw [if_pos q]
    have := z.1 q
    omega
  · rw [if_neg q]
    have : ¬ a = b := fun e => q (z.2 e)
    omega
end Go.Proofs.YtpanlcnoopmchaaGreatDoor

namespace Go.Proofs.YtpanlcnoopmchaaGreatDoor
open Go Go.Sort Go.RowKit V
set_option maxHeartbeats 4000000
structure PtT where
  q : Po
  tg : Nat
instance : Inhabited PtT := ⟨⟨default, 0⟩⟩
def encTP (x : PtT) : List Go.Value := [.int .i64 x.q.ac, .int .i64 x.q.ut, .int .i64 x.q.am]
theorem arr_getP {d : Array PtT} {k : Nat} : d.toList.getD k default = d[k]! := by
  rw [List.getD_eq_getElem?_getD, Array.getElem?_toList]
  by_cases h : k < d.size
  · rw [getElem!_pos d k h, Array.getElem?_eq_getElem h]; rfl
  · rw [getElem!_neg d k h, Array.getElem?_eq_none (by omega)]; rfl
theorem swp_listP (d : Array PtT) (i j : Nat) : (swp d i j).toList = (d.toList.set i d[j]!).set j d[i]! := by simp [swp]
theorem v_swapP (nx : Nat) (O : Obs) (hT : Tail (nx + 1) O) (g : FuncId) (d : Array PtT) (a b n : Nat) (h1 : a + n ≤ b) (h2 : b + n ≤ d.size) (h3 : d.size ≤ 4611686018427387904) :
    Fam Tryz.prog 125 [.one (.ref 0), .one (.val (.int .i64 ((a : Int)))), .one (.val (.int .i64 ((b : Int)))), .one (.val (.int .i64 ((n : Int)))), .one (.clo g [])] 52 3 d.size (ga encTP d.toList) nx O (fun r => ∃ d', St.Sw a b n d d' ∧ r = ga encTP d'.toList) := by
  refine Fam.mk hT ?_
  refine V.NCall.inl (f := 125) V.Tok V.mixed Tryz.func125 rfl Tryz.ntmps125 (by kernel_rfl) rfl ?_
  repeat' ((conv => whnf); first | refine V.NCond.mk ?_ | refine V.NPick.l ?_ | refine V.NIf.not_ ?_ | refine V.NIf.dec_ ?_ | refine V.a4 ?_ | refine V.a5 ?_ | refine V.NIf.mk (fun _ => ?_) (fun _ => ?_) | refine V.a7 ?_ | refine V.a8 ?_ | refine V.a9 ?_ | refine V.NBoth.mk ?_ ?_ | refine V.b1 ?_ | refine V.b2 ?_ | refine V.NTF.dec ?_ | refine V.b3 ?_ | refine V.b4 ?_ | (refine V.NDraw.any (by kernel_rfl) ?_) | fail)
  all_goals (conv => whnf)
  refine NLoop.fam hT (fun (i : Nat × Array PtT) => [(10, .one (.val (.int .i64 i.1)))]) [(0, .one (.ref 0)), (1, .one (.val (.int .i64 a))), (2, .one (.val (.int .i64 b))), (3, .one (.val (.int .i64 n))), (4, .one (.clo g []))] 52 3 d.size (fun i => ga encTP i.2.toList) (fun i => n - i.1) (fun i => i.1 ≤ n ∧ St.Sw a b i.1 d i.2) (0, d) ⟨Nat.zero_le _, St.Sw.zero a b d⟩ [(0, _)] rfl rfl rfl (fun k hk => rfl) V.S_ (fun _ => rfl) rfl ?_
  rintro ⟨i, d1⟩ ⟨hi, hS⟩
  dsimp only at hi hS ⊢
  by_cases hlt : i < n
  · have st := hS.succ (by omega) (by omega)
    have sz := hS.1
    have e1 := arr_getP (d := d1) (k := a + i)
    have e2 := arr_getP (d := d1) (k := b + i)
    have e3 := swp_listP d1 (a + i) (b + i)
    rw [← e1, ← e2] at e3
    repeat' ((conv => whnf); first | refine V.NCond.mk ?_ | refine V.NPick.l ?_ | refine V.NIf.not_ ?_ | refine V.NIf.dec_ ?_ | refine V.a4 ?_ | refine V.a5 ?_ | refine V.NIf.mk (fun _ => ?_) (fun _ => ?_) | refine V.a7 ?_ | refine V.a8 ?_ | refine V.a9 ?_ | refine V.NBoth.mk ?_ ?_ | refine V.b1 ?_ | refine V.b2 ?_ | refine V.NTF.dec ?_ | refine V.b3 ?_ | refine V.b4 ?_ | (refine NIdx.mk ⟨a + i, by omega, by omega, ?_⟩) | (refine NIdx.mk ⟨b + i, by omega, by omega, ?_⟩) | (refine NPut.is_ (en := encTP) (l := d1.toList) (d1.toList.getD (b + i) default) (d1.toList.set (a + i) (d1.toList.getD (b + i) default)) rfl (by simp [sz]) rfl ?_) | (refine NPut.is_ (en := encTP) (l := d1.toList.set (a + i) (d1.toList.getD (b + i) default)) (d1.toList.getD (a + i) default) (swp d1 (a + i) (b + i)).toList e3.symm (by simp [sz]) rfl ?_) | (refine V.NDraw.any (by kernel_rfl) ?_) | fail)
    all_goals (conv => whnf)
    exact FBack.at_ hT (i + 1, swp d1 (a + i) (b + i)) [(0, _), (0, _), (0, _)] ⟨by dsimp only; omega, st⟩ (by dsimp only; omega) V.S_ rfl rfl rfl (fun k hk => rfl)
  · obtain rfl : i = n := by omega
    repeat' ((conv => whnf); first | refine V.NCond.mk ?_ | refine V.NPick.l ?_ | refine V.NIf.not_ ?_ | refine V.NIf.dec_ ?_ | refine V.a4 ?_ | refine V.a5 ?_ | refine V.NIf.mk (fun _ => ?_) (fun _ => ?_) | refine V.a7 ?_ | refine V.a8 ?_ | refine V.a9 ?_ | refine V.NBoth.mk ?_ ?_ | refine V.b1 ?_ | refine V.b2 ?_ | refine V.NTF.dec ?_ | refine V.b3 ?_ | refine V.b4 ?_ | (refine V.NDraw.any (by kernel_rfl) ?_) | fail)
    all_goals (conv => whnf)
    exact ⟨rfl, rfl, [(0, _)], _, rfl, rfl, rfl, d1, hS, rfl⟩
theorem v_rotP (nx : Nat) (O : Obs) (hT : Tail (nx + 1) O) (g : FuncId) (d : Array PtT) (a m b : Nat) (h1 : a ≤ m) (h2 : m ≤ b) (h3 : b ≤ d.size) (h4 : a < m) (h5 : m < b) (h6 : d.size ≤ 4611686018427387904) :
    Fam Tryz.prog 123 [.one (.ref 0), .one (.val (.int .i64 ((a : Int)))), .one (.val (.int .i64 ((m : Int)))), .one (.val (.int .i64 ((b : Int)))), .one (.clo g [])] 52 3 d.size (ga encTP d.toList) nx O (fun r => ∃ d', St.Rot a m b d d' ∧ r = ga encTP d'.toList) := by
  refine Fam.mk hT ?_
  refine V.NCall.inl (f := 123) V.Tok V.mixed Tryz.func123 rfl Tryz.ntmps123 (by kernel_rfl) rfl ?_
  repeat' ((conv => whnf); first | refine V.NCond.mk ?_ | refine V.NPick.l ?_ | refine V.NIf.not_ ?_ | refine V.NIf.dec_ ?_ | refine V.a4 ?_ | refine V.a5 ?_ | refine V.NIf.mk (fun _ => ?_) (fun _ => ?_) | refine V.a7 ?_ | refine V.a8 ?_ | refine V.a9 ?_ | refine V.NBoth.mk ?_ ?_ | refine V.b1 ?_ | refine V.b2 ?_ | refine V.NTF.dec ?_ | refine V.b3 ?_ | refine V.b4 ?_ | (refine V.NDraw.any (by kernel_rfl) ?_) | fail)
  all_goals (conv => whnf)
  refine NLoop.fam hT (fun (s : Nat × Nat × Array PtT) => [(10, .one (.val (.int .i64 s.1))), (11, .one (.val (.int .i64 s.2.1)))]) [(0, .one (.ref 0)), (1, .one (.val (.int .i64 a))), (2, .one (.val (.int .i64 m))), (3, .one (.val (.int .i64 b))), (4, .one (.clo g []))] 52 3 d.size (fun s => ga encTP s.2.2.toList) (fun s => s.1 + s.2.1) (fun s => 0 < s.1 ∧ 0 < s.2.1 ∧ s.1 ≤ m - a ∧ s.2.1 ≤ b - m ∧ s.2.2.size = d.size ∧ ∀ d', St.Rot (m - s.1) m (m + s.2.1) s.2.2 d' → St.Rot a m b d d') (m - a, b - m, d) ⟨by dsimp only; omega, by dsimp only; omega, Nat.le_refl _, Nat.le_refl _, rfl, fun d' r => by dsimp only at r; rwa [show m - (m - a) = a by omega, show m + (b - m) = b by omega] at r⟩ [(0, _)] rfl rfl rfl (fun k hk => rfl) ?_ (fun _ => rfl) rfl ?_
  · exact ⟨congrArg (fun z : Int => SV.one (At.val (Value.int .i64 z))) (show (m : Int) - a = ((m - a : Nat) : Int) by omega), congrArg (fun z : Int => SV.one (At.val (Value.int .i64 z))) (show (b : Int) - m = ((b - m : Nat) : Int) by omega), rfl, rfl, rfl, rfl, rfl, trivial⟩
  rintro ⟨i, j, d1⟩ ⟨hi0, hj0, hi, hj, sz, hR⟩
  dsimp only at hi0 hj0 hi hj sz hR ⊢
  have k1 : ((m - i : Nat) : Int) = (m : Int) - i := by omega
  by_cases e : i = j
  · subst e
    have c := v_swapP nx O hT g d1 (m - i) m i (by omega) (by omega) (by omega)
    rw [sz, k1] at c
    repeat' ((conv => whnf); first | refine V.NCond.mk ?_ | refine V.NPick.l ?_ | refine V.NIf.not_ ?_ | refine V.NIf.dec_ ?_ | refine V.a4 ?_ | refine V.a5 ?_ | refine V.NIf.mk (fun _ => ?_) (fun _ => ?_) | refine V.a7 ?_ | refine V.a8 ?_ | refine V.a9 ?_ | refine V.NBoth.mk ?_ ?_ | refine V.b1 ?_ | refine V.b2 ?_ | refine V.NTF.dec ?_ | refine V.b3 ?_ | refine V.b4 ?_ | (refine Fam.use c hT [(0, _)] rfl rfl rfl (fun k hk => rfl) ?_; rintro g' ⟨d2, hS, rfl⟩) | (refine V.NDraw.any (by kernel_rfl) ?_) | fail)
    all_goals (conv => whnf)
    exact ⟨rfl, rfl, [(0, _)], _, rfl, rfl, rfl, d2, hR d2 (St.rot_end (by omega) hS), rfl⟩
  · by_cases lt : j < i
    · have c := v_swapP nx O hT g d1 (m - i) m j (by omega) (by omega) (by omega)
      rw [sz, k1] at c
      repeat' ((conv => whnf); first | refine V.NCond.mk ?_ | refine V.NPick.l ?_ | refine V.NIf.not_ ?_ | refine V.NIf.dec_ ?_ | refine V.a4 ?_ | refine V.a5 ?_ | refine V.NIf.mk (fun _ => ?_) (fun _ => ?_) | refine V.a7 ?_ | refine V.a8 ?_ | refine V.a9 ?_ | refine V.NBoth.mk ?_ ?_ | refine V.b1 ?_ | refine V.b2 ?_ | refine V.NTF.dec ?_ | refine V.b3 ?_ | refine V.b4 ?_ | (refine Fam.use c hT [(0, _)] rfl rfl rfl (fun k hk => rfl) ?_; rintro g' ⟨d2, hS, rfl⟩) | (refine V.NDraw.any (by kernel_rfl) ?_) | fail)
      all_goals (conv => whnf)
      exact FBack.at_ hT (i - j, j, d2) [(0, _)] ⟨by dsimp only; omega, hj0, by dsimp only; omega, hj, by dsimp only; rw [hS.1, sz], fun d' r => hR d' (St.rot_left (by omega) hj0 lt hS r)⟩ (by dsimp only; omega) ⟨congrArg (fun z : Int => SV.one (At.val (Value.int .i64 z))) (show (i : Int) - j = ((i - j : Nat) : Int) by omega), rfl, rfl, rfl, rfl, rfl, rfl, trivial⟩ rfl rfl rfl (fun k hk => rfl)
    · have c := v_swapP nx O hT g d1 (m - i) (m + j - i) i (by omega) (by omega) (by omega)
      rw [sz, k1, show ((m + j - i : Nat) : Int) = (m : Int) + j - i by omega] at c
      repeat' ((conv => whnf); first | refine V.NCond.mk ?_ | refine V.NPick.l ?_ | refine V.NIf.not_ ?_ | refine V.NIf.dec_ ?_ | refine V.a4 ?_ | refine V.a5 ?_ | refine V.NIf.mk (fun _ => ?_) (fun _ => ?_) | refine V.a7 ?_ | refine V.a8 ?_ | refine V.a9 ?_ | refine V.NBoth.mk ?_ ?_ | refine V.b1 ?_ | refine V.b2 ?_ | refine V.NTF.dec ?_ | refine V.b3 ?_ | refine V.b4 ?_ | (refine Fam.use c hT [(0, _)] rfl rfl rfl (fun k hk => rfl) ?_; rintro g' ⟨d2, hS, rfl⟩) | (refine V.NDraw.any (by kernel_rfl) ?_) | fail)
      all_goals (conv => whnf)
      exact FBack.at_ hT (i, j - i, d2) [(0, _)] ⟨hi0, by dsimp only; omega, hi, by dsimp only; omega, by dsimp only; rw [hS.1, sz], fun d' r => hR d' (St.rot_right (by omega) hi0 (by omega) hS r)⟩ (by dsimp only; omega) ⟨rfl, congrArg (fun z : Int => SV.one (At.val (Value.int .i64 z))) (show (j : Int) - i = ((j - i : Nat) : Int) by omega), rfl, rfl, rfl, rfl, rfl, trivial⟩ rfl rfl rfl (fun k hk => rfl)
def CmpP (g : FuncId) (cf : PtT → PtT → Int) : Prop := ∀ x y : PtT, V.Fn Tryz.prog g [] [.agg [.val (.int .i64 x.q.ac), .val (.int .i64 x.q.ut), .val (.int .i64 x.q.am)], .agg [.val (.int .i64 y.q.ac), .val (.int .i64 y.q.ut), .val (.int .i64 y.q.am)]] (.int .i64 (cf x y))
def lessP (cf : PtT → PtT → Int) (x y : PtT) : Bool := decide (cf x y < 0)
end Go.Proofs.YtpanlcnoopmchaaGreatDoor

namespace Go.Proofs.YtpanlcnoopmchaaGreatDoor
open Go Go.Sort Go.RowKit V
set_option maxHeartbeats 4000000
theorem v_insP (nx : Nat) (O : Obs) (hT : Tail (nx + 1) O) (g : FuncId) (cf : PtT → PtT → Int) (hc : CmpP g cf) (d : Array PtT) (a b : Nat) (h1 : a ≤ b) (h2 : b ≤ d.size) (h3 : d.size ≤ 4611686018427387904) :
    Fam Tryz.prog 119 [.one (.ref 0), .one (.val (.int .i64 ((a : Int)))), .one (.val (.int .i64 ((b : Int)))), .one (.clo g [])] 52 3 d.size (ga encTP d.toList) nx O (fun r => r = ga encTP (insertionSort (lessP cf) d a b).toList) := by
  refine Fam.mk hT ?_
  refine V.NCall.inl (f := 119) V.Tok V.mixed Tryz.func119 rfl Tryz.ntmps119 (by kernel_rfl) rfl ?_
  repeat' ((conv => whnf); first | refine V.NCond.mk ?_ | refine V.NPick.l ?_ | refine V.NIf.not_ ?_ | refine V.NIf.dec_ ?_ | refine V.a4 ?_ | refine V.a5 ?_ | refine V.NIf.mk (fun _ => ?_) (fun _ => ?_) | refine V.a7 ?_ | refine V.a8 ?_ | refine V.a9 ?_ | refine V.NBoth.mk ?_ ?_ | refine V.b1 ?_ | refine V.b2 ?_ | refine V.NTF.dec ?_ | refine V.b3 ?_ | refine V.b4 ?_ | (refine V.NDraw.any (by kernel_rfl) ?_) | fail)
  all_goals (conv => whnf)
  refine NLoop.fam hT (fun (s : Nat × Array PtT) => [(8, .one (.val (.int .i64 s.1)))]) [(0, .one (.ref 0)), (1, .one (.val (.int .i64 a))), (2, .one (.val (.int .i64 b))), (3, .one (.clo g []))] 52 3 d.size (fun s => ga encTP s.2.toList) (fun s => b + 1 - s.1) (fun s => a + 1 ≤ s.1 ∧ s.2.size = d.size ∧ insOuter (lessP cf) a b s.1 s.2 = insertionSort (lessP cf) d a b) (a + 1, d) ⟨Nat.le_refl _, rfl, rfl⟩ [(0, _)] rfl rfl rfl (fun k hk => rfl) V.S_ (fun _ => rfl) rfl ?_
  rintro ⟨i, d1⟩ ⟨hi, sz, hI⟩
  dsimp only at hi sz hI ⊢
  by_cases hlt : i < b
  · rw [St.outer_go hlt] at hI
    repeat' ((conv => whnf); first | refine V.NCond.mk ?_ | refine V.NPick.l ?_ | refine V.NIf.not_ ?_ | refine V.NIf.dec_ ?_ | refine V.a4 ?_ | refine V.a5 ?_ | refine V.NIf.mk (fun _ => ?_) (fun _ => ?_) | refine V.a7 ?_ | refine V.a8 ?_ | refine V.a9 ?_ | refine V.NBoth.mk ?_ ?_ | refine V.b1 ?_ | refine V.b2 ?_ | refine V.NTF.dec ?_ | refine V.b3 ?_ | refine V.b4 ?_ | (refine V.NDraw.any (by kernel_rfl) ?_) | fail)
    all_goals (conv => whnf)
    refine NLoop.fam hT (fun (s : Nat × Array PtT) => [(9, .one (.val (.int .i64 s.1)))]) [(0, .one (.ref 0)), (1, .one (.val (.int .i64 a))), (2, .one (.val (.int .i64 b))), (3, .one (.clo g [])), (8, .one (.val (.int .i64 i)))] 52 3 d.size (fun s => ga encTP s.2.toList) (fun s => s.1) (fun s => a ≤ s.1 ∧ s.1 ≤ i ∧ s.2.size = d.size ∧ insInner (lessP cf) a s.1 s.2 = insInner (lessP cf) a i d1) (i, d1) ⟨by dsimp only; omega, Nat.le_refl _, sz, rfl⟩ [(0, _)] rfl rfl rfl (fun k hk => rfl) V.S_ (fun _ => rfl) rfl ?_
    rintro ⟨j, d2⟩ ⟨hj, hji, sz2, hI2⟩
    dsimp only at hj hji sz2 hI2 ⊢
    by_cases haj : a < j
    · have e1 := arr_getP (d := d2) (k := j)
      have e2 := arr_getP (d := d2) (k := j - 1)
      have e3 := swp_listP d2 j (j - 1)
      rw [← e1, ← e2] at e3
      have hcc := hc (d2.toList.getD j default) (d2.toList.getD (j - 1) default)
      have g1 := @St.inner_go _ _ (lessP cf) a j d2 haj
      have g2 := @St.inner_stop _ _ (lessP cf) a j d2
      rw [← e1, ← e2] at g1 g2
      unfold lessP at g1 g2
      generalize cf (d2.toList.getD j default) (d2.toList.getD (j - 1) default) = c at *
      repeat' ((conv => whnf); first | refine V.NCond.mk ?_ | refine V.NPick.l ?_ | refine V.NIf.not_ ?_ | refine V.NIf.dec_ ?_ | refine V.a4 ?_ | refine V.a5 ?_ | refine V.NIf.mk (fun _ => ?_) (fun _ => ?_) | refine V.a7 ?_ | refine V.a8 ?_ | refine V.a9 ?_ | refine V.NBoth.mk ?_ ?_ | refine V.b1 ?_ | refine V.b2 ?_ | refine V.NTF.dec ?_ | refine V.b3 ?_ | refine V.b4 ?_ | (refine NIdx.mk ⟨j, by omega, by omega, ?_⟩) | (refine NIdx.mk ⟨j - 1, by omega, by omega, ?_⟩) | (first | refine V.Fn.k0 (hcc) rfl ?_ | refine V.Fn.q0 (hcc) rfl ?_ | refine V.Fn.a0 (hcc) rfl ?_) | (refine NPut.is_ (en := encTP) (l := d2.toList) (d2.toList.getD (j - 1) default) (d2.toList.set j (d2.toList.getD (j - 1) default)) rfl (by simp [sz2]) rfl ?_) | (refine NPut.is_ (en := encTP) (l := d2.toList.set j (d2.toList.getD (j - 1) default)) (d2.toList.getD j default) (swp d2 j (j - 1)).toList e3.symm (by simp [sz2]) rfl ?_) | (refine V.NDraw.any (by kernel_rfl) ?_) | fail)
      all_goals (conv => whnf)
      · have hl : c < 0 := by assumption
        have hg := g1 (decide_eq_true hl)
        exact FBack.at_ hT (j - 1, swp d2 j (j - 1)) [(0, _), (0, _), (0, _)] ⟨by dsimp only; omega, by dsimp only; omega, by dsimp only; rw [size_swp, sz2], hg.symm.trans hI2⟩ (by dsimp only; omega) ⟨congrArg (fun z : Int => SV.one (At.val (Value.int .i64 z))) (show (j : Int) - 1 = ((j - 1 : Nat) : Int) by omega), rfl, rfl, rfl, rfl, rfl, trivial⟩ rfl rfl rfl (fun k hk => rfl)
      · have hl : ¬ c < 0 := by assumption
        have hs := hI2.symm.trans (g2 (.inr (decide_eq_false hl)))
        rw [hs] at hI
        exact FBack.at_ hT (i + 1, d2) [(0, _)] ⟨by dsimp only; omega, sz2, hI⟩ (by dsimp only; omega) V.S_ rfl rfl rfl (fun k hk => rfl)
    · have hs := hI2.symm.trans (@St.inner_stop _ _ (lessP cf) a j d2 (.inl (by omega)))
      rw [hs] at hI
      repeat' ((conv => whnf); first | refine V.NCond.mk ?_ | refine V.NPick.l ?_ | refine V.NIf.not_ ?_ | refine V.NIf.dec_ ?_ | refine V.a4 ?_ | refine V.a5 ?_ | refine V.NIf.mk (fun _ => ?_) (fun _ => ?_) | refine V.a7 ?_ | refine V.a8 ?_ | refine V.a9 ?_ | refine V.NBoth.mk ?_ ?_ | refine V.b1 ?_ | refine V.b2 ?_ | refine V.NTF.dec ?_ | refine V.b3 ?_ | refine V.b4 ?_ | (refine V.NDraw.any (by kernel_rfl) ?_) | fail)
      all_goals (conv => whnf)
      exact FBack.at_ hT (i + 1, d2) [(0, _)] ⟨by dsimp only; omega, sz2, hI⟩ (by dsimp only; omega) V.S_ rfl rfl rfl (fun k hk => rfl)
  · rw [St.outer_stop hlt] at hI
    repeat' ((conv => whnf); first | refine V.NCond.mk ?_ | refine V.NPick.l ?_ | refine V.NIf.not_ ?_ | refine V.NIf.dec_ ?_ | refine V.a4 ?_ | refine V.a5 ?_ | refine V.NIf.mk (fun _ => ?_) (fun _ => ?_) | refine V.a7 ?_ | refine V.a8 ?_ | refine V.a9 ?_ | refine V.NBoth.mk ?_ ?_ | refine V.b1 ?_ | refine V.b2 ?_ | refine V.NTF.dec ?_ | refine V.b3 ?_ | refine V.b4 ?_ | (refine V.NDraw.any (by kernel_rfl) ?_) | fail)
    all_goals (conv => whnf)
    exact ⟨rfl, rfl, [(0, _)], _, rfl, rfl, rfl, by rw [hI]⟩
end Go.Proofs.YtpanlcnoopmchaaGreatDoor

namespace Go.Proofs.YtpanlcnoopmchaaGreatDoor
open Go Go.Sort Go.RowKit V
set_option maxHeartbeats 4000000
theorem v_symAP (nx : Nat) (O : Obs) (hT : Tail (nx + 1) O) (g : FuncId) (cf : PtT → PtT → Int) (hc : CmpP g cf) (lt : PtT → PtT → Bool) (S : SWO lt) (d : Array PtT) (a b : Nat) (h1 : a + 1 < b) (h2 : b ≤ d.size) (h3 : d.size ≤ 4611686018427387903) (H2 : SortedIn lt (a + 1) b d)
    (HT : ∀ j, a + 1 ≤ j → j < b → lessP cf d[j]! d[a]! = lt d[j]! d[a]!) :
    Fam Tryz.prog 120 [.one (.ref 0), .one (.val (.int .i64 ((a : Int)))), .one (.val (.int .i64 (((a + 1 : Nat) : Int)))), .one (.val (.int .i64 ((b : Int)))), .one (.clo g [])] 52 3 d.size (ga encTP d.toList) nx O (fun r => ∃ d', PermIn a b d d' ∧ SortedIn lt a b d' ∧ r = ga encTP d'.toList) := by
  refine Fam.mk hT ?_
  refine V.NCall.inl (f := 120) V.Tok V.mixed Tryz.func120 rfl Tryz.ntmps120 (by kernel_rfl) rfl ?_
  repeat' ((conv => whnf); first | refine V.NCond.mk ?_ | refine V.NPick.l ?_ | refine V.NIf.not_ ?_ | refine V.NIf.dec_ ?_ | refine V.a4 ?_ | refine V.a5 ?_ | refine V.NIf.mk (fun _ => ?_) (fun _ => ?_) | refine V.a7 ?_ | refine V.a8 ?_ | refine V.a9 ?_ | refine V.NBoth.mk ?_ ?_ | refine V.b1 ?_ | refine V.b2 ?_ | refine V.NTF.dec ?_ | refine V.b3 ?_ | refine V.b4 ?_ | (refine V.NDraw.any (by kernel_rfl) ?_) | fail)
  all_goals (conv => whnf)
  refine NLoop.fam hT (fun (s : Nat × Nat) => [(10, .one (.val (.int .i64 s.1))), (11, .one (.val (.int .i64 s.2)))]) [(0, .one (.ref 0)), (1, .one (.val (.int .i64 a))), (2, .one (.val (.int .i64 ((a + 1 : Nat) : Int)))), (3, .one (.val (.int .i64 b))), (4, .one (.clo g []))] 52 3 d.size (fun s => ga encTP d.toList) (fun s => s.2 - s.1) (fun s => a + 1 ≤ s.1 ∧ s.1 ≤ s.2 ∧ s.2 ≤ b ∧ (s.1 = a + 1 ∨ lt d[s.1 - 1]! d[a]! = true) ∧ (s.2 = b ∨ lt d[s.2]! d[a]! = false)) (a + 1, b) ⟨Nat.le_refl _, by dsimp only; omega, Nat.le_refl _, .inl rfl, .inl rfl⟩ [(0, _)] rfl rfl rfl (fun k hk => rfl) V.S_ (fun _ => rfl) rfl ?_
  rintro ⟨i, j⟩ ⟨hi, hij, hj, C1, C2⟩
  dsimp only at hi hij hj C1 C2 ⊢
  by_cases hlt : i < j
  · obtain ⟨h, eh⟩ : ∃ h, h = (i + j) / 2 := ⟨_, rfl⟩
    have h5 : i ≤ h ∧ h < j := by omega
    have e1 := arr_getP (d := d) (k := h)
    have e2 := arr_getP (d := d) (k := a)
    have hcc := hc (d.toList.getD h default) (d.toList.getD a default)
    have ht := HT h (by omega) (by omega)
    rw [← e1, ← e2] at ht
    unfold lessP at ht
    rw [e1, e2] at ht
    rw [← e1, ← e2] at ht
    generalize cf (d.toList.getD h default) (d.toList.getD a default) = c at *
    rw [e1, e2] at ht
    repeat' ((conv => whnf); first | refine V.NCond.mk ?_ | refine V.NPick.l ?_ | refine V.NIf.not_ ?_ | refine V.NIf.dec_ ?_ | refine V.a4 ?_ | refine V.a5 ?_ | refine V.NIf.mk (fun _ => ?_) (fun _ => ?_) | refine V.a7 ?_ | refine V.a8 ?_ | refine V.a9 ?_ | refine V.NBoth.mk ?_ ?_ | refine V.b1 ?_ | refine V.b2 ?_ | refine V.NTF.dec ?_ | refine V.b3 ?_ | refine V.b4 ?_ | (refine NShr.mid ?_; rw [← eh]) | (refine NIdx.mk ⟨h, by omega, by omega, ?_⟩) | (refine NIdx.mk ⟨a, by omega, by omega, ?_⟩) | (first | refine V.Fn.k0 (hcc) rfl ?_ | refine V.Fn.q0 (hcc) rfl ?_ | refine V.Fn.a0 (hcc) rfl ?_) | (refine V.NDraw.any (by kernel_rfl) ?_) | fail)
    all_goals (conv => whnf)
    · have hl : c < 0 := by assumption
      exact FBack.at_ hT (h + 1, j) [(0, _)] ⟨by dsimp only; omega, by dsimp only; omega, hj, .inr (by dsimp only; rw [Nat.add_sub_cancel, ← ht]; exact decide_eq_true hl), C2⟩ (by dsimp only; omega) V.S_ rfl rfl rfl (fun k hk => rfl)
    · have hl : ¬ c < 0 := by assumption
      exact FBack.at_ hT (i, h) [(0, _)] ⟨hi, by dsimp only; omega, by dsimp only; omega, C1, .inr (by dsimp only; rw [← ht]; exact decide_eq_false hl)⟩ (by dsimp only; omega) V.S_ rfl rfl rfl (fun k hk => rfl)
  · obtain rfl : i = j := by omega
    repeat' ((conv => whnf); first | refine V.NCond.mk ?_ | refine V.NPick.l ?_ | refine V.NIf.not_ ?_ | refine V.NIf.dec_ ?_ | refine V.a4 ?_ | refine V.a5 ?_ | refine V.NIf.mk (fun _ => ?_) (fun _ => ?_) | refine V.a7 ?_ | refine V.a8 ?_ | refine V.a9 ?_ | refine V.NBoth.mk ?_ ?_ | refine V.b1 ?_ | refine V.b2 ?_ | refine V.NTF.dec ?_ | refine V.b3 ?_ | refine V.b4 ?_ | (refine V.NDraw.any (by kernel_rfl) ?_) | fail)
    all_goals (conv => whnf)
    refine NLoop.fam hT (fun (s : Nat × Array PtT) => [(13, .one (.val (.int .i64 s.1)))]) [(0, .one (.ref 0)), (10, .one (.val (.int .i64 i)))] 52 3 d.size (fun s => ga encTP s.2.toList) (fun s => i - s.1) (fun s => a ≤ s.1 ∧ s.1 + 1 ≤ i ∧ St.Rot a (a + 1) (s.1 + 1) d s.2) (a, d) ⟨Nat.le_refl _, hi, St.Rot.refl_r⟩ [(0, _)] rfl rfl rfl (fun k hk => rfl) V.S_ (fun _ => rfl) rfl ?_
    rintro ⟨k, d1⟩ ⟨hk, hki, hR⟩
    dsimp only at hk hki hR ⊢
    have sz := hR.1
    by_cases hlt : k + 1 < i
    · have e1 := arr_getP (d := d1) (k := k)
      have e2 := arr_getP (d := d1) (k := k + 1)
      have e3 := swp_listP d1 k (k + 1)
      rw [← e1, ← e2] at e3
      have up := hR.up hk (by omega)
      repeat' ((conv => whnf); first | refine V.NCond.mk ?_ | refine V.NPick.l ?_ | refine V.NIf.not_ ?_ | refine V.NIf.dec_ ?_ | refine V.a4 ?_ | refine V.a5 ?_ | refine V.NIf.mk (fun _ => ?_) (fun _ => ?_) | refine V.a7 ?_ | refine V.a8 ?_ | refine V.a9 ?_ | refine V.NBoth.mk ?_ ?_ | refine V.b1 ?_ | refine V.b2 ?_ | refine V.NTF.dec ?_ | refine V.b3 ?_ | refine V.b4 ?_ | (refine NIdx.mk ⟨k, by omega, by omega, ?_⟩) | (refine NIdx.mk ⟨k + 1, by omega, by omega, ?_⟩) | (refine NPut.is_ (en := encTP) (l := d1.toList) (d1.toList.getD (k + 1) default) (d1.toList.set k (d1.toList.getD (k + 1) default)) rfl (by simp [sz]) rfl ?_) | (refine NPut.is_ (en := encTP) (l := d1.toList.set k (d1.toList.getD (k + 1) default)) (d1.toList.getD k default) (swp d1 k (k + 1)).toList e3.symm (by simp [sz]) rfl ?_) | (refine V.NDraw.any (by kernel_rfl) ?_) | fail)
      all_goals (conv => whnf)
      exact FBack.at_ hT (k + 1, swp d1 k (k + 1)) [(0, _), (0, _), (0, _)] ⟨by dsimp only; omega, by dsimp only; omega, up⟩ (by dsimp only; omega) V.S_ rfl rfl rfl (fun k hk => rfl)
    · obtain rfl : k + 1 = i := by omega
      obtain ⟨P, T⟩ := St.caseA S hR hi hj h2 H2 C1 C2
      repeat' ((conv => whnf); first | refine V.NCond.mk ?_ | refine V.NPick.l ?_ | refine V.NIf.not_ ?_ | refine V.NIf.dec_ ?_ | refine V.a4 ?_ | refine V.a5 ?_ | refine V.NIf.mk (fun _ => ?_) (fun _ => ?_) | refine V.a7 ?_ | refine V.a8 ?_ | refine V.a9 ?_ | refine V.NBoth.mk ?_ ?_ | refine V.b1 ?_ | refine V.b2 ?_ | refine V.NTF.dec ?_ | refine V.b3 ?_ | refine V.b4 ?_ | (refine V.NDraw.any (by kernel_rfl) ?_) | fail)
      all_goals (conv => whnf)
      exact ⟨rfl, rfl, [(0, _)], _, rfl, rfl, rfl, d1, P, T, rfl⟩
theorem v_symBP (nx : Nat) (O : Obs) (hT : Tail (nx + 1) O) (g : FuncId) (cf : PtT → PtT → Int) (hc : CmpP g cf) (lt : PtT → PtT → Bool) (S : SWO lt) (d : Array PtT) (a m : Nat) (h1 : a + 1 < m) (h2 : m + 1 ≤ d.size) (h3 : d.size ≤ 4611686018427387903) (H1 : SortedIn lt a m d)
    (HT : ∀ i, a ≤ i → i < m → lessP cf d[m]! d[i]! = lt d[m]! d[i]!) :
    Fam Tryz.prog 120 [.one (.ref 0), .one (.val (.int .i64 ((a : Int)))), .one (.val (.int .i64 ((m : Int)))), .one (.val (.int .i64 (((m + 1 : Nat) : Int)))), .one (.clo g [])] 52 3 d.size (ga encTP d.toList) nx O (fun r => ∃ d', PermIn a (m + 1) d d' ∧ SortedIn lt a (m + 1) d' ∧ r = ga encTP d'.toList) := by
  refine Fam.mk hT ?_
  refine V.NCall.inl (f := 120) V.Tok V.mixed Tryz.func120 rfl Tryz.ntmps120 (by kernel_rfl) rfl ?_
  repeat' ((conv => whnf); first | refine V.NCond.mk ?_ | refine V.NPick.l ?_ | refine V.NIf.not_ ?_ | refine V.NIf.dec_ ?_ | refine V.a4 ?_ | refine V.a5 ?_ | refine V.NIf.mk (fun _ => ?_) (fun _ => ?_) | refine V.a7 ?_ | refine V.a8 ?_ | refine V.a9 ?_ | refine V.NBoth.mk ?_ ?_ | refine V.b1 ?_ | refine V.b2 ?_ | refine V.NTF.dec ?_ | refine V.b3 ?_ | refine V.b4 ?_ | (refine V.NDraw.any (by kernel_rfl) ?_) | fail)
  all_goals (conv => whnf)
  refine NLoop.fam hT (fun (s : Nat × Nat) => [(14, .one (.val (.int .i64 s.1))), (15, .one (.val (.int .i64 s.2)))]) [(0, .one (.ref 0)), (1, .one (.val (.int .i64 a))), (2, .one (.val (.int .i64 m))), (3, .one (.val (.int .i64 ((m + 1 : Nat) : Int)))), (4, .one (.clo g []))] 52 3 d.size (fun s => ga encTP d.toList) (fun s => s.2 - s.1) (fun s => a ≤ s.1 ∧ s.1 ≤ s.2 ∧ s.2 ≤ m ∧ (s.1 = a ∨ lt d[m]! d[s.1 - 1]! = false) ∧ (s.2 = m ∨ lt d[m]! d[s.2]! = true)) (a, m) ⟨Nat.le_refl _, by dsimp only; omega, Nat.le_refl _, .inl rfl, .inl rfl⟩ [(0, _)] rfl rfl rfl (fun k hk => rfl) V.S_ (fun _ => rfl) rfl ?_
  rintro ⟨i, j⟩ ⟨hi, hij, hj, C1, C2⟩
  dsimp only at hi hij hj C1 C2 ⊢
  by_cases hlt : i < j
  · obtain ⟨h, eh⟩ : ∃ h, h = (i + j) / 2 := ⟨_, rfl⟩
    have h5 : i ≤ h ∧ h < j := by omega
    have e1 := arr_getP (d := d) (k := m)
    have e2 := arr_getP (d := d) (k := h)
    have hcc := hc (d.toList.getD m default) (d.toList.getD h default)
    have ht := HT h (by omega) (by omega)
    rw [← e1, ← e2] at ht
    unfold lessP at ht
    generalize cf (d.toList.getD m default) (d.toList.getD h default) = c at *
    rw [e1, e2] at ht
    repeat' ((conv => whnf); first | refine V.NCond.mk ?_ | refine V.NPick.l ?_ | refine V.NIf.not_ ?_ | refine V.NIf.dec_ ?_ | refine V.a4 ?_ | refine V.a5 ?_ | refine V.NIf.mk (fun _ => ?_) (fun _ => ?_) | refine V.a7 ?_ | refine V.a8 ?_ | refine V.a9 ?_ | refine V.NBoth.mk ?_ ?_ | refine V.b1 ?_ | refine V.b2 ?_ | refine V.NTF.dec ?_ | refine V.b3 ?_ | refine V.b4 ?_ | (refine NShr.mid ?_; rw [← eh]) | (refine NIdx.mk ⟨m, by omega, by omega, ?_⟩) | (refine NIdx.mk ⟨h, by omega, by omega, ?_⟩) | (first | refine V.Fn.k0 (hcc) rfl ?_ | refine V.Fn.q0 (hcc) rfl ?_ | refine V.Fn.a0 (hcc) rfl ?_) | (refine V.NDraw.any (by kernel_rfl) ?_) | fail)
    all_goals (conv => whnf)
    · have hl : c < 0 := by assumption
      exact FBack.at_ hT (i, h) [(0, _)] ⟨hi, by dsimp only; omega, by dsimp only; omega, C1, .inr (by dsimp only; rw [← ht]; exact decide_eq_true hl)⟩ (by dsimp only; omega) V.S_ rfl rfl rfl (fun k hk => rfl)
    · have hl : ¬ c < 0 := by assumption
      exact FBack.at_ hT (h + 1, j) [(0, _)] ⟨by dsimp only; omega, by dsimp only; omega, hj, .inr (by dsimp only; rw [Nat.add_sub_cancel, ← ht]; exact decide_eq_false hl), C2⟩ (by dsimp only; omega) V.S_ rfl rfl rfl (fun k hk => rfl)
  · obtain rfl : i = j := by omega
    repeat' ((conv => whnf); first | refine V.NCond.mk ?_ | refine V.NPick.l ?_ | refine V.NIf.not_ ?_ | refine V.NIf.dec_ ?_ | refine V.a4 ?_ | refine V.a5 ?_ | refine V.NIf.mk (fun _ => ?_) (fun _ => ?_) | refine V.a7 ?_ | refine V.a8 ?_ | refine V.a9 ?_ | refine V.NBoth.mk ?_ ?_ | refine V.b1 ?_ | refine V.b2 ?_ | refine V.NTF.dec ?_ | refine V.b3 ?_ | refine V.b4 ?_ | (refine V.NDraw.any (by kernel_rfl) ?_) | fail)
    all_goals (conv => whnf)
    refine NLoop.fam hT (fun (s : Nat × Array PtT) => [(17, .one (.val (.int .i64 s.1)))]) [(0, .one (.ref 0)), (14, .one (.val (.int .i64 i)))] 52 3 d.size (fun s => ga encTP s.2.toList) (fun s => s.1) (fun s => i ≤ s.1 ∧ s.1 ≤ m ∧ St.Rot s.1 m (m + 1) d s.2) (m, d) ⟨hj, Nat.le_refl _, St.Rot.refl_l⟩ [(0, _)] rfl rfl rfl (fun k hk => rfl) V.S_ (fun _ => rfl) rfl ?_
    rintro ⟨k, d1⟩ ⟨hk, hki, hR⟩
    dsimp only at hk hki hR ⊢
    have sz := hR.1
    by_cases hlt : i < k
    · obtain ⟨q, rfl⟩ : ∃ q, k = q + 1 := ⟨k - 1, by omega⟩
      have e1 := arr_getP (d := d1) (k := q + 1)
      have e2 := arr_getP (d := d1) (k := q)
      have e3 := swp_listP d1 (q + 1) q
      rw [← e1, ← e2] at e3
      have dn := hR.down (i := i) (by omega) (by omega)
      repeat' ((conv => whnf); first | refine V.NCond.mk ?_ | refine V.NPick.l ?_ | refine V.NIf.not_ ?_ | refine V.NIf.dec_ ?_ | refine V.a4 ?_ | refine V.a5 ?_ | refine V.NIf.mk (fun _ => ?_) (fun _ => ?_) | refine V.a7 ?_ | refine V.a8 ?_ | refine V.a9 ?_ | refine V.NBoth.mk ?_ ?_ | refine V.b1 ?_ | refine V.b2 ?_ | refine V.NTF.dec ?_ | refine V.b3 ?_ | refine V.b4 ?_ | (refine NIdx.mk ⟨q + 1, by omega, by omega, ?_⟩) | (refine NIdx.mk ⟨q, by omega, by omega, ?_⟩) | (refine NPut.is_ (en := encTP) (l := d1.toList) (d1.toList.getD q default) (d1.toList.set (q + 1) (d1.toList.getD q default)) rfl (by simp [sz]) rfl ?_) | (refine NPut.is_ (en := encTP) (l := d1.toList.set (q + 1) (d1.toList.getD q default)) (d1.toList.getD (q + 1) default) (swp d1 (q + 1) q).toList e3.symm (by simp [sz]) rfl ?_) | (refine V.NDraw.any (by kernel_rfl) ?_) | fail)
      all_goals (conv => whnf)
      exact FBack.at_ hT (q, swp d1 (q + 1) q) [(0, _), (0, _), (0, _)] ⟨by dsimp only; omega, by dsimp only; omega, dn⟩ (by dsimp only; omega) ⟨congrArg (fun z : Int => SV.one (At.val (Value.int .i64 z))) (show ((q + 1 : Nat) : Int) - 1 = (q : Int) by omega), rfl, rfl, trivial⟩ rfl rfl rfl (fun k hk => rfl)
    · obtain rfl : k = i := by omega
      obtain ⟨P, T⟩ := St.caseB S hR hi hj h2 H1 C1 C2
      repeat' ((conv => whnf); first | refine V.NCond.mk ?_ | refine V.NPick.l ?_ | refine V.NIf.not_ ?_ | refine V.NIf.dec_ ?_ | refine V.a4 ?_ | refine V.a5 ?_ | refine V.NIf.mk (fun _ => ?_) (fun _ => ?_) | refine V.a7 ?_ | refine V.a8 ?_ | refine V.a9 ?_ | refine V.NBoth.mk ?_ ?_ | refine V.b1 ?_ | refine V.b2 ?_ | refine V.NTF.dec ?_ | refine V.b3 ?_ | refine V.b4 ?_ | (refine V.NDraw.any (by kernel_rfl) ?_) | fail)
      all_goals (conv => whnf)
      exact ⟨rfl, rfl, [(0, _)], _, rfl, rfl, rfl, d1, P, T, rfl⟩
end Go.Proofs.YtpanlcnoopmchaaGreatDoor

namespace Go.Proofs.YtpanlcnoopmchaaGreatDoor
open Go Go.Sort Go.RowKit V
set_option maxHeartbeats 4000000
theorem v_symC1P (nx : Nat) (O : Obs) (hT : Tail (nx + 1) O) (g : FuncId) (cf : PtT → PtT → Int) (hc : CmpP g cf) (lt : PtT → PtT → Bool) (S : SWO lt) (d : Array PtT) (a m b : Nat) (h0 : a + 1 < m) (h1 : m + 1 < b) (h2 : b ≤ d.size) (h3 : d.size ≤ 2305843009213693951) (H1 : SortedIn lt a m d) (H2 : SortedIn lt m b d)
    (HT : ∀ i j, a ≤ i → i < m → m ≤ j → j < b → lessP cf d[j]! d[i]! = lt d[j]! d[i]!) (hm : (a + b) / 2 < m)
    (ih : ∀ (e : Array PtT) (x y z : Nat), z - x < b - a → a ≤ x → x < y → y < z → z ≤ b → e.size = d.size → SortedIn lt x y e → SortedIn lt y z e → (∀ i j, x ≤ i → i < y → y ≤ j → j < z → lessP cf e[j]! e[i]! = lt e[j]! e[i]!) →
      Fam Tryz.prog 120 [.one (.ref 0), .one (.val (.int .i64 ((x : Int)))), .one (.val (.int .i64 ((y : Int)))), .one (.val (.int .i64 ((z : Int)))), .one (.clo g [])] 52 3 d.size (ga encTP e.toList) nx O (fun r => ∃ d', PermIn x z e d' ∧ SortedIn lt x z d' ∧ r = ga encTP d'.toList)) :
    Fam Tryz.prog 120 [.one (.ref 0), .one (.val (.int .i64 ((a : Int)))), .one (.val (.int .i64 ((m : Int)))), .one (.val (.int .i64 ((b : Int)))), .one (.clo g [])] 52 3 d.size (ga encTP d.toList) nx O (fun r => ∃ d', PermIn a b d d' ∧ SortedIn lt a b d' ∧ r = ga encTP d'.toList) := by
  refine Fam.mk hT ?_
  refine V.NCall.inl (f := 120) V.Tok V.mixed Tryz.func120 rfl Tryz.ntmps120 (by kernel_rfl) rfl ?_
  obtain ⟨mid, em⟩ : ∃ mid, mid = (a + b) / 2 := ⟨_, rfl⟩
  have bm : a < mid ∧ mid < b := by omega
  have bm2 : 2 * mid ≤ a + b ∧ a + b ≤ 2 * mid + 1 := by omega
  repeat' ((conv => whnf); first | refine V.NCond.mk ?_ | refine V.NPick.l ?_ | refine V.NIf.not_ ?_ | refine V.NIf.dec_ ?_ | refine V.a4 ?_ | refine V.a5 ?_ | refine V.NIf.mk (fun _ => ?_) (fun _ => ?_) | refine V.a7 ?_ | refine V.a8 ?_ | refine V.a9 ?_ | refine V.NBoth.mk ?_ ?_ | refine V.b1 ?_ | refine V.b2 ?_ | refine V.NTF.dec ?_ | refine V.b3 ?_ | refine V.b4 ?_ | (refine NShr.mid ?_; rw [← em]) | (refine V.NDraw.any (by kernel_rfl) ?_) | fail)
  all_goals (conv => whnf)
  refine NLoop.fam hT (fun (s : Nat × Nat) => [(20, .one (.val (.int .i64 s.1))), (21, .one (.val (.int .i64 s.2)))]) [(0, .one (.ref 0)), (1, .one (.val (.int .i64 a))), (2, .one (.val (.int .i64 m))), (3, .one (.val (.int .i64 b))), (4, .one (.clo g [])), (18, .one (.val (.int .i64 mid))), (19, .one (.val (.int .i64 ((mid : Int) + m)))), (22, .one (.val (.int .i64 ((mid : Int) + m - 1))))] 52 3 d.size (fun s => ga encTP d.toList) (fun s => s.2 - s.1) (fun s => (mid + m - b) ≤ s.1 ∧ s.1 ≤ s.2 ∧ s.2 ≤ mid ∧ (s.1 = (mid + m - b) ∨ lt d[mid + m - s.1]! d[s.1 - 1]! = false) ∧ (s.2 = mid ∨ lt d[mid + m - 1 - s.2]! d[s.2]! = true)) ((mid + m - b), mid) ⟨Nat.le_refl _, by dsimp only; omega, Nat.le_refl _, .inl rfl, .inl rfl⟩ [(0, _)] rfl rfl rfl (fun k hk => rfl) ⟨congrArg (fun z : Int => SV.one (At.val (Value.int .i64 z))) (show (mid : Int) + m - b = ((mid + m - b : Nat) : Int) by omega), rfl, rfl, rfl, rfl, rfl, rfl, rfl, rfl, rfl, trivial⟩ (fun _ => rfl) rfl ?_
  rintro ⟨i, j⟩ ⟨hi, hij, hj, C1, C2⟩
  dsimp only at hi hij hj C1 C2 ⊢
  by_cases hlt : i < j
  · obtain ⟨h, eh⟩ : ∃ h, h = (i + j) / 2 := ⟨_, rfl⟩
    have h5 : i ≤ h ∧ h < j := by omega
    obtain ⟨k, ek⟩ : ∃ k, k = mid + m - 1 - h := ⟨_, rfl⟩
    have h6 : m ≤ k ∧ k < b := by omega
    have h7 : a ≤ h ∧ h < m := by omega
    have e1 := arr_getP (d := d) (k := k)
    have e2 := arr_getP (d := d) (k := h)
    have hcc := hc (d.toList.getD k default) (d.toList.getD h default)
    have ht := HT h k h7.1 h7.2 h6.1 h6.2
    rw [← e1, ← e2] at ht
    unfold lessP at ht
    generalize cf (d.toList.getD k default) (d.toList.getD h default) = c at *
    rw [e1, e2] at ht
    repeat' ((conv => whnf); first | refine V.NCond.mk ?_ | refine V.NPick.l ?_ | refine V.NIf.not_ ?_ | refine V.NIf.dec_ ?_ | refine V.a4 ?_ | refine V.a5 ?_ | refine V.NIf.mk (fun _ => ?_) (fun _ => ?_) | refine V.a7 ?_ | refine V.a8 ?_ | refine V.a9 ?_ | refine V.NBoth.mk ?_ ?_ | refine V.b1 ?_ | refine V.b2 ?_ | refine V.NTF.dec ?_ | refine V.b3 ?_ | refine V.b4 ?_ | (refine NShr.mid ?_; rw [← eh]) | (refine NIdx.mk ⟨k, by omega, by omega, ?_⟩) | (refine NIdx.mk ⟨h, by omega, by omega, ?_⟩) | (first | refine V.Fn.k0 (hcc) rfl ?_ | refine V.Fn.q0 (hcc) rfl ?_ | refine V.Fn.a0 (hcc) rfl ?_) | (refine V.NDraw.any (by kernel_rfl) ?_) | fail)
    all_goals (conv => whnf)
    · have hl : c < 0 := by assumption
      exact FBack.at_ hT (i, h) [(0, _)] ⟨hi, by dsimp only; omega, by dsimp only; omega, C1, .inr (by dsimp only; rw [← ek, ← ht]; exact decide_eq_true hl)⟩ (by dsimp only; omega) V.S_ rfl rfl rfl (fun k hk => rfl)
    · have hl : ¬ c < 0 := by assumption
      exact FBack.at_ hT (h + 1, j) [(0, _)] ⟨by dsimp only; omega, by dsimp only; omega, hj, .inr (by dsimp only; rw [Nat.add_sub_cancel, show mid + m - (h + 1) = k by omega, ← ht]; exact decide_eq_false hl), C2⟩ (by dsimp only; omega) V.S_ rfl rfl rfl (fun k hk => rfl)
  · obtain rfl : i = j := by omega
    clear hlt hij
    obtain ⟨e, ee⟩ : ∃ e, e = mid + m - i := ⟨_, rfl⟩
    have hai : a ≤ i := by omega
    have sm : i ≤ m := by omega
    have me : m ≤ e := by omega
    have eb : e ≤ b := by omega
    have ec : i + (e - m) = mid := by omega
    have ei : (mid : Int) + m - i = (e : Int) := by omega
    have D1 : a < i → e < b → lt d[e]! d[i - 1]! = false := fun q1 q2 => by
      rcases C1 with z | z
      · omega
      · rwa [← ee] at z
    have D2 : m < e → i < m → lt d[e - 1]! d[i]! = true := fun q1 q2 => by
      rcases C2 with z | z
      · omega
      · rwa [show mid + m - 1 - i = e - 1 by omega] at z
    clear C1 C2 hi hj
    have fin : ∀ d1 d2 d3 : Array PtT, St.Rot i m e d d1 → PermIn a mid d1 d2 → SortedIn lt a mid d2 → PermIn mid b d2 d3 → SortedIn lt mid b d3 → PermIn a b d d3 ∧ SortedIn lt a b d3 := fun d1 d2 d3 r P2 S2 P3 S3 => by
      have X := St.cross S r hai sm me eb H1 H2 D1 D2
      rw [ec] at X
      have hv := St.halves (lt := lt) (by omega) (by omega) (by rw [r.1]; exact h2) X P2 S2 P3 S3
      exact ⟨permIn_trans _ _ _ _ _ (permIn_mono _ _ _ _ a b hai eb h2 (r.perm sm me (by omega))) hv.1, hv.2⟩
    have parts : ∀ d1 : Array PtT, St.Rot i m e d d1 → (SortedIn lt a i d1 ∧ SortedIn lt i mid d1 ∧ SortedIn lt mid e d1 ∧ SortedIn lt e b d1) ∧ (∀ p q, a ≤ p → p < i → i ≤ q → q < mid → lessP cf d1[q]! d1[p]! = lt d1[q]! d1[p]!) ∧ (∀ p q, mid ≤ p → p < e → e ≤ q → q < b → lessP cf d1[q]! d1[p]! = lt d1[q]! d1[p]!) := fun d1 r => by
      have A := St.runs r hai sm me eb H1 H2
      have B := St.tests (p := fun x y => lessP cf x y = lt x y) r hai sm me eb HT
      rw [ec] at A B
      exact ⟨A, B⟩
    clear D1 D2
    by_cases q1 : i < m ∧ m < e
    · have c1 := v_rotP nx O hT g d i m e sm me (by omega) q1.1 q1.2 (by omega)
      rw [← ei] at c1
      by_cases q2 : a < i ∧ i < mid
      · by_cases q3 : mid < e ∧ e < b
        · first
            | (exfalso; omega)
            | (repeat' ((conv => whnf); first | (refine V.NIf.yes ?_ ?_; · (decide; done)) | (refine V.NIf.no ?_ ?_; · (decide; done)) | refine V.NCond.mk ?_ | refine V.NPick.l ?_ | refine V.NIf.not_ ?_ | refine V.NIf.dec_ ?_ | refine V.a4 ?_ | refine V.a5 ?_ | refine V.NIf.mk (fun _ => ?_) (fun _ => ?_) | refine V.a7 ?_ | refine V.a8 ?_ | refine V.a9 ?_ | refine V.NBoth.mk ?_ ?_ | refine V.b1 ?_ | refine V.b2 ?_ | refine V.NTF.dec ?_ | refine V.b3 ?_ | refine V.b4 ?_ | (refine Fam.use c1 hT [(0, _)] rfl rfl rfl (fun k hk => rfl) ?_; rintro g1 ⟨d1, r0, rfl⟩; obtain ⟨⟨A1, A2, A3, A4⟩, B1, B2⟩ := parts d1 r0; have z1 : d1.size = d.size := r0.1) | (have c2 := ih d1 a i mid (by omega) (Nat.le_refl _) q2.1 q2.2 (by omega) z1 A1 A2 B1; refine Fam.use c2 hT [(0, _)] rfl rfl rfl (fun k hk => rfl) ?_; rintro g2 ⟨d2, P2, S2, rfl⟩; have A3' := St.sorted_perm A3 P2 (.inr (Nat.le_refl _)); have A4' := St.sorted_perm A4 P2 (.inr (by omega)); have z2 : d2.size = d.size := P2.1.trans z1; have B2' : ∀ p q, mid ≤ p → p < e → e ≤ q → q < b → lessP cf d2[q]! d2[p]! = lt d2[q]! d2[p]! := fun p q h1 h2 h3 h4 => (by rw [P2.2.1 p (by omega), P2.2.1 q (by omega)]; exact B2 p q h1 h2 h3 h4)) | (have c3 := ih d2 mid e b (by omega) (by omega) q3.1 q3.2 (Nat.le_refl _) z2 A3' A4' B2'; rw [← ei] at c3; refine Fam.use c3 hT [(0, _)] rfl rfl rfl (fun k hk => rfl) ?_; rintro g3 ⟨d3, P3, S3, rfl⟩) | (refine V.NDraw.any (by kernel_rfl) ?_) | fail)
               all_goals (conv => whnf)
               have F := fin d1 d2 d3 r0 P2 S2 P3 S3
               exact ⟨rfl, rfl, [(0, _)], _, rfl, rfl, rfl, d3, F.1, F.2, rfl⟩)
        · first
            | (exfalso; omega)
            | (repeat' ((conv => whnf); first | (refine V.NIf.yes ?_ ?_; · (decide; done)) | (refine V.NIf.no ?_ ?_; · (decide; done)) | refine V.NCond.mk ?_ | refine V.NPick.l ?_ | refine V.NIf.not_ ?_ | refine V.NIf.dec_ ?_ | refine V.a4 ?_ | refine V.a5 ?_ | refine V.NIf.mk (fun _ => ?_) (fun _ => ?_) | refine V.a7 ?_ | refine V.a8 ?_ | refine V.a9 ?_ | refine V.NBoth.mk ?_ ?_ | refine V.b1 ?_ | refine V.b2 ?_ | refine V.NTF.dec ?_ | refine V.b3 ?_ | refine V.b4 ?_ | (refine Fam.use c1 hT [(0, _)] rfl rfl rfl (fun k hk => rfl) ?_; rintro g1 ⟨d1, r0, rfl⟩; obtain ⟨⟨A1, A2, A3, A4⟩, B1, B2⟩ := parts d1 r0; have z1 : d1.size = d.size := r0.1) | (have c2 := ih d1 a i mid (by omega) (Nat.le_refl _) q2.1 q2.2 (by omega) z1 A1 A2 B1; refine Fam.use c2 hT [(0, _)] rfl rfl rfl (fun k hk => rfl) ?_; rintro g2 ⟨d2, P2, S2, rfl⟩; have A3' := St.sorted_perm A3 P2 (.inr (Nat.le_refl _)); have A4' := St.sorted_perm A4 P2 (.inr (by omega)); have z2 : d2.size = d.size := P2.1.trans z1; have B2' : ∀ p q, mid ≤ p → p < e → e ≤ q → q < b → lessP cf d2[q]! d2[p]! = lt d2[q]! d2[p]! := fun p q h1 h2 h3 h4 => (by rw [P2.2.1 p (by omega), P2.2.1 q (by omega)]; exact B2 p q h1 h2 h3 h4)) | (refine V.NDraw.any (by kernel_rfl) ?_) | fail)
               all_goals (conv => whnf)
               have F := fin d1 d2 d2 r0 P2 S2 (permIn_refl _ _ _) (St.sorted_one A3' A4' (by omega) eb q3)
               exact ⟨rfl, rfl, [(0, _)], _, rfl, rfl, rfl, d2, F.1, F.2, rfl⟩)
      · by_cases q3 : mid < e ∧ e < b
        · first
            | (exfalso; omega)
            | (repeat' ((conv => whnf); first | (refine V.NIf.yes ?_ ?_; · (decide; done)) | (refine V.NIf.no ?_ ?_; · (decide; done)) | refine V.NCond.mk ?_ | refine V.NPick.l ?_ | refine V.NIf.not_ ?_ | refine V.NIf.dec_ ?_ | refine V.a4 ?_ | refine V.a5 ?_ | refine V.NIf.mk (fun _ => ?_) (fun _ => ?_) | refine V.a7 ?_ | refine V.a8 ?_ | refine V.a9 ?_ | refine V.NBoth.mk ?_ ?_ | refine V.b1 ?_ | refine V.b2 ?_ | refine V.NTF.dec ?_ | refine V.b3 ?_ | refine V.b4 ?_ | (refine Fam.use c1 hT [(0, _)] rfl rfl rfl (fun k hk => rfl) ?_; rintro g1 ⟨d1, r0, rfl⟩; obtain ⟨⟨A1, A2, A3, A4⟩, B1, B2⟩ := parts d1 r0; have z1 : d1.size = d.size := r0.1) | (have c3 := ih d1 mid e b (by omega) (by omega) q3.1 q3.2 (Nat.le_refl _) z1 A3 A4 B2; rw [← ei] at c3; refine Fam.use c3 hT [(0, _)] rfl rfl rfl (fun k hk => rfl) ?_; rintro g3 ⟨d3, P3, S3, rfl⟩) | (refine V.NDraw.any (by kernel_rfl) ?_) | fail)
               all_goals (conv => whnf)
               have F := fin d1 d1 d3 r0 (permIn_refl _ _ _) (St.sorted_one A1 A2 hai (by omega) q2) P3 S3
               exact ⟨rfl, rfl, [(0, _)], _, rfl, rfl, rfl, d3, F.1, F.2, rfl⟩)
        · first
            | (exfalso; omega)
            | (repeat' ((conv => whnf); first | (refine V.NIf.yes ?_ ?_; · (decide; done)) | (refine V.NIf.no ?_ ?_; · (decide; done)) | refine V.NCond.mk ?_ | refine V.NPick.l ?_ | refine V.NIf.not_ ?_ | refine V.NIf.dec_ ?_ | refine V.a4 ?_ | refine V.a5 ?_ | refine V.NIf.mk (fun _ => ?_) (fun _ => ?_) | refine V.a7 ?_ | refine V.a8 ?_ | refine V.a9 ?_ | refine V.NBoth.mk ?_ ?_ | refine V.b1 ?_ | refine V.b2 ?_ | refine V.NTF.dec ?_ | refine V.b3 ?_ | refine V.b4 ?_ | (refine Fam.use c1 hT [(0, _)] rfl rfl rfl (fun k hk => rfl) ?_; rintro g1 ⟨d1, r0, rfl⟩; obtain ⟨⟨A1, A2, A3, A4⟩, B1, B2⟩ := parts d1 r0; have z1 : d1.size = d.size := r0.1) | (refine V.NDraw.any (by kernel_rfl) ?_) | fail)
               all_goals (conv => whnf)
               have F := fin d1 d1 d1 r0 (permIn_refl _ _ _) (St.sorted_one A1 A2 hai (by omega) q2) (permIn_refl _ _ _) (St.sorted_one A3 A4 (by omega) eb q3)
               exact ⟨rfl, rfl, [(0, _)], _, rfl, rfl, rfl, d1, F.1, F.2, rfl⟩)
    · have r0 : St.Rot i m e d d := by
        by_cases z : i = m
        · subst z; exact St.Rot.refl_l
        · obtain rfl : m = e := by omega
          exact St.Rot.refl_r
      by_cases q2 : a < i ∧ i < mid
      · by_cases q3 : mid < e ∧ e < b
        · first
            | (exfalso; omega)
            | (obtain ⟨⟨A1, A2, A3, A4⟩, B1, B2⟩ := parts d r0
               have z1 : d.size = d.size := rfl
               repeat' ((conv => whnf); first | (refine V.NIf.yes ?_ ?_; · (decide; done)) | (refine V.NIf.no ?_ ?_; · (decide; done)) | refine V.NCond.mk ?_ | refine V.NPick.l ?_ | refine V.NIf.not_ ?_ | refine V.NIf.dec_ ?_ | refine V.a4 ?_ | refine V.a5 ?_ | refine V.NIf.mk (fun _ => ?_) (fun _ => ?_) | refine V.a7 ?_ | refine V.a8 ?_ | refine V.a9 ?_ | refine V.NBoth.mk ?_ ?_ | refine V.b1 ?_ | refine V.b2 ?_ | refine V.NTF.dec ?_ | refine V.b3 ?_ | refine V.b4 ?_ | (have c2 := ih d a i mid (by omega) (Nat.le_refl _) q2.1 q2.2 (by omega) z1 A1 A2 B1; refine Fam.use c2 hT [(0, _)] rfl rfl rfl (fun k hk => rfl) ?_; rintro g2 ⟨d2, P2, S2, rfl⟩; have A3' := St.sorted_perm A3 P2 (.inr (Nat.le_refl _)); have A4' := St.sorted_perm A4 P2 (.inr (by omega)); have z2 : d2.size = d.size := P2.1.trans z1; have B2' : ∀ p q, mid ≤ p → p < e → e ≤ q → q < b → lessP cf d2[q]! d2[p]! = lt d2[q]! d2[p]! := fun p q h1 h2 h3 h4 => (by rw [P2.2.1 p (by omega), P2.2.1 q (by omega)]; exact B2 p q h1 h2 h3 h4)) | (have c3 := ih d2 mid e b (by omega) (by omega) q3.1 q3.2 (Nat.le_refl _) z2 A3' A4' B2'; rw [← ei] at c3; refine Fam.use c3 hT [(0, _)] rfl rfl rfl (fun k hk => rfl) ?_; rintro g3 ⟨d3, P3, S3, rfl⟩) | (refine V.NDraw.any (by kernel_rfl) ?_) | fail)
               all_goals (conv => whnf)
               have F := fin d d2 d3 r0 P2 S2 P3 S3
               exact ⟨rfl, rfl, [(0, _)], _, rfl, rfl, rfl, d3, F.1, F.2, rfl⟩)
        · first
            | (exfalso; omega)
            | (obtain ⟨⟨A1, A2, A3, A4⟩, B1, B2⟩ := parts d r0
               have z1 : d.size = d.size := rfl
               repeat' ((conv => whnf); first | (refine V.NIf.yes ?_ ?_; · (decide; done)) | (refine V.NIf.no ?_ ?_; · (decide; done)) | refine V.NCond.mk ?_ | refine V.NPick.l ?_ | refine V.NIf.not_ ?_ | refine V.NIf.dec_ ?_ | refine V.a4 ?_ | refine V.a5 ?_ | refine V.NIf.mk (fun _ => ?_) (fun _ => ?_) | refine V.a7 ?_ | refine V.a8 ?_ | refine V.a9 ?_ | refine V.NBoth.mk ?_ ?_ | refine V.b1 ?_ | refine V.b2 ?_ | refine V.NTF.dec ?_ | refine V.b3 ?_ | refine V.b4 ?_ | (have c2 := ih d a i mid (by omega) (Nat.le_refl _) q2.1 q2.2 (by omega) z1 A1 A2 B1; refine Fam.use c2 hT [(0, _)] rfl rfl rfl (fun k hk => rfl) ?_; rintro g2 ⟨d2, P2, S2, rfl⟩; have A3' := St.sorted_perm A3 P2 (.inr (Nat.le_refl _)); have A4' := St.sorted_perm A4 P2 (.inr (by omega)); have z2 : d2.size = d.size := P2.1.trans z1; have B2' : ∀ p q, mid ≤ p → p < e → e ≤ q → q < b → lessP cf d2[q]! d2[p]! = lt d2[q]! d2[p]! := fun p q h1 h2 h3 h4 => (by rw [P2.2.1 p (by omega), P2.2.1 q (by omega)]; exact B2 p q h1 h2 h3 h4)) | (refine V.NDraw.any (by kernel_rfl) ?_) | fail)
               all_goals (conv => whnf)
               have F := fin d d2 d2 r0 P2 S2 (permIn_refl _ _ _) (St.sorted_one A3' A4' (by omega) eb q3)
               exact ⟨rfl, rfl, [(0, _)], _, rfl, rfl, rfl, d2, F.1, F.2, rfl⟩)
      · by_cases q3 : mid < e ∧ e < b
        · first
            | (exfalso; omega)
            | (obtain ⟨⟨A1, A2, A3, A4⟩, B1, B2⟩ := parts d r0
               have z1 : d.size = d.size := rfl
               repeat' ((conv => whnf); first | (refine V.NIf.yes ?_ ?_; · (decide; done)) | (refine V.NIf.no ?_ ?_; · (decide; done)) | refine V.NCond.mk ?_ | refine V.NPick.l ?_ | refine V.NIf.not_ ?_ | refine V.NIf.dec_ ?_ | refine V.a4 ?_ | refine V.a5 ?_ | refine V.NIf.mk (fun _ => ?_) (fun _ => ?_) | refine V.a7 ?_ | refine V.a8 ?_ | refine V.a9 ?_ | refine V.NBoth.mk ?_ ?_ | refine V.b1 ?_ | refine V.b2 ?_ | refine V.NTF.dec ?_ | refine V.b3 ?_ | refine V.b4 ?_ | (have c3 := ih d mid e b (by omega) (by omega) q3.1 q3.2 (Nat.le_refl _) z1 A3 A4 B2; rw [← ei] at c3; refine Fam.use c3 hT [(0, _)] rfl rfl rfl (fun k hk => rfl) ?_; rintro g3 ⟨d3, P3, S3, rfl⟩) | (refine V.NDraw.any (by kernel_rfl) ?_) | fail)
               all_goals (conv => whnf)
               have F := fin d d d3 r0 (permIn_refl _ _ _) (St.sorted_one A1 A2 hai (by omega) q2) P3 S3
               exact ⟨rfl, rfl, [(0, _)], _, rfl, rfl, rfl, d3, F.1, F.2, rfl⟩)
        · first
            | (exfalso; omega)
            | (obtain ⟨⟨A1, A2, A3, A4⟩, B1, B2⟩ := parts d r0
               have z1 : d.size = d.size := rfl
               repeat' ((conv => whnf); first | (refine V.NIf.yes ?_ ?_; · (decide; done)) | (refine V.NIf.no ?_ ?_; · (decide; done)) | refine V.NCond.mk ?_ | refine V.NPick.l ?_ | refine V.NIf.not_ ?_ | refine V.NIf.dec_ ?_ | refine V.a4 ?_ | refine V.a5 ?_ | refine V.NIf.mk (fun _ => ?_) (fun _ => ?_) | refine V.a7 ?_ | refine V.a8 ?_ | refine V.a9 ?_ | refine V.NBoth.mk ?_ ?_ | refine V.b1 ?_ | refine V.b2 ?_ | refine V.NTF.dec ?_ | refine V.b3 ?_ | refine V.b4 ?_ | (refine V.NDraw.any (by kernel_rfl) ?_) | fail)
               all_goals (conv => whnf)
               have F := fin d d d r0 (permIn_refl _ _ _) (St.sorted_one A1 A2 hai (by omega) q2) (permIn_refl _ _ _) (St.sorted_one A3 A4 (by omega) eb q3)
               exact ⟨rfl, rfl, [(0, _)], _, rfl, rfl, rfl, d, F.1, F.2, rfl⟩)
end Go.Proofs.YtpanlcnoopmchaaGreatDoor

namespace Go.Proofs.YtpanlcnoopmchaaGreatDoor
open Go Go.Sort Go.RowKit V
set_option maxHeartbeats 4000000
theorem v_symC0P (nx : Nat) (O : Obs) (hT : Tail (nx + 1) O) (g : FuncId) (cf : PtT → PtT → Int) (hc : CmpP g cf) (lt : PtT → PtT → Bool) (S : SWO lt) (d : Array PtT) (a m b : Nat) (h0 : a + 1 < m) (h1 : m + 1 < b) (h2 : b ≤ d.size) (h3 : d.size ≤ 2305843009213693951) (H1 : SortedIn lt a m d) (H2 : SortedIn lt m b d)
    (HT : ∀ i j, a ≤ i → i < m → m ≤ j → j < b → lessP cf d[j]! d[i]! = lt d[j]! d[i]!) (hm : m ≤ (a + b) / 2)
    (ih : ∀ (e : Array PtT) (x y z : Nat), z - x < b - a → a ≤ x → x < y → y < z → z ≤ b → e.size = d.size → SortedIn lt x y e → SortedIn lt y z e → (∀ i j, x ≤ i → i < y → y ≤ j → j < z → lessP cf e[j]! e[i]! = lt e[j]! e[i]!) →
      Fam Tryz.prog 120 [.one (.ref 0), .one (.val (.int .i64 ((x : Int)))), .one (.val (.int .i64 ((y : Int)))), .one (.val (.int .i64 ((z : Int)))), .one (.clo g [])] 52 3 d.size (ga encTP e.toList) nx O (fun r => ∃ d', PermIn x z e d' ∧ SortedIn lt x z d' ∧ r = ga encTP d'.toList)) :
    Fam Tryz.prog 120 [.one (.ref 0), .one (.val (.int .i64 ((a : Int)))), .one (.val (.int .i64 ((m : Int)))), .one (.val (.int .i64 ((b : Int)))), .one (.clo g [])] 52 3 d.size (ga encTP d.toList) nx O (fun r => ∃ d', PermIn a b d d' ∧ SortedIn lt a b d' ∧ r = ga encTP d'.toList) := by
  refine Fam.mk hT ?_
  refine V.NCall.inl (f := 120) V.Tok V.mixed Tryz.func120 rfl Tryz.ntmps120 (by kernel_rfl) rfl ?_
  obtain ⟨mid, em⟩ : ∃ mid, mid = (a + b) / 2 := ⟨_, rfl⟩
  have bm : a < mid ∧ mid < b := by omega
  have bm2 : 2 * mid ≤ a + b ∧ a + b ≤ 2 * mid + 1 := by omega
  repeat' ((conv => whnf); first | refine V.NCond.mk ?_ | refine V.NPick.l ?_ | refine V.NIf.not_ ?_ | refine V.NIf.dec_ ?_ | refine V.a4 ?_ | refine V.a5 ?_ | refine V.NIf.mk (fun _ => ?_) (fun _ => ?_) | refine V.a7 ?_ | refine V.a8 ?_ | refine V.a9 ?_ | refine V.NBoth.mk ?_ ?_ | refine V.b1 ?_ | refine V.b2 ?_ | refine V.NTF.dec ?_ | refine V.b3 ?_ | refine V.b4 ?_ | (refine NShr.mid ?_; rw [← em]) | (refine V.NDraw.any (by kernel_rfl) ?_) | fail)
  all_goals (conv => whnf)
  refine NLoop.fam hT (fun (s : Nat × Nat) => [(20, .one (.val (.int .i64 s.1))), (21, .one (.val (.int .i64 s.2)))]) [(0, .one (.ref 0)), (1, .one (.val (.int .i64 a))), (2, .one (.val (.int .i64 m))), (3, .one (.val (.int .i64 b))), (4, .one (.clo g [])), (18, .one (.val (.int .i64 mid))), (19, .one (.val (.int .i64 ((mid : Int) + m)))), (22, .one (.val (.int .i64 ((mid : Int) + m - 1))))] 52 3 d.size (fun s => ga encTP d.toList) (fun s => s.2 - s.1) (fun s => a ≤ s.1 ∧ s.1 ≤ s.2 ∧ s.2 ≤ m ∧ (s.1 = a ∨ lt d[mid + m - s.1]! d[s.1 - 1]! = false) ∧ (s.2 = m ∨ lt d[mid + m - 1 - s.2]! d[s.2]! = true)) (a, m) ⟨Nat.le_refl _, by dsimp only; omega, Nat.le_refl _, .inl rfl, .inl rfl⟩ [(0, _)] rfl rfl rfl (fun k hk => rfl) V.S_ (fun _ => rfl) rfl ?_
  rintro ⟨i, j⟩ ⟨hi, hij, hj, C1, C2⟩
  dsimp only at hi hij hj C1 C2 ⊢
  by_cases hlt : i < j
  · obtain ⟨h, eh⟩ : ∃ h, h = (i + j) / 2 := ⟨_, rfl⟩
    have h5 : i ≤ h ∧ h < j := by omega
    obtain ⟨k, ek⟩ : ∃ k, k = mid + m - 1 - h := ⟨_, rfl⟩
    have h6 : m ≤ k ∧ k < b := by omega
    have h7 : a ≤ h ∧ h < m := by omega
    have e1 := arr_getP (d := d) (k := k)
    have e2 := arr_getP (d := d) (k := h)
    have hcc := hc (d.toList.getD k default) (d.toList.getD h default)
    have ht := HT h k h7.1 h7.2 h6.1 h6.2
    rw [← e1, ← e2] at ht
    unfold lessP at ht
    generalize cf (d.toList.getD k default) (d.toList.getD h default) = c at *
    rw [e1, e2] at ht
    repeat' ((conv => whnf); first | refine V.NCond.mk ?_ | refine V.NPick.l ?_ | refine V.NIf.not_ ?_ | refine V.NIf.dec_ ?_ | refine V.a4 ?_ | refine V.a5 ?_ | refine V.NIf.mk (fun _ => ?_) (fun _ => ?_) | refine V.a7 ?_ | refine V.a8 ?_ | refine V.a9 ?_ | refine V.NBoth.mk ?_ ?_ | refine V.b1 ?_ | refine V.b2 ?_ | refine V.NTF.dec ?_ | refine V.b3 ?_ | refine V.b4 ?_ | (refine NShr.mid ?_; rw [← eh]) | (refine NIdx.mk ⟨k, by omega, by omega, ?_⟩) | (refine NIdx.mk ⟨h, by omega, by omega, ?_⟩) | (first | refine V.Fn.k0 (hcc) rfl ?_ | refine V.Fn.q0 (hcc) rfl ?_ | refine V.Fn.a0 (hcc) rfl ?_) | (refine V.NDraw.any (by kernel_rfl) ?_) | fail)
    all_goals (conv => whnf)
    · have hl : c < 0 := by assumption
      exact FBack.at_ hT (i, h) [(0, _)] ⟨hi, by dsimp only; omega, by dsimp only; omega, C1, .inr (by dsimp only; rw [← ek, ← ht]; exact decide_eq_true hl)⟩ (by dsimp only; omega) V.S_ rfl rfl rfl (fun k hk => rfl)
    · have hl : ¬ c < 0 := by assumption
      exact FBack.at_ hT (h + 1, j) [(0, _)] ⟨by dsimp only; omega, by dsimp only; omega, hj, .inr (by dsimp only; rw [Nat.add_sub_cancel, show mid + m - (h + 1) = k by omega, ← ht]; exact decide_eq_false hl), C2⟩ (by dsimp only; omega) V.S_ rfl rfl rfl (fun k hk => rfl)
  · obtain rfl : i = j := by omega
    clear hlt hij
    obtain ⟨e, ee⟩ : ∃ e, e = mid + m - i := ⟨_, rfl⟩
    have hai : a ≤ i := by omega
    have sm : i ≤ m := by omega
    have me : m ≤ e := by omega
    have eb : e ≤ b := by omega
    have ec : i + (e - m) = mid := by omega
    have ei : (mid : Int) + m - i = (e : Int) := by omega
    have D1 : a < i → e < b → lt d[e]! d[i - 1]! = false := fun q1 q2 => by
      rcases C1 with z | z
      · omega
      · rwa [← ee] at z
    have D2 : m < e → i < m → lt d[e - 1]! d[i]! = true := fun q1 q2 => by
      rcases C2 with z | z
      · omega
      · rwa [show mid + m - 1 - i = e - 1 by omega] at z
    clear C1 C2 hi hj
    have fin : ∀ d1 d2 d3 : Array PtT, St.Rot i m e d d1 → PermIn a mid d1 d2 → SortedIn lt a mid d2 → PermIn mid b d2 d3 → SortedIn lt mid b d3 → PermIn a b d d3 ∧ SortedIn lt a b d3 := fun d1 d2 d3 r P2 S2 P3 S3 => by
      have X := St.cross S r hai sm me eb H1 H2 D1 D2
      rw [ec] at X
      have hv := St.halves (lt := lt) (by omega) (by omega) (by rw [r.1]; exact h2) X P2 S2 P3 S3
      exact ⟨permIn_trans _ _ _ _ _ (permIn_mono _ _ _ _ a b hai eb h2 (r.perm sm me (by omega))) hv.1, hv.2⟩
    have parts : ∀ d1 : Array PtT, St.Rot i m e d d1 → (SortedIn lt a i d1 ∧ SortedIn lt i mid d1 ∧ SortedIn lt mid e d1 ∧ SortedIn lt e b d1) ∧ (∀ p q, a ≤ p → p < i → i ≤ q → q < mid → lessP cf d1[q]! d1[p]! = lt d1[q]! d1[p]!) ∧ (∀ p q, mid ≤ p → p < e → e ≤ q → q < b → lessP cf d1[q]! d1[p]! = lt d1[q]! d1[p]!) := fun d1 r => by
      have A := St.runs r hai sm me eb H1 H2
      have B := St.tests (p := fun x y => lessP cf x y = lt x y) r hai sm me eb HT
      rw [ec] at A B
      exact ⟨A, B⟩
    clear D1 D2
    by_cases q1 : i < m ∧ m < e
    · have c1 := v_rotP nx O hT g d i m e sm me (by omega) q1.1 q1.2 (by omega)
      rw [← ei] at c1
      by_cases q2 : a < i ∧ i < mid
      · by_cases q3 : mid < e ∧ e < b
        · first
            | (exfalso; omega)
            | (repeat' ((conv => whnf); first | (refine V.NIf.yes ?_ ?_; · (decide; done)) | (refine V.NIf.no ?_ ?_; · (decide; done)) | refine V.NCond.mk ?_ | refine V.NPick.l ?_ | refine V.NIf.not_ ?_ | refine V.NIf.dec_ ?_ | refine V.a4 ?_ | refine V.a5 ?_ | refine V.NIf.mk (fun _ => ?_) (fun _ => ?_) | refine V.a7 ?_ | refine V.a8 ?_ | refine V.a9 ?_ | refine V.NBoth.mk ?_ ?_ | refine V.b1 ?_ | refine V.b2 ?_ | refine V.NTF.dec ?_ | refine V.b3 ?_ | refine V.b4 ?_ | (refine Fam.use c1 hT [(0, _)] rfl rfl rfl (fun k hk => rfl) ?_; rintro g1 ⟨d1, r0, rfl⟩; obtain ⟨⟨A1, A2, A3, A4⟩, B1, B2⟩ := parts d1 r0; have z1 : d1.size = d.size := r0.1) | (have c2 := ih d1 a i mid (by omega) (Nat.le_refl _) q2.1 q2.2 (by omega) z1 A1 A2 B1; refine Fam.use c2 hT [(0, _)] rfl rfl rfl (fun k hk => rfl) ?_; rintro g2 ⟨d2, P2, S2, rfl⟩; have A3' := St.sorted_perm A3 P2 (.inr (Nat.le_refl _)); have A4' := St.sorted_perm A4 P2 (.inr (by omega)); have z2 : d2.size = d.size := P2.1.trans z1; have B2' : ∀ p q, mid ≤ p → p < e → e ≤ q → q < b → lessP cf d2[q]! d2[p]! = lt d2[q]! d2[p]! := fun p q h1 h2 h3 h4 => (by rw [P2.2.1 p (by omega), P2.2.1 q (by omega)]; exact B2 p q h1 h2 h3 h4)) | (have c3 := ih d2 mid e b (by omega) (by omega) q3.1 q3.2 (Nat.le_refl _) z2 A3' A4' B2'; rw [← ei] at c3; refine Fam.use c3 hT [(0, _)] rfl rfl rfl (fun k hk => rfl) ?_; rintro g3 ⟨d3, P3, S3, rfl⟩) | (refine V.NDraw.any (by kernel_rfl) ?_) | fail)
               all_goals (conv => whnf)
               have F := fin d1 d2 d3 r0 P2 S2 P3 S3
               exact ⟨rfl, rfl, [(0, _)], _, rfl, rfl, rfl, d3, F.1, F.2, rfl⟩)
        · first
            | (exfalso; omega)
            | (repeat' ((conv => whnf); first | (refine V.NIf.yes ?_ ?_; · (decide; done)) | (refine V.NIf.no ?_ ?_; · (decide; done)) | refine V.NCond.mk ?_ | refine V.NPick.l ?_ | refine V.NIf.not_ ?_ | refine V.NIf.dec_ ?_ | refine V.a4 ?_ | refine V.a5 ?_ | refine V.NIf.mk (fun _ => ?_) (fun _ => ?_) | refine V.a7 ?_ | refine V.a8 ?_ | refine V.a9 ?_ | refine V.NBoth.mk ?_ ?_ | refine V.b1 ?_ | refine V.b2 ?_ | refine V.NTF.dec ?_ | refine V.b3 ?_ | refine V.b4 ?_ | (refine Fam.use c1 hT [(0, _)] rfl rfl rfl (fun k hk => rfl) ?_; rintro g1 ⟨d1, r0, rfl⟩; obtain ⟨⟨A1, A2, A3, A4⟩, B1, B2⟩ := parts d1 r0; have z1 : d1.size = d.size := r0.1) | (have c2 := ih d1 a i mid (by omega) (Nat.le_refl _) q2.1 q2.2 (by omega) z1 A1 A2 B1; refine Fam.use c2 hT [(0, _)] rfl rfl rfl (fun k hk => rfl) ?_; rintro g2 ⟨d2, P2, S2, rfl⟩; have A3' := St.sorted_perm A3 P2 (.inr (Nat.le_refl _)); have A4' := St.sorted_perm A4 P2 (.inr (by omega)); have z2 : d2.size = d.size := P2.1.trans z1; have B2' : ∀ p q, mid ≤ p → p < e → e ≤ q → q < b → lessP cf d2[q]! d2[p]! = lt d2[q]! d2[p]! := fun p q h1 h2 h3 h4 => (by rw [P2.2.1 p (by omega), P2.2.1 q (by omega)]; exact B2 p q h1 h2 h3 h4)) | (refine V.NDraw.any (by kernel_rfl) ?_) | fail)
               all_goals (conv => whnf)
               have F := fin d1 d2 d2 r0 P2 S2 (permIn_refl _ _ _) (St.sorted_one A3' A4' (by omega) eb q3)
               exact ⟨rfl, rfl, [(0, _)], _, rfl, rfl, rfl, d2, F.1, F.2, rfl⟩)
      · by_cases q3 : mid < e ∧ e < b
        · first
            | (exfalso; omega)
            | (repeat' ((conv => whnf); first | (refine V.NIf.yes ?_ ?_; · (decide; done)) | (refine V.NIf.no ?_ ?_; · (decide; done)) | refine V.NCond.mk ?_ | refine V.NPick.l ?_ | refine V.NIf.not_ ?_ | refine V.NIf.dec_ ?_ | refine V.a4 ?_ | refine V.a5 ?_ | refine V.NIf.mk (fun _ => ?_) (fun _ => ?_) | refine V.a7 ?_ | refine V.a8 ?_ | refine V.a9 ?_ | refine V.NBoth.mk ?_ ?_ | refine V.b1 ?_ | refine V.b2 ?_ | refine V.NTF.dec ?_ | refine V.b3 ?_ | refine V.b4 ?_ | (refine Fam.use c1 hT [(0, _)] rfl rfl rfl (fun k hk => rfl) ?_; rintro g1 ⟨d1, r0, rfl⟩; obtain ⟨⟨A1, A2, A3, A4⟩, B1, B2⟩ := parts d1 r0; have z1 : d1.size = d.size := r0.1) | (have c3 := ih d1 mid e b (by omega) (by omega) q3.1 q3.2 (Nat.le_refl _) z1 A3 A4 B2; rw [← ei] at c3; refine Fam.use c3 hT [(0, _)] rfl rfl rfl (fun k hk => rfl) ?_; rintro g3 ⟨d3, P3, S3, rfl⟩) | (refine V.NDraw.any (by kernel_rfl) ?_) | fail)
               all_goals (conv => whnf)
               have F := fin d1 d1 d3 r0 (permIn_refl _ _ _) (St.sorted_one A1 A2 hai (by omega) q2) P3 S3
               exact ⟨rfl, rfl, [(0, _)], _, rfl, rfl, rfl, d3, F.1, F.2, rfl⟩)
        · first
            | (exfalso; omega)
            | (repeat' ((conv => whnf); first | (refine V.NIf.yes ?_ ?_; · (decide; done)) | (refine V.NIf.no ?_ ?_; · (decide; done)) | refine V.NCond.mk ?_ | refine V.NPick.l ?_ | refine V.NIf.not_ ?_ | refine V.NIf.dec_ ?_ | refine V.a4 ?_ | refine V.a5 ?_ | refine V.NIf.mk (fun _ => ?_) (fun _ => ?_) | refine V.a7 ?_ | refine V.a8 ?_ | refine V.a9 ?_ | refine V.NBoth.mk ?_ ?_ | refine V.b1 ?_ | refine V.b2 ?_ | refine V.NTF.dec ?_ | refine V.b3 ?_ | refine V.b4 ?_ | (refine Fam.use c1 hT [(0, _)] rfl rfl rfl (fun k hk => rfl) ?_; rintro g1 ⟨d1, r0, rfl⟩; obtain ⟨⟨A1, A2, A3, A4⟩, B1, B2⟩ := parts d1 r0; have z1 : d1.size = d.size := r0.1) | (refine V.NDraw.any (by kernel_rfl) ?_) | fail)
               all_goals (conv => whnf)
               have F := fin d1 d1 d1 r0 (permIn_refl _ _ _) (St.sorted_one A1 A2 hai (by omega) q2) (permIn_refl _ _ _) (St.sorted_one A3 A4 (by omega) eb q3)
               exact ⟨rfl, rfl, [(0, _)], _, rfl, rfl, rfl, d1, F.1, F.2, rfl⟩)
    · have r0 : St.Rot i m e d d := by
        by_cases z : i = m
        · subst z; exact St.Rot.refl_l
        · obtain rfl : m = e := by omega
          exact St.Rot.refl_r
      by_cases q2 : a < i ∧ i < mid
      · by_cases q3 : mid < e ∧ e < b
        · first
            | (exfalso; omega)
            | (obtain ⟨⟨A1, A2, A3, A4⟩, B1, B2⟩ := parts d r0
               have z1 : d.size = d.size := rfl
               repeat' ((conv => whnf); first | (refine V.NIf.yes ?_ ?_; · (decide; done)) | (refine V.NIf.no ?_ ?_; · (decide; done)) | refine V.NCond.mk ?_ | refine V.NPick.l ?_ | refine V.NIf.not_ ?_ | refine V.NIf.dec_ ?_ | refine V.a4 ?_ | refine V.a5 ?_ | refine V.NIf.mk (fun _ => ?_) (fun _ => ?_) | refine V.a7 ?_ | refine V.a8 ?_ | refine V.a9 ?_ | refine V.NBoth.mk ?_ ?_ | refine V.b1 ?_ | refine V.b2 ?_ | refine V.NTF.dec ?_ | refine V.b3 ?_ | refine V.b4 ?_ | (have c2 := ih d a i mid (by omega) (Nat.le_refl _) q2.1 q2.2 (by omega) z1 A1 A2 B1; refine Fam.use c2 hT [(0, _)] rfl rfl rfl (fun k hk => rfl) ?_; rintro g2 ⟨d2, P2, S2, rfl⟩; have A3' := St.sorted_perm A3 P2 (.inr (Nat.le_refl _)); have A4' := St.sorted_perm A4 P2 (.inr (by omega)); have z2 : d2.size = d.size := P2.1.trans z1; have B2' : ∀ p q, mid ≤ p → p < e → e ≤ q → q < b → lessP cf d2[q]! d2[p]! = lt d2[q]! d2[p]! := fun p q h1 h2 h3 h4 => (by rw [P2.2.1 p (by omega), P2.2.1 q (by omega)]; exact B2 p q h1 h2 h3 h4)) | (have c3 := ih d2 mid e b (by omega) (by omega) q3.1 q3.2 (Nat.le_refl _) z2 A3' A4' B2'; rw [← ei] at c3; refine Fam.use c3 hT [(0, _)] rfl rfl rfl (fun k hk => rfl) ?_; rintro g3 ⟨d3, P3, S3, rfl⟩) | (refine V.NDraw.any (by kernel_rfl) ?_) | fail)
               all_goals (conv => whnf)
               have F := fin d d2 d3 r0 P2 S2 P3 S3
               exact ⟨rfl, rfl, [(0, _)], _, rfl, rfl, rfl, d3, F.1, F.2, rfl⟩)
        · first
            | (exfalso; omega)
            | (obtain ⟨⟨A1, A2, A3, A4⟩, B1, B2⟩ := parts d r0
               have z1 : d.size = d.size := rfl
               repeat' ((conv => whnf); first | (refine V.NIf.yes ?_ ?_; · (decide; done)) | (refine V.NIf.no ?_ ?_; · (decide; done)) | refine V.NCond.mk ?_ | refine V.NPick.l ?_ | refine V.NIf.not_ ?_ | refine V.NIf.dec_ ?_ | refine V.a4 ?_ | refine V.a5 ?_ | refine V.NIf.mk (fun _ => ?_) (fun _ => ?_) | refine V.a7 ?_ | refine V.a8 ?_ | refine V.a9 ?_ | refine V.NBoth.mk ?_ ?_ | refine V.b1 ?_ | refine V.b2 ?_ | refine V.NTF.dec ?_ | refine V.b3 ?_ | refine V.b4 ?_ | (have c2 := ih d a i mid (by omega) (Nat.le_refl _) q2.1 q2.2 (by omega) z1 A1 A2 B1; refine Fam.use c2 hT [(0, _)] rfl rfl rfl (fun k hk => rfl) ?_; rintro g2 ⟨d2, P2, S2, rfl⟩; have A3' := St.sorted_perm A3 P2 (.inr (Nat.le_refl _)); have A4' := St.sorted_perm A4 P2 (.inr (by omega)); have z2 : d2.size = d.size := P2.1.trans z1; have B2' : ∀ p q, mid ≤ p → p < e → e ≤ q → q < b → lessP cf d2[q]! d2[p]! = lt d2[q]! d2[p]! := fun p q h1 h2 h3 h4 => (by rw [P2.2.1 p (by omega), P2.2.1 q (by omega)]; exact B2 p q h1 h2 h3 h4)) | (refine V.NDraw.any (by kernel_rfl) ?_) | fail)
               all_goals (conv => whnf)
               have F := fin d d2 d2 r0 P2 S2 (permIn_refl _ _ _) (St.sorted_one A3' A4' (by omega) eb q3)
               exact ⟨rfl, rfl, [(0, _)], _, rfl, rfl, rfl, d2, F.1, F.2, rfl⟩)
      · by_cases q3 : mid < e ∧ e < b
        · first
            | (exfalso; omega)
            | (obtain ⟨⟨A1, A2, A3, A4⟩, B1, B2⟩ := parts d r0
               have z1 : d.size = d.size := rfl
               repeat' ((conv => whnf); first | (refine V.NIf.yes ?_ ?_; · (decide; done)) | (refine V.NIf.no ?_ ?_; · (decide; done)) | refine V.NCond.mk ?_ | refine V.NPick.l ?_ | refine V.NIf.not_ ?_ | refine V.NIf.dec_ ?_ | refine V.a4 ?_ | refine V.a5 ?_ | refine V.NIf.mk (fun _ => ?_) (fun _ => ?_) | refine V.a7 ?_ | refine V.a8 ?_ | refine V.a9 ?_ | refine V.NBoth.mk ?_ ?_ | refine V.b1 ?_ | refine V.b2 ?_ | refine V.NTF.dec ?_ | refine V.b3 ?_ | refine V.b4 ?_ | (have c3 := ih d mid e b (by omega) (by omega) q3.1 q3.2 (Nat.le_refl _) z1 A3 A4 B2; rw [← ei] at c3; refine Fam.use c3 hT [(0, _)] rfl rfl rfl (fun k hk => rfl) ?_; rintro g3 ⟨d3, P3, S3, rfl⟩) | (refine V.NDraw.any (by kernel_rfl) ?_) | fail)
               all_goals (conv => whnf)
               have F := fin d d d3 r0 (permIn_refl _ _ _) (St.sorted_one A1 A2 hai (by omega) q2) P3 S3
               exact ⟨rfl, rfl, [(0, _)], _, rfl, rfl, rfl, d3, F.1, F.2, rfl⟩)
        · first
            | (exfalso; omega)
            | (obtain ⟨⟨A1, A2, A3, A4⟩, B1, B2⟩ := parts d r0
               have z1 : d.size = d.size := rfl
               repeat' ((conv => whnf); first | (refine V.NIf.yes ?_ ?_; · (decide; done)) | (refine V.NIf.no ?_ ?_; · (decide; done)) | refine V.NCond.mk ?_ | refine V.NPick.l ?_ | refine V.NIf.not_ ?_ | refine V.NIf.dec_ ?_ | refine V.a4 ?_ | refine V.a5 ?_ | refine V.NIf.mk (fun _ => ?_) (fun _ => ?_) | refine V.a7 ?_ | refine V.a8 ?_ | refine V.a9 ?_ | refine V.NBoth.mk ?_ ?_ | refine V.b1 ?_ | refine V.b2 ?_ | refine V.NTF.dec ?_ | refine V.b3 ?_ | refine V.b4 ?_ | (refine V.NDraw.any (by kernel_rfl) ?_) | fail)
               all_goals (conv => whnf)
               have F := fin d d d r0 (permIn_refl _ _ _) (St.sorted_one A1 A2 hai (by omega) q2) (permIn_refl _ _ _) (St.sorted_one A3 A4 (by omega) eb q3)
               exact ⟨rfl, rfl, [(0, _)], _, rfl, rfl, rfl, d, F.1, F.2, rfl⟩)
end Go.Proofs.YtpanlcnoopmchaaGreatDoor

namespace Go.Proofs.YtpanlcnoopmchaaGreatDoor
open Go Go.Sort Go.RowKit V
set_option maxHeartbeats 4000000
theorem v_symP (nx : Nat) (O : Obs) (hT : Tail (nx + 1) O) (g : FuncId) (cf : PtT → PtT → Int) (hc : CmpP g cf) (lt : PtT → PtT → Bool) (S : SWO lt) (sz : Nat) (h3 : sz ≤ 2305843009213693951) : ∀ (N : Nat) (d : Array PtT) (a m b : Nat), b - a ≤ N → a < m → m < b → b ≤ d.size → d.size = sz → SortedIn lt a m d → SortedIn lt m b d →
    (∀ i j, a ≤ i → i < m → m ≤ j → j < b → lessP cf d[j]! d[i]! = lt d[j]! d[i]!) →
    Fam Tryz.prog 120 [.one (.ref 0), .one (.val (.int .i64 ((a : Int)))), .one (.val (.int .i64 ((m : Int)))), .one (.val (.int .i64 ((b : Int)))), .one (.clo g [])] 52 3 sz (ga encTP d.toList) nx O (fun r => ∃ d', PermIn a b d d' ∧ SortedIn lt a b d' ∧ r = ga encTP d'.toList)
  | 0, d, a, m, b, hN, h0, h1, _, _, _, _, _ => absurd hN (by omega)
  | N + 1, d, a, m, b, hN, h0, h1, h2, hs, H1, H2, HT => by
    subst hs
    have ih := fun (e : Array PtT) (x y z : Nat) (q1 : z - x < b - a) (q2 : a ≤ x) (q3 : x < y) (q4 : y < z) (q5 : z ≤ b) (q6 : e.size = d.size) r1 r2 r3 => v_symP nx O hT g cf hc lt S d.size h3 N e x y z (by omega) q3 q4 (by omega) q6 r1 r2 r3
    by_cases hA : m = a + 1
    · subst hA
      exact v_symAP nx O hT g cf hc lt S d a b (by omega) h2 (by omega) H2 (fun j j1 j2 => HT a j (Nat.le_refl _) (by omega) j1 j2)
    by_cases hB : b = m + 1
    · subst hB
      exact v_symBP nx O hT g cf hc lt S d a m (by omega) h2 (by omega) H1 (fun i i1 i2 => HT i m i1 i2 (Nat.le_refl _) (by omega))
    by_cases hm : (a + b) / 2 < m
    · exact v_symC1P nx O hT g cf hc lt S d a m b (by omega) (by omega) h2 h3 H1 H2 HT hm ih
    · exact v_symC0P nx O hT g cf hc lt S d a m b (by omega) (by omega) h2 h3 H1 H2 HT (by omega) ih
theorem v_stabP (nx : Nat) (O : Obs) (hT : Tail (nx + 1) O) (g : FuncId) (cf : PtT → PtT → Int) (hc : CmpP g cf) (lt : PtT → PtT → Bool) (S : SWO lt) (HL : ∀ x y : PtT, x.tg < y.tg → lessP cf y x = lt y x) (d : Array PtT) (h3 : d.size ≤ 1152921504606846975) (ht : ∀ i, i < d.size → d[i]!.tg = i) :
    Fam Tryz.prog 117 [.one (.ref 0), .one (.val (.int .i64 ((d.size : Int)))), .one (.clo g [])] 52 3 d.size (ga encTP d.toList) nx O (fun r => ∃ d', PermIn 0 d.size d d' ∧ SortedIn lt 0 d.size d' ∧ r = ga encTP d'.toList) := by
  refine Fam.mk hT ?_
  obtain ⟨n, en⟩ : ∃ n, d.size = n := ⟨_, rfl⟩
  rw [en] at h3 ht ⊢
  refine V.NCall.inl (f := 117) V.Tok V.mixed Tryz.func117 rfl Tryz.ntmps117 (by kernel_rfl) rfl ?_
  repeat' ((conv => whnf); first | refine V.NCond.mk ?_ | refine V.NPick.l ?_ | refine V.NIf.not_ ?_ | refine V.NIf.dec_ ?_ | refine V.a4 ?_ | refine V.a5 ?_ | refine V.NIf.mk (fun _ => ?_) (fun _ => ?_) | refine V.a7 ?_ | refine V.a8 ?_ | refine V.a9 ?_ | refine V.NBoth.mk ?_ ?_ | refine V.b1 ?_ | refine V.b2 ?_ | refine V.NTF.dec ?_ | refine V.b3 ?_ | refine V.b4 ?_ | (refine V.NDraw.any (by kernel_rfl) ?_) | fail)
  all_goals (conv => whnf)
  have ins : ∀ (d1 : Array PtT) (a b : Nat), d1.size = n → a ≤ b → b ≤ n → (∀ i, a ≤ i → i < n → d1[i]! = d[i]!) → PermIn a b d1 (insertionSort (lessP cf) d1 a b) ∧ St.Good PtT.tg lt a b (insertionSort (lessP cf) d1 a b) := fun d1 a b s1 ab bn same => by
    have tg1 : ∀ i, a ≤ i → i < b → d1[i]!.tg = i := fun i q1 q2 => by rw [same i q1 (by omega)]; exact ht i (by omega)
    rw [St.ins_eq (l1 := lt) (by omega) (fun p q q1 q2 q3 => HL _ _ (by rw [tg1 p (by omega) q1, tg1 q q2 (by omega)]; exact q3))]
    have h := insertionSort_holds S d1 a b ab (by omega)
    exact ⟨h.1, St.Good.of_perm (by omega) (fun i q1 q2 => by rw [tg1 i q1 q2]; omega) h.1 h.2⟩
  refine NLoop.fam hT (fun (s : Nat × Array PtT) => [(7, .one (.val (.int .i64 ((s.1 * 20 : Nat) : Int)))), (8, .one (.val (.int .i64 ((s.1 * 20 + 20 : Nat) : Int))))]) [(0, .one (.ref 0)), (1, .one (.val (.int .i64 n))), (2, .one (.clo g [])), (6, .one (.val (.int .i64 20)))] 52 3 n (fun s => ga encTP s.2.toList) (fun s => n - s.1 * 20) (fun s => s.1 * 20 ≤ n ∧ PermIn 0 n d s.2 ∧ St.To PtT.tg lt 20 (s.1 * 20) s.2 ∧ ∀ i, s.1 * 20 ≤ i → i < n → s.2[i]! = d[i]!) (0, d) ⟨Nat.zero_le _, permIn_refl _ _ _, St.To.zero 20 d, fun _ _ _ => rfl⟩ [(0, _)] rfl rfl rfl (fun k hk => rfl) V.S_ (fun _ => rfl) rfl ?_
  rintro ⟨K, d1⟩ ⟨hK, P, TO, same⟩
  dsimp only at hK P TO same ⊢
  have s1 : d1.size = n := by rw [P.1, en]
  obtain ⟨a, ea⟩ : ∃ a, a = K * 20 := ⟨_, rfl⟩
  rw [← ea] at hK TO same ⊢
  by_cases hlt : a + 20 ≤ n
  · obtain ⟨I1, I2⟩ := ins d1 a (a + 20) s1 (by omega) hlt same
    have c := v_insP nx O hT g cf hc d1 a (a + 20) (by omega) (by omega) (by omega)
    rw [s1] at c
    generalize insertionSort (lessP cf) d1 a (a + 20) = d2 at *
    have ek : (K + 1) * 20 = a + 20 := by omega
    have TO2 := (TO.same (fun i q => I1.2.1 i (.inl q))).push ea (by omega) I2
    have P2 : PermIn 0 n d d2 := permIn_trans _ _ _ _ _ P (permIn_mono _ _ _ _ 0 n (Nat.zero_le _) hlt (by omega) I1)
    have same2 : ∀ i, a + 20 ≤ i → i < n → d2[i]! = d[i]! := fun i q1 q2 => by rw [I1.2.1 i (.inr q1)]; exact same i (by omega) q2
    repeat' ((conv => whnf); first | refine V.NCond.mk ?_ | refine V.NPick.l ?_ | refine V.NIf.not_ ?_ | refine V.NIf.dec_ ?_ | refine V.a4 ?_ | refine V.a5 ?_ | refine V.NIf.mk (fun _ => ?_) (fun _ => ?_) | refine V.a7 ?_ | refine V.a8 ?_ | refine V.a9 ?_ | refine V.NBoth.mk ?_ ?_ | refine V.b1 ?_ | refine V.b2 ?_ | refine V.NTF.dec ?_ | refine V.b3 ?_ | refine V.b4 ?_ | (refine Fam.use c hT [(0, _)] rfl rfl rfl (fun k hk => rfl) ?_; rintro g1 rfl) | (refine V.NDraw.any (by kernel_rfl) ?_) | fail)
    all_goals (conv => whnf)
    exact FBack.at_ hT (K + 1, d2) [(0, _)] (by dsimp only; rw [ek]; exact ⟨hlt, P2, TO2, same2⟩) (by dsimp only; omega) ⟨congrArg (fun z : Int => SV.one (At.val (Value.int .i64 z))) (show ((a + 20 : Nat) : Int) = (((K + 1) * 20 : Nat) : Int) by omega), congrArg (fun z : Int => SV.one (At.val (Value.int .i64 z))) (show ((a + 20 : Nat) : Int) + 20 = (((K + 1) * 20 + 20 : Nat) : Int) by omega), rfl, rfl, rfl, rfl, trivial⟩ rfl rfl rfl (fun k hk => rfl)
  · obtain ⟨I1, I2⟩ := ins d1 a n s1 hK (Nat.le_refl _) same
    have c := v_insP nx O hT g cf hc d1 a n hK (by omega) (by omega)
    rw [s1] at c
    generalize insertionSort (lessP cf) d1 a n = d2 at *
    have P2 : PermIn 0 n d d2 := permIn_trans _ _ _ _ _ P (permIn_mono _ _ _ _ 0 n (Nat.zero_le _) (Nat.le_refl _) (by omega) I1)
    have TO2 : St.To PtT.tg lt 20 n d2 := by
      have t0 := TO.same (fun i q => I1.2.1 i (.inl q))
      by_cases z : a < n
      · exact t0.last ea (by omega) I2 z (by omega)
      · obtain rfl : a = n := by omega
        exact t0
    clear ins I1 I2 TO same P
    repeat' ((conv => whnf); first | refine V.NCond.mk ?_ | refine V.NPick.l ?_ | refine V.NIf.not_ ?_ | refine V.NIf.dec_ ?_ | refine V.a4 ?_ | refine V.a5 ?_ | refine V.NIf.mk (fun _ => ?_) (fun _ => ?_) | refine V.a7 ?_ | refine V.a8 ?_ | refine V.a9 ?_ | refine V.NBoth.mk ?_ ?_ | refine V.b1 ?_ | refine V.b2 ?_ | refine V.NTF.dec ?_ | refine V.b3 ?_ | refine V.b4 ?_ | (refine Fam.use c hT [(0, _)] rfl rfl rfl (fun k hk => rfl) ?_; rintro g1 rfl) | (refine V.NDraw.any (by kernel_rfl) ?_) | fail)
    all_goals (conv => whnf)
    refine NLoop.fam hT (fun (s : Nat × Array PtT) => [(6, .one (.val (.int .i64 s.1)))]) [(0, .one (.ref 0)), (1, .one (.val (.int .i64 n))), (2, .one (.clo g []))] 52 3 n (fun s => ga encTP s.2.toList) (fun s => n - s.1) (fun s => 20 ≤ s.1 ∧ s.1 ≤ 2 * n + 20 ∧ PermIn 0 n d s.2 ∧ St.To PtT.tg lt s.1 n s.2) (20, d2) ⟨Nat.le_refl _, by dsimp only; omega, P2, TO2⟩ [(0, _)] rfl rfl rfl (fun k hk => rfl) V.S_ (fun _ => rfl) rfl ?_
    clear P2 TO2 c d2 s1 hlt ea hK a K d1
    rintro ⟨bs, d1⟩ ⟨hb, hb2, P, TO⟩
    dsimp only at hb hb2 P TO ⊢
    have s1 : d1.size = n := by rw [P.1, en]
    by_cases hlt : bs < n
    · repeat' ((conv => whnf); first | refine V.NCond.mk ?_ | refine V.NPick.l ?_ | refine V.NIf.not_ ?_ | refine V.NIf.dec_ ?_ | refine V.a4 ?_ | refine V.a5 ?_ | refine V.NIf.mk (fun _ => ?_) (fun _ => ?_) | refine V.a7 ?_ | refine V.a8 ?_ | refine V.a9 ?_ | refine V.NBoth.mk ?_ ?_ | refine V.b1 ?_ | refine V.b2 ?_ | refine V.NTF.dec ?_ | refine V.b3 ?_ | refine V.b4 ?_ | (refine V.NDraw.any (by kernel_rfl) ?_) | fail)
      all_goals (conv => whnf)
      refine NLoop.fam hT (fun (s : Nat × Array PtT) => [(7, .one (.val (.int .i64 ((s.1 * (2 * bs) : Nat) : Int)))), (8, .one (.val (.int .i64 ((s.1 * (2 * bs) + 2 * bs : Nat) : Int))))]) [(0, .one (.ref 0)), (1, .one (.val (.int .i64 n))), (2, .one (.clo g [])), (6, .one (.val (.int .i64 bs)))] 52 3 n (fun s => ga encTP s.2.toList) (fun s => n - s.1 * (2 * bs)) (fun s => s.1 * (2 * bs) ≤ n ∧ PermIn 0 n d s.2 ∧ St.To PtT.tg lt (2 * bs) (s.1 * (2 * bs)) s.2 ∧ St.Fr PtT.tg lt bs (s.1 * (2 * bs)) n s.2) (0, d1) ⟨by dsimp only; rw [Nat.zero_mul]; exact Nat.zero_le _, P, by dsimp only; rw [Nat.zero_mul]; exact St.To.zero _ _, by dsimp only; rw [Nat.zero_mul]; exact St.Fr.of_to TO⟩ [(0, _)] rfl rfl rfl (fun k hk => rfl) ⟨congrArg (fun z : Int => SV.one (At.val (Value.int .i64 z))) (show (0 : Int) = ((0 * (2 * bs) : Nat) : Int) by rw [Nat.zero_mul]; rfl), congrArg (fun z : Int => SV.one (At.val (Value.int .i64 z))) (show (2 : Int) * bs = ((0 * (2 * bs) + 2 * bs : Nat) : Int) by rw [Nat.zero_mul]; omega), rfl, rfl, rfl, rfl, trivial⟩ (fun _ => rfl) rfl ?_
      clear P TO s1 d1
      rintro ⟨K, d1⟩ ⟨hK, P, TO, FR⟩
      dsimp only at hK P TO FR ⊢
      have s1 : d1.size = n := by rw [P.1, en]
      obtain ⟨a, ea⟩ : ∃ a, a = K * (2 * bs) := ⟨_, rfl⟩
      rw [← ea] at hK TO FR ⊢
      by_cases hle : a + 2 * bs ≤ n
      · have G1 := FR.head (by omega)
        rw [show min (a + bs) n = a + bs by omega] at G1
        have G2 := FR.tail.head (by omega)
        rw [show min (a + bs + bs) n = a + 2 * bs by omega] at G2
        have c := v_symP nx O hT g cf hc lt S n (by omega) (a + 2 * bs - a) d1 a (a + bs) (a + 2 * bs) (Nat.le_refl _) (by omega) (by omega) (by omega) s1 G1.s G2.s (fun i j i1 i2 j1 j2 => HL _ _ (by have := G1.t i i1 i2; have := G2.t j j1 j2; omega))
        have ek : (K + 1) * (2 * bs) = a + 2 * bs := by rw [Nat.succ_mul, ← ea]
        repeat' ((conv => whnf); first | refine V.NCond.mk ?_ | refine V.NPick.l ?_ | refine V.NIf.not_ ?_ | refine V.NIf.dec_ ?_ | refine V.a4 ?_ | refine V.a5 ?_ | refine V.NIf.mk (fun _ => ?_) (fun _ => ?_) | refine V.a7 ?_ | refine V.a8 ?_ | refine V.a9 ?_ | refine V.NBoth.mk ?_ ?_ | refine V.b1 ?_ | refine V.b2 ?_ | refine V.NTF.dec ?_ | refine V.b3 ?_ | refine V.b4 ?_ | (refine Fam.use c hT [(0, _)] rfl rfl rfl (fun k hk => rfl) ?_; rintro g1 ⟨d2, P2, S2, rfl⟩) | (refine V.NDraw.any (by kernel_rfl) ?_) | fail)
        all_goals (conv => whnf)
        have G := St.Good.merge (by omega) (by omega) (by omega) G1 G2 P2 S2
        have TO2 := (TO.same (fun i q => P2.2.1 i (.inl q))).push ea (by omega) G
        have FR2 : St.Fr PtT.tg lt bs (a + 2 * bs) n d2 := by
          have q := FR.tail.tail
          rw [show a + bs + bs = a + 2 * bs by omega] at q
          exact q.same fun i q => P2.2.1 i (.inr q)
        exact FBack.at_ hT (K + 1, d2) [(0, _)] (by dsimp only; rw [ek]; exact ⟨hle, permIn_trans _ _ _ _ _ P (permIn_mono _ _ _ _ 0 n (Nat.zero_le _) hle (by omega) P2), TO2, FR2⟩) (by dsimp only; rw [ek]; omega) ⟨congrArg (fun z : Int => SV.one (At.val (Value.int .i64 z))) (show ((a + 2 * bs : Nat) : Int) = (((K + 1) * (2 * bs) : Nat) : Int) by rw [ek]), congrArg (fun z : Int => SV.one (At.val (Value.int .i64 z))) (show ((a + 2 * bs : Nat) : Int) + 2 * (bs : Int) = (((K + 1) * (2 * bs) + 2 * bs : Nat) : Int) by rw [ek]; omega), rfl, rfl, rfl, rfl, trivial⟩ rfl rfl rfl (fun k hk => rfl)
      · by_cases hm : a + bs < n
        · have G1 := FR.head (by omega)
          rw [show min (a + bs) n = a + bs by omega] at G1
          have G2 := FR.tail.head hm
          rw [show min (a + bs + bs) n = n by omega] at G2
          have c := v_symP nx O hT g cf hc lt S n (by omega) (n - a) d1 a (a + bs) n (Nat.le_refl _) (by omega) hm (by omega) s1 G1.s G2.s (fun i j i1 i2 j1 j2 => HL _ _ (by have := G1.t i i1 i2; have := G2.t j j1 j2; omega))
          rw [show ((a + bs : Nat) : Int) = (a : Int) + bs by omega] at c
          repeat' ((conv => whnf); first | refine V.NCond.mk ?_ | refine V.NPick.l ?_ | refine V.NIf.not_ ?_ | refine V.NIf.dec_ ?_ | refine V.a4 ?_ | refine V.a5 ?_ | refine V.NIf.mk (fun _ => ?_) (fun _ => ?_) | refine V.a7 ?_ | refine V.a8 ?_ | refine V.a9 ?_ | refine V.NBoth.mk ?_ ?_ | refine V.b1 ?_ | refine V.b2 ?_ | refine V.NTF.dec ?_ | refine V.b3 ?_ | refine V.b4 ?_ | (refine Fam.use c hT [(0, _)] rfl rfl rfl (fun k hk => rfl) ?_; rintro g1 ⟨d2, P2, S2, rfl⟩) | (refine V.NDraw.any (by kernel_rfl) ?_) | fail)
          all_goals (conv => whnf)
          have G := St.Good.merge (by omega) (by omega) (by omega) G1 G2 P2 S2
          have TO2 := (TO.same (fun i q => P2.2.1 i (.inl q))).last ea (by omega) G (by omega) (by omega)
          exact FBack.at_ hT (2 * bs, d2) [(0, _)] ⟨by dsimp only; omega, by dsimp only; omega, permIn_trans _ _ _ _ _ P (permIn_mono _ _ _ _ 0 n (Nat.zero_le _) (Nat.le_refl _) (by omega) P2), TO2⟩ (by dsimp only; omega) ⟨congrArg (fun z : Int => SV.one (At.val (Value.int .i64 z))) (show (bs : Int) * 2 = ((2 * bs : Nat) : Int) by omega), rfl, rfl, rfl, trivial⟩ rfl rfl rfl (fun k hk => rfl)
        · have TO2 : St.To PtT.tg lt (2 * bs) n d1 := by
            by_cases z : a < n
            · have G1 := FR.head z
              rw [show min (a + bs) n = n by omega] at G1
              exact TO.last ea (by omega) G1 z (by omega)
            · obtain rfl : a = n := by omega
              exact TO
          repeat' ((conv => whnf); first | refine V.NCond.mk ?_ | refine V.NPick.l ?_ | refine V.NIf.not_ ?_ | refine V.NIf.dec_ ?_ | refine V.a4 ?_ | refine V.a5 ?_ | refine V.NIf.mk (fun _ => ?_) (fun _ => ?_) | refine V.a7 ?_ | refine V.a8 ?_ | refine V.a9 ?_ | refine V.NBoth.mk ?_ ?_ | refine V.b1 ?_ | refine V.b2 ?_ | refine V.NTF.dec ?_ | refine V.b3 ?_ | refine V.b4 ?_ | (refine V.NDraw.any (by kernel_rfl) ?_) | fail)
          all_goals (conv => whnf)
          exact FBack.at_ hT (2 * bs, d1) [(0, _)] ⟨by dsimp only; omega, by dsimp only; omega, P, TO2⟩ (by dsimp only; omega) ⟨congrArg (fun z : Int => SV.one (At.val (Value.int .i64 z))) (show (bs : Int) * 2 = ((2 * bs : Nat) : Int) by omega), rfl, rfl, rfl, trivial⟩ rfl rfl rfl (fun k hk => rfl)
    · repeat' ((conv => whnf); first | refine V.NCond.mk ?_ | refine V.NPick.l ?_ | refine V.NIf.not_ ?_ | refine V.NIf.dec_ ?_ | refine V.a4 ?_ | refine V.a5 ?_ | refine V.NIf.mk (fun _ => ?_) (fun _ => ?_) | refine V.a7 ?_ | refine V.a8 ?_ | refine V.a9 ?_ | refine V.NBoth.mk ?_ ?_ | refine V.b1 ?_ | refine V.b2 ?_ | refine V.NTF.dec ?_ | refine V.b3 ?_ | refine V.b4 ?_ | (refine V.NDraw.any (by kernel_rfl) ?_) | fail)
      all_goals (conv => whnf)
      exact ⟨rfl, rfl, [(0, _)], _, rfl, rfl, rfl, d1, P, TO.all (by omega), rfl⟩
end Go.Proofs.YtpanlcnoopmchaaGreatDoor

namespace Go.Proofs.YtpanlcnoopmchaaGreatDoor.V
open Go Go.RowKit
end Go.Proofs.YtpanlcnoopmchaaGreatDoor.V

namespace Go.Proofs.YtpanlcnoopmchaaGreatDoor
open Go
structure Lt where
  day : Int
  un : Int
  co : Int
instance : Inhabited Lt := ⟨⟨0, 0, 0⟩⟩
end Go.Proofs.YtpanlcnoopmchaaGreatDoor

namespace Go.Proofs.YtpanlcnoopmchaaGreatDoor
open Go Go.RowKit V
instance : DecidableEq Du := fun x y => decidable_of_iff (x.fr = y.fr ∧ x.to = y.to ∧ x.am = y.am) ⟨fun h => by cases x; cases y; simp_all, fun h => by subst h; simp⟩
instance : DecidableEq Po := fun x y => decidable_of_iff (x.ac = y.ac ∧ x.ut = y.ut ∧ x.am = y.am) ⟨fun h => by cases x; cases y; simp_all, fun h => by subst h; simp⟩
theorem Po_ne {x y : Po} (h : ¬ (x.ac = y.ac ∧ x.ut = y.ut ∧ x.am = y.am ∧ True)) : x ≠ y := fun e => by subst e; exact h (by simp)
theorem Po_eq {x y : Po} (h : x.ac = y.ac ∧ x.ut = y.ut ∧ x.am = y.am ∧ True) : x = y := by cases x; cases y; simp_all
theorem v_sameposts (a b : List Po) (ha : a.length ≤ 9223372036854775807) : V.Fn Tryz.prog 15 [.arr 3 a.length (ga encP a), .arr 3 b.length (ga encP b)] [.one (.ref 0), .one (.ref 1)] (.bool (decide (a = b))) := by
  refine V.Fn.mk_ V.Tok V.mixed Tryz.func15 rfl Tryz.ntmps15 (by kernel_rfl) rfl rfl ?_
  repeat' ((conv => whnf); first | refine V.NCond.mk ?_ | refine V.NPick.l ?_ | refine V.NIf.not_ ?_ | refine V.NIf.dec_ ?_ | refine V.a4 ?_ | refine V.a5 ?_ | refine V.NIf.mk (fun _ => ?_) (fun _ => ?_) | refine V.a7 ?_ | refine V.a8 ?_ | refine V.a9 ?_ | refine V.NBoth.mk ?_ ?_ | refine V.b1 ?_ | refine V.b2 ?_ | refine V.NTF.dec ?_ | refine V.b3 ?_ | refine V.b4 ?_ | (refine V.NDraw.any (by kernel_rfl) ?_) | fail)
  rotate_left
  · exact congrArg Value.bool (decide_eq_false (by rintro rfl; omega)).symm
  (conv => whnf)
  rename_i hl
  have hl : a.length = b.length := by omega
  refine V.NLoop.auto (fun (k : Nat) => [(5, .one (.val (.int .i64 k)))]) (fun (k : Nat) => []) [] [] (fun (k : Nat) => a.length - k) (fun (k : Nat) => k ≤ a.length ∧ a.take k = b.take k) 0 ⟨by omega, by simp⟩ V.S_ V.S_ (fun _ => ⟨rfl, rfl⟩) ?_; (conv => whnf); refine ⟨⟨rfl, rfl⟩, ?_⟩
  rintro k ⟨hk, hJ⟩
  by_cases hlt : k < a.length
  · have e1 := getD_at (l := a) (by omega)
    have e2 := getD_at (l := b) (k := k) (by omega)
    repeat' ((conv => whnf); first | refine V.NCond.mk ?_ | refine V.NPick.l ?_ | refine V.NIf.not_ ?_ | refine V.NIf.dec_ ?_ | refine V.a4 ?_ | refine V.a5 ?_ | refine V.NIf.mk (fun _ => ?_) (fun _ => ?_) | refine V.a7 ?_ | refine V.a8 ?_ | refine V.a9 ?_ | refine V.NBoth.mk ?_ ?_ | refine V.b1 ?_ | refine V.b2 ?_ | refine V.NTF.dec ?_ | refine V.b3 ?_ | refine V.b4 ?_ | (refine NIdx.mk ⟨k, rfl, by omega, ?_⟩) | (refine V.NDraw.any (by kernel_rfl) ?_) | fail)
    all_goals (conv => whnf)
    · rename_i q
      exact V.NBack.at_ (k + 1) [] ⟨by omega, by rw [List.take_succ_eq_append_getElem hlt, List.take_succ_eq_append_getElem (by omega), hJ, ← e1, ← e2, Po_eq q]⟩ (by omega) V.S_ rfl V.S_ V.S_ V.S_
    · rename_i q
      exact congrArg Value.bool (decide_eq_false (by rintro rfl; exact Po_ne q rfl)).symm
  · obtain rfl : k = a.length := by omega
    repeat' ((conv => whnf); first | refine V.NCond.mk ?_ | refine V.NPick.l ?_ | refine V.NIf.not_ ?_ | refine V.NIf.dec_ ?_ | refine V.a4 ?_ | refine V.a5 ?_ | refine V.NIf.mk (fun _ => ?_) (fun _ => ?_) | refine V.a7 ?_ | refine V.a8 ?_ | refine V.a9 ?_ | refine V.NBoth.mk ?_ ?_ | refine V.b1 ?_ | refine V.b2 ?_ | refine V.NTF.dec ?_ | refine V.b3 ?_ | refine V.b4 ?_ | (refine V.NDraw.any (by kernel_rfl) ?_) | fail)
    (conv => whnf)
    refine congrArg Value.bool (decide_eq_true ?_).symm
    rw [List.take_length, List.take_of_length_le (by omega)] at hJ
    exact hJ
instance : DecidableEq Fl := fun x y => decidable_of_iff (x.id = y.id ∧ x.fr = y.fr ∧ x.to = y.to ∧ x.cl = y.cl ∧ x.pa = y.pa ∧ x.day = y.day ∧ x.un = y.un ∧ x.de = y.de ∧ x.bo = y.bo ∧ x.pd = y.pd) ⟨fun h => by cases x; cases y; simp_all, fun h => by subst h; simp⟩
theorem Fl_ne {x y : Fl} (h : ¬ (x.id = y.id ∧ x.fr = y.fr ∧ x.to = y.to ∧ x.cl = y.cl ∧ x.pa = y.pa ∧ x.day = y.day ∧ x.un = y.un ∧ x.de = y.de ∧ x.bo = y.bo ∧ x.pd = y.pd ∧ True)) : x ≠ y := fun e => by subst e; exact h (by simp)
theorem Fl_eq {x y : Fl} (h : x.id = y.id ∧ x.fr = y.fr ∧ x.to = y.to ∧ x.cl = y.cl ∧ x.pa = y.pa ∧ x.day = y.day ∧ x.un = y.un ∧ x.de = y.de ∧ x.bo = y.bo ∧ x.pd = y.pd ∧ True) : x = y := by cases x; cases y; simp_all
theorem v_samefails (a b : List Fl) (ha : a.length ≤ 9223372036854775807) : V.Fn Tryz.prog 30 [.arr 10 a.length (ga encF a), .arr 10 b.length (ga encF b)] [.one (.ref 0), .one (.ref 1)] (.bool (decide (a = b))) := by
  refine V.Fn.mk_ V.Tok V.mixed Tryz.func30 rfl Tryz.ntmps30 (by kernel_rfl) rfl rfl ?_
  repeat' ((conv => whnf); first | refine V.NCond.mk ?_ | refine V.NPick.l ?_ | refine V.NIf.not_ ?_ | refine V.NIf.dec_ ?_ | refine V.a4 ?_ | refine V.a5 ?_ | refine V.NIf.mk (fun _ => ?_) (fun _ => ?_) | refine V.a7 ?_ | refine V.a8 ?_ | refine V.a9 ?_ | refine V.NBoth.mk ?_ ?_ | refine V.b1 ?_ | refine V.b2 ?_ | refine V.NTF.dec ?_ | refine V.b3 ?_ | refine V.b4 ?_ | (refine V.NDraw.any (by kernel_rfl) ?_) | fail)
  rotate_left
  · exact congrArg Value.bool (decide_eq_false (by rintro rfl; omega)).symm
  (conv => whnf)
  rename_i hl
  have hl : a.length = b.length := by omega
  refine V.NLoop.auto (fun (k : Nat) => [(5, .one (.val (.int .i64 k)))]) (fun (k : Nat) => []) [] [] (fun (k : Nat) => a.length - k) (fun (k : Nat) => k ≤ a.length ∧ a.take k = b.take k) 0 ⟨by omega, by simp⟩ V.S_ V.S_ (fun _ => ⟨rfl, rfl⟩) ?_; (conv => whnf); refine ⟨⟨rfl, rfl⟩, ?_⟩
  rintro k ⟨hk, hJ⟩
  by_cases hlt : k < a.length
  · have e1 := getD_at (l := a) (by omega)
    have e2 := getD_at (l := b) (k := k) (by omega)
    repeat' ((conv => whnf); first | refine V.NCond.mk ?_ | refine V.NPick.l ?_ | refine V.NIf.not_ ?_ | refine V.NIf.dec_ ?_ | refine V.a4 ?_ | refine V.a5 ?_ | refine V.NIf.mk (fun _ => ?_) (fun _ => ?_) | refine V.a7 ?_ | refine V.a8 ?_ | refine V.a9 ?_ | refine V.NBoth.mk ?_ ?_ | refine V.b1 ?_ | refine V.b2 ?_ | refine V.NTF.dec ?_ | refine V.b3 ?_ | refine V.b4 ?_ | (refine NIdx.mk ⟨k, rfl, by omega, ?_⟩) | (refine V.NDraw.any (by kernel_rfl) ?_) | fail)
    all_goals (conv => whnf)
    · rename_i q
      exact V.NBack.at_ (k + 1) [] ⟨by omega, by rw [List.take_succ_eq_append_getElem hlt, List.take_succ_eq_append_getElem (by omega), hJ, ← e1, ← e2, Fl_eq q]⟩ (by omega) V.S_ rfl V.S_ V.S_ V.S_
    · rename_i q
      exact congrArg Value.bool (decide_eq_false (by rintro rfl; exact Fl_ne q rfl)).symm
  · obtain rfl : k = a.length := by omega
    repeat' ((conv => whnf); first | refine V.NCond.mk ?_ | refine V.NPick.l ?_ | refine V.NIf.not_ ?_ | refine V.NIf.dec_ ?_ | refine V.a4 ?_ | refine V.a5 ?_ | refine V.NIf.mk (fun _ => ?_) (fun _ => ?_) | refine V.a7 ?_ | refine V.a8 ?_ | refine V.a9 ?_ | refine V.NBoth.mk ?_ ?_ | refine V.b1 ?_ | refine V.b2 ?_ | refine V.NTF.dec ?_ | refine V.b3 ?_ | refine V.b4 ?_ | (refine V.NDraw.any (by kernel_rfl) ?_) | fail)
    (conv => whnf)
    refine congrArg Value.bool (decide_eq_true ?_).symm
    rw [List.take_length, List.take_of_length_le (by omega)] at hJ
    exact hJ
instance : DecidableEq Lt := fun x y => decidable_of_iff (x.day = y.day ∧ x.un = y.un ∧ x.co = y.co) ⟨fun h => by cases x; cases y; simp_all, fun h => by subst h; simp⟩
end Go.Proofs.YtpanlcnoopmchaaGreatDoor

namespace Go.Proofs.YtpanlcnoopmchaaGreatDoor
namespace Bk
def key (p : Po) : Nat := (21 * p.ac + p.ut).toNat
theorem key_r {p : Po} (h : Right p) : key p < 2121 ∧ p.ac = ((key p / 21 : Nat) : Int) ∧ p.ut = ((key p % 21 : Nat) : Int) := by
  obtain ⟨⟨h1, h2⟩, _⟩ := h
  unfold key
  omega
theorem key_lx {p q : Po} (hp : Right p) (hq : Right q) : lx p q = true ↔ key p < key q := by
  obtain ⟨⟨h1, h2⟩, _⟩ := hp
  obtain ⟨⟨h3, h4⟩, _⟩ := hq
  unfold lx key
  rw [decide_eq_true_eq]
  omega
theorem key_eq {p q : Po} (hp : Right p) (hq : Right q) : key p = key q ↔ p.ac = q.ac ∧ p.ut = q.ut := by
  obtain ⟨⟨h1, h2⟩, _⟩ := hp
  obtain ⟨⟨h3, h4⟩, _⟩ := hq
  unfold key
  omega
def amk (l : List Po) (k : Nat) : List Int := (l.filter fun p => decide (key p = k)).map (·.am)
def tot (l : List Po) (k : Nat) : Int := M.sum (amk l k)
theorem amk_app (b l : List Po) (k : Nat) : amk (b ++ l) k = amk b k ++ amk l k := by unfold amk; rw [List.filter_append, List.map_append]
theorem tot_app (b l : List Po) (k : Nat) : tot (b ++ l) k = tot b k + tot l k := by unfold tot; rw [amk_app, M.sum_append]
theorem sum_perm {l m : List Int} (h : l.Perm m) : M.sum l = M.sum m := by
  induction h with
  | nil => rfl
  | cons x _ ih => simp only [M.sum, ih]
  | swap x y l => simp only [M.sum]; omega
  | trans _ _ h1 h2 => exact h1.trans h2
theorem tot_perm {l m : List Po} (h : l.Perm m) (k : Nat) : tot l k = tot m k := sum_perm ((h.filter _).map _)
theorem tot_none {l : List Po} {k : Nat} (h : ∀ p ∈ l, key p ≠ k) : tot l k = 0 := by
  unfold tot amk
  rw [List.filter_eq_nil_iff.2 fun p hp => by simpa using h p hp]
  rfl
def one (T : Nat → Int) (k : Nat) : Option Po := if T k = 0 then none else some ⟨((k / 21 : Nat) : Int), ((k % 21 : Nat) : Int), T k⟩
def out (T : Nat → Int) (n : Nat) : List Po := (List.range n).filterMap (one T)
theorem out_succ (T : Nat → Int) (n : Nat) : out T (n + 1) = out T n ++ if T n = 0 then [] else [⟨((n / 21 : Nat) : Int), ((n % 21 : Nat) : Int), T n⟩] := by
  unfold out
  rw [List.range_succ, List.filterMap_append]
  congr 1
  unfold one
  by_cases h : T n = 0
  · rw [if_pos h]; simp [h]
  · rw [if_neg h]; simp [h]
theorem out_len (T : Nat → Int) (n : Nat) : (out T n).length ≤ n := by
  unfold out
  exact Nat.le_trans (List.length_filterMap_le _ _) (by simp)
theorem out_skip (T : Nat → Int) {m n : Nat} (h : m ≤ n) (z : ∀ k, m ≤ k → k < n → T k = 0) : out T n = out T m := by
  induction n with
  | zero => rw [show m = 0 by omega]
  | succ n ih =>
    by_cases e : m = n + 1
    · rw [e]
    · rw [out_succ, if_pos (z n (by omega) (by omega)), List.append_nil]
      exact ih (by omega) fun k h1 h2 => z k h1 (by omega)
theorem out_mem {T : Nat → Int} {n : Nat} {p : Po} : p ∈ out T n ↔ ∃ k, k < n ∧ T k ≠ 0 ∧ p = ⟨((k / 21 : Nat) : Int), ((k % 21 : Nat) : Int), T k⟩ := by
  unfold out
  rw [List.mem_filterMap]
  constructor
  · rintro ⟨k, hk, e⟩
    unfold one at e
    split at e
    · cases e
    · exact ⟨k, List.mem_range.1 hk, by assumption, (Option.some.inj e).symm⟩
  · rintro ⟨k, hk, h, e⟩
    exact ⟨k, List.mem_range.2 hk, by unfold one; rw [if_neg h, e]⟩
theorem key_out (k : Nat) (n : Int) : key ⟨((k / 21 : Nat) : Int), ((k % 21 : Nat) : Int), n⟩ = k := by
  unfold key; simp only; omega
theorem out_srt (T : Nat → Int) (n : Nat) : (out T n).Pairwise fun p q => key p < key q := by
  induction n with
  | zero => exact List.Pairwise.nil
  | succ n ih =>
    rw [out_succ]
    by_cases h : T n = 0
    · rw [if_pos h, List.append_nil]; exact ih
    · rw [if_neg h]
      refine List.pairwise_append.2 ⟨ih, List.pairwise_singleton _ _, fun p hp q hq => ?_⟩
      obtain ⟨k, hk, _, rfl⟩ := out_mem.1 hp
      rw [List.mem_singleton.1 hq, key_out, key_out]
      exact hk
theorem tot_in {l : List Po} (s : l.Pairwise fun p q => key p ≠ key q) {p : Po} (hp : p ∈ l) : tot l (key p) = p.am := by
  induction l with
  | nil => cases hp
  | cons q r ih =>
    rw [List.pairwise_cons] at s
    have e : ∀ k, tot (q :: r) k = tot [q] k + tot r k := fun k => tot_app [q] r k
    rw [e]
    rcases List.mem_cons.1 hp with rfl | hr
    · rw [tot_none fun x hx => (s.1 x hx).symm]
      simp [tot, amk, M.sum]
    · rw [ih s.2 hr, tot_none fun x hx => by rw [List.mem_singleton.1 hx]; exact s.1 p hr]
      omega
theorem ne_of_lt {l : List Po} (s : l.Pairwise fun p q => key p < key q) : l.Pairwise fun p q => key p ≠ key q := s.imp fun h => by omega
theorem tot_out {T : Nat → Int} {n k : Nat} (hk : k < n) : tot (out T n) k = T k := by
  by_cases h : T k = 0
  · rw [h]
    refine tot_none fun p hp e => ?_
    obtain ⟨j, hj, hz, rfl⟩ := out_mem.1 hp
    rw [key_out] at e
    subst e
    exact hz h
  · have := tot_in (ne_of_lt (out_srt T n)) (out_mem.2 ⟨k, hk, h, rfl⟩)
    rwa [key_out] at this
def su (T : Nat → Int) (u : Nat) : Nat → Int
  | 0 => 0
  | a + 1 => su T u a + T (21 * a + u)
theorem su_add (S T : Nat → Int) (u : Nat) : ∀ a, su (fun k => S k + T k) u a = su S u a + su T u a
  | 0 => rfl
  | a + 1 => by simp only [su, su_add S T u a]; omega
theorem su_congr {S T : Nat → Int} {u : Nat} : ∀ {a : Nat}, (∀ j, j < a → S (21 * j + u) = T (21 * j + u)) → su S u a = su T u a
  | 0, _ => rfl
  | a + 1, h => by simp only [su, su_congr (a := a) fun j hj => h j (by omega), h a (by omega)]
theorem su_one (p : Po) (u : Nat) (hu : u < 21) (h : Right p) : ∀ a, su (tot [p]) u a = if p.ut = (u : Int) ∧ p.ac < (a : Int) then p.am else 0
  | 0 => by
    rw [if_neg (by have := h.1.1.1; omega)]; rfl
  | a + 1 => by
    obtain ⟨⟨h1, h2⟩, _⟩ := h
    have e : tot [p] (21 * a + u) = if p.ut = (u : Int) ∧ p.ac = (a : Int) then p.am else 0 := by
      by_cases q : key p = 21 * a + u
      · have : p.ut = (u : Int) ∧ p.ac = (a : Int) := by unfold key at q; omega
        rw [if_pos this]
        simp [tot, amk, q, M.sum]
      · have : ¬ (p.ut = (u : Int) ∧ p.ac = (a : Int)) := fun z => q (by unfold key; omega)
        rw [if_neg this]
        exact tot_none fun x hx => by rw [List.mem_singleton.1 hx]; exact q
    simp only [su]
    rw [su_one p u hu ⟨⟨h1, h2⟩, by assumption⟩ a, e]
    by_cases q : p.ut = (u : Int)
    · by_cases r : p.ac < (a : Int)
      · rw [if_pos ⟨q, r⟩, if_neg (by omega), if_pos ⟨q, by omega⟩]; omega
      · by_cases s : p.ac = (a : Int)
        · rw [if_neg (by omega), if_pos ⟨q, s⟩, if_pos ⟨q, by omega⟩]; omega
        · rw [if_neg (by omega), if_neg (by omega), if_neg (by omega)]; rfl
    · rw [if_neg (fun z => q z.1), if_neg (fun z => q z.1), if_neg (fun z => q z.1)]; rfl
theorem su_all : ∀ {l : List Po}, (∀ p ∈ l, Right p) → ∀ u, u < 21 → M.sum (amu l u) = su (tot l) u 101
  | [], _, u, _ => by
    have : ∀ a, su (tot []) u a = 0 := fun a => by
      induction a with
      | zero => rfl
      | succ a ih => simp only [su, ih]; rfl
    rw [this]; rfl
  | p :: r, h, u, hu => by
    have ih := su_all (l := r) (fun q hq => h q (by simp [hq])) u hu
    have e : su (tot (p :: r)) u 101 = su (tot [p]) u 101 + su (tot r) u 101 := by
      rw [← su_add]
      exact su_congr fun j _ => tot_app [p] r _
    have hp := h p (by simp)
    rw [e, su_one p u hu hp, ← ih]
    have : amu (p :: r) u = (if p.ut = (u : Int) then [p.am] else []) ++ amu r u := by
      unfold amu
      rw [List.filter_cons]
      by_cases q : p.ut = (u : Int)
      · simp [q]
      · simp [q]
    rw [this, M.sum_append]
    refine congrArg (· + M.sum (amu r u)) ?_
    have ac := hp.1.1.2
    have w : p.ut = (u : Int) → p.ut = (u : Int) ∧ p.ac < ((101 : Nat) : Int) := fun q => ⟨q, by omega⟩
    generalize ((101 : Nat) : Int) = N at *
    by_cases q : p.ut = (u : Int)
    · rw [if_pos q, if_pos (w q)]
      show p.am + 0 = p.am
      omega
    · rw [if_neg q, if_neg (fun z => q z.1)]; rfl
theorem even_su {l : List Po} (h : ∀ p ∈ l, Right p) : even l = true ↔ ∀ u, u < 21 → su (tot l) u 101 = 0 := by
  rw [even_iff]
  exact ⟨fun q u hu => by rw [← su_all h u hu]; exact q u hu, fun q u hu => by rw [su_all h u hu]; exact q u hu⟩
def wideT (T : Nat → Int) : Bool := (List.range 2121).any fun k => !decide (M.Amt (T k))
theorem wide_no {T : Nat → Int} (h : wideT T = false) (k : Nat) (hk : k < 2121) : M.Amt (T k) := by
  refine Classical.byContradiction fun z => ?_
  have : wideT T = true := List.any_eq_true.2 ⟨k, List.mem_range.2 hk, by simp [z]⟩
  rw [h] at this; cases this
theorem wide_yes {T : Nat → Int} {k : Nat} (hk : k < 2121) (h : ¬ M.Amt (T k)) : wideT T = true := List.any_eq_true.2 ⟨k, List.mem_range.2 hk, by simp [h]⟩
theorem no_wide {T : Nat → Int} (h : ∀ k, k < 2121 → M.Amt (T k)) : wideT T = false := by
  cases q : wideT T
  · rfl
  · obtain ⟨k, hk, e⟩ := List.any_eq_true.1 q
    have := h k (List.mem_range.1 hk)
    simp [this] at e
def mE (T : Nat → Int) : Int := if wideT T = true then 8 else if 400 < (out T 2121).length then 2 else 0
def mL (T : Nat → Int) : List Po := if mE T = 0 then out T 2121 else []
def pE (b l : List Po) : Int := if lines b ≠ 0 then lines b else if chk l ≠ 0 then chk l else mE (tot (b ++ l))
def pL (b l : List Po) : List Po := if pE b l = 0 then out (tot (b ++ l)) 2121 else []
theorem out_right {T : Nat → Int} (h : ∀ k, k < 2121 → M.Amt (T k)) : ∀ p ∈ out T 2121, Right p := fun p hp => by
  obtain ⟨k, hk, hz, rfl⟩ := out_mem.1 hp
  exact ⟨⟨by simp only; omega, by simp only; omega⟩, h k hk, hz⟩
theorem out_lines {T : Nat → Int} (h : ∀ k, k < 2121 → M.Amt (T k)) (n : (out T 2121).length ≤ 400) : Lines (out T 2121) := by
  have r := out_right h
  refine ⟨n, r, ?_⟩
  refine List.pairwise_iff_getElem.2 fun i j hi hj hij => ?_
  exact (key_lx (r _ (List.getElem_mem hi)) (r _ (List.getElem_mem hj))).2 (List.pairwise_iff_getElem.1 (out_srt T 2121) i j hi hj hij)
theorem pE_cases (b l : List Po) : (¬ lines b = 0 ∧ pE b l = lines b) ∨ (lines b = 0 ∧ ¬ chk l = 0 ∧ pE b l = chk l) ∨ (lines b = 0 ∧ chk l = 0 ∧ pE b l = mE (tot (b ++ l))) := by
  unfold pE
  by_cases h1 : lines b = 0
  · rw [if_neg (fun z => z h1)]
    by_cases h2 : chk l = 0
    · rw [if_neg (fun z => z h2)]; exact .inr (.inr ⟨h1, h2, rfl⟩)
    · rw [if_pos h2]; exact .inr (.inl ⟨h1, h2, rfl⟩)
  · rw [if_pos h1]; exact .inl ⟨h1, rfl⟩
theorem mE_0 {T : Nat → Int} (h : mE T = 0) : (∀ k, k < 2121 → M.Amt (T k)) ∧ (out T 2121).length ≤ 400 := by
  unfold mE at h
  split at h
  · omega
  · rename_i w
    split at h
    · omega
    · exact ⟨wide_no (by simpa using w), by omega⟩
theorem mE_is {T : Nat → Int} (h : ∀ k, k < 2121 → M.Amt (T k)) : mE T = if 400 < (out T 2121).length then 2 else 0 := by
  unfold mE
  rw [if_neg (by rw [no_wide h]; decide)]
def ws (l : List Po) (k q : Nat) : Int × Int := wst (amu (l.take k) q)
theorem ws_succ {l : List Po} {k : Nat} (h : k < l.length) (u : Nat) (hu : (l.getD k default).ut = (u : Int)) (q : Nat) : ws l (k + 1) q = if q = u then wadd (ws l k u) (l.getD k default).am else ws l k q := by
  unfold ws
  rw [show l.take (k + 1) = l.take k ++ [l.getD k default] by rw [getD_at h, List.take_succ_eq_append_getElem h], amu_snoc, hu]
  by_cases e : q = u
  · rw [if_pos (by rw [e]), if_pos e, wst_snoc, e]
  · rw [if_neg (by omega), if_neg e, List.append_nil]
theorem ws_spec {l : List Po} (hr : ∀ p ∈ l, Right p) (k u : Nat) : (ws l k u).1 * 1152921504606846976 + (ws l k u).2 = M.sum (amu (l.take k) u) ∧ (-1152921504606846976 < (ws l k u).2 ∧ (ws l k u).2 < 1152921504606846976) ∧ -(l.length : Int) ≤ (ws l k u).1 ∧ (ws l k u).1 ≤ l.length := by
  obtain ⟨a, b, c⟩ := wst_spec (amu (l.take k) u) (amu_amt (fun p hp => hr p (List.mem_of_mem_take hp)) u)
  have d := amu_len (l.take k) u
  have e : (l.take k).length ≤ l.length := by rw [List.length_take]; omega
  unfold ws
  exact ⟨a, b, by omega, by omega⟩
def put (W : Nat → Int × Int) (u : Nat) (x : Int × Int) (q : Nat) : Int × Int := if q = u then x else W q
theorem put_u (W : Nat → Int × Int) (u : Nat) (x : Int × Int) : put W u x u = x := if_pos rfl
theorem put_2 (W : Nat → Int × Int) (u : Nat) (x y : Int × Int) : put (put W u x) u y = put W u y := funext fun q => by
  unfold put
  by_cases e : q = u
  · rw [if_pos e, if_pos e]
  · rw [if_neg e, if_neg e, if_neg e]
end Bk
end Go.Proofs.YtpanlcnoopmchaaGreatDoor

namespace Go.Proofs.YtpanlcnoopmchaaGreatDoor
open Go Go.Sort Go.RowKit V
set_option maxHeartbeats 4000000
theorem v_order (p q : Po) : V.Fn Tryz.prog 63 [] [.agg [.val (.int .i64 p.ac), .val (.int .i64 p.ut), .val (.int .i64 p.am)], .agg [.val (.int .i64 q.ac), .val (.int .i64 q.ut), .val (.int .i64 q.am)]] (.int .i64 (orI (cmpI p.ac q.ac) (cmpI p.ut q.ut))) := by
  have c1 := v_compare p.ac q.ac
  have c2 := v_compare p.ut q.ut
  have c3 := v_or (cmpI p.ac q.ac) (cmpI p.ut q.ut)
  generalize cmpI p.ac q.ac = C1 at *
  generalize cmpI p.ut q.ut = C2 at *
  refine V.Fn.mk_ V.Tok V.mixed Tryz.func63 rfl Tryz.ntmps63 (by kernel_rfl) rfl rfl ?_
  repeat' ((conv => whnf); first | refine V.NCond.mk ?_ | refine V.NPick.l ?_ | refine V.NIf.not_ ?_ | refine V.NIf.dec_ ?_ | refine V.a4 ?_ | refine V.a5 ?_ | refine V.NIf.mk (fun _ => ?_) (fun _ => ?_) | refine V.a7 ?_ | refine V.a8 ?_ | refine V.a9 ?_ | refine V.NBoth.mk ?_ ?_ | refine V.b1 ?_ | refine V.b2 ?_ | refine V.NTF.dec ?_ | refine V.b3 ?_ | refine V.b4 ?_ | (first | refine V.Fn.k0 (c1) rfl ?_ | refine V.Fn.q0 (c1) rfl ?_ | refine V.Fn.a0 (c1) rfl ?_) | (first | refine V.Fn.k0 (c2) rfl ?_ | refine V.Fn.q0 (c2) rfl ?_ | refine V.Fn.a0 (c2) rfl ?_) | ((first | (first | refine V.Fn.k (c3) [2] rfl ?_ ?_ | refine V.Fn.q (c3) [2] rfl ?_ ?_ | refine V.Fn.a (c3) [2] rfl ?_ ?_); · exact V.D_ | (first | refine V.Fn.k (c3) [3] rfl ?_ ?_ | refine V.Fn.q (c3) [3] rfl ?_ ?_ | refine V.Fn.a (c3) [3] rfl ?_ ?_); · exact V.D_)) | (refine V.NDraw.any (by kernel_rfl) ?_) | fail)
  all_goals (conv => whnf)
  all_goals exact V.fin1 rfl
theorem order_lt (p q : Po) : decide (orI (cmpI p.ac q.ac) (cmpI p.ut q.ut) < 0) = Bk.lx p q := orI_lt _ _ _ _
theorem order_ge (p q : Po) : 0 ≤ orI (cmpI p.ac q.ac) (cmpI p.ut q.ut) ↔ Bk.lx p q = false := by
  have := order_lt p q
  rw [← this, decide_eq_false_iff_not]
  omega
theorem order_eq (p q : Po) : orI (cmpI p.ac q.ac) (cmpI p.ut q.ut) = 0 ↔ p.ac = q.ac ∧ p.ut = q.ut := by
  have z : ∀ a b, cmpI a b = 0 ↔ a = b := fun a b => by
    unfold cmpI
    by_cases q : a < b
    · rw [if_pos q]; omega
    · rw [if_neg q]
      by_cases q2 : b < a
      · rw [if_pos q2]; omega
      · rw [if_neg q2]; omega
  unfold orI
  by_cases h : cmpI p.ac q.ac = 0
  · rw [if_pos h, z]
    have := (z _ _).1 h
    omega
  · rw [if_neg h]
    exact ⟨fun e => absurd e h, fun e => absurd ((z _ _).2 e.1) h⟩
theorem v_bkKnown (a u : Int) : V.Fn Tryz.prog 86 [] [.one (.val (.int .i64 a)), .one (.val (.int .i64 u))] (.bool (decide ((0 ≤ a ∧ a ≤ 100) ∧ (0 ≤ u ∧ u ≤ 20)))) := by
  refine V.Fn.mk_ V.Tok V.mixed Tryz.func86 rfl Tryz.ntmps86 (by kernel_rfl) rfl rfl ?_
  repeat' ((conv => whnf); first | refine V.NCond.mk ?_ | refine V.NPick.l ?_ | refine V.NIf.not_ ?_ | refine V.NIf.dec_ ?_ | refine V.a4 ?_ | refine V.a5 ?_ | refine V.NIf.mk (fun _ => ?_) (fun _ => ?_) | refine V.a7 ?_ | refine V.a8 ?_ | refine V.a9 ?_ | refine V.NBoth.mk ?_ ?_ | refine V.b1 ?_ | refine V.b2 ?_ | refine V.NTF.dec ?_ | refine V.b3 ?_ | refine V.b4 ?_ | (refine V.NDraw.any (by kernel_rfl) ?_) | fail)
  all_goals (conv => whnf)
  all_goals first
    | rfl
    | exact ⟨_, rfl, by rw [decide_eq_true_eq]; omega⟩
    | (exact congrArg Value.bool (by simp; omega))
    | trace_state
theorem v_bkRight (p : Po) : V.Fn Tryz.prog 62 [] [.agg [.val (.int .i64 p.ac), .val (.int .i64 p.ut), .val (.int .i64 p.am)]] (.bool (decide (Bk.Right p))) := by
  have c := v_bkKnown p.ac p.ut
  have d := v_check p.am
  have e : M.chk p.am = 0 ↔ M.Amt p.am := ⟨fun q => Classical.byContradiction fun z => by rw [M.chk_no z] at q; omega, M.chk_yes⟩
  have r : Bk.Right p ↔ ((0 ≤ p.ac ∧ p.ac ≤ 100) ∧ (0 ≤ p.ut ∧ p.ut ≤ 20)) ∧ M.chk p.am = 0 ∧ p.am ≠ 0 := by rw [e]; exact Iff.rfl
  generalize M.chk p.am = C at *
  refine V.Fn.mk_ V.Tok V.mixed Tryz.func62 rfl Tryz.ntmps62 (by kernel_rfl) rfl rfl ?_
  repeat' ((conv => whnf); first | refine V.NCond.mk ?_ | refine V.NPick.l ?_ | refine V.NIf.not_ ?_ | refine V.NIf.dec_ ?_ | refine V.a4 ?_ | refine V.a5 ?_ | refine V.NIf.mk (fun _ => ?_) (fun _ => ?_) | refine V.a7 ?_ | refine V.a8 ?_ | refine V.a9 ?_ | refine V.NBoth.mk ?_ ?_ | refine V.b1 ?_ | refine V.b2 ?_ | refine V.NTF.dec ?_ | refine V.b3 ?_ | refine V.b4 ?_ | (first | refine V.Fn.k0 (c) rfl ?_ | refine V.Fn.q0 (c) rfl ?_ | refine V.Fn.a0 (c) rfl ?_) | (first | refine V.Fn.k0 (d) rfl ?_ | refine V.Fn.q0 (d) rfl ?_ | refine V.Fn.a0 (d) rfl ?_) | (refine V.NDraw.any (by kernel_rfl) ?_) | fail)
  all_goals (conv => whnf)
  all_goals first
    | rfl
    | exact ⟨_, rfl, by rw [decide_eq_true_eq, r]; omega⟩
    | (exact congrArg Value.bool (by simp only [r]; simp; omega))
    | trace_state
end Go.Proofs.YtpanlcnoopmchaaGreatDoor

namespace Go.Proofs.YtpanlcnoopmchaaGreatDoor
open Go Go.Sort Go.RowKit V
set_option maxHeartbeats 4000000
def ltP (x y : PtT) : Bool := Bk.lx x.q y.q || (!Bk.lx y.q x.q && decide (x.tg < y.tg))
theorem swoP : SWO ltP where
  irrefl x := by unfold ltP Bk.lx; simp
  trans x y z := by
    unfold ltP Bk.lx
    simp only [Bool.or_eq_true, Bool.and_eq_true, Bool.not_eq_true', decide_eq_true_eq, decide_eq_false_iff_not]
    omega
  ntrans x y z := by
    unfold ltP Bk.lx
    simp only [Bool.or_eq_false_iff, Bool.and_eq_false_iff, Bool.not_eq_false', decide_eq_false_iff_not, decide_eq_true_eq]
    omega
def dP (l : List Po) : Array PtT := (l.mapIdx fun i p => (⟨p, i⟩ : PtT)).toArray
theorem dP_sz (l : List Po) : (dP l).size = l.length := by simp [dP]
theorem dP_at {l : List Po} {i : Nat} (h : i < l.length) : (dP l)[i]! = ⟨l.getD i default, i⟩ := by
  rw [getElem!_pos _ i (by rw [dP_sz]; exact h), getD_at h]
  simp [dP]
theorem ga_dP (l : List Po) : ga encTP (dP l).toList = ga encP l := by
  funext k
  unfold ga
  by_cases h : k < l.length
  · rw [arr_getP, dP_at h]; rfl
  · rw [List.getD_eq_getElem?_getD, List.getD_eq_getElem?_getD, List.getElem?_eq_none (by rw [Array.length_toList, dP_sz]; omega), List.getElem?_eq_none (by omega)]
    rfl
theorem v_sortP (nx : Nat) (O : Obs) (hT : Tail (nx + 1) O) (l : List Po) (hn : l.length ≤ 1152921504606846975) :
    Fam Tryz.prog 107 [.one (.ref 0), .one (.clo 63 [])] 52 3 l.length (ga encP l) nx O (fun r => ∃ S : List Po, S.Perm l ∧ S.Pairwise (fun p q => Bk.lx q p = false) ∧ ∀ k, k < l.length → r k = ga encP S k) := by
  have c := v_stabP nx O hT 63 (fun x y => orI (cmpI x.q.ac y.q.ac) (cmpI x.q.ut y.q.ut)) (fun x y => v_order x.q y.q) ltP swoP (fun x y h => by
    show decide (orI (cmpI y.q.ac x.q.ac) (cmpI y.q.ut x.q.ut) < 0) = ltP y x
    rw [order_lt]
    unfold ltP
    rw [show decide (y.tg < x.tg) = false by simp; omega, Bool.and_false, Bool.or_false]) (dP l) (by rw [dP_sz]; exact hn) (fun i hi => by rw [dP_sz] at hi; rw [dP_at hi])
  rw [dP_sz, ga_dP] at c
  have done : ∀ d' : Array PtT, PermIn 0 l.length (dP l) d' → SortedIn ltP 0 l.length d' → ∃ S : List Po, S.Perm l ∧ S.Pairwise (fun p q => Bk.lx q p = false) ∧ ∀ k, k < l.length → ga encTP d'.toList k = ga encP S k := fun d' P s => by
    have s1 : d'.size = l.length := by rw [P.1, dP_sz]
    have p : d'.toList.Perm (dP l).toList := by
      have := P.2.2
      rwa [show d'.extract 0 l.length = d' by rw [← s1]; simp, show (dP l).extract 0 l.length = dP l by rw [← dP_sz l]; simp] at this
    have em : (dP l).toList.map PtT.q = l := by
      refine List.ext_getElem (by simp [dP]) fun i h1 h2 => ?_
      simp [dP]
    refine ⟨d'.toList.map PtT.q, by have := p.map PtT.q; rwa [em] at this, ?_, fun k hk => ?_⟩
    · refine List.pairwise_map.2 (List.pairwise_iff_getElem.2 fun i j hi hj hij => ?_)
      have q := s i j (Nat.zero_le _) hij (by simpa [s1] using hj)
      rw [← arr_getP, ← arr_getP, getD_at hi, getD_at hj] at q
      unfold ltP at q
      rw [Bool.or_eq_false_iff] at q
      exact q.1
    · unfold ga
      have h1 : k < d'.toList.length := by rw [Array.length_toList, s1]; exact hk
      rw [getD_at h1, getD_at (by rw [List.length_map]; exact h1), List.getElem_map]
      rfl
  refine Fam.mk hT ?_
  refine V.NCall.inl (f := 107) V.Tok V.mixed Tryz.func107 rfl Tryz.ntmps107 (by kernel_rfl) rfl ?_
  repeat' ((conv => whnf); first | refine V.NCond.mk ?_ | refine V.NPick.l ?_ | refine V.NIf.not_ ?_ | refine V.NIf.dec_ ?_ | refine V.a4 ?_ | refine V.a5 ?_ | refine V.NIf.mk (fun _ => ?_) (fun _ => ?_) | refine V.a7 ?_ | refine V.a8 ?_ | refine V.a9 ?_ | refine V.NBoth.mk ?_ ?_ | refine V.b1 ?_ | refine V.b2 ?_ | refine V.NTF.dec ?_ | refine V.b3 ?_ | refine V.b4 ?_ | (refine Fam.use c hT [(0, _)] rfl rfl rfl (fun k hk => rfl) ?_; rintro g1 ⟨d', P, S, rfl⟩) | (refine V.NDraw.any (by kernel_rfl) ?_) | fail)
  all_goals (conv => whnf)
  exact ⟨rfl, rfl, [(0, _)], _, rfl, rfl, rfl, done d' P S⟩
end Go.Proofs.YtpanlcnoopmchaaGreatDoor

namespace Go.Proofs.YtpanlcnoopmchaaGreatDoor
open Go Go.Sort Go.RowKit V
set_option maxHeartbeats 4000000
theorem arr2 {n k : Nat} {v : Go.Value} (h : k < n) : ((List.replicate (n * 2) v).drop (k * 2)).take 2 = [v, v] := by
  rw [List.drop_replicate, List.take_replicate, show min 2 (n * 2 - k * 2) = 2 by omega]
  rfl
theorem v_bkBad (p : Po) : V.Fn Tryz.prog 105 [] [.agg [.val (.int .i64 p.ac), .val (.int .i64 p.ut), .val (.int .i64 p.am)]] (.bool (Bk.bad p)) := by
  refine V.Fn.mk_ V.Tok V.mixed Tryz.func105 rfl Tryz.ntmps105 (by kernel_rfl) rfl rfl ?_
  repeat' ((conv => whnf); first | refine V.NCond.mk ?_ | refine V.NPick.l ?_ | refine V.NIf.not_ ?_ | refine V.NIf.dec_ ?_ | refine V.a4 ?_ | refine V.a5 ?_ | refine V.NIf.mk (fun _ => ?_) (fun _ => ?_) | refine V.a7 ?_ | refine V.a8 ?_ | refine V.a9 ?_ | refine V.NBoth.mk ?_ ?_ | refine V.b1 ?_ | refine V.b2 ?_ | refine V.NTF.dec ?_ | refine V.b3 ?_ | refine V.b4 ?_ | (first | refine V.Fn.k0 (v_bkRight p) rfl ?_ | refine V.Fn.q0 (v_bkRight p) rfl ?_ | refine V.Fn.a0 (v_bkRight p) rfl ?_) | (refine V.NDraw.any (by kernel_rfl) ?_) | fail)
  all_goals (conv => whnf)
  all_goals first
    | rfl
    | exact ⟨_, rfl, by unfold Bk.bad; simp⟩
    | (exact congrArg Value.bool (by unfold Bk.bad; simp; omega))
    | trace_state
theorem v_indexP (l : List Po) (f : FuncId) (p : Po → Bool) (hn : l.length ≤ 9223372036854775807) (hf : ∀ k, k < l.length → V.Fn Tryz.prog f [] [.agg [.val (.int .i64 (l.getD k default).ac), .val (.int .i64 (l.getD k default).ut), .val (.int .i64 (l.getD k default).am)]] (.bool (p (l.getD k default)))) :
    V.Fn Tryz.prog 115 [.arr 3 l.length (ga encP l)] [.one (.ref 0), .one (.clo f [])] (.int .i64 (ixf p l)) := by
  refine V.Fn.mk_ V.Tok V.mixed Tryz.func115 rfl Tryz.ntmps115 (by kernel_rfl) rfl rfl ?_
  repeat' ((conv => whnf); first | refine V.NCond.mk ?_ | refine V.NPick.l ?_ | refine V.NIf.not_ ?_ | refine V.NIf.dec_ ?_ | refine V.a4 ?_ | refine V.a5 ?_ | refine V.NIf.mk (fun _ => ?_) (fun _ => ?_) | refine V.a7 ?_ | refine V.a8 ?_ | refine V.a9 ?_ | refine V.NBoth.mk ?_ ?_ | refine V.b1 ?_ | refine V.b2 ?_ | refine V.NTF.dec ?_ | refine V.b3 ?_ | refine V.b4 ?_ | (refine V.NDraw.any (by kernel_rfl) ?_) | fail)
  refine V.NLoop.auto (fun (k : Nat) => [(8, .one (.val (.int .i64 k)))]) (fun (k : Nat) => []) [] [] (fun (k : Nat) => l.length - k) (fun (k : Nat) => k ≤ l.length ∧ ∀ d ∈ l.take k, p d = false) 0 ⟨by omega, by simp⟩ V.S_ V.S_ (fun _ => ⟨rfl, rfl⟩) ?_; (conv => whnf); refine ⟨⟨rfl, rfl⟩, ?_⟩
  rintro k ⟨hk, hJ⟩
  repeat' ((conv => whnf); first | refine V.NCond.mk ?_ | refine V.NPick.l ?_ | refine V.NIf.not_ ?_ | refine V.NIf.dec_ ?_ | refine V.a4 ?_ | refine V.a5 ?_ | refine V.NIf.mk (fun _ => ?_) (fun _ => ?_) | refine V.a7 ?_ | refine V.a8 ?_ | refine V.a9 ?_ | refine V.NBoth.mk ?_ ?_ | refine V.b1 ?_ | refine V.b2 ?_ | refine V.NTF.dec ?_ | refine V.b3 ?_ | refine V.b4 ?_ | (refine NIdx.mk ⟨_, rfl, by omega, ?_⟩) | (first | refine V.Fn.k0 (hf k (by omega)) rfl ?_ | refine V.Fn.q0 (hf k (by omega)) rfl ?_ | refine V.Fn.a0 (hf k (by omega)) rfl ?_) | (refine V.NDraw.any (by kernel_rfl) ?_) | fail)
  all_goals (conv => whnf)
  · exact V.fin1 (ixf_get (by omega) hJ (by assumption))
  · exact V.NBack.at_ (k + 1) [] ⟨by omega, all_snoc (by omega) hJ (by simpa using ‹¬ p (l.getD k default) = true›)⟩ (by omega) V.S_ rfl V.S_ V.S_ V.S_
  · exact V.fin1 (ixf_no (all_whole (by omega) hJ))
theorem v_bkHas (l : List Po) (hn : l.length ≤ 9223372036854775807) : V.Fn Tryz.prog 104 [.arr 3 l.length (ga encP l)] [.one (.ref 0), .one (.clo 105 [])] (.bool (decide (0 ≤ ixf Bk.bad l))) := by
  have c := v_indexP l 105 Bk.bad hn (fun k _ => v_bkBad _)
  refine V.Fn.mk_ V.Tok V.mixed Tryz.func104 rfl Tryz.ntmps104 (by kernel_rfl) rfl rfl ?_
  repeat' ((conv => whnf); first | refine V.NCond.mk ?_ | refine V.NPick.l ?_ | refine V.NIf.not_ ?_ | refine V.NIf.dec_ ?_ | refine V.a4 ?_ | refine V.a5 ?_ | refine V.NIf.mk (fun _ => ?_) (fun _ => ?_) | refine V.a7 ?_ | refine V.a8 ?_ | refine V.a9 ?_ | refine V.NBoth.mk ?_ ?_ | refine V.b1 ?_ | refine V.b2 ?_ | refine V.NTF.dec ?_ | refine V.b3 ?_ | refine V.b4 ?_ | ((first | refine V.Fn.k (c) [0] rfl ?_ ?_ | refine V.Fn.q (c) [0] rfl ?_ ?_ | refine V.Fn.a (c) [0] rfl ?_ ?_); · exact V.D_) | (refine V.NDraw.any (by kernel_rfl) ?_) | fail)
  all_goals (conv => whnf)
  exact ⟨_, rfl, decide_eq_true_iff.symm⟩
theorem put_is (W W' : Nat → Int × Int) (u : Nat) (a b : Int) (h : W' = Bk.put W u (a, b)) (q : Nat) : [Value.int .i64 (W' q).1, Value.int .i64 (W' q).2] = if q = u then [.int .i64 a, .int .i64 b] else [.int .i64 (W q).1, .int .i64 (W q).2] := by
  rw [h]
  unfold Bk.put
  by_cases e : q = u
  · rw [if_pos e, if_pos e]
  · rw [if_neg e, if_neg e]
theorem v_even (l : List Po) (hn : l.length ≤ 1000) (hr : ∀ p ∈ l, Bk.Right p) : V.Fn Tryz.prog 64 [.arr 3 l.length (ga encP l)] [.one (.ref 0)] (.bool (Bk.even l)) := by
  refine V.Fn.mk_ V.Tok V.mixed Tryz.func64 rfl Tryz.ntmps64 (by kernel_rfl) rfl rfl ?_
  repeat' ((conv => whnf); first | refine V.NCond.mk ?_ | refine V.NPick.l ?_ | refine V.NIf.not_ ?_ | refine V.NIf.dec_ ?_ | refine V.a4 ?_ | refine V.a5 ?_ | refine V.NIf.mk (fun _ => ?_) (fun _ => ?_) | refine V.a7 ?_ | refine V.a8 ?_ | refine V.a9 ?_ | refine V.NBoth.mk ?_ ?_ | refine V.b1 ?_ | refine V.b2 ?_ | refine V.NTF.dec ?_ | refine V.b3 ?_ | refine V.b4 ?_ | (refine V.NDraw.any (by kernel_rfl) ?_) | fail)
  all_goals (conv => whnf)
  refine V.NLoop.auto (fun (k : Nat) => [(9, .one (.val (.int .i64 k)))]) (fun (k : Nat) => [(1, .row 140 2 21 (fun q => [.int .i64 (Bk.ws l k q).1, .int .i64 (Bk.ws l k q).2]))]) [] [] (fun (k : Nat) => l.length - k) (fun (k : Nat) => k ≤ l.length) 0 (Nat.zero_le _) V.S_ (by (conv => whnf); exact ⟨⟨rfl, rfl, rfl, fun k hk => (show List.take 2 (List.drop (k * 2) (List.replicate (21 * 2) (Value.int .i64 0))) = _ from arr2 hk)⟩, trivial⟩) (fun _ => ⟨rfl, rfl⟩) ?_; (conv => whnf); refine ⟨⟨rfl, rfl⟩, ?_⟩
  rintro k hk
  by_cases hlt : k < l.length
  · obtain ⟨⟨h1, h2⟩, h3, h4⟩ := hr _ (getD_mem hlt)
    obtain ⟨u, hu⟩ : ∃ u : Nat, (l.getD k default).ut = (u : Int) := ⟨(l.getD k default).ut.toNat, by omega⟩
    obtain ⟨-, ws, wl⟩ := Bk.ws_spec hr k u
    have hx := Bk.ws_succ hlt u hu
    unfold M.Amt at h3
    have dm := Bk.tdm ((Bk.ws l k u).2 + (l.getD k default).am)
    have hx : ∀ q, Bk.ws l (k + 1) q = Bk.put (Bk.ws l k) u ((Bk.ws l k u).1 + ((Bk.ws l k u).2 + (l.getD k default).am).tdiv 1152921504606846976, ((Bk.ws l k u).2 + (l.getD k default).am).tmod 1152921504606846976) q := fun q => hx q
    generalize Bk.ws l k = W at *
    obtain ⟨A, hA⟩ : ∃ A, A = Bk.put W u ((W u).1, (W u).2 + (l.getD k default).am) := ⟨_, rfl⟩
    have eA : (A u).1 = (W u).1 ∧ (A u).2 = (W u).2 + (l.getD k default).am := by rw [hA, Bk.put_u]; exact ⟨rfl, rfl⟩
    rw [← eA.2] at dm hx
    rw [← eA.1] at hx
    have dq : -2 ≤ (A u).2.tdiv 1152921504606846976 ∧ (A u).2.tdiv 1152921504606846976 ≤ 2 := by omega
    obtain ⟨B, hB⟩ : ∃ B, B = Bk.put A u ((A u).1 + (A u).2.tdiv 1152921504606846976, (A u).2) := ⟨_, rfl⟩
    obtain ⟨C, hC⟩ : ∃ C, C = Bk.put A u ((A u).1, (A u).2.tmod 1152921504606846976) := ⟨_, rfl⟩
    obtain ⟨D, hD⟩ : ∃ D, D = Bk.put A u ((A u).1 + (A u).2.tdiv 1152921504606846976, (A u).2.tmod 1152921504606846976) := ⟨_, rfl⟩
    have eB : (B u).1 = (A u).1 + (A u).2.tdiv 1152921504606846976 ∧ (B u).2 = (A u).2 := by rw [hB, Bk.put_u]; exact ⟨rfl, rfl⟩
    have eC : (C u).1 = (A u).1 ∧ (C u).2 = (A u).2.tmod 1152921504606846976 := by rw [hC, Bk.put_u]; exact ⟨rfl, rfl⟩
    have pA := put_is W A u _ _ hA
    have pB := put_is A B u _ _ hB
    have pC := put_is A C u _ _ hC
    have pD := put_is B D u (B u).1 ((A u).2.tmod 1152921504606846976) (by rw [hD, eB.1, hB, Bk.put_2])
    have pE := put_is C D u ((A u).1 + (A u).2.tdiv 1152921504606846976) (C u).2 (by rw [hD, eC.2, hC, Bk.put_2])
    have hx : ∀ q, Bk.ws l (k + 1) q = D q := fun q => by rw [hx, hD, hA, Bk.put_2]
    clear hA hB hC hD
    repeat' ((conv => whnf); first | (refine V.NDraw.each (by kernel_rfl) ?_) | refine V.NCond.mk ?_ | refine V.NPick.l ?_ | refine V.NIf.not_ ?_ | refine V.NIf.dec_ ?_ | refine V.a4 ?_ | refine V.a5 ?_ | refine V.NIf.mk (fun _ => ?_) (fun _ => ?_) | refine V.a7 ?_ | refine V.a8 ?_ | refine V.a9 ?_ | refine V.NBoth.mk ?_ ?_ | refine V.b1 ?_ | refine V.b2 ?_ | refine V.NTF.dec ?_ | refine V.b3 ?_ | refine V.b4 ?_ | (refine NIdx.mk ⟨k, rfl, by omega, ?_⟩) | (refine NIdx.mk ⟨u, hu, by omega, ?_⟩) | (refine V.NCall.inl (f := 90) V.Tok V.mixed Tryz.func90 rfl Tryz.ntmps90 (by kernel_rfl) rfl ?_) | (refine NQuo.ok (by decide) (by omega) (by omega) ?_) | (refine NRem.mk (by decide) ?_) | (refine ⟨⟨fun q => [.int .i64 (A q).1, .int .i64 (A q).2], fun q hq => pA q, ?_⟩⟩) | (refine ⟨⟨fun q => [.int .i64 (B q).1, .int .i64 (B q).2], fun q hq => pB q, ?_⟩⟩) | (refine ⟨⟨fun q => [.int .i64 (C q).1, .int .i64 (C q).2], fun q hq => pC q, ?_⟩⟩) | (refine ⟨⟨fun q => [.int .i64 (D q).1, .int .i64 (D q).2], fun q hq => pD q, ?_⟩⟩) | (refine ⟨⟨fun q => [.int .i64 (D q).1, .int .i64 (D q).2], fun q hq => pE q, ?_⟩⟩) | (refine V.NDraw.any (by kernel_rfl) ?_) | fail)
    all_goals (conv => whnf)
    all_goals exact V.NBack.at_ (k + 1) [] (by omega) (by omega) V.S_ rfl ⟨⟨rfl, rfl, rfl, fun q _ => by show [_, _] = [_, _]; rw [hx q]⟩, trivial⟩ V.S_ V.S_
  obtain rfl : k = l.length := by omega
  have wsp := fun u => Bk.ws_spec hr l.length u
  rw [List.take_length] at wsp
  have ev := Bk.even_iff l
  generalize Bk.ws l l.length = W at *
  repeat' ((conv => whnf); first | refine V.NCond.mk ?_ | refine V.NPick.l ?_ | refine V.NIf.not_ ?_ | refine V.NIf.dec_ ?_ | refine V.a4 ?_ | refine V.a5 ?_ | refine V.NIf.mk (fun _ => ?_) (fun _ => ?_) | refine V.a7 ?_ | refine V.a8 ?_ | refine V.a9 ?_ | refine V.NBoth.mk ?_ ?_ | refine V.b1 ?_ | refine V.b2 ?_ | refine V.NTF.dec ?_ | refine V.b3 ?_ | refine V.b4 ?_ | (refine V.NDraw.any (by kernel_rfl) ?_) | fail)
  all_goals (conv => whnf)
  refine V.NLoop.auto (fun (i : Nat) => [(20, .one (.val (.int .i64 i)))]) (fun (i : Nat) => []) [] [] (fun (i : Nat) => 21 - i) (fun (i : Nat) => i ≤ 21 ∧ ∀ u, u < i → M.sum (Bk.amu l u) = 0) 0 ⟨Nat.zero_le _, fun u h => absurd h (Nat.not_lt_zero _)⟩ V.S_ V.S_ (fun _ => ⟨rfl, rfl⟩) ?_; (conv => whnf); refine ⟨⟨rfl, rfl⟩, ?_⟩
  rintro i ⟨hi, hJ⟩
  have wi := wsp i
  obtain ⟨z, hz, zt⟩ : ∃ z, IntKind.wrap .i64 ((W i).1 * 1152921504606846976) = z ∧ (-1 ≤ (W i).1 ∧ (W i).1 ≤ 1 → z = (W i).1 * 1152921504606846976) := ⟨_, rfl, fun h => by rw [IntKind.wrap_i64]; omega⟩
  obtain ⟨y, hy, yt⟩ : ∃ y, IntKind.wrap .i64 (z + (W i).2) = y ∧ (-1 ≤ (W i).1 ∧ (W i).1 ≤ 1 → y = (W i).1 * 1152921504606846976 + (W i).2) := ⟨_, rfl, fun h => by rw [IntKind.wrap_i64]; have := zt h; omega⟩
  have hq : M.sum (Bk.amu l i) = 0 ↔ y = 0 ∧ -1 ≤ (W i).1 ∧ (W i).1 ≤ 1 := by
    by_cases h : -1 ≤ (W i).1 ∧ (W i).1 ≤ 1
    · have := yt h; omega
    · omega
  have evf : i < 21 → ¬ M.sum (Bk.amu l i) = 0 → Bk.even l = false := fun h1 h2 => by
    cases e : Bk.even l
    · rfl
    · exact absurd (ev.1 e i h1) h2
  clear zt yt
  repeat' ((conv => whnf); first | refine V.NCond.mk ?_ | refine V.NPick.l ?_ | refine V.NIf.not_ ?_ | refine V.NIf.dec_ ?_ | refine V.a4 ?_ | refine V.a5 ?_ | refine V.NIf.mk (fun _ => ?_) (fun _ => ?_) | refine V.a7 ?_ | refine V.a8 ?_ | refine V.a9 ?_ | refine V.NBoth.mk ?_ ?_ | refine V.b1 ?_ | refine V.b2 ?_ | refine V.NTF.dec ?_ | refine V.b3 ?_ | refine V.b4 ?_ | (refine NIdx.mk ⟨i, rfl, by omega, ?_⟩) | (refine V.NCall.inl (f := 91) V.Tok V.mixed Tryz.func91 rfl Tryz.ntmps91 (by kernel_rfl) rfl ?_) | (refine NWrap.mk ?_; rw [hz]) | (refine NWrap.mk ?_; rw [hy]) | (refine V.NDraw.any (by kernel_rfl) ?_) | fail)
  all_goals (conv => whnf)
  all_goals first
    | exact V.NBack.at_ (i + 1) [] ⟨by omega, fun u hu => (show u < i ∨ u = i by omega).elim (hJ u) (fun e => by rw [e]; exact hq.2 (by omega))⟩ (by omega) V.S_ rfl V.S_ V.S_ V.S_
    | exact congrArg Value.bool (evf (by omega) (fun e => by have := hq.1 e; omega)).symm
    | exact congrArg Value.bool (ev.2 fun u hu => hJ u (by omega)).symm
    | trace_state
end Go.Proofs.YtpanlcnoopmchaaGreatDoor

namespace Go.Proofs.YtpanlcnoopmchaaGreatDoor
open Go Go.Sort Go.RowKit V
set_option maxHeartbeats 4000000
theorem v_bkCheck (l : List Po) (hn : l.length ≤ 9223372036854775807) : V.Fn Tryz.prog 84 [.arr 3 l.length (ga encP l)] [.one (.ref 0)] (.int .i64 (Bk.chk l)) := by
  have cc := Bk.chk_cases l
  have ce := fun (q : l.length ≤ 1000) (r : ixf Bk.bad l < 0) => v_even l q (by
    rcases ixf_cases Bk.bad l with ⟨_, a⟩ | ⟨k, e, _⟩
    · intro p hp
      have := a p hp
      unfold Bk.bad at this
      simpa using this
    · omega)
  have h1 := v_bkHas l hn
  generalize ixf Bk.bad l = ix at *
  generalize Bk.chk l = c at *
  generalize Bk.even l = ev at *
  refine V.Fn.mk_ V.Tok V.mixed Tryz.func84 rfl Tryz.ntmps84 (by kernel_rfl) rfl rfl ?_
  repeat' ((conv => whnf); first | refine V.NCond.mk ?_ | refine V.NPick.l ?_ | refine V.NIf.not_ ?_ | refine V.NIf.dec_ ?_ | refine V.a4 ?_ | refine V.a5 ?_ | refine V.NIf.mk (fun _ => ?_) (fun _ => ?_) | refine V.a7 ?_ | refine V.a8 ?_ | refine V.a9 ?_ | refine V.NBoth.mk ?_ ?_ | refine V.b1 ?_ | refine V.b2 ?_ | refine V.NTF.dec ?_ | refine V.b3 ?_ | refine V.b4 ?_ | ((first | refine V.Fn.k (h1) [0] rfl ?_ ?_ | refine V.Fn.q (h1) [0] rfl ?_ ?_ | refine V.Fn.a (h1) [0] rfl ?_ ?_); · exact V.D_) | ((first | refine V.Fn.k (ce (by omega) (by omega)) [0] rfl ?_ ?_ | refine V.Fn.q (ce (by omega) (by omega)) [0] rfl ?_ ?_ | refine V.Fn.a (ce (by omega) (by omega)) [0] rfl ?_ ?_); · exact V.D_) | (refine V.NDraw.any (by kernel_rfl) ?_) | fail)
  all_goals (conv => whnf)
  all_goals exact V.fin1 (by rcases cc with ⟨h1, h2⟩ | ⟨h1, h2⟩ | ⟨h1, h2, h3⟩ | ⟨h1, h2, h3, h4, h5⟩ | ⟨h1, h2, h3, h4, h5⟩ <;> first | omega | (simp_all; done) | (simp_all; omega))
theorem v_bkLines (l : List Po) (hn : l.length ≤ 9223372036854775807) : V.Fn Tryz.prog 44 [.arr 3 l.length (ga encP l)] [.one (.ref 0)] (.int .i64 (Bk.lines l)) := by
  have lc := Bk.lines_cases l
  have lq : l.length ≤ 400 → Ca.fe (Bk.eAt l) l.length = 0 → Bk.Lines l := fun h1 h2 => Bk.fe_ok h1 h2
  have ce := fun (q : Bk.Lines l) => v_even l (Nat.le_trans q.le (by decide)) q.r
  have lf : l.length ≤ 400 → Ca.fe (Bk.eAt l) l.length ≠ 0 → Bk.lines l = Ca.fe (Bk.eAt l) l.length := fun h1 h2 => by omega
  have le : l.length ≤ 400 → Ca.fe (Bk.eAt l) l.length = 0 → Bk.lines l = if Bk.even l = true then 0 else 4 := fun h1 h2 => by
    rcases lc with ⟨h, e⟩ | ⟨_, h, e⟩ | ⟨_, _, h, e⟩ | ⟨_, _, h, e⟩
    · omega
    · exact absurd h2 h
    · rw [h, e]; rfl
    · rw [h, e]; rfl
  generalize Bk.even l = ev at *
  have l2 : 400 < l.length → Bk.lines l = 2 := fun h => by
    rcases lc with ⟨_, e⟩ | ⟨h', _⟩ | ⟨_, h', _⟩ | ⟨_, h', _⟩
    · exact e
    · omega
    · have := h'.le; omega
    · have := h'.le; omega
  clear lc
  refine V.Fn.mk_ V.Tok V.mixed Tryz.func44 rfl Tryz.ntmps44 (by kernel_rfl) rfl rfl ?_
  repeat' ((conv => whnf); first | refine V.NCond.mk ?_ | refine V.NPick.l ?_ | refine V.NIf.not_ ?_ | refine V.NIf.dec_ ?_ | refine V.a4 ?_ | refine V.a5 ?_ | refine V.NIf.mk (fun _ => ?_) (fun _ => ?_) | refine V.a7 ?_ | refine V.a8 ?_ | refine V.a9 ?_ | refine V.NBoth.mk ?_ ?_ | refine V.b1 ?_ | refine V.b2 ?_ | refine V.NTF.dec ?_ | refine V.b3 ?_ | refine V.b4 ?_ | (refine V.NDraw.any (by kernel_rfl) ?_) | fail)
  all_goals (conv => whnf)
  · exact V.fin1 (l2 (by omega))
  refine V.NLoop.auto (fun (k : Nat) => [(10, .one (.val (.int .i64 k)))]) (fun (k : Nat) => []) [] [] (fun (k : Nat) => l.length - k) (fun (k : Nat) => k ≤ l.length ∧ ∀ j, j < k → Bk.eAt l j = 0) 0 ⟨Nat.zero_le _, fun u h => absurd h (Nat.not_lt_zero _)⟩ V.S_ V.S_ (fun _ => ⟨rfl, rfl⟩) ?_; (conv => whnf); refine ⟨⟨rfl, rfl⟩, ?_⟩
  rintro k ⟨hk, hJ⟩
  by_cases hlt : k < l.length
  · have hA : Bk.eAt l k ≠ 0 → Bk.lines l = Bk.eAt l k := fun h => by
      have := Ca.fe_get hlt hJ h
      rw [lf (by omega) (by omega), this]
    have e1 : ¬ Bk.Right (l.getD k default) → Bk.eAt l k = 3 := fun h => if_pos h
    have e2 : Bk.Right (l.getD k default) → 0 < k → Bk.lx (l.getD (k - 1) default) (l.getD k default) = false → Bk.eAt l k = 4 := fun h1 h2 h3 => (if_neg (fun z => z h1)).trans (if_pos ⟨h2, h3⟩)
    have e3 : Bk.Right (l.getD k default) → (0 < k → Bk.lx (l.getD (k - 1) default) (l.getD k default) = true) → Bk.eAt l k = 0 := fun h1 h2 => (if_neg (fun z => z h1)).trans (if_neg (fun z => by have := h2 z.1; rw [z.2] at this; cases this))
    have c1 := v_bkRight (l.getD k default)
    have c2 := v_order (l.getD (k - 1) default) (l.getD k default)
    have og := order_ge (l.getD (k - 1) default) (l.getD k default)
    have ol : ¬ 0 ≤ orI (cmpI (l.getD (k - 1) default).ac (l.getD k default).ac) (cmpI (l.getD (k - 1) default).ut (l.getD k default).ut) → Bk.lx (l.getD (k - 1) default) (l.getD k default) = true := fun h => by
      cases q : Bk.lx (l.getD (k - 1) default) (l.getD k default)
      · exact absurd (og.2 q) h
      · rfl
    generalize orI (cmpI (l.getD (k - 1) default).ac (l.getD k default).ac) (cmpI (l.getD (k - 1) default).ut (l.getD k default).ut) = oo at *
    repeat' ((conv => whnf); first | refine V.NCond.mk ?_ | refine V.NPick.l ?_ | refine V.NIf.not_ ?_ | refine V.NIf.dec_ ?_ | refine V.a4 ?_ | refine V.a5 ?_ | refine V.NIf.mk (fun _ => ?_) (fun _ => ?_) | refine V.a7 ?_ | refine V.a8 ?_ | refine V.a9 ?_ | refine V.NBoth.mk ?_ ?_ | refine V.b1 ?_ | refine V.b2 ?_ | refine V.NTF.dec ?_ | refine V.b3 ?_ | refine V.b4 ?_ | (refine NIdx.mk ⟨k, rfl, by omega, ?_⟩) | (refine NIdx.mk ⟨k - 1, by omega, by omega, ?_⟩) | (first | refine V.Fn.k0 (c1) rfl ?_ | refine V.Fn.q0 (c1) rfl ?_ | refine V.Fn.a0 (c1) rfl ?_) | (first | refine V.Fn.k0 (c2) rfl ?_ | refine V.Fn.q0 (c2) rfl ?_ | refine V.Fn.a0 (c2) rfl ?_) | (refine V.NDraw.any (by kernel_rfl) ?_) | fail)
    all_goals (conv => whnf)
    · have e := e2 (by assumption) (by omega) (og.1 (by assumption))
      exact V.fin1 ((hA (by omega)).trans e)
    · exact V.NBack.at_ (k + 1) [] ⟨by omega, fun j hj => (show j < k ∨ j = k by omega).elim (hJ j) (fun e => by rw [e]; exact e3 (by assumption) fun _ => ol (by assumption))⟩ (by omega) V.S_ rfl V.S_ V.S_ V.S_
    · exact V.NBack.at_ (k + 1) [] ⟨by omega, fun j hj => (show j < k ∨ j = k by omega).elim (hJ j) (fun e => by rw [e]; exact e3 (by assumption) fun _ => by omega)⟩ (by omega) V.S_ rfl V.S_ V.S_ V.S_
    · have e := e1 (by assumption)
      exact V.fin1 ((hA (by omega)).trans e)
  · obtain rfl : k = l.length := by omega
    have f0 := Ca.fe_end hJ
    have le := le (by omega) f0
    repeat' ((conv => whnf); first | refine V.NCond.mk ?_ | refine V.NPick.l ?_ | refine V.NIf.not_ ?_ | refine V.NIf.dec_ ?_ | refine V.a4 ?_ | refine V.a5 ?_ | refine V.NIf.mk (fun _ => ?_) (fun _ => ?_) | refine V.a7 ?_ | refine V.a8 ?_ | refine V.a9 ?_ | refine V.NBoth.mk ?_ ?_ | refine V.b1 ?_ | refine V.b2 ?_ | refine V.NTF.dec ?_ | refine V.b3 ?_ | refine V.b4 ?_ | ((first | refine V.Fn.k (ce (lq (by omega) f0)) [0] rfl ?_ ?_ | refine V.Fn.q (ce (lq (by omega) f0)) [0] rfl ?_ ?_ | refine V.Fn.a (ce (lq (by omega) f0)) [0] rfl ?_ ?_); · exact V.D_) | (refine V.NDraw.any (by kernel_rfl) ?_) | fail)
    all_goals (conv => whnf)
    · exact V.fin1 (le.trans (if_pos (by assumption)))
    · exact V.fin1 (le.trans (if_neg (by assumption)))
end Go.Proofs.YtpanlcnoopmchaaGreatDoor

namespace Go.Proofs.YtpanlcnoopmchaaGreatDoor
open Go Go.RowKit V
set_option maxHeartbeats 4000000
theorem po_info : ∃ i z, Tryz.prog.info? 52 = some i ∧ i.zero = some z ∧ i.size = 3 ∧ i.bytes = 24 ∧ z.cells.size = 3 := by
  obtain ⟨ty, i, d, z, ht, hi, hd, hz, e, h⟩ := fnd_ty V.Tok (t := 52) (K := fun ty => ty.size = 3 ∧ ty.bytes = 24 ∧ ty.zero.length = 3) (by (conv => whnf); exact ⟨rfl, rfl, rfl⟩)
  subst e
  exact ⟨i, z, hi, hz, h.1, h.2.1, by simpa using h.2.2⟩
theorem grow_any (n : Nat) (h : 1 ≤ n ∧ n ≤ 100000) (w : World) : Calls Tryz.prog 116 #[.slice none 0 0, .int .i64 n] w fun e w' => ∃ c cur, e = .returned (.slice (some ⟨w.heap.size, 0, none⟩) 0 c) ∧ 0 < c ∧ c ≤ maxLen ∧ cur.size = c * 3 ∧ w'.heap[w.heap.size]? = some (.cells cur 52 (0, 0)) ∧ Below w.heap.size w w' := by
  obtain ⟨i, z, hi, hz, hs, hb, hzc⟩ := po_info
  have hrz : ∀ ty, (Builtin.append_ #[29, 3] ty #[.slice none 0 0, .int .i64 ((n : Nat) : Int)]).run Tryz.prog w = .ok (.slice (some ⟨w.heap.size, 0, none⟩) n (grownCap w n 0 52)) (w.drew.alloc (.cells (#[] ++ Builtin.zeroCells z.cells n ++ Builtin.zeroCells z.cells (grownCap w n 0 52 - n)) 52)) := fun ty => by
    have q := Lib.run_append_grow_zeros w 29 3 ty 52 i z .i64 .i64 Tryz.underlying29 Tryz.underlying3 hi hz none 0 0 [] (run_firstCells_none w.drew i.size 0 0 0) n (by omega) (by omega) (by omega) (by omega) (by rw [hb]; omega) (growslice_fits (by omega) (by rw [hb]; omega))
    rw [Nat.zero_add] at q
    exact q
  have hG := grownCap_ge w n 0 52
  have hG2 := grownCap_le_maxLen w n 0 52 (by unfold maxLen; omega)
  generalize grownCap w n 0 52 = G at *
  have hX : (#[] ++ Builtin.zeroCells z.cells n ++ Builtin.zeroCells z.cells (G - n)).size = G * 3 := by
    simp only [Array.size_append, size_zeroCells, hzc, Array.size_empty]
    have : G = n + (G - n) := by omega
    omega
  generalize #[] ++ Builtin.zeroCells z.cells n ++ Builtin.zeroCells z.cells (G - n) = X at *
  clear hzc hz hi hs hb
  have h1 : ¬ ((n : Int) < 0) := by omega
  have h2 : wrap64 ((0 : Int) - (0 : Int)) = 0 := by unfold wrap64; omega
  have h3 : wrap64 ((n : Int) - 0) = (n : Int) := by unfold wrap64; omega
  have h4 : (n : Int) > 0 := by omega
  go_enter Tryz.func116, Tryz.ntmps116
  go_wp2_with (at_builtin; refine Lib.wpList_append_run _ rfl _ _ _ _ rfl _ _ rfl rfl _ _ (hrz _) ?_)
  go_ret
  exact ⟨G, rfl, by omega, hG2, X, hX, heap_alloc_new _ _, ((Below.refl _ _).alloc (Nat.le_refl _) _).drew⟩
theorem v_grow (n : Nat) (h : 1 ≤ n ∧ n ≤ 100000) : V.FnR Tryz.prog 116 [] [.one (.val (.slice none 0 0)), .one (.val (.int .i64 ((n : Int))))] (.one (.ref 0)) [.row 52 3 0 (fun _ => [])] :=
  ⟨by kernel_rfl, rfl, rfl, fun w ρ xs _ hs => by
    obtain ⟨_, _, rfl, h1, _, _, rfl, h2, h3⟩ := hs
    have e1 : _ = Value.slice none 0 0 := h1
    have e2 : _ = Value.int .i64 n := h2
    have e3 : _ = [] := h3
    subst e1 e2 e3
    refine (grow_any n h w).mono ?_
    rintro e w' ⟨c, cur, rfl, h0, h1, h2, h3, h4⟩
    refine ⟨fun i => if i = 0 then some (.slice (some ⟨w.heap.size, 0, none⟩) 0 c) else none, _, rfl, ?_, ⟨?_, ?_⟩, h4⟩
    · exact ⟨rfl, rfl⟩
    · intro j o hj
      match j, hj with
      | 0, hj =>
        injection hj with hj
        subst hj
        refine ⟨⟨_, rfl, _, c, rfl, by omega, fun k hk => by omega, .inr ⟨_, cur, rfl, Nat.le_refl _, h3, by omega, h0, h1, h2, by simp [flat]⟩⟩, fun b hb => ?_⟩
        match c, h0 with
        | c + 1, _ =>
          have hb : some w.heap.size = some b := hb
          injection hb with hb
          omega
      | j + 1, hj => cases hj
    · intro j k o o' b hj hk hne
      match j, k, hj, hk with
      | 0, 0, _, _ => exact absurd rfl hne
      | 0, k + 1, _, hk => cases hk
      | j + 1, _, hj, _ => cases hj⟩
end Go.Proofs.YtpanlcnoopmchaaGreatDoor

namespace Go.Proofs.YtpanlcnoopmchaaGreatDoor.V
open Go Go.RowKit
def aN (n : Nat) : At → At
  | .ref j => if j = n then .val (.slice none 0 0) else .ref j
  | a => a
def aNok (n : Nat) : At → Bool
  | .ptr i _ _ _ => i != n
  | .clo _ _ => false
  | _ => true
def sN (n : Nat) : SV → SV
  | .one a => .one (aN n a)
  | .agg l => .agg (l.map (aN n))
  | .tup l => .tup l
def sNok (n : Nat) : SV → Bool
  | .one a => aNok n a
  | .agg l => l.all (aNok n)
  | .tup _ => false
def rN (n : Nat) (ρ : Rho) : Rho := fun i => if i = n then some (.slice none 0 0) else ρ i
theorem At.nil_ {n : Nat} {ρ : Rho} {a : At} {x : Value} (hk : aNok n a = true) (h : (aN n a).is ρ x) : a.is (rN n ρ) x := by
  cases a with
  | val v => exact h
  | tf b => exact h
  | prop p => exact h
  | clo f c => cases hk
  | ptr i k j s =>
    have hne : i ≠ n := by simpa [aNok] using hk
    obtain ⟨b, e, q⟩ := h
    refine ⟨b, ?_, q⟩
    unfold base rN at *
    rw [if_neg hne]; exact e
  | ref i =>
    by_cases e : i = n
    · have h : (aN n (.ref i)).is ρ x := h
      rw [show aN n (.ref i) = .val (.slice none 0 0) from if_pos e] at h
      have h : x = .slice none 0 0 := h
      subst h
      exact ⟨if_pos e, rfl⟩
    · have h : (aN n (.ref i)).is ρ x := h
      rw [show aN n (.ref i) = .ref i from if_neg e] at h
      exact ⟨(if_neg e).trans h.1, h.2⟩
theorem Ats.nil_ {n : Nat} {ρ : Rho} : ∀ {l : List At} {xs : List Value}, l.all (aNok n) = true → Ats ρ (l.map (aN n)) xs → Ats (rN n ρ) l xs
  | [], _, _, h => h
  | a :: l, _, hk, ⟨x, r, e, h, hr⟩ => by
    simp only [List.all_cons, Bool.and_eq_true] at hk
    exact ⟨x, r, e, At.nil_ hk.1 h, Ats.nil_ hk.2 hr⟩
theorem Svs.nilv {n : Nat} {ρ : Rho} : ∀ {l : List SV} {xs : List Value}, l.all (sNok n) = true → Svs ρ (l.map (sN n)) xs → Svs (rN n ρ) l xs
  | [], _, _, h => h
  | a :: l, _, hk, ⟨x, r, e, h, hr⟩ => by
    simp only [List.all_cons, Bool.and_eq_true] at hk
    refine ⟨x, r, e, ?_, Svs.nilv hk.2 hr⟩
    cases a with
    | one a => exact At.nil_ (n := n) hk.1 h
    | agg c => obtain ⟨cs, hc, e⟩ := h; exact ⟨cs, Ats.nil_ hk.1 hc, e⟩
    | tup c => exact h
def ncB : Ob → Bool
  | .cel _ => false
  | _ => true
theorem Fn.nilv {P : Program} {f : FuncId} {os : List Ob} {args : List SV} {x : Value} {s : Nat} {g : Nat → List Value} (h : Fn P f (os ++ [.arr s 0 g]) args x) (hk : (args.all (sNok os.length) && os.all ncB) = true) : Fn P f os (args.map (sN os.length)) x :=
  ⟨h.b, fun w ρ xs ho hs => h.c w (rN os.length ρ) xs (fun i o e => by
    rcases Nat.lt_trichotomy i os.length with q | q | q
    · rw [List.getElem?_append_left q] at e
      obtain ⟨v, hv, r⟩ := ho i o e
      have hn := List.all_eq_true.1 ((Bool.and_eq_true _ _).mp hk).2 o (List.mem_of_getElem? e)
      exact ⟨v, (if_neg (by omega)).trans hv, by cases o <;> first | exact r | cases hn⟩
    · subst q
      rw [List.getElem?_append_right (Nat.le_refl _), Nat.sub_self] at e
      obtain rfl := Option.some.inj e
      exact ⟨_, if_pos rfl, none, 0, rfl, by omega, by omega, fun k hk => by omega⟩
    · rw [List.getElem?_eq_none (by simp; omega)] at e; cases e) (Svs.nilv ((Bool.and_eq_true _ _).mp hk).1 hs)⟩
theorem NApp.to_ {α : Type} [Inhabited α] {en : α → List Value} {n m : Nat} (l' : List α) {get news : Nat → List Value} {bytes : Nat} {K : Nat → (Nat → List Value) → Prop} (h : n + m = l'.length) (hb : l'.length ≤ 9223372036854775807) (hr : l'.length * bytes ≤ 140737488355328) (h1 : ∀ k, k < n → ga en l' k = get k) (h2 : ∀ k, k < m → ga en l' (n + k) = news k) (hK : K l'.length (ga en l')) : NApp n m get news bytes K :=
  ⟨⟨_, _, h.symm, hb, hr, h1, h2, hK⟩⟩
theorem ga_take {α : Type} [Inhabited α] {en : α → List Value} {l : List α} {i k : Nat} (h : k < i) (hl : i ≤ l.length) : ga en (l.take i) k = ga en l k := by
  rw [ga_at (by rw [List.length_take]; omega), ga_at (by omega), List.getElem_take]
theorem ga_left {α : Type} [Inhabited α] {en : α → List Value} {l r : List α} {k : Nat} (h : k < l.length) : ga en (l ++ r) k = ga en l k := by
  rw [ga_at (by simp; omega), ga_at h, List.getElem_append_left h]
theorem ga_right {α : Type} [Inhabited α] {en : α → List Value} {l r : List α} {n k : Nat} (hn : n = l.length) (h : k < r.length) : ga en (l ++ r) (n + k) = ga en r k := by
  subst hn
  rw [ga_at (by simp; omega), ga_at h, List.getElem_append_right (by omega)]
  congr 2
  omega
end Go.Proofs.YtpanlcnoopmchaaGreatDoor.V

namespace Go.Proofs.YtpanlcnoopmchaaGreatDoor
namespace Bk
def kap (S : List Po) (i : Nat) : Nat := if i < S.length then key (S.getD i default) else 2121
def seg (S : List Po) (i j : Nat) : List Int := ((S.drop i).take (j - i)).map (·.am)
theorem seg_0 (S : List Po) (i : Nat) : seg S i i = [] := by simp [seg]
theorem seg_succ {S : List Po} {i j : Nat} (h : i ≤ j) (hj : j < S.length) : seg S i (j + 1) = seg S i j ++ [(S.getD j default).am] := by
  unfold seg
  rw [show j + 1 - i = (j - i) + 1 by omega, List.take_succ_eq_append_getElem (by rw [List.length_drop]; omega), List.map_append, getD_at hj]
  simp [List.getElem_drop, show i + (j - i) = j by omega]
theorem seg_amt {S : List Po} (h : ∀ p ∈ S, Right p) (i j : Nat) : ∀ a ∈ seg S i j, M.Amt a := fun a ha => by
  obtain ⟨p, hp, rfl⟩ := List.mem_map.1 ha
  exact (h p (List.mem_of_mem_drop (List.mem_of_mem_take hp))).2.1
theorem seg_len (S : List Po) (i j : Nat) : (seg S i j).length ≤ S.length := by
  unfold seg
  simp
  omega
def Sd (S : List Po) : Prop := ∀ i j, i < j → j < S.length → key (S.getD i default) ≤ key (S.getD j default)
theorem sd_of {S : List Po} (r : ∀ p ∈ S, Right p) (h : S.Pairwise fun p q => lx q p = false) : Sd S := fun i j hij hj => by
  have q := List.pairwise_iff_getElem.1 h i j (by omega) hj hij
  rw [← getD_at (show i < S.length by omega), ← getD_at hj] at q
  refine Classical.byContradiction fun z => ?_
  rw [(key_lx (r _ (getD_mem hj)) (r _ (getD_mem (by omega)))).2 (by omega)] at q
  cases q
theorem mem_at {S : List Po} {p : Po} (h : p ∈ S) : ∃ m, m < S.length ∧ S.getD m default = p := by
  obtain ⟨m, hm, e⟩ := List.getElem_of_mem h
  exact ⟨m, hm, by rw [getD_at hm]; exact e⟩
theorem amk_none {l : List Po} {k : Nat} (h : ∀ p ∈ l, key p ≠ k) : amk l k = [] := by
  unfold amk
  rw [List.filter_eq_nil_iff.2 fun p hp => by simpa using h p hp]
  rfl
theorem amk_all {l : List Po} {k : Nat} (h : ∀ p ∈ l, key p = k) : amk l k = l.map (·.am) := by
  unfold amk
  rw [List.filter_eq_self.2 fun p hp => by simpa using h p hp]
theorem kap_lt {S : List Po} (r : ∀ p ∈ S, Right p) (i : Nat) : kap S i ≤ 2121 := by
  unfold kap
  split
  · have := (key_r (r _ (getD_mem (by assumption)))).1; omega
  · exact Nat.le_refl _
theorem kap_le {S : List Po} (r : ∀ p ∈ S, Right p) (s : Sd S) {i m : Nat} (h : i ≤ m) (hm : m < S.length) : kap S i ≤ key (S.getD m default) := by
  unfold kap
  rw [if_pos (by omega)]
  by_cases e : i = m
  · rw [e]; exact Nat.le_refl _
  · exact s i m (by omega) hm
theorem kap_0 {S : List Po} (r : ∀ p ∈ S, Right p) (s : Sd S) (k : Nat) (h : k < kap S 0) : tot S k = 0 := tot_none fun p hp e => by
  obtain ⟨m, hm, rfl⟩ := mem_at hp
  have := kap_le r s (Nat.zero_le m) hm
  omega
structure Grp (S : List Po) (i j : Nat) : Prop where
  hi : i < S.length
  hj : i ≤ j ∧ j ≤ S.length
  b : ∀ m, m < i → key (S.getD m default) < kap S i
  e : ∀ m, i ≤ m → m < j → key (S.getD m default) = kap S i
  n : j < S.length → key (S.getD j default) ≠ kap S i
theorem Grp.gt {S : List Po} {i j : Nat} (g : Grp S i j) (r : ∀ p ∈ S, Right p) (s : Sd S) : kap S i < kap S j := by
  obtain ⟨hi, hj, _, _, n⟩ := g
  have ki : kap S i < 2121 := by
    have := (key_r (r _ (getD_mem hi))).1
    unfold kap
    rw [if_pos hi]
    exact this
  by_cases h : j < S.length
  · have := kap_le r s hj.1 h
    have n := n h
    have : kap S j = key (S.getD j default) := if_pos h
    omega
  · have : kap S j = 2121 := if_neg h
    omega
theorem Grp.next {S : List Po} {i j : Nat} (g : Grp S i j) (r : ∀ p ∈ S, Right p) (s : Sd S) (m : Nat) (hm : m < j) : key (S.getD m default) < kap S j := by
  have := g.gt r s
  by_cases h : m < i
  · have := g.b m h; omega
  · have := g.e m (by omega) hm; omega
theorem Grp.skip {S : List Po} {i j : Nat} (g : Grp S i j) (r : ∀ p ∈ S, Right p) (s : Sd S) (k : Nat) (h1 : kap S i + 1 ≤ k) (h2 : k < kap S j) : tot S k = 0 := tot_none fun p hp e => by
  obtain ⟨m, hm, rfl⟩ := mem_at hp
  by_cases h : m < i
  · have := g.b m h; omega
  · by_cases h' : m < j
    · have := g.e m (by omega) h'; omega
    · have := kap_le r s (show j ≤ m by omega) hm; omega
theorem Grp.sum {S : List Po} {i j : Nat} (g : Grp S i j) (r : ∀ p ∈ S, Right p) (s : Sd S) : tot S (kap S i) = M.sum (seg S i j) := by
  have e : S = S.take i ++ ((S.drop i).take (j - i) ++ S.drop j) := by
    have h1 : S.drop j = (S.drop i).drop (j - i) := by rw [List.drop_drop, show i + (j - i) = j by have := g.hj; omega]
    rw [h1, List.take_append_drop, List.take_append_drop]
  have s1 : amk (S.take i) (kap S i) = [] := amk_none fun p hp q => by
    obtain ⟨m, hm, rfl⟩ := List.getElem_of_mem hp
    rw [List.length_take] at hm
    rw [List.getElem_take] at q
    have := g.b m (by omega)
    rw [getD_at (by omega)] at this
    omega
  have s2 : amk ((S.drop i).take (j - i)) (kap S i) = seg S i j := amk_all fun p hp => by
    obtain ⟨m, hm, rfl⟩ := List.getElem_of_mem hp
    rw [List.length_take, List.length_drop] at hm
    rw [List.getElem_take, List.getElem_drop]
    have := g.e (i + m) (by omega) (by omega)
    rwa [getD_at (by omega)] at this
  have s3 : amk (S.drop j) (kap S i) = [] := amk_none fun p hp q => by
    obtain ⟨m, hm, rfl⟩ := List.getElem_of_mem hp
    rw [List.length_drop] at hm
    rw [List.getElem_drop] at q
    have k1 := kap_le r s (show j ≤ j + m by omega) (show j + m < S.length by omega)
    rw [getD_at (show j + m < S.length by omega)] at k1
    have := g.gt r s
    omega
  unfold tot
  rw [show amk S (kap S i) = amk (S.take i ++ ((S.drop i).take (j - i) ++ S.drop j)) (kap S i) from congrArg (fun l => amk l (kap S i)) e, amk_app, amk_app, s1, s2, s3]
  simp
theorem Grp.out {S : List Po} {i j : Nat} (g : Grp S i j) (r : ∀ p ∈ S, Right p) (s : Sd S) : out (tot S) (kap S j) = out (tot S) (kap S i) ++ if tot S (kap S i) = 0 then [] else [⟨(S.getD i default).ac, (S.getD i default).ut, tot S (kap S i)⟩] := by
  have k := g.gt r s
  rw [out_skip (tot S) (m := kap S i + 1) (n := kap S j) (by omega) (fun q h1 h2 => g.skip r s q h1 h2), out_succ]
  have ki : kap S i = key (S.getD i default) := if_pos g.hi
  obtain ⟨_, k2, k3⟩ := key_r (r _ (getD_mem g.hi))
  rw [← ki] at k2 k3
  rw [← k2, ← k3]
theorem kap_end {S : List Po} : kap S S.length = 2121 := if_neg (Nat.lt_irrefl _)
theorem grp_amt {S : List Po} {i j : Nat} (g : Grp S i j) (r : ∀ p ∈ S, Right p) (s : Sd S) (h : ∀ k, k < kap S i → M.Amt (tot S k)) (h1 : M.Amt (tot S (kap S i))) (k : Nat) (hk : k < kap S j) : M.Amt (tot S k) := by
  by_cases e1 : k < kap S i
  · exact h k e1
  · by_cases e2 : k = kap S i
    · rw [e2]; exact h1
    · rw [g.skip r s k (by omega) hk]; unfold M.Amt; omega
end Bk
end Go.Proofs.YtpanlcnoopmchaaGreatDoor

namespace Go.Proofs.YtpanlcnoopmchaaGreatDoor
open Go Go.Sort Go.RowKit V
set_option maxHeartbeats 4000000
theorem v_merged (b l : List Po) (hb : b.length ≤ 1000) (hn : 0 < l.length ∧ l.length ≤ 1000) (R : ∀ p ∈ b ++ l, Bk.Right p) : V.FnR Tryz.prog 85 [.arr 3 b.length (ga encP b), .arr 3 l.length (ga encP l)] [.one (.ref 0), .one (.ref 1)] (.tup [.one (.ref 2), .one (.val (.int .i64 (Bk.mE (Bk.tot (b ++ l)))))]) [.row 52 3 (Bk.mL (Bk.tot (b ++ l))).length (ga encP (Bk.mL (Bk.tot (b ++ l))))] := by
  obtain ⟨sz, s0, s1, s2⟩ : ∃ sz : Nat → Int, sz 0 = 0 ∧ sz 1 = b.length ∧ sz 2 = ((b.length + l.length : Nat) : Int) := ⟨fun k => if k = 0 then 0 else if k = 1 then b.length else ((b.length + l.length : Nat) : Int), rfl, rfl, rfl⟩
  obtain ⟨cc, d0, d1, d2⟩ : ∃ cc : Nat → List Po, cc 0 = [] ∧ cc 1 = b ∧ cc 2 = b ++ l := ⟨fun k => if k = 0 then [] else if k = 1 then b else b ++ l, rfl, rfl, rfl⟩
  have cg := v_grow (b.length + l.length) (by omega)
  rw [← s2] at cg
  refine V.FnR.mk_ V.Tok V.mixed Tryz.func85 rfl Tryz.ntmps85 (by kernel_rfl) rfl rfl rfl rfl ?_
  repeat' ((conv => whnf); first | refine V.NCond.mk ?_ | refine V.NPick.l ?_ | refine V.NIf.not_ ?_ | refine V.NIf.dec_ ?_ | refine V.a4 ?_ | refine V.a5 ?_ | refine V.NIf.mk (fun _ => ?_) (fun _ => ?_) | refine V.a7 ?_ | refine V.a8 ?_ | refine V.a9 ?_ | refine V.NBoth.mk ?_ ?_ | refine V.b1 ?_ | refine V.b2 ?_ | refine V.NTF.dec ?_ | refine V.b3 ?_ | refine V.b4 ?_ | (refine V.NCall.inl (f := 106) V.Tok V.mixed Tryz.func106 rfl Tryz.ntmps106 (by kernel_rfl) rfl ?_) | (refine V.NDraw.any (by kernel_rfl) ?_) | fail)
  all_goals (conv => whnf)
  refine V.NLoop.auto (fun (k : Nat) => [(11, .one (.val (.int .i64 k))), (3, .one (.val (.int .i64 (sz k))))]) (fun (k : Nat) => []) [] [] (fun (k : Nat) => 2 - k) (fun (k : Nat) => k ≤ 2) 0 (Nat.zero_le _) (by (conv => whnf); exact ⟨rfl, congrArg (fun z : Int => V.SV.one (V.At.val (Value.int .i64 z))) s0.symm, trivial⟩) V.S_ (fun _ => ⟨rfl, rfl⟩) ?_; (conv => whnf); refine ⟨⟨rfl, rfl⟩, ?_⟩
  rintro k hk
  match k, hk with
  | 0, _ =>
    repeat' ((conv => whnf); first | (refine V.NIf.yes ?_ ?_; · (decide; done)) | (refine V.NIf.no ?_ ?_; · (decide; done)) | refine V.NCond.mk ?_ | refine V.NPick.l ?_ | refine V.NIf.not_ ?_ | refine V.NIf.dec_ ?_ | refine V.a4 ?_ | refine V.a5 ?_ | refine V.NIf.mk (fun _ => ?_) (fun _ => ?_) | refine V.a7 ?_ | refine V.a8 ?_ | refine V.a9 ?_ | refine V.NBoth.mk ?_ ?_ | refine V.b1 ?_ | refine V.b2 ?_ | refine V.NTF.dec ?_ | refine V.b3 ?_ | refine V.b4 ?_ | (refine NIdx.mk ⟨0, rfl, by decide, ?_⟩) | (refine V.NDraw.any (by kernel_rfl) ?_) | fail)
    all_goals (conv => whnf)
    exact V.NBack.at_ 1 [] (by omega) (by omega) ⟨V.S_, congrArg (fun z : Int => V.SV.one (V.At.val (Value.int .i64 z))) (by omega), trivial⟩ rfl V.S_ V.S_ V.S_
  | 1, _ =>
    repeat' ((conv => whnf); first | (refine V.NIf.yes ?_ ?_; · (decide; done)) | (refine V.NIf.no ?_ ?_; · (decide; done)) | refine V.NCond.mk ?_ | refine V.NPick.l ?_ | refine V.NIf.not_ ?_ | refine V.NIf.dec_ ?_ | refine V.a4 ?_ | refine V.a5 ?_ | refine V.NIf.mk (fun _ => ?_) (fun _ => ?_) | refine V.a7 ?_ | refine V.a8 ?_ | refine V.a9 ?_ | refine V.NBoth.mk ?_ ?_ | refine V.b1 ?_ | refine V.b2 ?_ | refine V.NTF.dec ?_ | refine V.b3 ?_ | refine V.b4 ?_ | (refine NIdx.mk ⟨1, rfl, by decide, ?_⟩) | (refine V.NDraw.any (by kernel_rfl) ?_) | fail)
    all_goals (conv => whnf)
    exact V.NBack.at_ 2 [] (by omega) (by omega) ⟨V.S_, congrArg (fun z : Int => V.SV.one (V.At.val (Value.int .i64 z))) (by omega), trivial⟩ rfl V.S_ V.S_ V.S_
  | 2, _ =>
    repeat' ((conv => whnf); first | (refine V.NIf.yes ?_ ?_; · (decide; done)) | (refine V.NIf.no ?_ ?_; · (decide; done)) | refine V.NCond.mk ?_ | refine V.NPick.l ?_ | refine V.NIf.not_ ?_ | refine V.NIf.dec_ ?_ | refine V.a4 ?_ | refine V.a5 ?_ | refine V.NIf.mk (fun _ => ?_) (fun _ => ?_) | refine V.a7 ?_ | refine V.a8 ?_ | refine V.a9 ?_ | refine V.NBoth.mk ?_ ?_ | refine V.b1 ?_ | refine V.b2 ?_ | refine V.NTF.dec ?_ | refine V.b3 ?_ | refine V.b4 ?_ | (first | refine V.FnR.k0 (cg) rfl ?_ | refine V.FnR.a0 (cg) rfl ?_) | (refine V.NDraw.any (by kernel_rfl) ?_) | fail)
    all_goals (conv => whnf)
    refine V.NLoop.auto (fun (k : Nat) => [(27, .one (.val (.int .i64 k))), (6, .one (.ref 5))]) (fun (k : Nat) => [(5, .row 52 3 (cc k).length (ga encP (cc k)))]) [] [] (fun (k : Nat) => 2 - k) (fun (k : Nat) => k ≤ 2) 0 (Nat.zero_le _) V.S_ (by (conv => whnf); exact ⟨⟨rfl, rfl, by rw [d0]; rfl, fun k hk => absurd hk (Nat.not_lt_zero _)⟩, trivial⟩) (fun _ => ⟨rfl, rfl⟩) ?_; (conv => whnf); refine ⟨⟨rfl, rfl⟩, ?_⟩
    rintro k hk
    match k, hk with
    | 0, _ =>
      repeat' ((conv => whnf); first | (refine V.NIf.yes ?_ ?_; · (decide; done)) | (refine V.NIf.no ?_ ?_; · (decide; done)) | refine V.NCond.mk ?_ | refine V.NPick.l ?_ | refine V.NIf.not_ ?_ | refine V.NIf.dec_ ?_ | refine V.a4 ?_ | refine V.a5 ?_ | refine V.NIf.mk (fun _ => ?_) (fun _ => ?_) | refine V.a7 ?_ | refine V.a8 ?_ | refine V.a9 ?_ | refine V.NBoth.mk ?_ ?_ | refine V.b1 ?_ | refine V.b2 ?_ | refine V.NTF.dec ?_ | refine V.b3 ?_ | refine V.b4 ?_ | (refine NIdx.mk ⟨0, rfl, by decide, ?_⟩) | (refine NOne.mk ?_ ?_; · (intro k hk; rfl)) | (refine V.NApp.to_ (en := encP) (cc 1) (by rw [d0, d1]; simp) (by rw [d1]; omega) (by rw [d1]; simp; omega) (fun k hk => absurd hk (by rw [d0]; exact Nat.not_lt_zero _)) (fun k hk => by rw [d0, d1]; simp) ?_) | (refine V.NDraw.any (by kernel_rfl) ?_) | fail)
      all_goals (conv => whnf)
      exact V.NBack.at_ 1 [(5, 6)] (by omega) (by omega) V.S_ rfl ⟨⟨rfl, rfl, rfl, fun _ _ => rfl⟩, trivial⟩ V.S_ V.S_
    | 1, _ =>
      repeat' ((conv => whnf); first | (refine V.NIf.yes ?_ ?_; · (decide; done)) | (refine V.NIf.no ?_ ?_; · (decide; done)) | refine V.NCond.mk ?_ | refine V.NPick.l ?_ | refine V.NIf.not_ ?_ | refine V.NIf.dec_ ?_ | refine V.a4 ?_ | refine V.a5 ?_ | refine V.NIf.mk (fun _ => ?_) (fun _ => ?_) | refine V.a7 ?_ | refine V.a8 ?_ | refine V.a9 ?_ | refine V.NBoth.mk ?_ ?_ | refine V.b1 ?_ | refine V.b2 ?_ | refine V.NTF.dec ?_ | refine V.b3 ?_ | refine V.b4 ?_ | (refine NIdx.mk ⟨1, rfl, by decide, ?_⟩) | (refine NOne.mk ?_ ?_; · (intro k hk; rfl)) | (refine V.NApp.to_ (en := encP) (cc 2) (by rw [d1, d2]; simp) (by rw [d2]; simp; omega) (by rw [d2]; simp; omega) (fun k hk => by rw [d2, d1]; exact ga_left (by rwa [d1] at hk)) (fun k hk => by rw [d2, d1]; exact ga_right rfl hk) ?_) | (refine V.NDraw.any (by kernel_rfl) ?_) | fail)
      all_goals (conv => whnf)
      exact V.NBack.at_ 2 [(5, 6)] (by omega) (by omega) V.S_ rfl ⟨⟨rfl, rfl, rfl, fun _ _ => rfl⟩, trivial⟩ V.S_ V.S_
    | 2, _ =>
      have sq := v_sortP 5 [(5, .arr 3 b.length (ga encP b)), (1, .arr 3 l.length (ga encP l))] (Tail.of rfl rfl) (cc 2) (by rw [d2]; simp; omega)
      repeat' ((conv => whnf); first | (refine V.NIf.yes ?_ ?_; · (decide; done)) | (refine V.NIf.no ?_ ?_; · (decide; done)) | refine V.NCond.mk ?_ | refine V.NPick.l ?_ | refine V.NIf.not_ ?_ | refine V.NIf.dec_ ?_ | refine V.a4 ?_ | refine V.a5 ?_ | refine V.NIf.mk (fun _ => ?_) (fun _ => ?_) | refine V.a7 ?_ | refine V.a8 ?_ | refine V.a9 ?_ | refine V.NBoth.mk ?_ ?_ | refine V.b1 ?_ | refine V.b2 ?_ | refine V.NTF.dec ?_ | refine V.b3 ?_ | refine V.b4 ?_ | (refine Fam.call sq (Tail.of rfl rfl) [(5, 0), (0, 5)] (fun g' => [(5, .row 52 3 (cc 2).length g'), (0, .arr 3 b.length (ga encP b)), (1, .arr 3 l.length (ga encP l))]) rfl rfl rfl (by decide) ⟨⟨rfl, rfl, rfl, fun _ _ => rfl⟩, ⟨rfl, rfl, fun _ _ => rfl⟩, ⟨rfl, rfl, fun _ _ => rfl⟩, trivial⟩ (fun g => rfl) (fun g => ⟨⟨rfl, rfl, rfl, fun _ _ => rfl⟩, ⟨rfl, rfl, fun _ _ => rfl⟩, ⟨rfl, rfl, fun _ _ => rfl⟩, trivial⟩) ?_; rintro g ⟨S, P, sd, hg⟩) | (refine V.NDraw.any (by kernel_rfl) ?_) | fail)
      rw [d2] at P hg ⊢
      have RS : ∀ p ∈ S, Bk.Right p := fun p hp => R p (P.mem_iff.1 hp)
      have s := Bk.sd_of RS sd
      have eT : Bk.tot (b ++ l) = Bk.tot S := funext fun k => (Bk.tot_perm P k).symm
      have nS : S.length = (b ++ l).length := P.length_eq
      have nS2 : (b ++ l).length = b.length + l.length := List.length_append
      rw [eT]
      have o0 : Bk.out (Bk.tot S) (Bk.kap S 0) = [] := Bk.out_skip (Bk.tot S) (m := 0) (Nat.zero_le _) (fun k _ hk => Bk.kap_0 RS s k hk)
      clear sq R P sd eT cg
      all_goals (conv => whnf)
      refine V.NLoop.auto (fun (i : Nat) => [(6, .one (.ref 5)), (7, .one (.ref 6))]) (fun (i : Nat) => [(5, .arr 3 (S.length - i) (fun k => encP (S.getD (k + i) default))), (6, .row 52 3 (Bk.out (Bk.tot S) (Bk.kap S i)).length (ga encP (Bk.out (Bk.tot S) (Bk.kap S i))))]) [] [] (fun (i : Nat) => S.length - i) (fun (i : Nat) => i ≤ S.length ∧ (∀ m, m < i → Bk.key (S.getD m default) < Bk.kap S i) ∧ ∀ k, k < Bk.kap S i → M.Amt (Bk.tot S k)) 0 ⟨Nat.zero_le _, fun m h => absurd h (Nat.not_lt_zero _), fun k hk => by rw [Bk.kap_0 RS s k hk]; unfold M.Amt; omega⟩ V.S_ (by (conv => whnf); exact ⟨⟨rfl, nS.symm, hg⟩, ⟨rfl, rfl, by rw [o0]; rfl, fun k hk => absurd hk (Nat.not_lt_zero _)⟩, trivial⟩) (fun _ => ⟨rfl, rfl⟩) ?_; (conv => whnf); refine ⟨⟨rfl, rfl⟩, ?_⟩
      rintro i ⟨hi, hB, hA⟩
      by_cases hlt : i < S.length
      · have ol := Bk.out_len (Bk.tot S) (Bk.kap S i)
        have kl := Bk.kap_lt RS i
        have si : ∀ j, S.getD (0 + j) default = S.getD j default := fun j => by rw [Nat.zero_add]
        repeat' ((conv => whnf); first | refine V.NCond.mk ?_ | refine V.NPick.l ?_ | refine V.NIf.not_ ?_ | refine V.NIf.dec_ ?_ | refine V.a4 ?_ | refine V.a5 ?_ | refine V.NIf.mk (fun _ => ?_) (fun _ => ?_) | refine V.a7 ?_ | refine V.a8 ?_ | refine V.a9 ?_ | refine V.NBoth.mk ?_ ?_ | refine V.b1 ?_ | refine V.b2 ?_ | refine V.NTF.dec ?_ | refine V.b3 ?_ | refine V.b4 ?_ | (refine NIdx.mk ⟨0, rfl, by omega, ?_⟩) | (refine V.NDraw.any (by kernel_rfl) ?_) | fail)
        all_goals (conv => whnf)
        have w0 : Bk.wst (Bk.seg S i i) = (0, 0) := by rw [Bk.seg_0]; rfl
        refine V.NLoop.auto (fun (j : Nat) => [(6, .one (.ref 5))]) (fun (j : Nat) => [(5, .arr 3 (S.length - j) (fun k => encP (S.getD (k + j) default))), (8, .box 139 [.val (.int .i64 (Bk.wst (Bk.seg S i j)).1), .val (.int .i64 (Bk.wst (Bk.seg S i j)).2)])]) [22] [] (fun (j : Nat) => S.length - j) (fun (j : Nat) => (i ≤ j ∧ j ≤ S.length) ∧ ∀ m, i ≤ m → m < j → Bk.key (S.getD m default) = Bk.kap S i) i ⟨⟨Nat.le_refl _, hi⟩, fun m h1 h2 => by omega⟩ V.S_ (by (conv => whnf); exact ⟨⟨rfl, rfl, fun _ _ => rfl⟩, (by rw [w0]; rfl), trivial⟩) (fun _ => ⟨rfl, rfl⟩) ?_; (conv => whnf); refine ⟨⟨rfl, rfl⟩, ?_⟩
        rintro j ⟨hj, hE⟩
        obtain ⟨we, wb, wl⟩ := Bk.wst_spec (Bk.seg S i j) (Bk.seg_amt RS i j)
        have sl := Bk.seg_len S i j
        by_cases jlt : j < S.length
        · have c1 := v_order (S.getD (0 + j) default) (S.getD (0 + i) default)
          have oe := order_eq (S.getD (0 + j) default) (S.getD (0 + i) default)
          have hd := Bk.tdm ((Bk.wst (Bk.seg S i j)).2 + (S.getD (0 + j) default).am)
          have rj := RS _ (getD_mem jlt)
          have aj := rj.2.1
          have ss := Bk.seg_succ hj.1 jlt
          have ri := RS _ (getD_mem hlt)
          have ke := Bk.key_eq rj ri
          have ki : Bk.kap S i = Bk.key (S.getD i default) := if_pos hlt
          have ws : Bk.wst (Bk.seg S i (j + 1)) = ((Bk.wst (Bk.seg S i j)).1 + ((Bk.wst (Bk.seg S i j)).2 + (S.getD j default).am).tdiv 1152921504606846976, ((Bk.wst (Bk.seg S i j)).2 + (S.getD j default).am).tmod 1152921504606846976) := by rw [ss, Bk.wst_snoc]; rfl
          rw [si] at c1 oe hd
          rw [si] at c1 oe
          rw [← ke, ← ki] at oe
          unfold M.Amt at aj
          have nS3 : S.length ≤ 2000 := by omega
          generalize orI (cmpI (S.getD j default).ac (S.getD i default).ac) (cmpI (S.getD j default).ut (S.getD i default).ut) = oo at *
          repeat' ((conv => whnf); first | refine V.NCond.mk ?_ | refine V.NPick.l ?_ | refine V.NIf.not_ ?_ | refine V.NIf.dec_ ?_ | refine V.a4 ?_ | refine V.a5 ?_ | refine V.NIf.mk (fun _ => ?_) (fun _ => ?_) | refine V.a7 ?_ | refine V.a8 ?_ | refine V.a9 ?_ | refine V.NBoth.mk ?_ ?_ | refine V.b1 ?_ | refine V.b2 ?_ | refine V.NTF.dec ?_ | refine V.b3 ?_ | refine V.b4 ?_ | (refine NIdx.mk ⟨0, rfl, by omega, ?_⟩) | (simp only [Nat.zero_add]) | (first | refine V.Fn.k0 (c1) rfl ?_ | refine V.Fn.q0 (c1) rfl ?_ | refine V.Fn.a0 (c1) rfl ?_) | (refine V.NCall.inl (f := 90) V.Tok V.mixed Tryz.func90 rfl Tryz.ntmps90 (by kernel_rfl) rfl ?_) | (refine NQuo.ok (by decide) (by omega) (by omega) ?_) | (refine NRem.mk (by decide) ?_) | (refine NCut.mk ⟨1, _, rfl, rfl, by omega, by omega, ?_⟩) | (refine V.NDraw.any (by kernel_rfl) ?_) | fail)
          all_goals (conv => whnf)
          · exact V.NBack.at_ (j + 1) [(5, 9)] ⟨by omega, fun m h1 h2 => (show m < j ∨ m = j by omega).elim (hE m h1) (fun e => by rw [e]; exact oe.1 (by assumption))⟩ (by omega) V.S_ rfl ⟨ObLe.cut_ (by omega) (by omega), (by rw [ws]; rfl), trivial⟩ V.S_ V.S_
          have g : Bk.Grp S i j := ⟨hlt, hj, hB, hE, fun _ h => absurd (oe.2 h) (by assumption)⟩
          have gs := g.sum RS s
          have go := g.out RS s
          have gk := g.gt RS s
          have hij : i ≠ j := fun e => by rw [e] at gk; omega
          have gn := g.next RS s
          have ga_ := fun h => Bk.grp_amt g RS s hA h
          have k1 := Bk.kap_lt RS j
          rw [← we] at gs
          have am : M.Amt (Bk.tot S (Bk.kap S i)) ↔ -1152921504606846976 ≤ (Bk.wst (Bk.seg S i j)).1 * 1152921504606846976 + (Bk.wst (Bk.seg S i j)).2 ∧ (Bk.wst (Bk.seg S i j)).1 * 1152921504606846976 + (Bk.wst (Bk.seg S i j)).2 ≤ 1152921504606846976 := by rw [gs]; exact Iff.rfl
          have w8 : ¬ M.Amt (Bk.tot S (Bk.kap S i)) → Bk.mE (Bk.tot S) = 8 := fun h => if_pos (Bk.wide_yes (k := Bk.kap S i) (by omega) h)
          have ckn := fun n => @M.chk_yes n
          have ckz := fun n (h : M.chk n = 0) => Classical.byContradiction fun (z : ¬ M.Amt n) => by rw [M.chk_no z] at h; omega
          unfold M.Amt at ckz
          repeat' ((conv => whnf); first | (refine NApp.one (en := encP) (l := Bk.out (Bk.tot S) (Bk.kap S i)) (x := ⟨(S.getD i default).ac, (S.getD i default).ut, (Bk.wst (Bk.seg S i j)).1 * 1152921504606846976 + (Bk.wst (Bk.seg S i j)).2⟩) (by simp; omega) (by simp; omega) ?_) | refine V.NCond.mk ?_ | refine V.NPick.l ?_ | refine V.NIf.not_ ?_ | refine V.NIf.dec_ ?_ | refine V.a4 ?_ | refine V.a5 ?_ | refine V.NIf.mk (fun _ => ?_) (fun _ => ?_) | refine V.a7 ?_ | refine V.a8 ?_ | refine V.a9 ?_ | refine V.NBoth.mk ?_ ?_ | refine V.b1 ?_ | refine V.b2 ?_ | refine V.NTF.dec ?_ | refine V.b3 ?_ | refine V.b4 ?_ | (refine V.NCall.inl (f := 108) V.Tok V.mixed Tryz.func108 rfl Tryz.ntmps108 (by kernel_rfl) rfl ?_) | (first | refine V.Fn.k0 (v_check _) rfl ?_ | refine V.Fn.q0 (v_check _) rfl ?_ | refine V.Fn.a0 (v_check _) rfl ?_) | (refine V.NDraw.any (by kernel_rfl) ?_) | fail)
          all_goals (conv => whnf)
          · have w := w8 (fun h => by have := am.1 h; omega)
            rw [show Bk.mL (Bk.tot S) = [] from if_neg (by omega), w]
            exact NRet.mk_ [some 9] rfl ⟨rfl, rfl, trivial⟩ ⟨⟨rfl, rfl, rfl, fun k hk => absurd hk (Nat.not_lt_zero _)⟩, trivial⟩
          · have w := w8 (fun h => by have := am.1 h; omega)
            rw [show Bk.mL (Bk.tot S) = [] from if_neg (by omega), w]
            exact NRet.mk_ [some 9] rfl ⟨rfl, rfl, trivial⟩ ⟨⟨rfl, rfl, rfl, fun k hk => absurd hk (Nat.not_lt_zero _)⟩, trivial⟩
          · exact V.NBack.at_ j [] ⟨hj.2, gn, ga_ (am.2 (by omega))⟩ (by omega) V.S_ rfl ⟨V.S_, ObLe.as_ (go.trans (by rw [if_pos (by omega), List.append_nil])), trivial⟩ V.S_ V.S_
          · have ha := ga_ (am.2 (ckz _ (by assumption)))
            exact V.NBack.at_ j [(6, 10)] ⟨hj.2, gn, ha⟩ (by omega) V.S_ rfl ⟨V.S_, ObLe.as_ (go.trans (by rw [if_neg (by omega), gs])), trivial⟩ V.S_ V.S_
          · have w := w8 (fun h => absurd (ckn _ (am.1 h)) (by assumption))
            rw [show Bk.mL (Bk.tot S) = [] from if_neg (by omega), w]
            exact NRet.mk_ [some 9] rfl ⟨rfl, rfl, trivial⟩ ⟨⟨rfl, rfl, rfl, fun k hk => absurd hk (Nat.not_lt_zero _)⟩, trivial⟩
        · obtain rfl : j = S.length := by omega
          have g : Bk.Grp S i S.length := ⟨hlt, hj, hB, hE, fun h => absurd h (Nat.lt_irrefl _)⟩
          have gs := g.sum RS s
          have go := g.out RS s
          have gk := g.gt RS s
          have hij : i ≠ S.length := fun e => by rw [e] at gk; omega
          have gn := g.next RS s
          have ga_ := fun h => Bk.grp_amt g RS s hA h
          have k1 := Bk.kap_lt RS S.length
          rw [← we] at gs
          have am : M.Amt (Bk.tot S (Bk.kap S i)) ↔ -1152921504606846976 ≤ (Bk.wst (Bk.seg S i S.length)).1 * 1152921504606846976 + (Bk.wst (Bk.seg S i S.length)).2 ∧ (Bk.wst (Bk.seg S i S.length)).1 * 1152921504606846976 + (Bk.wst (Bk.seg S i S.length)).2 ≤ 1152921504606846976 := by rw [gs]; exact Iff.rfl
          have w8 : ¬ M.Amt (Bk.tot S (Bk.kap S i)) → Bk.mE (Bk.tot S) = 8 := fun h => if_pos (Bk.wide_yes (k := Bk.kap S i) (by omega) h)
          have ckn := fun n => @M.chk_yes n
          have ckz := fun n (h : M.chk n = 0) => Classical.byContradiction fun (z : ¬ M.Amt n) => by rw [M.chk_no z] at h; omega
          unfold M.Amt at ckz
          repeat' ((conv => whnf); first | (refine NApp.one (en := encP) (l := Bk.out (Bk.tot S) (Bk.kap S i)) (x := ⟨(S.getD i default).ac, (S.getD i default).ut, (Bk.wst (Bk.seg S i S.length)).1 * 1152921504606846976 + (Bk.wst (Bk.seg S i S.length)).2⟩) (by simp; omega) (by simp; omega) ?_) | refine V.NCond.mk ?_ | refine V.NPick.l ?_ | refine V.NIf.not_ ?_ | refine V.NIf.dec_ ?_ | refine V.a4 ?_ | refine V.a5 ?_ | refine V.NIf.mk (fun _ => ?_) (fun _ => ?_) | refine V.a7 ?_ | refine V.a8 ?_ | refine V.a9 ?_ | refine V.NBoth.mk ?_ ?_ | refine V.b1 ?_ | refine V.b2 ?_ | refine V.NTF.dec ?_ | refine V.b3 ?_ | refine V.b4 ?_ | (simp only [Nat.zero_add]) | (refine V.NCall.inl (f := 108) V.Tok V.mixed Tryz.func108 rfl Tryz.ntmps108 (by kernel_rfl) rfl ?_) | (first | refine V.Fn.k0 (v_check _) rfl ?_ | refine V.Fn.q0 (v_check _) rfl ?_ | refine V.Fn.a0 (v_check _) rfl ?_) | (refine V.NDraw.any (by kernel_rfl) ?_) | fail)
          all_goals (conv => whnf)
          · have w := w8 (fun h => by have := am.1 h; omega)
            rw [show Bk.mL (Bk.tot S) = [] from if_neg (by omega), w]
            exact NRet.mk_ [some 9] rfl ⟨rfl, rfl, trivial⟩ ⟨⟨rfl, rfl, rfl, fun k hk => absurd hk (Nat.not_lt_zero _)⟩, trivial⟩
          · have w := w8 (fun h => by have := am.1 h; omega)
            rw [show Bk.mL (Bk.tot S) = [] from if_neg (by omega), w]
            exact NRet.mk_ [some 9] rfl ⟨rfl, rfl, trivial⟩ ⟨⟨rfl, rfl, rfl, fun k hk => absurd hk (Nat.not_lt_zero _)⟩, trivial⟩
          · exact V.NBack.at_ S.length [] ⟨hj.2, gn, ga_ (am.2 (by omega))⟩ (by omega) V.S_ rfl ⟨V.S_, ObLe.as_ (go.trans (by rw [if_pos (by omega), List.append_nil])), trivial⟩ V.S_ V.S_
          · have ha := ga_ (am.2 (ckz _ (by assumption)))
            exact V.NBack.at_ S.length [(6, 10)] ⟨hj.2, gn, ha⟩ (by omega) V.S_ rfl ⟨V.S_, ObLe.as_ (go.trans (by rw [if_neg (by omega), gs])), trivial⟩ V.S_ V.S_
          · have w := w8 (fun h => absurd (ckn _ (am.1 h)) (by assumption))
            rw [show Bk.mL (Bk.tot S) = [] from if_neg (by omega), w]
            exact NRet.mk_ [some 9] rfl ⟨rfl, rfl, trivial⟩ ⟨⟨rfl, rfl, rfl, fun k hk => absurd hk (Nat.not_lt_zero _)⟩, trivial⟩
      · obtain rfl : i = S.length := by omega
        rw [Bk.kap_end] at hA ⊢
        have m := Bk.mE_is hA
        repeat' ((conv => whnf); first | refine V.NCond.mk ?_ | refine V.NPick.l ?_ | refine V.NIf.not_ ?_ | refine V.NIf.dec_ ?_ | refine V.a4 ?_ | refine V.a5 ?_ | refine V.NIf.mk (fun _ => ?_) (fun _ => ?_) | refine V.a7 ?_ | refine V.a8 ?_ | refine V.a9 ?_ | refine V.NBoth.mk ?_ ?_ | refine V.b1 ?_ | refine V.b2 ?_ | refine V.NTF.dec ?_ | refine V.b3 ?_ | refine V.b4 ?_ | (refine V.NDraw.any (by kernel_rfl) ?_) | fail)
        all_goals (conv => whnf)
        · have m : Bk.mE (Bk.tot S) = 2 := m.trans (if_pos (by omega))
          rw [show Bk.mL (Bk.tot S) = [] from if_neg (by omega), m]
          exact NRet.mk_ [some 7] rfl ⟨rfl, rfl, trivial⟩ ⟨⟨rfl, rfl, rfl, fun k hk => absurd hk (Nat.not_lt_zero _)⟩, trivial⟩
        · have m : Bk.mE (Bk.tot S) = 0 := m.trans (if_neg (by omega))
          rw [show Bk.mL (Bk.tot S) = Bk.out (Bk.tot S) 2121 from if_pos m, m]
          exact NRet.mk_ [some 6] rfl ⟨rfl, rfl, trivial⟩ ⟨⟨rfl, rfl, rfl, fun k hk => rfl⟩, trivial⟩
end Go.Proofs.YtpanlcnoopmchaaGreatDoor

namespace Go.Proofs.YtpanlcnoopmchaaGreatDoor
open Go Go.Sort Go.RowKit V
set_option maxHeartbeats 4000000
theorem v_bkPost (b l : List Po) (hb : b.length ≤ 9223372036854775807) (hn : l.length ≤ 9223372036854775807) : V.FnR Tryz.prog 60 [.arr 3 b.length (ga encP b), .arr 3 l.length (ga encP l)] [.one (.ref 0), .one (.ref 1)] (.tup [.one (.ref 2), .one (.val (.int .i64 (Bk.pE b l)))]) [.row 52 3 (Bk.pL b l).length (ga encP (Bk.pL b l))] := by
  have pc := Bk.pE_cases b l
  have c1 := v_bkLines b hb
  have c2 := v_bkCheck l hn
  have lo := @Bk.lines_0 b
  have lc := @Bk.chk_0 l
  have pl : Bk.pE b l ≠ 0 → Bk.pL b l = [] := fun h => if_neg h
  have cm := fun (h1 : Bk.Lines b) (h2 : 0 < l.length ∧ l.length ≤ 60) (h3 : ∀ p ∈ l, Bk.Right p) => v_merged b l (Nat.le_trans h1.le (by decide)) ⟨h2.1, by omega⟩ (fun p hp => (List.mem_append.1 hp).elim (h1.r p) (h3 p))
  generalize hL : Bk.lines b = L at *
  generalize hC : Bk.chk l = C at *
  refine V.FnR.mk_ V.Tok V.mixed Tryz.func60 rfl Tryz.ntmps60 (by kernel_rfl) rfl rfl rfl rfl ?_
  repeat' ((conv => whnf); first | refine V.NCond.mk ?_ | refine V.NPick.l ?_ | refine V.NIf.not_ ?_ | refine V.NIf.dec_ ?_ | refine V.a4 ?_ | refine V.a5 ?_ | refine V.NIf.mk (fun _ => ?_) (fun _ => ?_) | refine V.a7 ?_ | refine V.a8 ?_ | refine V.a9 ?_ | refine V.NBoth.mk ?_ ?_ | refine V.b1 ?_ | refine V.b2 ?_ | refine V.NTF.dec ?_ | refine V.b3 ?_ | refine V.b4 ?_ | ((first | refine V.Fn.k (c1) [0] rfl ?_ ?_ | refine V.Fn.q (c1) [0] rfl ?_ ?_ | refine V.Fn.a (c1) [0] rfl ?_ ?_); · exact V.D_) | ((first | refine V.Fn.k (c2) [1] rfl ?_ ?_ | refine V.Fn.q (c2) [1] rfl ?_ ?_ | refine V.Fn.a (c2) [1] rfl ?_ ?_); · exact V.D_) | ((first | refine V.FnR.k_ (cm (lo (by assumption)).1 (lc (by assumption)).1 (lc (by assumption)).2.1) [0, 1] rfl ?_ ?_ | refine V.FnR.a_ (cm (lo (by assumption)).1 (lc (by assumption)).1 (lc (by assumption)).2.1) [0, 1] rfl ?_ ?_); · exact V.D_) | (refine V.NDraw.any (by kernel_rfl) ?_) | fail)
  all_goals (conv => whnf)
  · have e : Bk.pE b l = Bk.mE (Bk.tot (b ++ l)) := by omega
    have eL : Bk.pL b l = Bk.mL (Bk.tot (b ++ l)) := by unfold Bk.pL Bk.mL; rw [e]
    rw [e, eL]
    exact NRet.mk_ [some 3] rfl ⟨rfl, rfl, trivial⟩ ⟨⟨rfl, rfl, rfl, fun k hk => rfl⟩, trivial⟩
  · have e : Bk.pE b l = C := by omega
    rw [pl (by omega), e]
    exact NRet.mk_ [some 3] rfl ⟨rfl, rfl, trivial⟩ ⟨⟨rfl, rfl, rfl, fun k hk => absurd hk (Nat.not_lt_zero _)⟩, trivial⟩
  · have e : Bk.pE b l = L := by omega
    rw [pl (by omega), e]
    exact NRet.mk_ [some 3] rfl ⟨rfl, rfl, trivial⟩ ⟨⟨rfl, rfl, rfl, fun k hk => absurd hk (Nat.not_lt_zero _)⟩, trivial⟩
theorem v_cloneP (l : List Po) (hn : l.length ≤ 5864062014634) : V.FnR Tryz.prog 50 [.arr 3 l.length (ga encP l)] [.one (.ref 0)] (.one (.ref 1)) [.row 52 3 l.length (ga encP l)] := by
  refine V.FnR.mk_ V.Tok V.mixed Tryz.func50 rfl Tryz.ntmps50 (by kernel_rfl) rfl rfl rfl rfl ?_
  repeat' ((conv => whnf); first | refine V.NCond.mk ?_ | refine V.NPick.l ?_ | refine V.NIf.not_ ?_ | refine V.NIf.dec_ ?_ | refine V.a4 ?_ | refine V.a5 ?_ | refine V.NIf.mk (fun _ => ?_) (fun _ => ?_) | refine V.a7 ?_ | refine V.a8 ?_ | refine V.a9 ?_ | refine V.NBoth.mk ?_ ?_ | refine V.b1 ?_ | refine V.b2 ?_ | refine V.NTF.dec ?_ | refine V.b3 ?_ | refine V.b4 ?_ | (refine NNil.mk ?_; intro p hp) | (refine NOne.mk ?_ ?_; · (intro k hk; rfl)) | (refine NApp.all_ (by first | omega | (simp; omega)) (by omega) ?_) | (refine V.NDraw.any (by kernel_rfl) ?_) | fail)
  all_goals (conv => whnf)
  · refine NRet.mk_ [some 2] rfl ?_ ?_
    · exact rfl
    · exact ⟨⟨rfl, rfl, (hp (by assumption)).symm, fun k hk => absurd hk (Nat.not_lt_zero _)⟩, trivial⟩
  · refine NRet.mk_ [some 3] rfl ?_ ?_
    · exact rfl
    · exact ⟨⟨rfl, rfl, rfl, fun _ _ => rfl⟩, trivial⟩
namespace Bk
def neg (p : Po) : Po := ⟨p.ac, p.ut, 0 - p.am⟩
end Bk
end Go.Proofs.YtpanlcnoopmchaaGreatDoor

namespace Go.Proofs.YtpanlcnoopmchaaGreatDoor
open Go Go.Sort Go.RowKit V
set_option maxHeartbeats 4000000
namespace Bk
end Bk
namespace Bk
def at? (a u : Int) (p : Po) : Bool := decide (p.ac = a ∧ p.ut = u)
def amAt (b : List Po) (a u : Int) : Int := if 0 ≤ ixf (at? a u) b then (b.getD (ixf (at? a u) b).toNat default).am else 0
end Bk
end Go.Proofs.YtpanlcnoopmchaaGreatDoor

namespace Go.Proofs.YtpanlcnoopmchaaGreatDoor
open Go Go.Sort Go.RowKit V
set_option maxHeartbeats 4000000
end Go.Proofs.YtpanlcnoopmchaaGreatDoor

namespace Go.Proofs.YtpanlcnoopmchaaGreatDoor
open Go Go.Sort Go.RowKit V
set_option maxHeartbeats 4000000
namespace Bk
end Bk
namespace Bk
def Kn (a u : Int) : Prop := (0 ≤ a ∧ a ≤ 100) ∧ (0 ≤ u ∧ u ≤ 20)
instance (a u : Int) : Decidable (Kn a u) := by unfold Kn; exact inferInstance
def bE (b : List Po) (a u : Int) : Int := if lines b ≠ 0 then lines b else if Kn a u then 0 else 3
def bV (b : List Po) (a u : Int) : Int := if bE b a u = 0 then amAt b a u else 0
end Bk
end Go.Proofs.YtpanlcnoopmchaaGreatDoor

namespace Go.Proofs.YtpanlcnoopmchaaGreatDoor
open Go Go.Sort Go.RowKit V
set_option maxHeartbeats 4000000
namespace Bk
def mx (a : Int) : Int := if a < 0 then 0 else a
def up (b : List Po) : List Po := b.map fun p => ⟨p.ac, p.ut, mx p.am⟩
def pos (l : List Int) : List Int := l.filter fun a => decide (0 < a)
def ts (b : List Po) (u : Nat) : Int := M.sum (pos (amu b u))
def tw (b : List Po) : Bool := (List.range 21).any fun u => !decide (M.Amt (ts b u))
def tE (b : List Po) : Int := if lines b ≠ 0 then lines b else if tw b = true then 8 else 0
def tl (b : List Po) (i : Nat) : List Int := (List.range 21).map fun q => if q < i then ts b q else 0
end Bk
end Go.Proofs.YtpanlcnoopmchaaGreatDoor

namespace Go.Proofs.YtpanlcnoopmchaaGreatDoor
open Go Go.Sort Go.RowKit V
set_option maxHeartbeats 4000000
theorem pos_snoc (l : List Int) (a : Int) : Bk.pos (l ++ [a]) = Bk.pos l ++ if 0 < a then [a] else [] := by
  unfold Bk.pos
  rw [List.filter_append]
  congr 1
  by_cases h : 0 < a
  · rw [if_pos h]; exact List.filter_cons_of_pos (decide_eq_true h)
  · rw [if_neg h]; exact List.filter_cons_of_neg (by rw [decide_eq_true_eq]; exact h)
theorem pos_len (l : List Int) : (Bk.pos l).length ≤ l.length := List.length_filter_le _ _
end Go.Proofs.YtpanlcnoopmchaaGreatDoor

namespace Go.Proofs.YtpanlcnoopmchaaGreatDoor
namespace Bk
def kk (a u : Int) : Nat := (21 * a + u).toNat
structure Posted (b l : List Po) : Prop where
  bo : Lines b
  be : even b = true
  n : 0 < l.length ∧ l.length ≤ 60
  r : ∀ p ∈ l, Right p
  le : even l = true
  a : ∀ k, k < 2121 → M.Amt (tot (b ++ l) k)
  m : (out (tot (b ++ l)) 2121).length ≤ 400
theorem pE_0 {b l : List Po} : pE b l = 0 ↔ Posted b l := by
  constructor
  · intro h
    rcases pE_cases b l with ⟨a, e⟩ | ⟨_, a, e⟩ | ⟨h1, h2, e⟩
    · rw [h] at e; exact absurd e.symm a
    · rw [h] at e; exact absurd e.symm a
    · obtain ⟨m1, m2⟩ := mE_0 (e.symm.trans h)
      obtain ⟨l1, l2⟩ := lines_0 h1
      obtain ⟨c1, c2, c3⟩ := chk_0 h2
      exact ⟨l1, l2, c1, c2, c3, m1, m2⟩
  · rintro ⟨h1, h2, h3, h4, h5, h6, h7⟩
    rcases pE_cases b l with ⟨a, e⟩ | ⟨_, a, e⟩ | ⟨_, _, e⟩
    · exact absurd (lines_is h1 h2) a
    · exact absurd (chk_is h3 h4 h5) a
    · rw [e, mE_is h6, if_neg (by omega)]
theorem po_pL {b l : List Po} (h : Posted b l) : pL b l = out (tot (b ++ l)) 2121 := if_pos (pE_0.2 h)
theorem po_lines {b l : List Po} (h : Posted b l) : Lines (Bk.pL b l) := by
  rw [po_pL h]
  exact out_lines h.a h.m
theorem po_tot {b l : List Po} (h : Posted b l) {k : Nat} (hk : k < 2121) : tot (Bk.pL b l) k = Bk.tot b k + Bk.tot l k := by
  rw [po_pL h, tot_out hk, tot_app]
theorem po_even {b l : List Po} (h : Posted b l) : even (Bk.pL b l) = true := by
  rw [even_su (po_lines h).r]
  intro u hu
  have e1 := (even_su h.bo.r).1 h.be u hu
  have e2 := (even_su h.r).1 h.le u hu
  rw [su_congr (T := fun k => Bk.tot b k + Bk.tot l k) fun j hj => po_tot h (by omega), su_add, e1, e2]
  rfl
theorem po_ok {b l : List Po} (h : Posted b l) : Bk.lines (Bk.pL b l) = 0 := lines_is (po_lines h) (po_even h)
end Bk
end Go.Proofs.YtpanlcnoopmchaaGreatDoor

namespace Go.Proofs.YtpanlcnoopmchaaGreatDoor
namespace Cp
def Ok (u p x : Int) : Prop := (0 ≤ u ∧ u ≤ 1073741824) ∧ P.Ok p ∧ (0 ≤ x ∧ x ≤ 10000)
instance (u p x : Int) : Decidable (Ok u p x) := by unfold Ok; exact inferInstance
def wE (u p x : Int) : Int := if Ok u p x then 0 else 3
def wV (u p x : Int) : Int := if Ok u p x then P.cost u p + P.cost u p * x / 10000 else 0
theorem w_yes {u p x : Int} (h : Ok u p x) : wE u p x = 0 ∧ wV u p x = P.cost u p + P.cost u p * x / 10000 := ⟨if_pos h, if_pos h⟩
theorem w_no {u p x : Int} (h : ¬ Ok u p x) : wE u p x = 3 ∧ wV u p x = 0 := ⟨if_neg h, if_neg h⟩
theorem w_bd {u p x : Int} : 0 ≤ wV u p x ∧ wV u p x ≤ 236118324143482260 := by
  by_cases q : Ok u p x
  · rw [(w_yes q).2]
    have := P.cost_bd q.1 q.2.1
    have := P.rate_bd this.1 q.2.2
    omega
  · rw [(w_no q).2]; omega
def lt (x : Int) (l : List Int) : Nat := l.countP fun y => decide (y < x)
def eq (x : Int) (l : List Int) : Nat := l.countP fun y => decide (y = x)
def le (x : Int) (l : List Int) : Nat := l.countP fun y => decide (y ≤ x)
theorem half {n : Nat} (h : 0 < n) : (n - 1) / 2 < n := by omega
def rk (l : List Int) (i : Nat) : Nat := lt (l.getD i default) l + eq (l.getD i default) (l.take i)
def gt (x : Int) (l : List Int) : Nat := l.countP fun y => decide (x < y)
def bad (l : List Int) : Int := ixf (fun p => decide (¬ P.Ok p)) l
def mE (l : List Int) : Int := if l.length = 0 then 1 else if 40 < l.length then 2 else if ∀ p ∈ l, P.Ok p then 0 else 3
def LOk (p was most : Int) : Prop := P.Ok p ∧ P.Ok was ∧ (0 ≤ most ∧ most ≤ 10000)
instance (p was most : Int) : Decidable (LOk p was most) := by unfold LOk; exact inferInstance
def clamp (p was away : Int) : Int := if (if (if p < was - away then was - away else p) > was + away then was + away else (if p < was - away then was - away else p)) > 1099511627776 then 1099511627776 else (if (if p < was - away then was - away else p) > was + away then was + away else (if p < was - away then was - away else p))
def lV (p was most : Int) : Int := if LOk p was most then clamp p was (was * most / 10000) else 0
def pE (f : Fl) (p x : Int) : Int := if F.less f 1 ≠ 0 then F.less f 1 else wE (F.left f) p x
def pF (f : Fl) (p x : Int) : Fl := if pE f p x = 0 then F.addPd f (F.left f) else F.zero
def pN (f : Fl) (p x : Int) : Int := if pE f p x = 0 then wV (F.left f) p x else 0
def mvd (a b c d : Int) : List Po := [⟨a, c, -d⟩, ⟨b, c, d⟩]
def pL (f : Fl) (p x : Int) : List Po := if pN f p x = 0 then [] else mvd f.fr f.to 0 (pN f p x)
theorem p_1 {f : Fl} {p x : Int} (h : ¬ F.less f 1 = 0) : pE f p x = F.less f 1 ∧ pF f p x = F.zero ∧ pL f p x = [] := by
  have e : pE f p x = F.less f 1 := if_pos h
  exact ⟨e, if_neg (by rw [e]; exact h), if_pos (if_neg (by rw [e]; exact h))⟩
theorem p_2 {f : Fl} {p x : Int} (h : F.less f 1 = 0) (w : ¬ wE (F.left f) p x = 0) : pE f p x = wE (F.left f) p x ∧ pF f p x = F.zero ∧ pL f p x = [] := by
  have e : pE f p x = wE (F.left f) p x := if_neg (fun z => z h)
  exact ⟨e, if_neg (by rw [e]; exact w), if_pos (if_neg (by rw [e]; exact w))⟩
theorem p_3 {f : Fl} {p x : Int} (h : F.less f 1 = 0) (w : wE (F.left f) p x = 0) : pE f p x = 0 ∧ pF f p x = F.addPd f (F.left f) ∧ pN f p x = wV (F.left f) p x := by
  have e : pE f p x = 0 := (if_neg (fun z => z h)).trans w
  exact ⟨e, if_pos e, if_pos e⟩
theorem pL_0 {f : Fl} {p x : Int} (h : pN f p x = 0) : pL f p x = [] := if_pos h
theorem pL_1 {f : Fl} {p x : Int} (h : ¬ pN f p x = 0) : pL f p x = mvd f.fr f.to 0 (pN f p x) := if_neg h
theorem less_1 (f : Fl) : (F.chk f ≠ 0 ∧ F.less f 1 = F.chk f) ∨ (F.chk f = 0 ∧ F.left f = 0 ∧ F.less f 1 = 5) ∨ (F.chk f = 0 ∧ 1 ≤ F.left f ∧ F.less f 1 = 0) := by
  by_cases h : F.chk f = 0
  · have b := F.ok_bounds (F.chk_ok h)
    by_cases q : F.left f = 0
    · exact .inr (.inl ⟨h, q, F.less_3 h (by omega) q⟩)
    · exact .inr (.inr ⟨h, by omega, F.less_5 h (by omega) q (by omega)⟩)
  · exact .inl ⟨h, F.less_1 h⟩
end Cp
end Go.Proofs.YtpanlcnoopmchaaGreatDoor

namespace Go.Proofs.YtpanlcnoopmchaaGreatDoor
structure Wd where
  td : Int
  fs : List Fl
  bk : List Po
namespace Cy
def zw : Wd := ⟨0, [], []⟩
instance : Inhabited Wd := ⟨zw⟩
theorem wd_ext {a b : Wd} (h1 : a.td = b.td) (h2 : a.fs = b.fs) (h3 : a.bk = b.bk) : a = b := by cases a; cases b; simp_all
def rE (c : Cl) (t : List Tm) (x : Int) : Int := if Ca.chk c ≠ 0 then Ca.chk c else if Pn.tE t ≠ 0 then Pn.tE t else if 0 ≤ x ∧ x ≤ 10000 then 0 else 3
theorem rE_1 {c : Cl} {t : List Tm} {x : Int} (h : ¬ Ca.chk c = 0) : rE c t x = Ca.chk c := if_pos h
theorem rE_2 {c : Cl} {t : List Tm} {x : Int} (h : Ca.chk c = 0) (k : ¬ Pn.tE t = 0) : rE c t x = Pn.tE t := (if_neg (by omega)).trans (if_pos k)
theorem rE_3 {c : Cl} {t : List Tm} {x : Int} (h : Ca.chk c = 0) (k : Pn.tE t = 0) (n : ¬ (0 ≤ x ∧ x ≤ 10000)) : rE c t x = 3 := (if_neg (by omega)).trans ((if_neg (by omega)).trans (if_neg n))
theorem rE_4 {c : Cl} {t : List Tm} {x : Int} (h : Ca.chk c = 0) (k : Pn.tE t = 0) (n : 0 ≤ x ∧ x ≤ 10000) : rE c t x = 0 := (if_neg (by omega)).trans ((if_neg (by omega)).trans (if_pos n))
theorem rE_ok {c : Cl} {t : List Tm} {x : Int} (h : rE c t x = 0) : Ca.chk c = 0 ∧ Pn.tE t = 0 ∧ 0 ≤ x ∧ x ≤ 10000 := by
  unfold rE at h
  split at h
  · exact absurd h (by assumption)
  · split at h
    · exact absurd h (by assumption)
    · split at h
      · exact ⟨by omega, by omega, by assumption⟩
      · cases h
def wE (w : Wd) : Int := if D.chk w.td ≠ 0 then D.chk w.td else if F.checks w.fs ≠ 0 then F.checks w.fs else Bk.lines w.bk
theorem wE_1 {w : Wd} (h : ¬ D.chk w.td = 0) : wE w = D.chk w.td := if_pos h
theorem wE_2 {w : Wd} (h : D.chk w.td = 0) (k : ¬ F.checks w.fs = 0) : wE w = F.checks w.fs := (if_neg (by omega)).trans (if_pos k)
theorem wE_3 {w : Wd} (h : D.chk w.td = 0) (k : F.checks w.fs = 0) : wE w = Bk.lines w.bk := (if_neg (by omega)).trans (if_neg (by omega))
theorem wE_of {w : Wd} (h : D.chk w.td = 0) (k : F.checks w.fs = 0) (b : Bk.lines w.bk = 0) : wE w = 0 := (wE_3 h k).trans b
theorem wE_ok {w : Wd} (h : wE w = 0) : D.chk w.td = 0 ∧ F.checks w.fs = 0 ∧ Bk.lines w.bk = 0 := by
  unfold wE at h
  split at h
  · exact absurd h (by assumption)
  · split at h
    · exact absurd h (by assumption)
    · exact ⟨by omega, by omega, h⟩
theorem wE_len {w : Wd} (h : wE w = 0) : w.fs.length ≤ 60 ∧ w.bk.length ≤ 400 := by
  obtain ⟨_, a, b⟩ := wE_ok h
  exact ⟨F.checks_len (by omega), (Bk.lines_0 b).1.le⟩
def at_ (w : Wd) (id : Int) : Nat := (F.idx id w.fs 0).toNat
def fl (w : Wd) (id : Int) : Fl := w.fs.getD (at_ w id) default
def dvE (w : Wd) (id u : Int) : Int := if wE w ≠ 0 then wE w else if F.fndE id w.fs ≠ 0 then F.fndE id w.fs else if F.less (fl w id) u ≠ 0 then F.less (fl w id) u else Bk.pE w.bk (Cp.mvd (fl w id).fr (fl w id).to (fl w id).pa u)
def dvW (w : Wd) (id u : Int) : Wd := if dvE w id u = 0 then ⟨w.td, w.fs.set (at_ w id) (F.addDe (fl w id) u), Bk.pL w.bk (Cp.mvd (fl w id).fr (fl w id).to (fl w id).pa u)⟩ else zw
theorem dv_1 {w : Wd} {id u : Int} (h : ¬ wE w = 0) : dvE w id u = wE w := if_pos h
theorem dv_2 {w : Wd} {id u : Int} (h : wE w = 0) (k : ¬ F.fndE id w.fs = 0) : dvE w id u = F.fndE id w.fs := (if_neg (by omega)).trans (if_pos k)
theorem dv_3 {w : Wd} {id u : Int} (h : wE w = 0) (k : F.fndE id w.fs = 0) (n : ¬ F.less (fl w id) u = 0) : dvE w id u = F.less (fl w id) u := (if_neg (by omega)).trans ((if_neg (by omega)).trans (if_pos n))
theorem dv_4 {w : Wd} {id u : Int} (h : wE w = 0) (k : F.fndE id w.fs = 0) (n : F.less (fl w id) u = 0) : dvE w id u = Bk.pE w.bk (Cp.mvd (fl w id).fr (fl w id).to (fl w id).pa u) := (if_neg (by omega)).trans ((if_neg (by omega)).trans (if_neg (by omega)))
theorem dvW_yes {w : Wd} {id u : Int} (h : dvE w id u = 0) : dvW w id u = ⟨w.td, w.fs.set (at_ w id) (F.addDe (fl w id) u), Bk.pL w.bk (Cp.mvd (fl w id).fr (fl w id).to (fl w id).pa u)⟩ := if_pos h
theorem dvW_no {w : Wd} {id u : Int} (h : ¬ dvE w id u = 0) : dvW w id u = zw := if_neg h
theorem fnd_ok {w : Wd} {id : Int} (h : F.fndE id w.fs = 0) : 0 ≤ F.idx id w.fs 0 ∧ F.fndV id w.fs = F.idx id w.fs 0 ∧ F.checks w.fs = 0 := by
  by_cases a : F.checks w.fs = 0
  · by_cases b : F.idx id w.fs 0 < 0
    · rw [(F.fnd_2 a b).2] at h; cases h
    · exact ⟨by omega, (F.fnd_3 a b).1, a⟩
  · rw [(F.fnd_1 a).2] at h; exact absurd h a
def Fresh (w : Wd) (f : Fl) : Prop := f.de = 0 ∧ f.bo = 0 ∧ f.pd = 0 ∧ f.day ≤ w.td
instance (w : Wd) (f : Fl) : Decidable (Fresh w f) := by unfold Fresh; exact inferInstance
def adE (w : Wd) (f : Fl) : Int := if wE w ≠ 0 then wE w else if ¬ Fresh w f then 4 else F.checks (w.fs ++ [f])
def adW (w : Wd) (f : Fl) : Wd := if adE w f = 0 then ⟨w.td, w.fs ++ [f], w.bk⟩ else zw
theorem ad_1 {w : Wd} {f : Fl} (h : ¬ wE w = 0) : adE w f = wE w := if_pos h
theorem ad_2 {w : Wd} {f : Fl} (h : wE w = 0) (k : ¬ Fresh w f) : adE w f = 4 := (if_neg (by omega)).trans (if_pos k)
theorem ad_3 {w : Wd} {f : Fl} (h : wE w = 0) (k : Fresh w f) : adE w f = F.checks (w.fs ++ [f]) := (if_neg (by omega)).trans (if_neg (fun z => z k))
theorem adW_yes {w : Wd} {f : Fl} (h : adE w f = 0) : adW w f = ⟨w.td, w.fs ++ [f], w.bk⟩ := if_pos h
theorem adW_no {w : Wd} {f : Fl} (h : ¬ adE w f = 0) : adW w f = zw := if_neg h
def opn (l : List Fl) : List Fl := l.filter fun f => decide (0 < F.left f)
def ovr (l : List Fl) : List Fl := l.filter fun f => !decide (0 < F.left f)
theorem opn_snoc {l : List Fl} {k : Nat} (h : k < l.length) : opn (l.take (k + 1)) = opn (l.take k) ++ if 0 < F.left (l.getD k default) then [l.getD k default] else [] := by
  unfold opn
  rw [List.take_succ_eq_append_getElem h, List.filter_append, ← getD_at h]
  by_cases e : 0 < F.left (l.getD k default)
  · rw [if_pos e, List.filter_cons_of_pos (by simpa using e)]; rfl
  · rw [if_neg e, List.filter_cons_of_neg (by simpa using e)]; rfl
theorem ovr_snoc {l : List Fl} {k : Nat} (h : k < l.length) : ovr (l.take (k + 1)) = ovr (l.take k) ++ if 0 < F.left (l.getD k default) then [] else [l.getD k default] := by
  unfold ovr
  rw [List.take_succ_eq_append_getElem h, List.filter_append, ← getD_at h]
  by_cases e : 0 < F.left (l.getD k default)
  · rw [if_pos e, List.filter_cons_of_neg (by simpa using e)]; rfl
  · rw [if_neg e, List.filter_cons_of_pos (by simpa using e)]; rfl
theorem opn_all {l : List Fl} (h : ∀ f ∈ l, 0 < F.left f) : opn l = l ∧ ovr l = [] := by
  unfold opn ovr
  refine ⟨List.filter_eq_self.2 fun f hf => by simpa using h f hf, List.filter_eq_nil_iff.2 fun f hf => by simpa using h f hf⟩
structure TJ (l : List Fl) (j : Nat) (X : List Fl) : Prop where
  le : j ≤ l.length
  len : X.length = l.length
  tk : X.take (opn (l.take j)).length = opn (l.take j)
  rs : ∀ p, j ≤ p → p < l.length → X.getD p default = l.getD p default
  lt : (opn (l.take j)).length < j
theorem TJ.yes {l X : List Fl} {j : Nat} (h : TJ l j X) (hj : j < l.length) (o : 0 < F.left (l.getD j default)) : TJ l (j + 1) (X.set (opn (l.take j)).length (l.getD j default)) := by
  have e : opn (l.take (j + 1)) = opn (l.take j) ++ [l.getD j default] := by rw [opn_snoc hj, if_pos o]
  have n1 := h.lt
  have n2 := h.len
  refine ⟨hj, by rw [List.length_set]; exact h.len, ?_, fun p h1 h2 => ?_, by rw [e, List.length_append]; simp; omega⟩
  · rw [e, List.length_append, List.length_singleton, List.take_succ_eq_append_getElem (by rw [List.length_set]; omega), List.take_set_of_le (Nat.le_refl _), h.tk]
    simp
  · have := h.rs p (by omega) h2
    rw [← this, getD_at (l := X.set _ _) (by rw [List.length_set]; omega), List.getElem_set_ne (by omega)]
    exact (getD_at (by omega)).symm
theorem TJ.no {l X : List Fl} {j : Nat} (h : TJ l j X) (hj : j < l.length) (o : ¬ 0 < F.left (l.getD j default)) : TJ l (j + 1) X := by
  have e : opn (l.take (j + 1)) = opn (l.take j) := by rw [opn_snoc hj, if_neg o, List.append_nil]
  have n1 := h.lt
  exact ⟨hj, h.len, by rw [e]; exact h.tk, fun p h1 h2 => h.rs p (by omega) h2, by rw [e]; omega⟩
theorem TJ.start {l : List Fl} {k : Nat} (hk : k < l.length) (h : ∀ f ∈ l.take k, 0 < F.left f) (o : ¬ 0 < F.left (l.getD k default)) : TJ l (k + 1) l ∧ (opn (l.take (k + 1))).length = k ∧ ovr (l.take (k + 1)) = [l.getD k default] := by
  obtain ⟨a1, a2⟩ := opn_all h
  have e : opn (l.take (k + 1)) = l.take k := by rw [opn_snoc hk, if_neg o, List.append_nil, a1]
  have e2 : ovr (l.take (k + 1)) = [l.getD k default] := by rw [ovr_snoc hk, if_neg o, a2]; rfl
  have n : (l.take k).length = k := by rw [List.length_take]; omega
  exact ⟨⟨hk, rfl, by rw [e, n], fun p _ _ => rfl, by rw [e, n]; omega⟩, by rw [e, n], e2⟩
def tyW (w : Wd) : Wd := if wE w = 0 then ⟨w.td, opn w.fs, w.bk⟩ else zw
def tyO (w : Wd) : List Fl := if wE w = 0 then ovr w.fs else []
theorem ty_yes {w : Wd} (h : wE w = 0) : tyW w = ⟨w.td, opn w.fs, w.bk⟩ ∧ tyO w = ovr w.fs := ⟨if_pos h, if_pos h⟩
theorem ty_no {w : Wd} (h : ¬ wE w = 0) : tyW w = zw ∧ tyO w = [] := ⟨if_neg h, if_neg h⟩
theorem ovr_len (l : List Fl) : (ovr l).length ≤ l.length := List.length_filter_le _ _
structure St where
  out : List Fl
  bk : List Po
  ps : List Po
  e : Int
noncomputable def one (c : Cl) (t : List Tm) (x : Int) (pr : List Int) (td : Int) (s : St) (f : Fl) : St :=
  if s.e ≠ 0 then s
  else if Ag.stg c (Pn.cl t f) f td ≠ 4 then ⟨s.out ++ [f], s.bk, s.ps, 0⟩
  else if Cp.pE f (P.pr pr f.pa) x ≠ 0 then ⟨s.out, s.bk, s.ps, Cp.pE f (P.pr pr f.pa) x⟩
  else if (Cp.pL f (P.pr pr f.pa) x).length = 0 then ⟨s.out ++ [Cp.pF f (P.pr pr f.pa) x], s.bk, s.ps, 0⟩
  else if Bk.pE s.bk (Cp.pL f (P.pr pr f.pa) x) ≠ 0 then ⟨s.out, s.bk, s.ps, Bk.pE s.bk (Cp.pL f (P.pr pr f.pa) x)⟩
  else ⟨s.out ++ [Cp.pF f (P.pr pr f.pa) x], Bk.pL s.bk (Cp.pL f (P.pr pr f.pa) x), s.ps ++ Cp.pL f (P.pr pr f.pa) x, 0⟩
section
variable {c : Cl} {t : List Tm} {x : Int} {pr : List Int} {td : Int} {s : St} {f : Fl}
theorem one_0 (h : ¬ s.e = 0) : one c t x pr td s f = s := if_pos h
theorem one_1 (h : s.e = 0) (k : ¬ Ag.stg c (Pn.cl t f) f td = 4) : one c t x pr td s f = ⟨s.out ++ [f], s.bk, s.ps, 0⟩ := (if_neg (by omega)).trans (if_pos k)
theorem one_2 (h : s.e = 0) (k : Ag.stg c (Pn.cl t f) f td = 4) (p : ¬ Cp.pE f (P.pr pr f.pa) x = 0) : one c t x pr td s f = ⟨s.out, s.bk, s.ps, Cp.pE f (P.pr pr f.pa) x⟩ := (if_neg (by omega)).trans ((if_neg (by omega)).trans (if_pos p))
theorem one_3 (h : s.e = 0) (k : Ag.stg c (Pn.cl t f) f td = 4) (p : Cp.pE f (P.pr pr f.pa) x = 0) (z : (Cp.pL f (P.pr pr f.pa) x).length = 0) : one c t x pr td s f = ⟨s.out ++ [Cp.pF f (P.pr pr f.pa) x], s.bk, s.ps, 0⟩ := (if_neg (by omega)).trans ((if_neg (by omega)).trans ((if_neg (by omega)).trans (if_pos z)))
theorem one_4 (h : s.e = 0) (k : Ag.stg c (Pn.cl t f) f td = 4) (p : Cp.pE f (P.pr pr f.pa) x = 0) (z : ¬ (Cp.pL f (P.pr pr f.pa) x).length = 0) (b : ¬ Bk.pE s.bk (Cp.pL f (P.pr pr f.pa) x) = 0) : one c t x pr td s f = ⟨s.out, s.bk, s.ps, Bk.pE s.bk (Cp.pL f (P.pr pr f.pa) x)⟩ := (if_neg (by omega)).trans ((if_neg (by omega)).trans ((if_neg (by omega)).trans ((if_neg z).trans (if_pos b))))
theorem one_5 (h : s.e = 0) (k : Ag.stg c (Pn.cl t f) f td = 4) (p : Cp.pE f (P.pr pr f.pa) x = 0) (z : ¬ (Cp.pL f (P.pr pr f.pa) x).length = 0) (b : Bk.pE s.bk (Cp.pL f (P.pr pr f.pa) x) = 0) : one c t x pr td s f = ⟨s.out ++ [Cp.pF f (P.pr pr f.pa) x], Bk.pL s.bk (Cp.pL f (P.pr pr f.pa) x), s.ps ++ Cp.pL f (P.pr pr f.pa) x, 0⟩ := (if_neg (by omega)).trans ((if_neg (by omega)).trans ((if_neg (by omega)).trans ((if_neg z).trans (if_neg (by omega)))))
end
noncomputable def run (c : Cl) (t : List Tm) (x : Int) (pr : List Int) (td : Int) (s : St) (l : List Fl) : St := l.foldl (one c t x pr td) s
theorem run_snoc {c : Cl} {t : List Tm} {x : Int} {pr : List Int} {td : Int} {s : St} {l : List Fl} {k : Nat} (h : k < l.length) : run c t x pr td s (l.take (k + 1)) = one c t x pr td (run c t x pr td s (l.take k)) (l.getD k default) := by
  unfold run
  rw [List.take_succ_eq_append_getElem h, List.foldl_append, ← getD_at h]
  rfl
theorem run_e {c : Cl} {t : List Tm} {x : Int} {pr : List Int} {td : Int} : ∀ {l : List Fl} {s : St}, ¬ s.e = 0 → run c t x pr td s l = s
  | [], _, _ => rfl
  | f :: r, s, h => by
    show run c t x pr td (one c t x pr td s f) r = s
    rw [one_0 h]
    exact run_e h
theorem run_split (c : Cl) (t : List Tm) (x : Int) (pr : List Int) (td : Int) (s : St) (l : List Fl) (k : Nat) : run c t x pr td s l = run c t x pr td (run c t x pr td s (l.take k)) (l.drop k) := by
  unfold run
  rw [← List.foldl_append, List.take_append_drop]
theorem pL_len (f : Fl) (p x : Int) : (Cp.pL f p x).length ≤ 2 := by
  unfold Cp.pL
  split
  · simp
  · exact Nat.le_refl _
noncomputable def nB (c : Cl) (t : List Tm) (x : Int) (w : Wd) (pr : List Int) : Int :=
  if rE c t x ≠ 0 then rE c t x else if wE w ≠ 0 then wE w else if P.chks pr ≠ 0 then P.chks pr else if Ca.op c w.td = 1 then Pn.yD c t w.fs pr w.td else 4
noncomputable def du (c : Cl) (t : List Tm) (w : Wd) (pr : List Int) : List Du := Pn.yL c t w.fs pr w.td
def psE (w : Wd) (d : List Du) : Int := if Pn.suE d ≠ 0 ∧ Pn.suE d ≠ 5 then Pn.suE d else if (Pn.suL d).length = 0 then 0 else Bk.pE w.bk (Pn.suL d)
def psB (w : Wd) (d : List Du) : List Po := if (Pn.suL d).length = 0 then w.bk else Bk.pL w.bk (Pn.suL d)
noncomputable def s0 (c : Cl) (t : List Tm) (x : Int) (w : Wd) (pr : List Int) : St :=
  if nB c t x w pr ≠ 0 then ⟨[], [], [], nB c t x w pr⟩ else if psE w (du c t w pr) ≠ 0 then ⟨[], [], [], psE w (du c t w pr)⟩ else ⟨[], psB w (du c t w pr), Pn.suL (du c t w pr), 0⟩
noncomputable def s1 (c : Cl) (t : List Tm) (x : Int) (w : Wd) (pr : List Int) : St := run c t x pr w.td (s0 c t x w pr) w.fs
noncomputable def nE (c : Cl) (t : List Tm) (x : Int) (w : Wd) (pr : List Int) : Int := if (s1 c t x w pr).e ≠ 0 then (s1 c t x w pr).e else Ca.sE c w.td 1
noncomputable def nW (c : Cl) (t : List Tm) (x : Int) (w : Wd) (pr : List Int) : Wd := open Classical in if nE c t x w pr = 0 then ⟨Ca.sV c w.td 1, (s1 c t x w pr).out, (s1 c t x w pr).bk⟩ else zw
noncomputable def nP (c : Cl) (t : List Tm) (x : Int) (w : Wd) (pr : List Int) : List Po := open Classical in if nE c t x w pr = 0 then (s1 c t x w pr).ps else []
section
variable {c : Cl} {t : List Tm} {x : Int} {w : Wd} {pr : List Int}
theorem nB_1 (h : ¬ rE c t x = 0) : nB c t x w pr = rE c t x := if_pos h
theorem nB_2 (h : rE c t x = 0) (k : ¬ wE w = 0) : nB c t x w pr = wE w := (if_neg (by omega)).trans (if_pos k)
theorem nB_3 (h : rE c t x = 0) (k : wE w = 0) (p : ¬ P.chks pr = 0) : nB c t x w pr = P.chks pr := (if_neg (by omega)).trans ((if_neg (by omega)).trans (if_pos p))
theorem nB_4 (h : rE c t x = 0) (k : wE w = 0) (p : P.chks pr = 0) (o : ¬ Ca.op c w.td = 1) : nB c t x w pr = 4 := (if_neg (by omega)).trans ((if_neg (by omega)).trans ((if_neg (by omega)).trans (if_neg o)))
theorem nB_5 (h : rE c t x = 0) (k : wE w = 0) (p : P.chks pr = 0) (o : Ca.op c w.td = 1) : nB c t x w pr = Pn.yD c t w.fs pr w.td := (if_neg (by omega)).trans ((if_neg (by omega)).trans ((if_neg (by omega)).trans (if_pos o)))
theorem nB_ok (h : nB c t x w pr = 0) : rE c t x = 0 ∧ wE w = 0 ∧ P.chks pr = 0 ∧ Ca.op c w.td = 1 ∧ Pn.yD c t w.fs pr w.td = 0 := by
  by_cases a : rE c t x = 0
  · by_cases b : wE w = 0
    · by_cases p : P.chks pr = 0
      · by_cases o : Ca.op c w.td = 1
        · rw [nB_5 a b p o] at h; exact ⟨a, b, p, o, h⟩
        · rw [nB_4 a b p o] at h; cases h
      · rw [nB_3 a b p] at h; exact absurd h p
    · rw [nB_2 a b] at h; exact absurd h b
  · rw [nB_1 a] at h; exact absurd h a
theorem s0_1 (h : ¬ nB c t x w pr = 0) : s0 c t x w pr = ⟨[], [], [], nB c t x w pr⟩ := if_pos h
theorem s0_2 (h : nB c t x w pr = 0) (k : ¬ psE w (du c t w pr) = 0) : s0 c t x w pr = ⟨[], [], [], psE w (du c t w pr)⟩ := (if_neg (by omega)).trans (if_pos k)
theorem s0_3 (h : nB c t x w pr = 0) (k : psE w (du c t w pr) = 0) : s0 c t x w pr = ⟨[], psB w (du c t w pr), Pn.suL (du c t w pr), 0⟩ := (if_neg (by omega)).trans (if_neg (by omega))
theorem s0_ok (h : (s0 c t x w pr).e = 0) : nB c t x w pr = 0 ∧ psE w (du c t w pr) = 0 ∧ s0 c t x w pr = ⟨[], psB w (du c t w pr), Pn.suL (du c t w pr), 0⟩ := by
  by_cases a : nB c t x w pr = 0
  · by_cases b : psE w (du c t w pr) = 0
    · exact ⟨a, b, s0_3 a b⟩
    · rw [s0_2 a b] at h; exact absurd h b
  · rw [s0_1 a] at h; exact absurd h a
theorem n_bad (h : ¬ (s0 c t x w pr).e = 0) : nE c t x w pr = (s0 c t x w pr).e ∧ nW c t x w pr = zw ∧ nP c t x w pr = [] := by
  have e : s1 c t x w pr = s0 c t x w pr := run_e h
  have e2 : nE c t x w pr = (s0 c t x w pr).e := by unfold nE; rw [e, if_pos h]
  exact ⟨e2, if_neg (by rw [e2]; exact h), if_neg (by rw [e2]; exact h)⟩
theorem n_err (h : ¬ (s1 c t x w pr).e = 0) : nE c t x w pr = (s1 c t x w pr).e ∧ nW c t x w pr = zw ∧ nP c t x w pr = [] := by
  have e2 : nE c t x w pr = (s1 c t x w pr).e := if_pos h
  exact ⟨e2, if_neg (by rw [e2]; exact h), if_neg (by rw [e2]; exact h)⟩
theorem n_end (h : (s1 c t x w pr).e = 0) (k : ¬ Ca.sE c w.td 1 = 0) : nE c t x w pr = Ca.sE c w.td 1 ∧ nW c t x w pr = zw ∧ nP c t x w pr = [] := by
  have e2 : nE c t x w pr = Ca.sE c w.td 1 := if_neg (by omega)
  exact ⟨e2, if_neg (by rw [e2]; exact k), if_neg (by rw [e2]; exact k)⟩
theorem n_yes (h : (s1 c t x w pr).e = 0) (k : Ca.sE c w.td 1 = 0) : nE c t x w pr = 0 ∧ nW c t x w pr = ⟨Ca.sV c w.td 1, (s1 c t x w pr).out, (s1 c t x w pr).bk⟩ ∧ nP c t x w pr = (s1 c t x w pr).ps := by
  have e2 : nE c t x w pr = 0 := (if_neg (by omega)).trans k
  exact ⟨e2, if_pos e2, if_pos e2⟩
end
structure NJ (c : Cl) (t : List Tm) (x : Int) (pr : List Int) (td : Int) (s : St) (fs : List Fl) (k : Nat) (X : List Fl) (b p : List Po) (e : Int) : Prop where
  le : k ≤ fs.length
  xl : X.length = fs.length
  er : (run c t x pr td s (fs.take k)).e = e
  ok : e = 0 → run c t x pr td s (fs.take k) = ⟨X.take k, b, p, 0⟩ ∧ ∀ q, k ≤ q → q < fs.length → X.getD q default = fs.getD q default
  bl : b.length ≤ 2121
  pl : p.length ≤ s.ps.length + 2 * k
section
variable {c : Cl} {t : List Tm} {x : Int} {pr : List Int} {td : Int} {s : St} {fs X : List Fl} {k : Nat} {b p : List Po} {e : Int}
theorem NJ.start (hb : s.bk.length ≤ 2121) (ho : s.out = []) (he : s.e = 0) : NJ c t x pr td s fs 0 fs s.bk s.ps 0 :=
  ⟨Nat.zero_le _, rfl, he, fun _ => ⟨by cases s; simp_all [run], fun _ _ _ => rfl⟩, hb, by omega⟩
theorem NJ.skip (h : NJ c t x pr td s fs k X b p e) (hk : k < fs.length) (he : ¬ e = 0) : NJ c t x pr td s fs (k + 1) X b p e :=
  ⟨hk, h.xl, by rw [run_snoc hk, one_0 (by rw [h.er]; exact he)]; exact h.er, fun z => absurd z he, h.bl, by have := h.pl; omega⟩
theorem take_on (xl : X.length = fs.length) (hk : k < fs.length) : X.take (k + 1) = X.take k ++ [X.getD k default] := by
  rw [List.take_succ_eq_append_getElem (by omega), getD_at (by omega)]
theorem NJ.s1 (h : NJ c t x pr td s fs k X b p 0) (hk : k < fs.length) (g : ¬ Ag.stg c (Pn.cl t (X.getD k default)) (X.getD k default) td = 4) : NJ c t x pr td s fs (k + 1) X b p 0 := by
  obtain ⟨o1, o2⟩ := h.ok rfl
  have ex := o2 k (Nat.le_refl _) hk
  have e1 : run c t x pr td s (fs.take (k + 1)) = ⟨X.take (k + 1), b, p, 0⟩ := by
    rw [run_snoc hk, o1, ← ex, one_1 rfl g, take_on h.xl hk]
  exact ⟨hk, h.xl, by rw [e1], fun _ => ⟨e1, fun q h1 h2 => o2 q (by omega) h2⟩, h.bl, by have := h.pl; omega⟩
theorem NJ.s2 (h : NJ c t x pr td s fs k X b p 0) (hk : k < fs.length) (g : Ag.stg c (Pn.cl t (X.getD k default)) (X.getD k default) td = 4) (q : ¬ Cp.pE (X.getD k default) (P.pr pr (X.getD k default).pa) x = 0) :
    NJ c t x pr td s fs (k + 1) X b p (Cp.pE (X.getD k default) (P.pr pr (X.getD k default).pa) x) := by
  obtain ⟨o1, o2⟩ := h.ok rfl
  have ex := o2 k (Nat.le_refl _) hk
  exact ⟨hk, h.xl, by rw [run_snoc hk, o1, ← ex, one_2 rfl g q], fun z => absurd z q, h.bl, by have := h.pl; omega⟩
theorem set_on (xl : X.length = fs.length) (hk : k < fs.length) (f : Fl) : (X.set k f).take (k + 1) = X.take k ++ [f] := by
  rw [List.take_succ_eq_append_getElem (by rw [List.length_set]; omega), List.take_set_of_le (Nat.le_refl _)]
  simp
theorem set_rest (xl : X.length = fs.length) (o2 : ∀ q, k ≤ q → q < fs.length → X.getD q default = fs.getD q default) (f : Fl) : ∀ q, k + 1 ≤ q → q < fs.length → (X.set k f).getD q default = fs.getD q default := fun q h1 h2 => by
  rw [← o2 q (by omega) h2, getD_at (l := X.set k f) (by rw [List.length_set]; omega), List.getElem_set_ne (by omega)]
  exact (getD_at (by omega)).symm
theorem NJ.s3 (h : NJ c t x pr td s fs k X b p 0) (hk : k < fs.length) (g : Ag.stg c (Pn.cl t (X.getD k default)) (X.getD k default) td = 4) (q : Cp.pE (X.getD k default) (P.pr pr (X.getD k default).pa) x = 0)
    (z : (Cp.pL (X.getD k default) (P.pr pr (X.getD k default).pa) x).length = 0) : NJ c t x pr td s fs (k + 1) (X.set k (Cp.pF (X.getD k default) (P.pr pr (X.getD k default).pa) x)) b p 0 := by
  obtain ⟨o1, o2⟩ := h.ok rfl
  have ex := o2 k (Nat.le_refl _) hk
  have e1 : run c t x pr td s (fs.take (k + 1)) = ⟨(X.set k (Cp.pF (X.getD k default) (P.pr pr (X.getD k default).pa) x)).take (k + 1), b, p, 0⟩ := by
    rw [run_snoc hk, o1, ← ex, one_3 rfl g q z, set_on h.xl hk]
  exact ⟨hk, by rw [List.length_set]; exact h.xl, by rw [e1], fun _ => ⟨e1, set_rest h.xl o2 _⟩, h.bl, by have := h.pl; omega⟩
theorem NJ.s4 (h : NJ c t x pr td s fs k X b p 0) (hk : k < fs.length) (g : Ag.stg c (Pn.cl t (X.getD k default)) (X.getD k default) td = 4) (q : Cp.pE (X.getD k default) (P.pr pr (X.getD k default).pa) x = 0)
    (z : ¬ (Cp.pL (X.getD k default) (P.pr pr (X.getD k default).pa) x).length = 0) (y : ¬ Bk.pE b (Cp.pL (X.getD k default) (P.pr pr (X.getD k default).pa) x) = 0) :
    NJ c t x pr td s fs (k + 1) (X.set k (Cp.pF (X.getD k default) (P.pr pr (X.getD k default).pa) x)) b p (Bk.pE b (Cp.pL (X.getD k default) (P.pr pr (X.getD k default).pa) x)) := by
  obtain ⟨o1, o2⟩ := h.ok rfl
  have ex := o2 k (Nat.le_refl _) hk
  exact ⟨hk, by rw [List.length_set]; exact h.xl, by rw [run_snoc hk, o1, ← ex, one_4 rfl g q z y], fun w => absurd w y, h.bl, by have := h.pl; omega⟩
theorem NJ.s5 (h : NJ c t x pr td s fs k X b p 0) (hk : k < fs.length) (g : Ag.stg c (Pn.cl t (X.getD k default)) (X.getD k default) td = 4) (q : Cp.pE (X.getD k default) (P.pr pr (X.getD k default).pa) x = 0)
    (z : ¬ (Cp.pL (X.getD k default) (P.pr pr (X.getD k default).pa) x).length = 0) (y : Bk.pE b (Cp.pL (X.getD k default) (P.pr pr (X.getD k default).pa) x) = 0) :
    NJ c t x pr td s fs (k + 1) (X.set k (Cp.pF (X.getD k default) (P.pr pr (X.getD k default).pa) x)) (Bk.pL b (Cp.pL (X.getD k default) (P.pr pr (X.getD k default).pa) x)) (p ++ Cp.pL (X.getD k default) (P.pr pr (X.getD k default).pa) x) 0 := by
  obtain ⟨o1, o2⟩ := h.ok rfl
  have ex := o2 k (Nat.le_refl _) hk
  have e1 : run c t x pr td s (fs.take (k + 1)) = ⟨(X.set k (Cp.pF (X.getD k default) (P.pr pr (X.getD k default).pa) x)).take (k + 1), Bk.pL b (Cp.pL (X.getD k default) (P.pr pr (X.getD k default).pa) x), p ++ Cp.pL (X.getD k default) (P.pr pr (X.getD k default).pa) x, 0⟩ := by
    rw [run_snoc hk, o1, ← ex, one_5 rfl g q z y, set_on h.xl hk]
  have l2 := pL_len (X.getD k default) (P.pr pr (X.getD k default).pa) x
  exact ⟨hk, by rw [List.length_set]; exact h.xl, by rw [e1], fun _ => ⟨e1, set_rest h.xl o2 _⟩, by have := (Bk.po_lines (Bk.pE_0.1 y)).le; omega, by have := h.pl; rw [List.length_append]; omega⟩
theorem NJ.fin (h : NJ c t x pr td s fs fs.length X b p e) : (run c t x pr td s fs).e = e ∧ (e = 0 → run c t x pr td s fs = ⟨X, b, p, 0⟩) := by
  have e1 := h.er
  have e2 := h.ok
  rw [List.take_length] at e1 e2
  refine ⟨e1, fun z => ?_⟩
  rw [(e2 z).1, ← h.xl, List.take_length]
end
theorem night_ok {c : Cl} {t : List Tm} {x : Int} {w : Wd} {pr : List Int} (h : (s0 c t x w pr).e = 0) :
    Ca.isV c w.td = true ∧ ((Pn.suL (du c t w pr)).length = 0 → Pn.suE (du c t w pr) = 5 ∨ Pn.suE (du c t w pr) = 0) ∧ (¬ (Pn.suL (du c t w pr)).length = 0 → Pn.suE (du c t w pr) = 0 ∧ Bk.pE w.bk (Pn.suL (du c t w pr)) = 0) ∧ (s0 c t x w pr).bk.length ≤ 2121 ∧ (s0 c t x w pr).out = [] ∧ (s0 c t x w pr).bk = psB w (du c t w pr) ∧ (s0 c t x w pr).ps = Pn.suL (du c t w pr) := by
  obtain ⟨b0, p0, e0⟩ := s0_ok h
  obtain ⟨r0, w0, k0, o0, y0⟩ := nB_ok b0
  obtain ⟨d0, f0, l0⟩ := wE_ok w0
  have hd : Ca.Day w.td := by have z := Ca.dchk w.td; unfold Ca.Day at *; omega
  have i0 : Ca.isV c w.td = true := by rw [Ca.isV_yes (rE_ok r0).1 hd]; exact decide_eq_true o0
  have s5 : Pn.suE (du c t w pr) = 0 ∨ Pn.suE (du c t w pr) = 5 := by
    apply Classical.byContradiction
    intro z
    have : psE w (du c t w pr) = Pn.suE (du c t w pr) := if_pos ⟨fun q => z (.inl q), fun q => z (.inr q)⟩
    omega
  have n4 := (wE_len w0).2
  refine ⟨i0, fun _ => s5.symm, fun q => ?_, ?_, by rw [e0], by rw [e0], by rw [e0]⟩
  · have s0' : Pn.suE (du c t w pr) = 0 := by
      rcases s5 with z | z
      · exact z
      · exact absurd (show (Pn.suL (du c t w pr)).length = 0 by rw [show Pn.suL (du c t w pr) = [] from if_neg (by omega)]; rfl) q
    refine ⟨s0', ?_⟩
    have : psE w (du c t w pr) = Bk.pE w.bk (Pn.suL (du c t w pr)) := (if_neg (by omega)).trans (if_neg q)
    omega
  · rw [e0]
    show (psB w (du c t w pr)).length ≤ 2121
    unfold psB
    split
    · omega
    · unfold Bk.pL
      split
      · exact Bk.out_len _ _
      · exact Nat.zero_le _
end Cy
end Go.Proofs.YtpanlcnoopmchaaGreatDoor

namespace Go.Proofs.YtpanlcnoopmchaaGreatDoor
open Go Go.RowKit V
theorem v_cyRules (c : Cl) (t : List Tm) (x : Int) (hc : c.hs.length ≤ 9223372036854775807) (ht : t.length ≤ 9223372036854775807) : V.Fn Tryz.prog 17 [.arr 1 c.hs.length (ga e1 c.hs), .arr 4 t.length (ga encTm t)] [.agg [.val (.int .i64 c.we), .ref 0, .ref 1, .val (.int .i64 x)]] (.int .i64 (Cy.rE c t x)) := by
  refine V.Fn.mk_ V.Tok V.mixed Tryz.func17 rfl Tryz.ntmps17 (by kernel_rfl) rfl rfl ?_
  repeat' ((conv => whnf); first | refine V.NCond.mk ?_ | refine V.NPick.l ?_ | refine V.NIf.not_ ?_ | refine V.NIf.dec_ ?_ | refine V.a4 ?_ | refine V.a5 ?_ | refine V.NIf.mk (fun _ => ?_) (fun _ => ?_) | refine V.a7 ?_ | refine V.a8 ?_ | refine V.a9 ?_ | refine V.NBoth.mk ?_ ?_ | refine V.b1 ?_ | refine V.b2 ?_ | refine V.NTF.dec ?_ | refine V.b3 ?_ | refine V.b4 ?_ | ((first | refine V.Fn.k (v_caCheck c hc) [0] rfl ?_ ?_ | refine V.Fn.q (v_caCheck c hc) [0] rfl ?_ ?_ | refine V.Fn.a (v_caCheck c hc) [0] rfl ?_ ?_); · exact V.D_) | ((first | refine V.Fn.k (v_pterms t ht) [1] rfl ?_ ?_ | refine V.Fn.q (v_pterms t ht) [1] rfl ?_ ?_ | refine V.Fn.a (v_pterms t ht) [1] rfl ?_ ?_); · exact V.D_) | (refine V.NDraw.any (by kernel_rfl) ?_) | fail)
  all_goals (conv => whnf)
  all_goals first
    | exact V.fin1 (Cy.rE_3 (by assumption) (by assumption) (by omega))
    | exact V.fin1 ((Cy.rE_4 (by assumption) (by assumption) (by omega)).trans (Eq.symm (by assumption)))
    | exact V.fin1 (Cy.rE_4 (by assumption) (by assumption) (by omega))
    | exact V.fin1 (Cy.rE_2 (by assumption) (by assumption))
    | exact V.fin1 (Cy.rE_1 (by assumption))
    | trace_state
theorem v_cyCheck (w : Wd) (hb : w.bk.length ≤ 9223372036854775807) : V.Fn Tryz.prog 16 [.arr 10 w.fs.length (ga encF w.fs), .arr 3 w.bk.length (ga encP w.bk)] [.agg [.val (.int .i64 w.td), .ref 0, .ref 1]] (.int .i64 (Cy.wE w)) := by
  refine V.Fn.mk_ V.Tok V.mixed Tryz.func16 rfl Tryz.ntmps16 (by kernel_rfl) rfl rfl ?_
  repeat' ((conv => whnf); first | refine V.NCond.mk ?_ | refine V.NPick.l ?_ | refine V.NIf.not_ ?_ | refine V.NIf.dec_ ?_ | refine V.a4 ?_ | refine V.a5 ?_ | refine V.NIf.mk (fun _ => ?_) (fun _ => ?_) | refine V.a7 ?_ | refine V.a8 ?_ | refine V.a9 ?_ | refine V.NBoth.mk ?_ ?_ | refine V.b1 ?_ | refine V.b2 ?_ | refine V.NTF.dec ?_ | refine V.b3 ?_ | refine V.b4 ?_ | (first | refine V.Fn.k0 (v_dcheck _) rfl ?_ | refine V.Fn.q0 (v_dcheck _) rfl ?_ | refine V.Fn.a0 (v_dcheck _) rfl ?_) | ((first | refine V.Fn.k (v_fchecks w.fs) [0] rfl ?_ ?_ | refine V.Fn.q (v_fchecks w.fs) [0] rfl ?_ ?_ | refine V.Fn.a (v_fchecks w.fs) [0] rfl ?_ ?_); · exact V.D_) | ((first | refine V.Fn.k (v_bkLines w.bk hb) [1] rfl ?_ ?_ | refine V.Fn.q (v_bkLines w.bk hb) [1] rfl ?_ ?_ | refine V.Fn.a (v_bkLines w.bk hb) [1] rfl ?_ ?_); · exact V.D_) | (refine V.NDraw.any (by kernel_rfl) ?_) | fail)
  all_goals (conv => whnf)
  all_goals first
    | exact V.fin1 (Cy.wE_3 (by assumption) (by assumption))
    | exact V.fin1 (Cy.wE_2 (by assumption) (by assumption))
    | exact V.fin1 (Cy.wE_1 (by assumption))
    | trace_state
instance : DecidableEq Wd := fun a b => decidable_of_iff (a.td = b.td ∧ a.fs = b.fs ∧ a.bk = b.bk) ⟨fun h => Cy.wd_ext h.1 h.2.1 h.2.2, fun h => by subst h; simp⟩
theorem v_sameworld (a b : Wd) (h1 : a.fs.length ≤ 9223372036854775807) (h2 : a.bk.length ≤ 9223372036854775807) : V.Fn Tryz.prog 7 [.arr 10 a.fs.length (ga encF a.fs), .arr 3 a.bk.length (ga encP a.bk), .arr 10 b.fs.length (ga encF b.fs), .arr 3 b.bk.length (ga encP b.bk)] [.agg [.val (.int .i64 a.td), .ref 0, .ref 1], .agg [.val (.int .i64 b.td), .ref 2, .ref 3]] (.bool (decide (a = b))) := by
  have e : a = b ↔ (a.td = b.td ∧ a.fs = b.fs ∧ a.bk = b.bk) := ⟨fun h => by subst h; simp, fun h => Cy.wd_ext h.1 h.2.1 h.2.2⟩
  refine V.Fn.mk_ V.Tok V.mixed Tryz.func7 rfl Tryz.ntmps7 (by kernel_rfl) rfl rfl ?_
  repeat' ((conv => whnf); first | refine V.NCond.mk ?_ | refine V.NPick.l ?_ | refine V.NIf.not_ ?_ | refine V.NIf.dec_ ?_ | refine V.a4 ?_ | refine V.a5 ?_ | refine V.NIf.mk (fun _ => ?_) (fun _ => ?_) | refine V.a7 ?_ | refine V.a8 ?_ | refine V.a9 ?_ | refine V.NBoth.mk ?_ ?_ | refine V.b1 ?_ | refine V.b2 ?_ | refine V.NTF.dec ?_ | refine V.b3 ?_ | refine V.b4 ?_ | ((first | refine V.Fn.k (v_samefails a.fs b.fs h1) [0, 2] rfl ?_ ?_ | refine V.Fn.q (v_samefails a.fs b.fs h1) [0, 2] rfl ?_ ?_ | refine V.Fn.a (v_samefails a.fs b.fs h1) [0, 2] rfl ?_ ?_); · exact V.D_) | ((first | refine V.Fn.k (v_sameposts a.bk b.bk h2) [1, 3] rfl ?_ ?_ | refine V.Fn.q (v_sameposts a.bk b.bk h2) [1, 3] rfl ?_ ?_ | refine V.Fn.a (v_sameposts a.bk b.bk h2) [1, 3] rfl ?_ ?_); · exact V.D_) | (refine V.NDraw.any (by kernel_rfl) ?_) | fail)
  all_goals (conv => whnf)
  all_goals first
    | exact ⟨_, rfl, by rw [decide_eq_true_iff, decide_eq_true_iff, e]; exact ⟨fun z => ⟨by assumption, by assumption, z⟩, fun z => z.2.2⟩⟩
    | exact congrArg Value.bool (decide_eq_decide.2 ⟨fun z => e.2 ⟨by assumption, by assumption, z⟩, fun z => (e.1 z).2.2⟩)
    | exact congrArg Value.bool (decide_eq_false (fun z => absurd (e.1 z).1 (by assumption))).symm
    | exact congrArg Value.bool (decide_eq_false (fun z => absurd (e.1 z).2.1 (by assumption))).symm
    | trace_state
end Go.Proofs.YtpanlcnoopmchaaGreatDoor

namespace Go.Proofs.YtpanlcnoopmchaaGreatDoor
open Go Go.RowKit V
end Go.Proofs.YtpanlcnoopmchaaGreatDoor

namespace Go.Proofs.YtpanlcnoopmchaaGreatDoor
open Go Go.RowKit V
theorem v_cpCost (u p : Int) (hu : 0 ≤ u ∧ u ≤ 1073741824) : (P.Ok p → V.Fn Tryz.prog 98 [] [.one (.val (.int .i64 u)), .one (.val (.int .i64 p))] (.tuple #[.int .i64 (P.cost u p), .int .i64 (M.prR u p 10000), .int .i64 0])) ∧ (¬ P.Ok p → V.Fn Tryz.prog 98 [] [.one (.val (.int .i64 u)), .one (.val (.int .i64 p))] (.tuple #[.int .i64 0, .int .i64 0, .int .i64 3])) := by
  have c := v_cost u p
  refine ⟨fun h => ?_, fun h => ?_⟩
  · obtain ⟨e1, e2⟩ := P.part_cost hu h
    rwa [e1, e2] at c
  · obtain ⟨e1, e2, e3⟩ := M.pr_1 (a := u) (b := p) (c := 10000) (fun k => h (P.pok.1 k).2)
    rwa [e1, e2, e3] at c
theorem v_worth (u p x : Int) : V.Fn Tryz.prog 81 [] [.one (.val (.int .i64 u)), .one (.val (.int .i64 p)), .one (.val (.int .i64 x))] (.tuple #[.int .i64 (Cp.wV u p x), .int .i64 (Cp.wE u p x)]) := by
  by_cases h : Cp.Ok u p x
  · obtain ⟨w1, w2⟩ := Cp.w_yes h
    have vc := (v_cpCost u p h.1).1 h.2.1
    have c := P.cost_bd h.1 h.2.1
    obtain ⟨e3, e4⟩ := P.part_rate (n := P.cost u p) (r := x) (by omega) h.2.2
    have r := P.rate_bd c.1 h.2.2
    have vp := v_part (P.cost u p) x 10000
    rw [e3, e4] at vp
    rw [w1, w2]
    obtain ⟨⟨h1, h2⟩, _, h3, h4⟩ := h
    generalize P.cost u p * x / 10000 = q at *
    generalize P.cost u p = n at *
    refine V.Fn.mk_ V.Tok V.mixed Tryz.func81 rfl Tryz.ntmps81 (by kernel_rfl) rfl rfl ?_
    repeat' ((conv => whnf); first | refine V.NCond.mk ?_ | refine V.NPick.l ?_ | refine V.NIf.not_ ?_ | refine V.NIf.dec_ ?_ | refine V.a4 ?_ | refine V.a5 ?_ | refine V.NIf.mk (fun _ => ?_) (fun _ => ?_) | refine V.a7 ?_ | refine V.a8 ?_ | refine V.a9 ?_ | refine V.NBoth.mk ?_ ?_ | refine V.b1 ?_ | refine V.b2 ?_ | refine V.NTF.dec ?_ | refine V.b3 ?_ | refine V.b4 ?_ | (first | refine V.Fn.k0 (vc) rfl ?_ | refine V.Fn.q0 (vc) rfl ?_ | refine V.Fn.a0 (vc) rfl ?_) | (first | refine V.Fn.k0 (vp) rfl ?_ | refine V.Fn.q0 (vp) rfl ?_ | refine V.Fn.a0 (vp) rfl ?_) | (refine V.NDraw.any (by kernel_rfl) ?_) | fail)
    all_goals (conv => whnf)
    exact V.fin2 ⟨rfl, rfl⟩
  · obtain ⟨w1, w2⟩ := Cp.w_no h
    rw [w1, w2]
    by_cases hu : 0 ≤ u ∧ u ≤ 1073741824
    · by_cases hp : P.Ok p
      · have hx : ¬ (0 ≤ x ∧ x ≤ 10000) := fun z => h ⟨hu, hp, z⟩
        refine V.Fn.mk_ V.Tok V.mixed Tryz.func81 rfl Tryz.ntmps81 (by kernel_rfl) rfl rfl ?_
        repeat' ((conv => whnf); first | refine V.NCond.mk ?_ | refine V.NPick.l ?_ | refine V.NIf.not_ ?_ | refine V.NIf.dec_ ?_ | refine V.a4 ?_ | refine V.a5 ?_ | refine V.NIf.mk (fun _ => ?_) (fun _ => ?_) | refine V.a7 ?_ | refine V.a8 ?_ | refine V.a9 ?_ | refine V.NBoth.mk ?_ ?_ | refine V.b1 ?_ | refine V.b2 ?_ | refine V.NTF.dec ?_ | refine V.b3 ?_ | refine V.b4 ?_ | (refine V.NDraw.any (by kernel_rfl) ?_) | fail)
        all_goals (conv => whnf)
        all_goals exact V.fin2 ⟨rfl, rfl⟩
      · have vc := (v_cpCost u p hu).2 hp
        refine V.Fn.mk_ V.Tok V.mixed Tryz.func81 rfl Tryz.ntmps81 (by kernel_rfl) rfl rfl ?_
        repeat' ((conv => whnf); first | (refine V.NIf.yes ?_ ?_; · (decide; done)) | (refine V.NIf.no ?_ ?_; · (decide; done)) | refine V.NCond.mk ?_ | refine V.NPick.l ?_ | refine V.NIf.not_ ?_ | refine V.NIf.dec_ ?_ | refine V.a4 ?_ | refine V.a5 ?_ | refine V.NIf.mk (fun _ => ?_) (fun _ => ?_) | refine V.a7 ?_ | refine V.a8 ?_ | refine V.a9 ?_ | refine V.NBoth.mk ?_ ?_ | refine V.b1 ?_ | refine V.b2 ?_ | refine V.NTF.dec ?_ | refine V.b3 ?_ | refine V.b4 ?_ | (first | refine V.Fn.k0 (vc) rfl ?_ | refine V.Fn.q0 (vc) rfl ?_ | refine V.Fn.a0 (vc) rfl ?_) | (refine V.NDraw.any (by kernel_rfl) ?_) | fail)
        all_goals (conv => whnf)
        all_goals exact V.fin2 ⟨rfl, rfl⟩
    · refine V.Fn.mk_ V.Tok V.mixed Tryz.func81 rfl Tryz.ntmps81 (by kernel_rfl) rfl rfl ?_
      repeat' ((conv => whnf); first | refine V.NCond.mk ?_ | refine V.NPick.l ?_ | refine V.NIf.not_ ?_ | refine V.NIf.dec_ ?_ | refine V.a4 ?_ | refine V.a5 ?_ | refine V.NIf.mk (fun _ => ?_) (fun _ => ?_) | refine V.a7 ?_ | refine V.a8 ?_ | refine V.a9 ?_ | refine V.NBoth.mk ?_ ?_ | refine V.b1 ?_ | refine V.b2 ?_ | refine V.NTF.dec ?_ | refine V.b3 ?_ | refine V.b4 ?_ | (refine V.NDraw.any (by kernel_rfl) ?_) | fail)
      all_goals (conv => whnf)
      all_goals exact V.fin2 ⟨rfl, rfl⟩
theorem v_cpMoved (a b c d : Int) (hd : 0 ≤ d ∧ d ≤ 1152921504606846976) : V.FnR Tryz.prog 38 [] [.one (.val (.int .i64 a)), .one (.val (.int .i64 b)), .one (.val (.int .i64 c)), .one (.val (.int .i64 d))] (.one (.ref 0)) [.row 52 3 (Cp.mvd a b c d).length (ga encP (Cp.mvd a b c d))] := by
  refine V.FnR.mk_ V.Tok V.mixed Tryz.func38 rfl Tryz.ntmps38 (by kernel_rfl) rfl rfl rfl rfl ?_
  repeat' ((conv => whnf); first | refine V.NCond.mk ?_ | refine V.NPick.l ?_ | refine V.NIf.not_ ?_ | refine V.NIf.dec_ ?_ | refine V.a4 ?_ | refine V.a5 ?_ | refine V.NIf.mk (fun _ => ?_) (fun _ => ?_) | refine V.a7 ?_ | refine V.a8 ?_ | refine V.a9 ?_ | refine V.NBoth.mk ?_ ?_ | refine V.b1 ?_ | refine V.b2 ?_ | refine V.NTF.dec ?_ | refine V.b3 ?_ | refine V.b4 ?_ | (refine V.NDraw.any (by kernel_rfl) ?_) | fail)
  refine NRet.mk_ [some 1] rfl ?_ ?_
  · exact rfl
  · exact ⟨⟨rfl, rfl, rfl, Nat.succ_pos _, by repeat' (first | exact trivial | refine ⟨?_, ?_⟩ | rfl | exact congrArg (Value.int .i64) (show 0 - d = -d by omega))⟩, trivial⟩
theorem v_cpPay (f : Fl) (p x : Int) : V.FnR Tryz.prog 55 [] [.agg [.val (.int .i64 f.id), .val (.int .i64 f.fr), .val (.int .i64 f.to), .val (.int .i64 f.cl), .val (.int .i64 f.pa), .val (.int .i64 f.day), .val (.int .i64 f.un), .val (.int .i64 f.de), .val (.int .i64 f.bo), .val (.int .i64 f.pd)], .one (.val (.int .i64 p)), .one (.val (.int .i64 x))] (.tup [.agg [.val (.int .i64 (Cp.pF f p x).id), .val (.int .i64 (Cp.pF f p x).fr), .val (.int .i64 (Cp.pF f p x).to), .val (.int .i64 (Cp.pF f p x).cl), .val (.int .i64 (Cp.pF f p x).pa), .val (.int .i64 (Cp.pF f p x).day), .val (.int .i64 (Cp.pF f p x).un), .val (.int .i64 (Cp.pF f p x).de), .val (.int .i64 (Cp.pF f p x).bo), .val (.int .i64 (Cp.pF f p x).pd)], .one (.ref 0), .one (.val (.int .i64 (Cp.pE f p x)))]) [.row 52 3 (Cp.pL f p x).length (ga encP (Cp.pL f p x))] := by
  have c1 := v_pay f
  by_cases h : F.less f 1 = 0
  · obtain ⟨e1, e2⟩ := F.pay_yes h
    rw [e1, e2, h] at c1
    have c2 := v_worth (F.left f) p x
    by_cases w : Cp.wE (F.left f) p x = 0
    · obtain ⟨p1, p2, p3⟩ := Cp.p_3 h w
      have bd := @Cp.w_bd (F.left f) p x
      rw [p1, p2]
      rw [w] at c2
      rw [← p3] at c2 bd
      by_cases z : Cp.pN f p x = 0
      · rw [Cp.pL_0 z]
        rw [z] at c2
        refine V.FnR.mk_ V.Tok V.mixed Tryz.func55 rfl Tryz.ntmps55 (by kernel_rfl) rfl rfl rfl rfl ?_
        repeat' ((conv => whnf); first | (refine V.NIf.yes ?_ ?_; · (decide; done)) | (refine V.NIf.no ?_ ?_; · (decide; done)) | refine V.NCond.mk ?_ | refine V.NPick.l ?_ | refine V.NIf.not_ ?_ | refine V.NIf.dec_ ?_ | refine V.a4 ?_ | refine V.a5 ?_ | refine V.NIf.mk (fun _ => ?_) (fun _ => ?_) | refine V.a7 ?_ | refine V.a8 ?_ | refine V.a9 ?_ | refine V.NBoth.mk ?_ ?_ | refine V.b1 ?_ | refine V.b2 ?_ | refine V.NTF.dec ?_ | refine V.b3 ?_ | refine V.b4 ?_ | (first | refine V.Fn.k0 (c1) rfl ?_ | refine V.Fn.q0 (c1) rfl ?_ | refine V.Fn.a0 (c1) rfl ?_) | (first | refine V.Fn.k0 (c2) rfl ?_ | refine V.Fn.q0 (c2) rfl ?_ | refine V.Fn.a0 (c2) rfl ?_) | (refine V.NDraw.any (by kernel_rfl) ?_) | fail)
        all_goals (conv => whnf)
        all_goals (first | exact V.er 0 | exact V.er 1 | exact V.er 2 | exact V.er 3 | exact V.er 4 | exact V.er 5 | exact V.er 6 | exact V.er 7 | exact V.er 8 | exact V.er 9 | exact V.er 10 | exact V.er 11 | exact V.er 12 | exact V.er 13 | exact V.er 14 | exact V.er 15 | exact V.er 16 | exact V.er 17)
      · rw [Cp.pL_1 z]
        have c3 := v_cpMoved f.fr f.to 0 (Cp.pN f p x) (by omega)
        generalize Cp.mvd f.fr f.to 0 (Cp.pN f p x) = L at *
        generalize Cp.pN f p x = n at *
        refine V.FnR.mk_ V.Tok V.mixed Tryz.func55 rfl Tryz.ntmps55 (by kernel_rfl) rfl rfl rfl rfl ?_
        repeat' ((conv => whnf); first | (refine V.NIf.yes ?_ ?_; · (decide; done)) | (refine V.NIf.no ?_ ?_; · (decide; done)) | refine V.NCond.mk ?_ | refine V.NPick.l ?_ | refine V.NIf.not_ ?_ | refine V.NIf.dec_ ?_ | refine V.a4 ?_ | refine V.a5 ?_ | refine V.NIf.mk (fun _ => ?_) (fun _ => ?_) | refine V.a7 ?_ | refine V.a8 ?_ | refine V.a9 ?_ | refine V.NBoth.mk ?_ ?_ | refine V.b1 ?_ | refine V.b2 ?_ | refine V.NTF.dec ?_ | refine V.b3 ?_ | refine V.b4 ?_ | (first | refine V.Fn.k0 (c1) rfl ?_ | refine V.Fn.q0 (c1) rfl ?_ | refine V.Fn.a0 (c1) rfl ?_) | (first | refine V.Fn.k0 (c2) rfl ?_ | refine V.Fn.q0 (c2) rfl ?_ | refine V.Fn.a0 (c2) rfl ?_) | (first | refine V.FnR.k0 (c3) rfl ?_ | refine V.FnR.a0 (c3) rfl ?_) | (refine V.NDraw.any (by kernel_rfl) ?_) | fail)
        all_goals (conv => whnf)
        all_goals (first | (refine NRet.mk_ [some 0] rfl ?_ ?_; (· ((repeat' (first | exact rfl | exact trivial | refine ⟨?_, ?_⟩)); done)); (· (exact ⟨⟨rfl, rfl, rfl, fun _ _ => rfl⟩, trivial⟩; done))) | (refine NRet.mk_ [some 1] rfl ?_ ?_; (· ((repeat' (first | exact rfl | exact trivial | refine ⟨?_, ?_⟩)); done)); (· (exact ⟨⟨rfl, rfl, rfl, fun _ _ => rfl⟩, trivial⟩; done))) | (refine NRet.mk_ [some 2] rfl ?_ ?_; (· ((repeat' (first | exact rfl | exact trivial | refine ⟨?_, ?_⟩)); done)); (· (exact ⟨⟨rfl, rfl, rfl, fun _ _ => rfl⟩, trivial⟩; done))) | (refine NRet.mk_ [some 3] rfl ?_ ?_; (· ((repeat' (first | exact rfl | exact trivial | refine ⟨?_, ?_⟩)); done)); (· (exact ⟨⟨rfl, rfl, rfl, fun _ _ => rfl⟩, trivial⟩; done))) | (refine NRet.mk_ [some 4] rfl ?_ ?_; (· ((repeat' (first | exact rfl | exact trivial | refine ⟨?_, ?_⟩)); done)); (· (exact ⟨⟨rfl, rfl, rfl, fun _ _ => rfl⟩, trivial⟩; done))) | (refine NRet.mk_ [some 5] rfl ?_ ?_; (· ((repeat' (first | exact rfl | exact trivial | refine ⟨?_, ?_⟩)); done)); (· (exact ⟨⟨rfl, rfl, rfl, fun _ _ => rfl⟩, trivial⟩; done))) | (refine NRet.mk_ [some 6] rfl ?_ ?_; (· ((repeat' (first | exact rfl | exact trivial | refine ⟨?_, ?_⟩)); done)); (· (exact ⟨⟨rfl, rfl, rfl, fun _ _ => rfl⟩, trivial⟩; done))) | (refine NRet.mk_ [some 7] rfl ?_ ?_; (· ((repeat' (first | exact rfl | exact trivial | refine ⟨?_, ?_⟩)); done)); (· (exact ⟨⟨rfl, rfl, rfl, fun _ _ => rfl⟩, trivial⟩; done))) | (refine NRet.mk_ [some 8] rfl ?_ ?_; (· ((repeat' (first | exact rfl | exact trivial | refine ⟨?_, ?_⟩)); done)); (· (exact ⟨⟨rfl, rfl, rfl, fun _ _ => rfl⟩, trivial⟩; done))) | (refine NRet.mk_ [some 9] rfl ?_ ?_; (· ((repeat' (first | exact rfl | exact trivial | refine ⟨?_, ?_⟩)); done)); (· (exact ⟨⟨rfl, rfl, rfl, fun _ _ => rfl⟩, trivial⟩; done))) | (refine NRet.mk_ [some 10] rfl ?_ ?_; (· ((repeat' (first | exact rfl | exact trivial | refine ⟨?_, ?_⟩)); done)); (· (exact ⟨⟨rfl, rfl, rfl, fun _ _ => rfl⟩, trivial⟩; done))) | (refine NRet.mk_ [some 11] rfl ?_ ?_; (· ((repeat' (first | exact rfl | exact trivial | refine ⟨?_, ?_⟩)); done)); (· (exact ⟨⟨rfl, rfl, rfl, fun _ _ => rfl⟩, trivial⟩; done))) | (refine NRet.mk_ [some 12] rfl ?_ ?_; (· ((repeat' (first | exact rfl | exact trivial | refine ⟨?_, ?_⟩)); done)); (· (exact ⟨⟨rfl, rfl, rfl, fun _ _ => rfl⟩, trivial⟩; done))) | (refine NRet.mk_ [some 13] rfl ?_ ?_; (· ((repeat' (first | exact rfl | exact trivial | refine ⟨?_, ?_⟩)); done)); (· (exact ⟨⟨rfl, rfl, rfl, fun _ _ => rfl⟩, trivial⟩; done))) | (refine NRet.mk_ [some 14] rfl ?_ ?_; (· ((repeat' (first | exact rfl | exact trivial | refine ⟨?_, ?_⟩)); done)); (· (exact ⟨⟨rfl, rfl, rfl, fun _ _ => rfl⟩, trivial⟩; done))) | (refine NRet.mk_ [some 15] rfl ?_ ?_; (· ((repeat' (first | exact rfl | exact trivial | refine ⟨?_, ?_⟩)); done)); (· (exact ⟨⟨rfl, rfl, rfl, fun _ _ => rfl⟩, trivial⟩; done))) | (refine NRet.mk_ [some 16] rfl ?_ ?_; (· ((repeat' (first | exact rfl | exact trivial | refine ⟨?_, ?_⟩)); done)); (· (exact ⟨⟨rfl, rfl, rfl, fun _ _ => rfl⟩, trivial⟩; done))) | (refine NRet.mk_ [some 17] rfl ?_ ?_; (· ((repeat' (first | exact rfl | exact trivial | refine ⟨?_, ?_⟩)); done)); (· (exact ⟨⟨rfl, rfl, rfl, fun _ _ => rfl⟩, trivial⟩; done))))
    · obtain ⟨p1, p2, p3⟩ := Cp.p_2 h w
      rw [p1, p2, p3]
      generalize Cp.wE (F.left f) p x = e at *
      refine V.FnR.mk_ V.Tok V.mixed Tryz.func55 rfl Tryz.ntmps55 (by kernel_rfl) rfl rfl rfl rfl ?_
      repeat' ((conv => whnf); first | (refine V.NIf.yes ?_ ?_; · (decide; done)) | (refine V.NIf.no ?_ ?_; · (decide; done)) | refine V.NCond.mk ?_ | refine V.NPick.l ?_ | refine V.NIf.not_ ?_ | refine V.NIf.dec_ ?_ | refine V.a4 ?_ | refine V.a5 ?_ | refine V.NIf.mk (fun _ => ?_) (fun _ => ?_) | refine V.a7 ?_ | refine V.a8 ?_ | refine V.a9 ?_ | refine V.NBoth.mk ?_ ?_ | refine V.b1 ?_ | refine V.b2 ?_ | refine V.NTF.dec ?_ | refine V.b3 ?_ | refine V.b4 ?_ | (first | refine V.Fn.k0 (c1) rfl ?_ | refine V.Fn.q0 (c1) rfl ?_ | refine V.Fn.a0 (c1) rfl ?_) | (first | refine V.Fn.k0 (c2) rfl ?_ | refine V.Fn.q0 (c2) rfl ?_ | refine V.Fn.a0 (c2) rfl ?_) | (refine V.NDraw.any (by kernel_rfl) ?_) | fail)
      all_goals (conv => whnf)
      all_goals (first | exact V.er 0 | exact V.er 1 | exact V.er 2 | exact V.er 3 | exact V.er 4 | exact V.er 5 | exact V.er 6 | exact V.er 7 | exact V.er 8 | exact V.er 9 | exact V.er 10 | exact V.er 11 | exact V.er 12 | exact V.er 13 | exact V.er 14 | exact V.er 15 | exact V.er 16 | exact V.er 17)
  · obtain ⟨p1, p2, p3⟩ := Cp.p_1 (p := p) (x := x) h
    rw [p1, p2, p3]
    generalize F.less f 1 = e at *
    refine V.FnR.mk_ V.Tok V.mixed Tryz.func55 rfl Tryz.ntmps55 (by kernel_rfl) rfl rfl rfl rfl ?_
    repeat' ((conv => whnf); first | (refine V.NIf.yes ?_ ?_; · (decide; done)) | (refine V.NIf.no ?_ ?_; · (decide; done)) | refine V.NCond.mk ?_ | refine V.NPick.l ?_ | refine V.NIf.not_ ?_ | refine V.NIf.dec_ ?_ | refine V.a4 ?_ | refine V.a5 ?_ | refine V.NIf.mk (fun _ => ?_) (fun _ => ?_) | refine V.a7 ?_ | refine V.a8 ?_ | refine V.a9 ?_ | refine V.NBoth.mk ?_ ?_ | refine V.b1 ?_ | refine V.b2 ?_ | refine V.NTF.dec ?_ | refine V.b3 ?_ | refine V.b4 ?_ | (first | refine V.Fn.k0 (c1) rfl ?_ | refine V.Fn.q0 (c1) rfl ?_ | refine V.Fn.a0 (c1) rfl ?_) | (refine V.NDraw.any (by kernel_rfl) ?_) | fail)
    all_goals (conv => whnf)
    all_goals (first | exact V.er 0 | exact V.er 1 | exact V.er 2 | exact V.er 3 | exact V.er 4 | exact V.er 5 | exact V.er 6 | exact V.er 7 | exact V.er 8 | exact V.er 9 | exact V.er 10 | exact V.er 11 | exact V.er 12 | exact V.er 13 | exact V.er 14 | exact V.er 15 | exact V.er 16 | exact V.er 17)
end Go.Proofs.YtpanlcnoopmchaaGreatDoor
