/- Shared texts, one behind the other: StP5, StP6, VFam2, CalPl, BookPl, BookPl2, VBook, VBook2, VBook3, VBook4, VGrow, VNil, BookPl3, VBook7, VBook8, VSumOf, VBook5, VBook6, VCal, VBook9 -/
import Derived.Shelf.Spec.SlicesGrow
import Derived.Test.YteblbhbfdfifpaaZ1
import Derived.Test.YteblbhbfdfifpaaZ2
import Derived.Test.YteblbhbfdfifpaaZ3
import Derived.Test.YteblbhbfdfifpaaZ4

/- Sorting that keeps the order of equals, of postings: what two sorted runs become, the general case. -/
namespace Go.Proofs.Yteblbhbfdfifpaa
open Go Go.Sort Go.RowKit V
set_option maxRecDepth 100000
set_option linter.unusedVariables false
set_option linter.unusedSimpArgs false
set_option maxHeartbeats 4000000
theorem v_symC0P (nx : Nat) (O : Obs) (hT : Tail (nx + 1) O) (g : FuncId) (cf : PtT → PtT → Int) (hc : CmpP g cf) (lt : PtT → PtT → Bool) (S : SWO lt) (d : Array PtT) (a m b : Nat) (h0 : a + 1 < m) (h1 : m + 1 < b) (h2 : b ≤ d.size) (h3 : d.size ≤ 2305843009213693951) (H1 : SortedIn lt a m d) (H2 : SortedIn lt m b d)
    (HT : ∀ i j, a ≤ i → i < m → m ≤ j → j < b → lessP cf d[j]! d[i]! = lt d[j]! d[i]!) (hm : m ≤ (a + b) / 2)
    (ih : ∀ (e : Array PtT) (x y z : Nat), z - x < b - a → a ≤ x → x < y → y < z → z ≤ b → e.size = d.size → SortedIn lt x y e → SortedIn lt y z e → (∀ i j, x ≤ i → i < y → y ≤ j → j < z → lessP cf e[j]! e[i]! = lt e[j]! e[i]!) →
      Fam Try.prog 92 [.one (.ref 0), .one (.val (.int .i64 ((x : Int)))), .one (.val (.int .i64 ((y : Int)))), .one (.val (.int .i64 ((z : Int)))), .one (.clo g [])] 56 3 d.size (ga encTP e.toList) nx O (fun r => ∃ d', PermIn x z e d' ∧ SortedIn lt x z d' ∧ r = ga encTP d'.toList)) :
    Fam Try.prog 92 [.one (.ref 0), .one (.val (.int .i64 ((a : Int)))), .one (.val (.int .i64 ((m : Int)))), .one (.val (.int .i64 ((b : Int)))), .one (.clo g [])] 56 3 d.size (ga encTP d.toList) nx O (fun r => ∃ d', PermIn a b d d' ∧ SortedIn lt a b d' ∧ r = ga encTP d'.toList) := by
  refine Fam.mk hT ?_
  refine V.NCall.inl (f := 92) V.Tok V.mixed Try.func92 rfl Try.ntmps92 (by kernel_rfl) rfl ?_
  obtain ⟨mid, em⟩ : ∃ mid, mid = (a + b) / 2 := ⟨_, rfl⟩
  have bm : a < mid ∧ mid < b := by omega
  have bm2 : 2 * mid ≤ a + b ∧ a + b ≤ 2 * mid + 1 := by omega
  repeat' ((conv => whnf); first | refine V.NCond.mk ?_ | refine V.NIf.not_ ?_ | refine V.NIf.dec_ ?_ | refine V.NIf.no (by omega) ?_ | refine V.NIf.yes (by omega) ?_ | refine V.NIf.mk (fun _ => ?_) (fun _ => ?_) | refine V.NWrap.ok (by omega) (by omega) ?_ | refine V.NWrap.u64 (by omega) (by omega) ?_ | refine V.NLt.mk (by omega) ?_ | refine V.NBoth.mk ?_ ?_ | refine V.NTF.yes (by omega) ?_ | refine V.NTF.no (by omega) ?_ | refine V.NTF.dec ?_ | refine V.NDraw.q (by exact rfl) (by kernel_rfl) ?_ | refine V.NApp.one (by first | omega | (simp; omega)) (by first | omega | (simp; omega)) ?_ | (refine NShr.mid ?_; rw [← em]) | (refine V.NDraw.any (by kernel_rfl) ?_) | fail)
  all_goals (conv => whnf)
  refine NLoop.fam hT (fun (s : Nat × Nat) => [(20, .one (.val (.int .i64 s.1))), (21, .one (.val (.int .i64 s.2)))]) [(0, .one (.ref 0)), (1, .one (.val (.int .i64 a))), (2, .one (.val (.int .i64 m))), (3, .one (.val (.int .i64 b))), (4, .one (.clo g [])), (18, .one (.val (.int .i64 mid))), (19, .one (.val (.int .i64 ((mid : Int) + m)))), (22, .one (.val (.int .i64 ((mid : Int) + m - 1))))] 56 3 d.size (fun s => ga encTP d.toList) (fun s => s.2 - s.1) (fun s => a ≤ s.1 ∧ s.1 ≤ s.2 ∧ s.2 ≤ m ∧ (s.1 = a ∨ lt d[mid + m - s.1]! d[s.1 - 1]! = false) ∧ (s.2 = m ∨ lt d[mid + m - 1 - s.2]! d[s.2]! = true)) (a, m) ⟨Nat.le_refl _, by dsimp only; omega, Nat.le_refl _, .inl rfl, .inl rfl⟩ [(0, _)] rfl rfl rfl (fun k hk => rfl) (by repeat' (first | exact rfl | exact Iff.rfl | exact trivial | exact (fun _ _ => rfl) | exact (fun _ h => absurd h (Nat.not_lt_zero _)) | refine ⟨?_, ?_⟩ | exact Iff.rfl | exact congrArg (fun z => V.SV.one (V.At.val (Value.int .i64 z))) (by omega))) (fun _ => rfl) rfl ?_
  rintro ⟨i, j⟩ ⟨hi, hij, hj, C1, C2⟩
  dsimp only at hi hij hj C1 C2 ⊢
  by_cases hlt : i < j
  · obtain ⟨h, eh⟩ : ∃ h, h = (i + j) / 2 := ⟨_, rfl⟩
    have h5 : i ≤ h ∧ h < j := by omega
    obtain ⟨k, ek⟩ : ∃ k, k = mid + m - 1 - h := ⟨_, rfl⟩
    have h6 : m ≤ k ∧ k < b := by omega
    have h7 : a ≤ h ∧ h < m := by omega
    have e1 := arr_getP (d := d) (k := k)
    have e2 := arr_getP (d := d) (k := h)
    have hcc := hc (d.toList.getD k default) (d.toList.getD h default)
    have ht := HT h k h7.1 h7.2 h6.1 h6.2
    rw [← e1, ← e2] at ht
    unfold lessP at ht
    generalize cf (d.toList.getD k default) (d.toList.getD h default) = c at *
    rw [e1, e2] at ht
    repeat' ((conv => whnf); first | refine V.NCond.mk ?_ | refine V.NIf.not_ ?_ | refine V.NIf.dec_ ?_ | refine V.NIf.no (by omega) ?_ | refine V.NIf.yes (by omega) ?_ | refine V.NIf.mk (fun _ => ?_) (fun _ => ?_) | refine V.NWrap.ok (by omega) (by omega) ?_ | refine V.NWrap.u64 (by omega) (by omega) ?_ | refine V.NLt.mk (by omega) ?_ | refine V.NBoth.mk ?_ ?_ | refine V.NTF.yes (by omega) ?_ | refine V.NTF.no (by omega) ?_ | refine V.NTF.dec ?_ | refine V.NDraw.q (by exact rfl) (by kernel_rfl) ?_ | refine V.NApp.one (by first | omega | (simp; omega)) (by first | omega | (simp; omega)) ?_ | (refine NShr.mid ?_; rw [← eh]) | (refine NIdx.mk ⟨k, by omega, by omega, ?_⟩) | (refine NIdx.mk ⟨h, by omega, by omega, ?_⟩) | (first | refine V.Fn.k0 (hcc) rfl ?_ | refine V.Fn.q0 (hcc) rfl ?_ | refine V.Fn.a0 (hcc) rfl ?_) | (refine V.NDraw.any (by kernel_rfl) ?_) | fail)
    all_goals (conv => whnf)
    · have hl : c < 0 := by assumption
      exact FBack.at_ hT (i, h) [(0, _)] ⟨hi, by dsimp only; omega, by dsimp only; omega, C1, .inr (by dsimp only; rw [← ek, ← ht]; exact decide_eq_true hl)⟩ (by dsimp only; omega) (by repeat' (first | exact rfl | exact Iff.rfl | exact trivial | exact (fun _ _ => rfl) | exact (fun _ h => absurd h (Nat.not_lt_zero _)) | refine ⟨?_, ?_⟩ | exact Iff.rfl | exact congrArg (fun z => V.SV.one (V.At.val (Value.int .i64 z))) (by omega))) rfl rfl rfl (fun k hk => rfl)
    · have hl : ¬ c < 0 := by assumption
      exact FBack.at_ hT (h + 1, j) [(0, _)] ⟨by dsimp only; omega, by dsimp only; omega, hj, .inr (by dsimp only; rw [Nat.add_sub_cancel, show mid + m - (h + 1) = k by omega, ← ht]; exact decide_eq_false hl), C2⟩ (by dsimp only; omega) (by repeat' (first | exact rfl | exact Iff.rfl | exact trivial | exact (fun _ _ => rfl) | exact (fun _ h => absurd h (Nat.not_lt_zero _)) | refine ⟨?_, ?_⟩ | exact Iff.rfl | exact congrArg (fun z => V.SV.one (V.At.val (Value.int .i64 z))) (by omega))) rfl rfl rfl (fun k hk => rfl)
  · obtain rfl : i = j := by omega
    clear hlt hij
    obtain ⟨e, ee⟩ : ∃ e, e = mid + m - i := ⟨_, rfl⟩
    have hai : a ≤ i := by omega
    have sm : i ≤ m := by omega
    have me : m ≤ e := by omega
    have eb : e ≤ b := by omega
    have ec : i + (e - m) = mid := by omega
    have ei : (mid : Int) + m - i = (e : Int) := by omega
    have D1 : a < i → e < b → lt d[e]! d[i - 1]! = false := fun q1 q2 => by
      rcases C1 with z | z
      · omega
      · rwa [← ee] at z
    have D2 : m < e → i < m → lt d[e - 1]! d[i]! = true := fun q1 q2 => by
      rcases C2 with z | z
      · omega
      · rwa [show mid + m - 1 - i = e - 1 by omega] at z
    clear C1 C2 hi hj
    have fin : ∀ d1 d2 d3 : Array PtT, St.Rot i m e d d1 → PermIn a mid d1 d2 → SortedIn lt a mid d2 → PermIn mid b d2 d3 → SortedIn lt mid b d3 → PermIn a b d d3 ∧ SortedIn lt a b d3 := fun d1 d2 d3 r P2 S2 P3 S3 => by
      have X := St.cross S r hai sm me eb H1 H2 D1 D2
      rw [ec] at X
      have hv := St.halves (lt := lt) (by omega) (by omega) (by rw [r.1]; exact h2) X P2 S2 P3 S3
      exact ⟨permIn_trans _ _ _ _ _ (permIn_mono _ _ _ _ a b hai eb h2 (r.perm sm me (by omega))) hv.1, hv.2⟩
    have parts : ∀ d1 : Array PtT, St.Rot i m e d d1 → (SortedIn lt a i d1 ∧ SortedIn lt i mid d1 ∧ SortedIn lt mid e d1 ∧ SortedIn lt e b d1) ∧ (∀ p q, a ≤ p → p < i → i ≤ q → q < mid → lessP cf d1[q]! d1[p]! = lt d1[q]! d1[p]!) ∧ (∀ p q, mid ≤ p → p < e → e ≤ q → q < b → lessP cf d1[q]! d1[p]! = lt d1[q]! d1[p]!) := fun d1 r => by
      have A := St.runs r hai sm me eb H1 H2
      have B := St.tests (p := fun x y => lessP cf x y = lt x y) r hai sm me eb HT
      rw [ec] at A B
      exact ⟨A, B⟩
    clear D1 D2
    -- the rotation, if there is one
    by_cases q1 : i < m ∧ m < e
    · have c1 := v_rotP nx O hT g d i m e sm me (by omega) q1.1 q1.2 (by omega)
      rw [← ei] at c1
      by_cases q2 : a < i ∧ i < mid
      · by_cases q3 : mid < e ∧ e < b
        · first
            | (exfalso; omega)
            | (repeat' ((conv => whnf); first | (refine V.NIf.yes ?_ ?_; · (decide; done)) | (refine V.NIf.no ?_ ?_; · (decide; done)) | refine V.NCond.mk ?_ | refine V.NIf.not_ ?_ | refine V.NIf.dec_ ?_ | refine V.NIf.no (by omega) ?_ | refine V.NIf.yes (by omega) ?_ | refine V.NIf.mk (fun _ => ?_) (fun _ => ?_) | refine V.NWrap.ok (by omega) (by omega) ?_ | refine V.NWrap.u64 (by omega) (by omega) ?_ | refine V.NLt.mk (by omega) ?_ | refine V.NBoth.mk ?_ ?_ | refine V.NTF.yes (by omega) ?_ | refine V.NTF.no (by omega) ?_ | refine V.NTF.dec ?_ | refine V.NDraw.q (by exact rfl) (by kernel_rfl) ?_ | refine V.NApp.one (by first | omega | (simp; omega)) (by first | omega | (simp; omega)) ?_ | (refine Fam.use c1 hT [(0, _)] rfl rfl rfl (fun k hk => rfl) ?_; rintro g1 ⟨d1, r0, rfl⟩; obtain ⟨⟨A1, A2, A3, A4⟩, B1, B2⟩ := parts d1 r0; have z1 : d1.size = d.size := r0.1) | (have c2 := ih d1 a i mid (by omega) (Nat.le_refl _) q2.1 q2.2 (by omega) z1 A1 A2 B1; refine Fam.use c2 hT [(0, _)] rfl rfl rfl (fun k hk => rfl) ?_; rintro g2 ⟨d2, P2, S2, rfl⟩; have A3' := St.sorted_perm A3 P2 (.inr (Nat.le_refl _)); have A4' := St.sorted_perm A4 P2 (.inr (by omega)); have z2 : d2.size = d.size := P2.1.trans z1; have B2' : ∀ p q, mid ≤ p → p < e → e ≤ q → q < b → lessP cf d2[q]! d2[p]! = lt d2[q]! d2[p]! := fun p q h1 h2 h3 h4 => (by rw [P2.2.1 p (by omega), P2.2.1 q (by omega)]; exact B2 p q h1 h2 h3 h4)) | (have c3 := ih d2 mid e b (by omega) (by omega) q3.1 q3.2 (Nat.le_refl _) z2 A3' A4' B2'; rw [← ei] at c3; refine Fam.use c3 hT [(0, _)] rfl rfl rfl (fun k hk => rfl) ?_; rintro g3 ⟨d3, P3, S3, rfl⟩) | (refine V.NDraw.any (by kernel_rfl) ?_) | fail)
               all_goals (conv => whnf)
               have F := fin d1 d2 d3 r0 P2 S2 P3 S3
               exact ⟨rfl, rfl, [(0, _)], _, rfl, rfl, rfl, d3, F.1, F.2, rfl⟩)
        · first
            | (exfalso; omega)
            | (repeat' ((conv => whnf); first | (refine V.NIf.yes ?_ ?_; · (decide; done)) | (refine V.NIf.no ?_ ?_; · (decide; done)) | refine V.NCond.mk ?_ | refine V.NIf.not_ ?_ | refine V.NIf.dec_ ?_ | refine V.NIf.no (by omega) ?_ | refine V.NIf.yes (by omega) ?_ | refine V.NIf.mk (fun _ => ?_) (fun _ => ?_) | refine V.NWrap.ok (by omega) (by omega) ?_ | refine V.NWrap.u64 (by omega) (by omega) ?_ | refine V.NLt.mk (by omega) ?_ | refine V.NBoth.mk ?_ ?_ | refine V.NTF.yes (by omega) ?_ | refine V.NTF.no (by omega) ?_ | refine V.NTF.dec ?_ | refine V.NDraw.q (by exact rfl) (by kernel_rfl) ?_ | refine V.NApp.one (by first | omega | (simp; omega)) (by first | omega | (simp; omega)) ?_ | (refine Fam.use c1 hT [(0, _)] rfl rfl rfl (fun k hk => rfl) ?_; rintro g1 ⟨d1, r0, rfl⟩; obtain ⟨⟨A1, A2, A3, A4⟩, B1, B2⟩ := parts d1 r0; have z1 : d1.size = d.size := r0.1) | (have c2 := ih d1 a i mid (by omega) (Nat.le_refl _) q2.1 q2.2 (by omega) z1 A1 A2 B1; refine Fam.use c2 hT [(0, _)] rfl rfl rfl (fun k hk => rfl) ?_; rintro g2 ⟨d2, P2, S2, rfl⟩; have A3' := St.sorted_perm A3 P2 (.inr (Nat.le_refl _)); have A4' := St.sorted_perm A4 P2 (.inr (by omega)); have z2 : d2.size = d.size := P2.1.trans z1; have B2' : ∀ p q, mid ≤ p → p < e → e ≤ q → q < b → lessP cf d2[q]! d2[p]! = lt d2[q]! d2[p]! := fun p q h1 h2 h3 h4 => (by rw [P2.2.1 p (by omega), P2.2.1 q (by omega)]; exact B2 p q h1 h2 h3 h4)) | (refine V.NDraw.any (by kernel_rfl) ?_) | fail)
               all_goals (conv => whnf)
               have F := fin d1 d2 d2 r0 P2 S2 (permIn_refl _ _ _) (St.sorted_one A3' A4' (by omega) eb q3)
               exact ⟨rfl, rfl, [(0, _)], _, rfl, rfl, rfl, d2, F.1, F.2, rfl⟩)
      · by_cases q3 : mid < e ∧ e < b
        · first
            | (exfalso; omega)
            | (repeat' ((conv => whnf); first | (refine V.NIf.yes ?_ ?_; · (decide; done)) | (refine V.NIf.no ?_ ?_; · (decide; done)) | refine V.NCond.mk ?_ | refine V.NIf.not_ ?_ | refine V.NIf.dec_ ?_ | refine V.NIf.no (by omega) ?_ | refine V.NIf.yes (by omega) ?_ | refine V.NIf.mk (fun _ => ?_) (fun _ => ?_) | refine V.NWrap.ok (by omega) (by omega) ?_ | refine V.NWrap.u64 (by omega) (by omega) ?_ | refine V.NLt.mk (by omega) ?_ | refine V.NBoth.mk ?_ ?_ | refine V.NTF.yes (by omega) ?_ | refine V.NTF.no (by omega) ?_ | refine V.NTF.dec ?_ | refine V.NDraw.q (by exact rfl) (by kernel_rfl) ?_ | refine V.NApp.one (by first | omega | (simp; omega)) (by first | omega | (simp; omega)) ?_ | (refine Fam.use c1 hT [(0, _)] rfl rfl rfl (fun k hk => rfl) ?_; rintro g1 ⟨d1, r0, rfl⟩; obtain ⟨⟨A1, A2, A3, A4⟩, B1, B2⟩ := parts d1 r0; have z1 : d1.size = d.size := r0.1) | (have c3 := ih d1 mid e b (by omega) (by omega) q3.1 q3.2 (Nat.le_refl _) z1 A3 A4 B2; rw [← ei] at c3; refine Fam.use c3 hT [(0, _)] rfl rfl rfl (fun k hk => rfl) ?_; rintro g3 ⟨d3, P3, S3, rfl⟩) | (refine V.NDraw.any (by kernel_rfl) ?_) | fail)
               all_goals (conv => whnf)
               have F := fin d1 d1 d3 r0 (permIn_refl _ _ _) (St.sorted_one A1 A2 hai (by omega) q2) P3 S3
               exact ⟨rfl, rfl, [(0, _)], _, rfl, rfl, rfl, d3, F.1, F.2, rfl⟩)
        · first
            | (exfalso; omega)
            | (repeat' ((conv => whnf); first | (refine V.NIf.yes ?_ ?_; · (decide; done)) | (refine V.NIf.no ?_ ?_; · (decide; done)) | refine V.NCond.mk ?_ | refine V.NIf.not_ ?_ | refine V.NIf.dec_ ?_ | refine V.NIf.no (by omega) ?_ | refine V.NIf.yes (by omega) ?_ | refine V.NIf.mk (fun _ => ?_) (fun _ => ?_) | refine V.NWrap.ok (by omega) (by omega) ?_ | refine V.NWrap.u64 (by omega) (by omega) ?_ | refine V.NLt.mk (by omega) ?_ | refine V.NBoth.mk ?_ ?_ | refine V.NTF.yes (by omega) ?_ | refine V.NTF.no (by omega) ?_ | refine V.NTF.dec ?_ | refine V.NDraw.q (by exact rfl) (by kernel_rfl) ?_ | refine V.NApp.one (by first | omega | (simp; omega)) (by first | omega | (simp; omega)) ?_ | (refine Fam.use c1 hT [(0, _)] rfl rfl rfl (fun k hk => rfl) ?_; rintro g1 ⟨d1, r0, rfl⟩; obtain ⟨⟨A1, A2, A3, A4⟩, B1, B2⟩ := parts d1 r0; have z1 : d1.size = d.size := r0.1) | (refine V.NDraw.any (by kernel_rfl) ?_) | fail)
               all_goals (conv => whnf)
               have F := fin d1 d1 d1 r0 (permIn_refl _ _ _) (St.sorted_one A1 A2 hai (by omega) q2) (permIn_refl _ _ _) (St.sorted_one A3 A4 (by omega) eb q3)
               exact ⟨rfl, rfl, [(0, _)], _, rfl, rfl, rfl, d1, F.1, F.2, rfl⟩)
    · have r0 : St.Rot i m e d d := by
        by_cases z : i = m
        · subst z; exact St.Rot.refl_l
        · obtain rfl : m = e := by omega
          exact St.Rot.refl_r
      by_cases q2 : a < i ∧ i < mid
      · by_cases q3 : mid < e ∧ e < b
        · first
            | (exfalso; omega)
            | (obtain ⟨⟨A1, A2, A3, A4⟩, B1, B2⟩ := parts d r0
               have z1 : d.size = d.size := rfl
               repeat' ((conv => whnf); first | (refine V.NIf.yes ?_ ?_; · (decide; done)) | (refine V.NIf.no ?_ ?_; · (decide; done)) | refine V.NCond.mk ?_ | refine V.NIf.not_ ?_ | refine V.NIf.dec_ ?_ | refine V.NIf.no (by omega) ?_ | refine V.NIf.yes (by omega) ?_ | refine V.NIf.mk (fun _ => ?_) (fun _ => ?_) | refine V.NWrap.ok (by omega) (by omega) ?_ | refine V.NWrap.u64 (by omega) (by omega) ?_ | refine V.NLt.mk (by omega) ?_ | refine V.NBoth.mk ?_ ?_ | refine V.NTF.yes (by omega) ?_ | refine V.NTF.no (by omega) ?_ | refine V.NTF.dec ?_ | refine V.NDraw.q (by exact rfl) (by kernel_rfl) ?_ | refine V.NApp.one (by first | omega | (simp; omega)) (by first | omega | (simp; omega)) ?_ | (have c2 := ih d a i mid (by omega) (Nat.le_refl _) q2.1 q2.2 (by omega) z1 A1 A2 B1; refine Fam.use c2 hT [(0, _)] rfl rfl rfl (fun k hk => rfl) ?_; rintro g2 ⟨d2, P2, S2, rfl⟩; have A3' := St.sorted_perm A3 P2 (.inr (Nat.le_refl _)); have A4' := St.sorted_perm A4 P2 (.inr (by omega)); have z2 : d2.size = d.size := P2.1.trans z1; have B2' : ∀ p q, mid ≤ p → p < e → e ≤ q → q < b → lessP cf d2[q]! d2[p]! = lt d2[q]! d2[p]! := fun p q h1 h2 h3 h4 => (by rw [P2.2.1 p (by omega), P2.2.1 q (by omega)]; exact B2 p q h1 h2 h3 h4)) | (have c3 := ih d2 mid e b (by omega) (by omega) q3.1 q3.2 (Nat.le_refl _) z2 A3' A4' B2'; rw [← ei] at c3; refine Fam.use c3 hT [(0, _)] rfl rfl rfl (fun k hk => rfl) ?_; rintro g3 ⟨d3, P3, S3, rfl⟩) | (refine V.NDraw.any (by kernel_rfl) ?_) | fail)
               all_goals (conv => whnf)
               have F := fin d d2 d3 r0 P2 S2 P3 S3
               exact ⟨rfl, rfl, [(0, _)], _, rfl, rfl, rfl, d3, F.1, F.2, rfl⟩)
        · first
            | (exfalso; omega)
            | (obtain ⟨⟨A1, A2, A3, A4⟩, B1, B2⟩ := parts d r0
               have z1 : d.size = d.size := rfl
               repeat' ((conv => whnf); first | (refine V.NIf.yes ?_ ?_; · (decide; done)) | (refine V.NIf.no ?_ ?_; · (decide; done)) | refine V.NCond.mk ?_ | refine V.NIf.not_ ?_ | refine V.NIf.dec_ ?_ | refine V.NIf.no (by omega) ?_ | refine V.NIf.yes (by omega) ?_ | refine V.NIf.mk (fun _ => ?_) (fun _ => ?_) | refine V.NWrap.ok (by omega) (by omega) ?_ | refine V.NWrap.u64 (by omega) (by omega) ?_ | refine V.NLt.mk (by omega) ?_ | refine V.NBoth.mk ?_ ?_ | refine V.NTF.yes (by omega) ?_ | refine V.NTF.no (by omega) ?_ | refine V.NTF.dec ?_ | refine V.NDraw.q (by exact rfl) (by kernel_rfl) ?_ | refine V.NApp.one (by first | omega | (simp; omega)) (by first | omega | (simp; omega)) ?_ | (have c2 := ih d a i mid (by omega) (Nat.le_refl _) q2.1 q2.2 (by omega) z1 A1 A2 B1; refine Fam.use c2 hT [(0, _)] rfl rfl rfl (fun k hk => rfl) ?_; rintro g2 ⟨d2, P2, S2, rfl⟩; have A3' := St.sorted_perm A3 P2 (.inr (Nat.le_refl _)); have A4' := St.sorted_perm A4 P2 (.inr (by omega)); have z2 : d2.size = d.size := P2.1.trans z1; have B2' : ∀ p q, mid ≤ p → p < e → e ≤ q → q < b → lessP cf d2[q]! d2[p]! = lt d2[q]! d2[p]! := fun p q h1 h2 h3 h4 => (by rw [P2.2.1 p (by omega), P2.2.1 q (by omega)]; exact B2 p q h1 h2 h3 h4)) | (refine V.NDraw.any (by kernel_rfl) ?_) | fail)
               all_goals (conv => whnf)
               have F := fin d d2 d2 r0 P2 S2 (permIn_refl _ _ _) (St.sorted_one A3' A4' (by omega) eb q3)
               exact ⟨rfl, rfl, [(0, _)], _, rfl, rfl, rfl, d2, F.1, F.2, rfl⟩)
      · by_cases q3 : mid < e ∧ e < b
        · first
            | (exfalso; omega)
            | (obtain ⟨⟨A1, A2, A3, A4⟩, B1, B2⟩ := parts d r0
               have z1 : d.size = d.size := rfl
               repeat' ((conv => whnf); first | (refine V.NIf.yes ?_ ?_; · (decide; done)) | (refine V.NIf.no ?_ ?_; · (decide; done)) | refine V.NCond.mk ?_ | refine V.NIf.not_ ?_ | refine V.NIf.dec_ ?_ | refine V.NIf.no (by omega) ?_ | refine V.NIf.yes (by omega) ?_ | refine V.NIf.mk (fun _ => ?_) (fun _ => ?_) | refine V.NWrap.ok (by omega) (by omega) ?_ | refine V.NWrap.u64 (by omega) (by omega) ?_ | refine V.NLt.mk (by omega) ?_ | refine V.NBoth.mk ?_ ?_ | refine V.NTF.yes (by omega) ?_ | refine V.NTF.no (by omega) ?_ | refine V.NTF.dec ?_ | refine V.NDraw.q (by exact rfl) (by kernel_rfl) ?_ | refine V.NApp.one (by first | omega | (simp; omega)) (by first | omega | (simp; omega)) ?_ | (have c3 := ih d mid e b (by omega) (by omega) q3.1 q3.2 (Nat.le_refl _) z1 A3 A4 B2; rw [← ei] at c3; refine Fam.use c3 hT [(0, _)] rfl rfl rfl (fun k hk => rfl) ?_; rintro g3 ⟨d3, P3, S3, rfl⟩) | (refine V.NDraw.any (by kernel_rfl) ?_) | fail)
               all_goals (conv => whnf)
               have F := fin d d d3 r0 (permIn_refl _ _ _) (St.sorted_one A1 A2 hai (by omega) q2) P3 S3
               exact ⟨rfl, rfl, [(0, _)], _, rfl, rfl, rfl, d3, F.1, F.2, rfl⟩)
        · first
            | (exfalso; omega)
            | (obtain ⟨⟨A1, A2, A3, A4⟩, B1, B2⟩ := parts d r0
               have z1 : d.size = d.size := rfl
               repeat' ((conv => whnf); first | (refine V.NIf.yes ?_ ?_; · (decide; done)) | (refine V.NIf.no ?_ ?_; · (decide; done)) | refine V.NCond.mk ?_ | refine V.NIf.not_ ?_ | refine V.NIf.dec_ ?_ | refine V.NIf.no (by omega) ?_ | refine V.NIf.yes (by omega) ?_ | refine V.NIf.mk (fun _ => ?_) (fun _ => ?_) | refine V.NWrap.ok (by omega) (by omega) ?_ | refine V.NWrap.u64 (by omega) (by omega) ?_ | refine V.NLt.mk (by omega) ?_ | refine V.NBoth.mk ?_ ?_ | refine V.NTF.yes (by omega) ?_ | refine V.NTF.no (by omega) ?_ | refine V.NTF.dec ?_ | refine V.NDraw.q (by exact rfl) (by kernel_rfl) ?_ | refine V.NApp.one (by first | omega | (simp; omega)) (by first | omega | (simp; omega)) ?_ | (refine V.NDraw.any (by kernel_rfl) ?_) | fail)
               all_goals (conv => whnf)
               have F := fin d d d r0 (permIn_refl _ _ _) (St.sorted_one A1 A2 hai (by omega) q2) (permIn_refl _ _ _) (St.sorted_one A3 A4 (by omega) eb q3)
               exact ⟨rfl, rfl, [(0, _)], _, rfl, rfl, rfl, d, F.1, F.2, rfl⟩)
end Go.Proofs.Yteblbhbfdfifpaa

/- Sorting that keeps the order of equals, of postings: the whole. -/
namespace Go.Proofs.Yteblbhbfdfifpaa
open Go Go.Sort Go.RowKit V
set_option maxRecDepth 100000
set_option linter.unusedVariables false
set_option linter.unusedSimpArgs false
set_option maxHeartbeats 4000000
theorem v_symP (nx : Nat) (O : Obs) (hT : Tail (nx + 1) O) (g : FuncId) (cf : PtT → PtT → Int) (hc : CmpP g cf) (lt : PtT → PtT → Bool) (S : SWO lt) (sz : Nat) (h3 : sz ≤ 2305843009213693951) : ∀ (N : Nat) (d : Array PtT) (a m b : Nat), b - a ≤ N → a < m → m < b → b ≤ d.size → d.size = sz → SortedIn lt a m d → SortedIn lt m b d →
    (∀ i j, a ≤ i → i < m → m ≤ j → j < b → lessP cf d[j]! d[i]! = lt d[j]! d[i]!) →
    Fam Try.prog 92 [.one (.ref 0), .one (.val (.int .i64 ((a : Int)))), .one (.val (.int .i64 ((m : Int)))), .one (.val (.int .i64 ((b : Int)))), .one (.clo g [])] 56 3 sz (ga encTP d.toList) nx O (fun r => ∃ d', PermIn a b d d' ∧ SortedIn lt a b d' ∧ r = ga encTP d'.toList)
  | 0, d, a, m, b, hN, h0, h1, _, _, _, _, _ => absurd hN (by omega)
  | N + 1, d, a, m, b, hN, h0, h1, h2, hs, H1, H2, HT => by
    subst hs
    have ih := fun (e : Array PtT) (x y z : Nat) (q1 : z - x < b - a) (q2 : a ≤ x) (q3 : x < y) (q4 : y < z) (q5 : z ≤ b) (q6 : e.size = d.size) r1 r2 r3 => v_symP nx O hT g cf hc lt S d.size h3 N e x y z (by omega) q3 q4 (by omega) q6 r1 r2 r3
    by_cases hA : m = a + 1
    · subst hA
      exact v_symAP nx O hT g cf hc lt S d a b (by omega) h2 (by omega) H2 (fun j j1 j2 => HT a j (Nat.le_refl _) (by omega) j1 j2)
    by_cases hB : b = m + 1
    · subst hB
      exact v_symBP nx O hT g cf hc lt S d a m (by omega) h2 (by omega) H1 (fun i i1 i2 => HT i m i1 i2 (Nat.le_refl _) (by omega))
    by_cases hm : (a + b) / 2 < m
    · exact v_symC1P nx O hT g cf hc lt S d a m b (by omega) (by omega) h2 h3 H1 H2 HT hm ih
    · exact v_symC0P nx O hT g cf hc lt S d a m b (by omega) (by omega) h2 h3 H1 H2 HT (by omega) ih
theorem v_stabP (nx : Nat) (O : Obs) (hT : Tail (nx + 1) O) (g : FuncId) (cf : PtT → PtT → Int) (hc : CmpP g cf) (lt : PtT → PtT → Bool) (S : SWO lt) (HL : ∀ x y : PtT, x.tg < y.tg → lessP cf y x = lt y x) (d : Array PtT) (h3 : d.size ≤ 1152921504606846975) (ht : ∀ i, i < d.size → d[i]!.tg = i) :
    Fam Try.prog 88 [.one (.ref 0), .one (.val (.int .i64 ((d.size : Int)))), .one (.clo g [])] 56 3 d.size (ga encTP d.toList) nx O (fun r => ∃ d', PermIn 0 d.size d d' ∧ SortedIn lt 0 d.size d' ∧ r = ga encTP d'.toList) := by
  refine Fam.mk hT ?_
  obtain ⟨n, en⟩ : ∃ n, d.size = n := ⟨_, rfl⟩
  rw [en] at h3 ht ⊢
  refine V.NCall.inl (f := 88) V.Tok V.mixed Try.func88 rfl Try.ntmps88 (by kernel_rfl) rfl ?_
  repeat' ((conv => whnf); first | refine V.NCond.mk ?_ | refine V.NIf.not_ ?_ | refine V.NIf.dec_ ?_ | refine V.NIf.no (by omega) ?_ | refine V.NIf.yes (by omega) ?_ | refine V.NIf.mk (fun _ => ?_) (fun _ => ?_) | refine V.NWrap.ok (by omega) (by omega) ?_ | refine V.NWrap.u64 (by omega) (by omega) ?_ | refine V.NLt.mk (by omega) ?_ | refine V.NBoth.mk ?_ ?_ | refine V.NTF.yes (by omega) ?_ | refine V.NTF.no (by omega) ?_ | refine V.NTF.dec ?_ | refine V.NDraw.q (by exact rfl) (by kernel_rfl) ?_ | refine V.NApp.one (by first | omega | (simp; omega)) (by first | omega | (simp; omega)) ?_ | (refine V.NDraw.any (by kernel_rfl) ?_) | fail)
  all_goals (conv => whnf)
  have ins : ∀ (d1 : Array PtT) (a b : Nat), d1.size = n → a ≤ b → b ≤ n → (∀ i, a ≤ i → i < n → d1[i]! = d[i]!) → PermIn a b d1 (insertionSort (lessP cf) d1 a b) ∧ St.Good PtT.tg lt a b (insertionSort (lessP cf) d1 a b) := fun d1 a b s1 ab bn same => by
    have tg1 : ∀ i, a ≤ i → i < b → d1[i]!.tg = i := fun i q1 q2 => by rw [same i q1 (by omega)]; exact ht i (by omega)
    rw [St.ins_eq (l1 := lt) (by omega) (fun p q q1 q2 q3 => HL _ _ (by rw [tg1 p (by omega) q1, tg1 q q2 (by omega)]; exact q3))]
    have h := insertionSort_holds S d1 a b ab (by omega)
    exact ⟨h.1, St.Good.of_perm (by omega) (fun i q1 q2 => by rw [tg1 i q1 q2]; omega) h.1 h.2⟩
  refine NLoop.fam hT (fun (s : Nat × Array PtT) => [(7, .one (.val (.int .i64 ((s.1 * 20 : Nat) : Int)))), (8, .one (.val (.int .i64 ((s.1 * 20 + 20 : Nat) : Int))))]) [(0, .one (.ref 0)), (1, .one (.val (.int .i64 n))), (2, .one (.clo g [])), (6, .one (.val (.int .i64 20)))] 56 3 n (fun s => ga encTP s.2.toList) (fun s => n - s.1 * 20) (fun s => s.1 * 20 ≤ n ∧ PermIn 0 n d s.2 ∧ St.To PtT.tg lt 20 (s.1 * 20) s.2 ∧ ∀ i, s.1 * 20 ≤ i → i < n → s.2[i]! = d[i]!) (0, d) ⟨Nat.zero_le _, permIn_refl _ _ _, St.To.zero 20 d, fun _ _ _ => rfl⟩ [(0, _)] rfl rfl rfl (fun k hk => rfl) (by repeat' (first | exact rfl | exact Iff.rfl | exact trivial | exact (fun _ _ => rfl) | exact (fun _ h => absurd h (Nat.not_lt_zero _)) | refine ⟨?_, ?_⟩ | exact Iff.rfl | exact congrArg (fun z => V.SV.one (V.At.val (Value.int .i64 z))) (by omega))) (fun _ => rfl) rfl ?_
  rintro ⟨K, d1⟩ ⟨hK, P, TO, same⟩
  dsimp only at hK P TO same ⊢
  have s1 : d1.size = n := by rw [P.1, en]
  obtain ⟨a, ea⟩ : ∃ a, a = K * 20 := ⟨_, rfl⟩
  rw [← ea] at hK TO same ⊢
  by_cases hlt : a + 20 ≤ n
  · obtain ⟨I1, I2⟩ := ins d1 a (a + 20) s1 (by omega) hlt same
    have c := v_insP nx O hT g cf hc d1 a (a + 20) (by omega) (by omega) (by omega)
    rw [s1] at c
    generalize insertionSort (lessP cf) d1 a (a + 20) = d2 at *
    have ek : (K + 1) * 20 = a + 20 := by omega
    have TO2 := (TO.same (fun i q => I1.2.1 i (.inl q))).push ea (by omega) I2
    have P2 : PermIn 0 n d d2 := permIn_trans _ _ _ _ _ P (permIn_mono _ _ _ _ 0 n (Nat.zero_le _) hlt (by omega) I1)
    have same2 : ∀ i, a + 20 ≤ i → i < n → d2[i]! = d[i]! := fun i q1 q2 => by rw [I1.2.1 i (.inr q1)]; exact same i (by omega) q2
    repeat' ((conv => whnf); first | refine V.NCond.mk ?_ | refine V.NIf.not_ ?_ | refine V.NIf.dec_ ?_ | refine V.NIf.no (by omega) ?_ | refine V.NIf.yes (by omega) ?_ | refine V.NIf.mk (fun _ => ?_) (fun _ => ?_) | refine V.NWrap.ok (by omega) (by omega) ?_ | refine V.NWrap.u64 (by omega) (by omega) ?_ | refine V.NLt.mk (by omega) ?_ | refine V.NBoth.mk ?_ ?_ | refine V.NTF.yes (by omega) ?_ | refine V.NTF.no (by omega) ?_ | refine V.NTF.dec ?_ | refine V.NDraw.q (by exact rfl) (by kernel_rfl) ?_ | refine V.NApp.one (by first | omega | (simp; omega)) (by first | omega | (simp; omega)) ?_ | (refine Fam.use c hT [(0, _)] rfl rfl rfl (fun k hk => rfl) ?_; rintro g1 rfl) | (refine V.NDraw.any (by kernel_rfl) ?_) | fail)
    all_goals (conv => whnf)
    exact FBack.at_ hT (K + 1, d2) [(0, _)] (by dsimp only; rw [ek]; exact ⟨hlt, P2, TO2, same2⟩) (by dsimp only; omega) ⟨congrArg (fun z : Int => SV.one (At.val (Value.int .i64 z))) (show ((a + 20 : Nat) : Int) = (((K + 1) * 20 : Nat) : Int) by omega), congrArg (fun z : Int => SV.one (At.val (Value.int .i64 z))) (show ((a + 20 : Nat) : Int) + 20 = (((K + 1) * 20 + 20 : Nat) : Int) by omega), rfl, rfl, rfl, rfl, trivial⟩ rfl rfl rfl (fun k hk => rfl)
  · obtain ⟨I1, I2⟩ := ins d1 a n s1 hK (Nat.le_refl _) same
    have c := v_insP nx O hT g cf hc d1 a n hK (by omega) (by omega)
    rw [s1] at c
    generalize insertionSort (lessP cf) d1 a n = d2 at *
    have P2 : PermIn 0 n d d2 := permIn_trans _ _ _ _ _ P (permIn_mono _ _ _ _ 0 n (Nat.zero_le _) (Nat.le_refl _) (by omega) I1)
    have TO2 : St.To PtT.tg lt 20 n d2 := by
      have t0 := TO.same (fun i q => I1.2.1 i (.inl q))
      by_cases z : a < n
      · exact t0.last ea (by omega) I2 z (by omega)
      · obtain rfl : a = n := by omega
        exact t0
    clear ins I1 I2 TO same P
    repeat' ((conv => whnf); first | refine V.NCond.mk ?_ | refine V.NIf.not_ ?_ | refine V.NIf.dec_ ?_ | refine V.NIf.no (by omega) ?_ | refine V.NIf.yes (by omega) ?_ | refine V.NIf.mk (fun _ => ?_) (fun _ => ?_) | refine V.NWrap.ok (by omega) (by omega) ?_ | refine V.NWrap.u64 (by omega) (by omega) ?_ | refine V.NLt.mk (by omega) ?_ | refine V.NBoth.mk ?_ ?_ | refine V.NTF.yes (by omega) ?_ | refine V.NTF.no (by omega) ?_ | refine V.NTF.dec ?_ | refine V.NDraw.q (by exact rfl) (by kernel_rfl) ?_ | refine V.NApp.one (by first | omega | (simp; omega)) (by first | omega | (simp; omega)) ?_ | (refine Fam.use c hT [(0, _)] rfl rfl rfl (fun k hk => rfl) ?_; rintro g1 rfl) | (refine V.NDraw.any (by kernel_rfl) ?_) | fail)
    all_goals (conv => whnf)
    refine NLoop.fam hT (fun (s : Nat × Array PtT) => [(6, .one (.val (.int .i64 s.1)))]) [(0, .one (.ref 0)), (1, .one (.val (.int .i64 n))), (2, .one (.clo g []))] 56 3 n (fun s => ga encTP s.2.toList) (fun s => n - s.1) (fun s => 20 ≤ s.1 ∧ s.1 ≤ 2 * n + 20 ∧ PermIn 0 n d s.2 ∧ St.To PtT.tg lt s.1 n s.2) (20, d2) ⟨Nat.le_refl _, by dsimp only; omega, P2, TO2⟩ [(0, _)] rfl rfl rfl (fun k hk => rfl) (by repeat' (first | exact rfl | exact Iff.rfl | exact trivial | exact (fun _ _ => rfl) | exact (fun _ h => absurd h (Nat.not_lt_zero _)) | refine ⟨?_, ?_⟩ | exact Iff.rfl | exact congrArg (fun z => V.SV.one (V.At.val (Value.int .i64 z))) (by omega))) (fun _ => rfl) rfl ?_
    clear P2 TO2 c d2 s1 hlt ea hK a K d1
    rintro ⟨bs, d1⟩ ⟨hb, hb2, P, TO⟩
    dsimp only at hb hb2 P TO ⊢
    have s1 : d1.size = n := by rw [P.1, en]
    by_cases hlt : bs < n
    · repeat' ((conv => whnf); first | refine V.NCond.mk ?_ | refine V.NIf.not_ ?_ | refine V.NIf.dec_ ?_ | refine V.NIf.no (by omega) ?_ | refine V.NIf.yes (by omega) ?_ | refine V.NIf.mk (fun _ => ?_) (fun _ => ?_) | refine V.NWrap.ok (by omega) (by omega) ?_ | refine V.NWrap.u64 (by omega) (by omega) ?_ | refine V.NLt.mk (by omega) ?_ | refine V.NBoth.mk ?_ ?_ | refine V.NTF.yes (by omega) ?_ | refine V.NTF.no (by omega) ?_ | refine V.NTF.dec ?_ | refine V.NDraw.q (by exact rfl) (by kernel_rfl) ?_ | refine V.NApp.one (by first | omega | (simp; omega)) (by first | omega | (simp; omega)) ?_ | (refine V.NDraw.any (by kernel_rfl) ?_) | fail)
      all_goals (conv => whnf)
      refine NLoop.fam hT (fun (s : Nat × Array PtT) => [(7, .one (.val (.int .i64 ((s.1 * (2 * bs) : Nat) : Int)))), (8, .one (.val (.int .i64 ((s.1 * (2 * bs) + 2 * bs : Nat) : Int))))]) [(0, .one (.ref 0)), (1, .one (.val (.int .i64 n))), (2, .one (.clo g [])), (6, .one (.val (.int .i64 bs)))] 56 3 n (fun s => ga encTP s.2.toList) (fun s => n - s.1 * (2 * bs)) (fun s => s.1 * (2 * bs) ≤ n ∧ PermIn 0 n d s.2 ∧ St.To PtT.tg lt (2 * bs) (s.1 * (2 * bs)) s.2 ∧ St.Fr PtT.tg lt bs (s.1 * (2 * bs)) n s.2) (0, d1) ⟨by dsimp only; rw [Nat.zero_mul]; exact Nat.zero_le _, P, by dsimp only; rw [Nat.zero_mul]; exact St.To.zero _ _, by dsimp only; rw [Nat.zero_mul]; exact St.Fr.of_to TO⟩ [(0, _)] rfl rfl rfl (fun k hk => rfl) ⟨congrArg (fun z : Int => SV.one (At.val (Value.int .i64 z))) (show (0 : Int) = ((0 * (2 * bs) : Nat) : Int) by rw [Nat.zero_mul]; rfl), congrArg (fun z : Int => SV.one (At.val (Value.int .i64 z))) (show (2 : Int) * bs = ((0 * (2 * bs) + 2 * bs : Nat) : Int) by rw [Nat.zero_mul]; omega), rfl, rfl, rfl, rfl, trivial⟩ (fun _ => rfl) rfl ?_
      clear P TO s1 d1
      rintro ⟨K, d1⟩ ⟨hK, P, TO, FR⟩
      dsimp only at hK P TO FR ⊢
      have s1 : d1.size = n := by rw [P.1, en]
      obtain ⟨a, ea⟩ : ∃ a, a = K * (2 * bs) := ⟨_, rfl⟩
      rw [← ea] at hK TO FR ⊢
      by_cases hle : a + 2 * bs ≤ n
      · have G1 := FR.head (by omega)
        rw [show min (a + bs) n = a + bs by omega] at G1
        have G2 := FR.tail.head (by omega)
        rw [show min (a + bs + bs) n = a + 2 * bs by omega] at G2
        have c := v_symP nx O hT g cf hc lt S n (by omega) (a + 2 * bs - a) d1 a (a + bs) (a + 2 * bs) (Nat.le_refl _) (by omega) (by omega) (by omega) s1 G1.s G2.s (fun i j i1 i2 j1 j2 => HL _ _ (by have := G1.t i i1 i2; have := G2.t j j1 j2; omega))
        have ek : (K + 1) * (2 * bs) = a + 2 * bs := by rw [Nat.succ_mul, ← ea]
        repeat' ((conv => whnf); first | refine V.NCond.mk ?_ | refine V.NIf.not_ ?_ | refine V.NIf.dec_ ?_ | refine V.NIf.no (by omega) ?_ | refine V.NIf.yes (by omega) ?_ | refine V.NIf.mk (fun _ => ?_) (fun _ => ?_) | refine V.NWrap.ok (by omega) (by omega) ?_ | refine V.NWrap.u64 (by omega) (by omega) ?_ | refine V.NLt.mk (by omega) ?_ | refine V.NBoth.mk ?_ ?_ | refine V.NTF.yes (by omega) ?_ | refine V.NTF.no (by omega) ?_ | refine V.NTF.dec ?_ | refine V.NDraw.q (by exact rfl) (by kernel_rfl) ?_ | refine V.NApp.one (by first | omega | (simp; omega)) (by first | omega | (simp; omega)) ?_ | (refine Fam.use c hT [(0, _)] rfl rfl rfl (fun k hk => rfl) ?_; rintro g1 ⟨d2, P2, S2, rfl⟩) | (refine V.NDraw.any (by kernel_rfl) ?_) | fail)
        all_goals (conv => whnf)
        have G := St.Good.merge (by omega) (by omega) (by omega) G1 G2 P2 S2
        have TO2 := (TO.same (fun i q => P2.2.1 i (.inl q))).push ea (by omega) G
        have FR2 : St.Fr PtT.tg lt bs (a + 2 * bs) n d2 := by
          have q := FR.tail.tail
          rw [show a + bs + bs = a + 2 * bs by omega] at q
          exact q.same fun i q => P2.2.1 i (.inr q)
        exact FBack.at_ hT (K + 1, d2) [(0, _)] (by dsimp only; rw [ek]; exact ⟨hle, permIn_trans _ _ _ _ _ P (permIn_mono _ _ _ _ 0 n (Nat.zero_le _) hle (by omega) P2), TO2, FR2⟩) (by dsimp only; rw [ek]; omega) ⟨congrArg (fun z : Int => SV.one (At.val (Value.int .i64 z))) (show ((a + 2 * bs : Nat) : Int) = (((K + 1) * (2 * bs) : Nat) : Int) by rw [ek]), congrArg (fun z : Int => SV.one (At.val (Value.int .i64 z))) (show ((a + 2 * bs : Nat) : Int) + 2 * (bs : Int) = (((K + 1) * (2 * bs) + 2 * bs : Nat) : Int) by rw [ek]; omega), rfl, rfl, rfl, rfl, trivial⟩ rfl rfl rfl (fun k hk => rfl)
      · by_cases hm : a + bs < n
        · have G1 := FR.head (by omega)
          rw [show min (a + bs) n = a + bs by omega] at G1
          have G2 := FR.tail.head hm
          rw [show min (a + bs + bs) n = n by omega] at G2
          have c := v_symP nx O hT g cf hc lt S n (by omega) (n - a) d1 a (a + bs) n (Nat.le_refl _) (by omega) hm (by omega) s1 G1.s G2.s (fun i j i1 i2 j1 j2 => HL _ _ (by have := G1.t i i1 i2; have := G2.t j j1 j2; omega))
          rw [show ((a + bs : Nat) : Int) = (a : Int) + bs by omega] at c
          repeat' ((conv => whnf); first | refine V.NCond.mk ?_ | refine V.NIf.not_ ?_ | refine V.NIf.dec_ ?_ | refine V.NIf.no (by omega) ?_ | refine V.NIf.yes (by omega) ?_ | refine V.NIf.mk (fun _ => ?_) (fun _ => ?_) | refine V.NWrap.ok (by omega) (by omega) ?_ | refine V.NWrap.u64 (by omega) (by omega) ?_ | refine V.NLt.mk (by omega) ?_ | refine V.NBoth.mk ?_ ?_ | refine V.NTF.yes (by omega) ?_ | refine V.NTF.no (by omega) ?_ | refine V.NTF.dec ?_ | refine V.NDraw.q (by exact rfl) (by kernel_rfl) ?_ | refine V.NApp.one (by first | omega | (simp; omega)) (by first | omega | (simp; omega)) ?_ | (refine Fam.use c hT [(0, _)] rfl rfl rfl (fun k hk => rfl) ?_; rintro g1 ⟨d2, P2, S2, rfl⟩) | (refine V.NDraw.any (by kernel_rfl) ?_) | fail)
          all_goals (conv => whnf)
          have G := St.Good.merge (by omega) (by omega) (by omega) G1 G2 P2 S2
          have TO2 := (TO.same (fun i q => P2.2.1 i (.inl q))).last ea (by omega) G (by omega) (by omega)
          exact FBack.at_ hT (2 * bs, d2) [(0, _)] ⟨by dsimp only; omega, by dsimp only; omega, permIn_trans _ _ _ _ _ P (permIn_mono _ _ _ _ 0 n (Nat.zero_le _) (Nat.le_refl _) (by omega) P2), TO2⟩ (by dsimp only; omega) ⟨congrArg (fun z : Int => SV.one (At.val (Value.int .i64 z))) (show (bs : Int) * 2 = ((2 * bs : Nat) : Int) by omega), rfl, rfl, rfl, trivial⟩ rfl rfl rfl (fun k hk => rfl)
        · have TO2 : St.To PtT.tg lt (2 * bs) n d1 := by
            by_cases z : a < n
            · have G1 := FR.head z
              rw [show min (a + bs) n = n by omega] at G1
              exact TO.last ea (by omega) G1 z (by omega)
            · obtain rfl : a = n := by omega
              exact TO
          repeat' ((conv => whnf); first | refine V.NCond.mk ?_ | refine V.NIf.not_ ?_ | refine V.NIf.dec_ ?_ | refine V.NIf.no (by omega) ?_ | refine V.NIf.yes (by omega) ?_ | refine V.NIf.mk (fun _ => ?_) (fun _ => ?_) | refine V.NWrap.ok (by omega) (by omega) ?_ | refine V.NWrap.u64 (by omega) (by omega) ?_ | refine V.NLt.mk (by omega) ?_ | refine V.NBoth.mk ?_ ?_ | refine V.NTF.yes (by omega) ?_ | refine V.NTF.no (by omega) ?_ | refine V.NTF.dec ?_ | refine V.NDraw.q (by exact rfl) (by kernel_rfl) ?_ | refine V.NApp.one (by first | omega | (simp; omega)) (by first | omega | (simp; omega)) ?_ | (refine V.NDraw.any (by kernel_rfl) ?_) | fail)
          all_goals (conv => whnf)
          exact FBack.at_ hT (2 * bs, d1) [(0, _)] ⟨by dsimp only; omega, by dsimp only; omega, P, TO2⟩ (by dsimp only; omega) ⟨congrArg (fun z : Int => SV.one (At.val (Value.int .i64 z))) (show (bs : Int) * 2 = ((2 * bs : Nat) : Int) by omega), rfl, rfl, rfl, trivial⟩ rfl rfl rfl (fun k hk => rfl)
    · repeat' ((conv => whnf); first | refine V.NCond.mk ?_ | refine V.NIf.not_ ?_ | refine V.NIf.dec_ ?_ | refine V.NIf.no (by omega) ?_ | refine V.NIf.yes (by omega) ?_ | refine V.NIf.mk (fun _ => ?_) (fun _ => ?_) | refine V.NWrap.ok (by omega) (by omega) ?_ | refine V.NWrap.u64 (by omega) (by omega) ?_ | refine V.NLt.mk (by omega) ?_ | refine V.NBoth.mk ?_ ?_ | refine V.NTF.yes (by omega) ?_ | refine V.NTF.no (by omega) ?_ | refine V.NTF.dec ?_ | refine V.NDraw.q (by exact rfl) (by kernel_rfl) ?_ | refine V.NApp.one (by first | omega | (simp; omega)) (by first | omega | (simp; omega)) ?_ | (refine V.NDraw.any (by kernel_rfl) ?_) | fail)
      all_goals (conv => whnf)
      exact ⟨rfl, rfl, [(0, _)], _, rfl, rfl, rfl, d1, P, TO.all (by omega), rfl⟩
end Go.Proofs.Yteblbhbfdfifpaa

/- A function that writes a row: a call of it, of which the outcome is known by what it promises. -/
namespace Go.Proofs.Yteblbhbfdfifpaa.V
open Go Go.RowKit
set_option linter.unusedVariables false
/-- as Fam.call, but the objects behind the call are given outright, by what the contract promises -/
theorem Fam.callQ {P : Program} {f : FuncId} {args : List SV} {t s n nx : Nat} {get : Nat → List Value} {O : Obs} {Q : (Nat → List Value) → Prop} (h : Fam P f args t s n get nx O Q) (hT : Tail (nx + 1) O) {obs : Obs} {args' : List SV} {K : SV → Obs → Nat → Prop} (l : List (Nat × Nat)) (obs2 : Obs)
    (ha : args' = args.map (renS (sgm l))) (hab : argB (nx + 1) args = true) (hi : injB (sgm l) (nx + 1) = true) (hinv : ∀ i, i < nx + 1 → sgm l i < nx + 1 ∧ sgm l (sgm l i) = i) (ho : ObsLe (sgm l) obs ((0, .row t s n get) :: O)) (hb2 : obsB (nx + 1) obs2 = true)
    (ho2 : ∀ g', Q g' → ObsLe (sgm l) ((0, .row t s n g') :: O) obs2) (hK : K (.tup []) obs2 (nx + 1)) : NCall P f args' obs (nx + 1) K := by
  subst ha
  refine ⟨h.b, fun B ρ w xs hC hxs => ?_⟩
  have c := hC.head ho (hT.bz t s n get) hi
  refine (h.h B _ w xs c (Svs.ren_ hab hxs)).mono ?_
  rintro e' w' ⟨v, o, m, ρ', x, hK', hx, he, hv, hC', hb, hoth⟩
  obtain ⟨rfl, rfl, g', rfl, hQ⟩ := hK'.h
  have c2 := hC'.head (ho2 g' hQ) hb2 hi
  refine ⟨_, _, _, _, x, hK, fun i y hy => ?_, he, ?_, c2, hb, hoth⟩
  · have hi' : i < nx + 1 := by
      rcases Nat.lt_or_ge i (nx + 1) with q | q
      · exact q
      · rw [hC.new i q] at hy; cases hy
    obtain ⟨q1, q2⟩ := hinv i hi'
    rw [cut_lt hi']
    refine hx _ _ ?_
    rw [cut_lt q1]
    unfold via
    rw [q2]
    exact hy
  · exact hv
end Go.Proofs.Yteblbhbfdfifpaa.V

/- Plain facts on calendars: business days, how many there are, and steps from one to another. -/
namespace Go.Proofs.Yteblbhbfdfifpaa
set_option linter.unusedVariables false
structure Cl where
  we : Int
  hs : List Int
namespace Ca
/-- the first error of so many -/
def fe (f : Nat → Int) (n : Nat) : Int := fb f (List.range n)
theorem fe_ok {f : Nat → Int} {n : Nat} (h : fe f n = 0) : ∀ j, j < n → f j = 0 := fun j hj => fb_ok h j (List.mem_range.2 hj)
theorem fe_end {f : Nat → Int} {n : Nat} (h : ∀ j, j < n → f j = 0) : fe f n = 0 := fb_yes fun d hd => h d (List.mem_range.1 hd)
theorem fe_get {f : Nat → Int} {n k : Nat} (hk : k < n) (h1 : ∀ j, j < k → f j = 0) (h : f k ≠ 0) : fe f n = f k := by
  have hl : k < (List.range n).length := by simpa using hk
  have e : (List.range n)[k] = k := by simp
  have := fb_at (f := f) hl (fun d hd => h1 d (by
    rw [List.take_range] at hd
    have := List.mem_range.1 hd
    omega)) (by rw [e]; exact h)
  rw [e] at this
  exact this
def Day (n : Int) : Prop := 0 ≤ n ∧ n ≤ 3652058
instance (n : Int) : Decidable (Day n) := by unfold Day; exact inferInstance
def Ok (c : Cl) : Prop := (0 ≤ c.we ∧ c.we ≤ 126) ∧ c.hs.length ≤ 60 ∧ (∀ n ∈ c.hs, Day n) ∧ c.hs.Pairwise (· < ·)
def eAt (hs : List Int) (k : Nat) : Int := if ¬ Day (hs.getD k default) then 3 else if 0 < k ∧ hs.getD k default = hs.getD (k - 1) default then 6 else if 0 < k ∧ hs.getD k default < hs.getD (k - 1) default then 4 else 0
def chk (c : Cl) : Int := if c.we < 0 ∨ 126 < c.we then 3 else if 60 < c.hs.length then 2 else fe (eAt c.hs) c.hs.length
theorem eAt_ok {hs : List Int} {k : Nat} (h : eAt hs k = 0) : Day (hs.getD k default) ∧ (0 < k → hs.getD (k - 1) default < hs.getD k default) := by
  unfold eAt at h
  split at h
  · omega
  · rename_i a
    split at h
    · omega
    · split at h
      · omega
      · exact ⟨Classical.not_not.1 a, fun hk => by omega⟩
theorem chk_ok {c : Cl} (h : chk c = 0) : Ok c := by
  unfold chk at h
  split at h
  · omega
  split at h
  · omega
  have a := fe_ok h
  refine ⟨by omega, by omega, fun n hn => ?_, List.pairwise_iff_getElem.2 fun i j hi hj hij => ?_⟩
  · obtain ⟨i, hi, rfl⟩ := List.getElem_of_mem hn
    have := (eAt_ok (a i hi)).1
    rwa [getD_at hi] at this
  · have st : ∀ m, i < m → m < c.hs.length → c.hs.getD i default < c.hs.getD m default := by
      intro m
      induction m with
      | zero => intro h; omega
      | succ m ih =>
        intro h1 h2
        have h3 := (eAt_ok (a (m + 1) h2)).2 (by omega)
        rw [Nat.add_sub_cancel] at h3
        by_cases e : i = m
        · subst e; exact h3
        · have := ih (by omega) (by omega); omega
    have := st j hij hj
    rwa [getD_at hi, getD_at hj] at this
theorem chk_1 {c : Cl} (h : c.we < 0 ∨ 126 < c.we) : chk c = 3 := if_pos h
theorem chk_2 {c : Cl} (h : ¬ (c.we < 0 ∨ 126 < c.we)) (k : 60 < c.hs.length) : chk c = 2 := (if_neg h).trans (if_pos k)
theorem chk_3 {c : Cl} (h : ¬ (c.we < 0 ∨ 126 < c.we)) (k : ¬ 60 < c.hs.length) : chk c = fe (eAt c.hs) c.hs.length := (if_neg h).trans (if_neg k)
theorem chk_of {c : Cl} (h : Ok c) : chk c = 0 := by
  obtain ⟨h1, h2, h3, h4⟩ := h
  rw [chk_3 (by omega) (by omega)]
  refine fe_end fun k hk => ?_
  have hd := h3 _ (getD_mem (l := c.hs) hk)
  unfold eAt
  rw [if_neg (fun q => q hd)]
  have lt : 0 < k → c.hs.getD (k - 1) default < c.hs.getD k default := fun h => by
    rw [getD_at hk, getD_at (l := c.hs) (k := k - 1) (by omega)]
    exact List.pairwise_iff_getElem.1 h4 (k - 1) k (by omega) hk (by omega)
  rw [if_neg (fun q => by have := lt q.1; omega), if_neg (fun q => by have := lt q.1; omega)]
/-- no day of the weekend; a business day -/
def wd (c : Cl) (n : Int) : Int := 1 - c.we / 2 ^ (n % 7).toNat % 2
def op (c : Cl) (n : Int) : Int := if n ∈ c.hs then 0 else wd c n
theorem wd_01 (c : Cl) (n : Int) : wd c n = 0 ∨ wd c n = 1 := by unfold wd; omega
theorem op_01 (c : Cl) (n : Int) : op c n = 0 ∨ op c n = 1 := by unfold op; split; · exact .inl rfl
                                                                 · exact wd_01 c n
theorem wd_7 (c : Cl) (n : Int) : wd c (n + 7) = wd c n := by unfold wd; rw [show (n + 7) % 7 = n % 7 by omega]
/-- sums over (a, a + k] -/
def sm (f : Int → Int) (a : Int) : Nat → Int
  | 0 => 0
  | k + 1 => sm f a k + f (a + k + 1)
theorem sm_add (f : Int → Int) (a : Int) (k : Nat) : ∀ m : Nat, sm f a (k + m) = sm f a k + sm f (a + k) m
  | 0 => by simp [sm]
  | m + 1 => by
    have := sm_add f a k m
    rw [← Nat.add_assoc]
    simp only [sm]
    rw [this, show a + ((k + m : Nat) : Int) + 1 = a + k + m + 1 by omega]; omega
def cnt (c : Cl) (a b : Int) : Int := sm (op c) a (b - a).toNat
theorem cnt_none {c : Cl} {a b : Int} (h : b ≤ a) : cnt c a b = 0 := by unfold cnt; rw [show (b - a).toNat = 0 by omega]; rfl
theorem cnt_succ {c : Cl} {a b : Int} (h : a ≤ b) : cnt c a (b + 1) = cnt c a b + op c (b + 1) := by
  unfold cnt
  rw [show (b + 1 - a).toNat = (b - a).toNat + 1 by omega]
  simp only [sm]
  rw [show a + ((b - a).toNat : Int) + 1 = b + 1 by omega]
theorem cnt_add {c : Cl} {a b d : Int} (h : a ≤ b) (k : b ≤ d) : cnt c a d = cnt c a b + cnt c b d := by
  unfold cnt
  rw [show (d - a).toNat = (b - a).toNat + (d - b).toNat by omega, sm_add, show a + ((b - a).toNat : Int) = b by omega]
theorem cnt_last {c : Cl} {a b : Int} (h : a < b) : cnt c a b = cnt c a (b - 1) + op c b := by
  have := cnt_succ (c := c) (a := a) (b := b - 1) (by omega)
  rwa [show b - 1 + 1 = b by omega] at this
theorem cnt_one (c : Cl) (a : Int) : cnt c a (a + 1) = op c (a + 1) := by rw [cnt_succ (Int.le_refl _), cnt_none (Int.le_refl _)]; omega
theorem cnt_first {c : Cl} {a b : Int} (h : a < b) : cnt c a b = op c (a + 1) + cnt c (a + 1) b := by
  rw [cnt_add (b := a + 1) (by omega) (by omega), cnt_one]
theorem sm_bd (c : Cl) (a : Int) : ∀ k : Nat, 0 ≤ sm (op c) a k ∧ sm (op c) a k ≤ k
  | 0 => by simp [sm]
  | k + 1 => by
    have := sm_bd c a k
    have := op_01 c (a + k + 1)
    simp only [sm]; omega
theorem cnt_bd (c : Cl) (a b : Int) : 0 ≤ cnt c a b ∧ (a ≤ b → cnt c a b ≤ b - a) := by
  have := sm_bd c a (b - a).toNat
  unfold cnt
  exact ⟨this.1, fun h => by omega⟩
theorem cnt_mono {c : Cl} {a b d : Int} (k : b ≤ d) : cnt c a b ≤ cnt c a d := by
  by_cases h : a ≤ b
  · have := cnt_add (c := c) h k; have := cnt_bd c b d; omega
  · rw [cnt_none (by omega)]; exact (cnt_bd c a d).1
theorem cnt_pos {c : Cl} {a b : Int} (h : a < b) (k : op c b = 1) : 1 ≤ cnt c a b := by
  rw [cnt_last h]; have := cnt_bd c a (b - 1); omega
/-- the m-th business day behind a -/
def Up (c : Cl) (a m d : Int) : Prop := a < d ∧ d ≤ 3652058 ∧ op c d = 1 ∧ cnt c a d = m
theorem up_one {c : Cl} {a m d e : Int} (h : Up c a m d) (k : Up c a m e) : d = e := by
  obtain ⟨h1, h2, h3, h4⟩ := h
  obtain ⟨k1, k2, k3, k4⟩ := k
  rcases Int.lt_trichotomy d e with q | q | q
  · have := cnt_add (c := c) (a := a) (b := d) (d := e) (by omega) (by omega); have := cnt_pos q k3; omega
  · exact q
  · have := cnt_add (c := c) (a := a) (b := e) (d := d) (by omega) (by omega); have := cnt_pos q h3; omega
open Classical in
noncomputable def stU (c : Cl) (a m : Int) : Int := if h : ∃ d, Up c a m d then h.choose else -1
theorem stU_is {c : Cl} {a m d : Int} (h : Up c a m d) : stU c a m = d := by
  have e : ∃ d, Up c a m d := ⟨d, h⟩
  unfold stU
  rw [dif_pos e]
  exact up_one e.choose_spec h
theorem stU_no {c : Cl} {a m : Int} (h : cnt c a 3652058 < m) : stU c a m = -1 := by
  unfold stU
  exact dif_neg fun ⟨d, _, h2, _, h4⟩ => by have := cnt_mono (c := c) (a := a) h2; omega
theorem stU_ok {c : Cl} {a m : Int} (h : 0 ≤ stU c a m) : Up c a m (stU c a m) := by
  by_cases e : ∃ d, Up c a m d
  · unfold stU; rw [dif_pos e]; exact e.choose_spec
  · unfold stU at h; rw [dif_neg e] at h; omega
theorem stU_cases {c : Cl} {a m : Int} (ha : -1 ≤ a) : stU c a m = -1 ∨ (0 ≤ stU c a m ∧ Up c a m (stU c a m)) := by
  by_cases e : ∃ d, Up c a m d
  · right
    have : Up c a m (stU c a m) := by unfold stU; rw [dif_pos e]; exact e.choose_spec
    exact ⟨by have := this.1; omega, this⟩
  · left; unfold stU; exact dif_neg e
/-- the m-th business day ahead of a -/
def Dn (c : Cl) (a m d : Int) : Prop := 0 ≤ d ∧ d < a ∧ op c d = 1 ∧ cnt c (d - 1) (a - 1) = m
theorem dn_one {c : Cl} {a m d e : Int} (h : Dn c a m d) (k : Dn c a m e) : d = e := by
  have key : ∀ d e, d < e → Dn c a m d → Dn c a m e → False := fun d e q ⟨h1, h2, h3, h4⟩ ⟨k1, k2, k3, k4⟩ => by
    have h5 := cnt_add (c := c) (a := d - 1) (b := e - 1) (d := a - 1) (by omega) (by omega)
    have h6 := cnt_first (c := c) (a := d - 1) (b := e - 1) (by omega)
    have h7 := cnt_bd c (d - 1 + 1) (e - 1)
    rw [show d - 1 + 1 = d by omega] at h6 h7
    omega
  rcases Int.lt_trichotomy d e with q | q | q
  · exact (key d e q h k).elim
  · exact q
  · exact (key e d q k h).elim
open Classical in
noncomputable def stD (c : Cl) (a m : Int) : Int := if h : ∃ d, Dn c a m d then h.choose else -1
theorem stD_is {c : Cl} {a m d : Int} (h : Dn c a m d) : stD c a m = d := by
  have e : ∃ d, Dn c a m d := ⟨d, h⟩
  unfold stD
  rw [dif_pos e]
  exact dn_one e.choose_spec h
theorem cnt_mono_l {c : Cl} {a b d : Int} (k : a ≤ b) : cnt c b d ≤ cnt c a d := by
  by_cases h : b ≤ d
  · have := cnt_add (c := c) k h; have := cnt_bd c a b; omega
  · rw [cnt_none (by omega)]; exact (cnt_bd c a d).1
theorem stD_no {c : Cl} {a m : Int} (h : cnt c (-1) (a - 1) < m) : stD c a m = -1 := by
  unfold stD
  exact dif_neg fun ⟨d, h1, h2, _, h4⟩ => by have := cnt_mono_l (c := c) (a := -1) (b := d - 1) (d := a - 1) (by omega); omega
theorem stD_cases (c : Cl) (a m : Int) : stD c a m = -1 ∨ (0 ≤ stD c a m ∧ Dn c a m (stD c a m)) := by
  by_cases e : ∃ d, Dn c a m d
  · right
    have : Dn c a m (stD c a m) := by unfold stD; rw [dif_pos e]; exact e.choose_spec
    exact ⟨this.1, this⟩
  · left; unfold stD; exact dif_neg e
/-- so many steps -/
noncomputable def stp (c : Cl) (n m : Int) : Int := if 0 < m then stU c n m else if m < 0 then stD c n (-m) else n
theorem stp_p {c : Cl} {n m : Int} (h : 0 < m) : stp c n m = stU c n m := if_pos h
theorem stp_n {c : Cl} {n m : Int} (h : m < 0) : stp c n m = stD c n (-m) := (if_neg (by omega)).trans (if_pos h)
theorem stp_0 {c : Cl} {n : Int} : stp c n 0 = n := (if_neg (by omega)).trans (if_neg (by omega))
theorem stp_cases {c : Cl} {n m : Int} (hn : Day n) : stp c n m = -1 ∨ Day (stp c n m) := by
  unfold Day at *
  by_cases h : 0 < m
  · rw [stp_p h]
    rcases stU_cases (c := c) (a := n) (m := m) (by omega) with q | ⟨q, _, r, _⟩
    · exact .inl q
    · exact .inr ⟨q, r⟩
  · by_cases k : m < 0
    · rw [stp_n k]
      rcases stD_cases c n (-m) with q | ⟨q, _, r, _⟩
      · exact .inl q
      · exact .inr ⟨q, by omega⟩
    · obtain rfl : m = 0 := by omega
      rw [stp_0]; exact .inr hn
/-! what the count of the program comes to -/
def hc (c : Cl) (a b : Int) : List Int → Int
  | [] => 0
  | h :: r => (if a < h ∧ h ≤ b ∧ wd c h = 1 then 1 else 0) + hc c a b r
theorem hc_snoc (c : Cl) (a b : Int) : ∀ (l : List Int) (x : Int), hc c a b (l ++ [x]) = hc c a b l + (if a < x ∧ x ≤ b ∧ wd c x = 1 then 1 else 0)
  | [], x => by simp [hc]
  | h :: r, x => by
    rw [List.cons_append]; simp only [hc]
    rw [hc_snoc c a b r x]; omega
theorem hc_same {c : Cl} {a b : Int} : ∀ {l : List Int}, b + 1 ∉ l → hc c a (b + 1) l = hc c a b l
  | [], _ => rfl
  | h :: r, q => by
    have h1 : h ≠ b + 1 := fun e => q (by simp [e])
    have := hc_same (c := c) (a := a) (b := b) (l := r) (fun e => q (by simp [e]))
    simp only [hc]
    rw [this]
    congr 1
    split <;> split <;> omega
theorem hc_succ {c : Cl} {a b : Int} (hab : a ≤ b) : ∀ {l : List Int}, l.Nodup → hc c a (b + 1) l = hc c a b l + (if b + 1 ∈ l then wd c (b + 1) else 0)
  | [], _ => by simp [hc]
  | h :: r, hn => by
    rw [List.nodup_cons] at hn
    simp only [hc]
    by_cases e : h = b + 1
    · subst e
      rw [hc_same hn.1, if_pos (by simp : b + 1 ∈ (b + 1) :: r), if_neg (by omega : ¬ (a < b + 1 ∧ b + 1 ≤ b ∧ wd c (b + 1) = 1))]
      rcases wd_01 c (b + 1) with w | w
      · rw [if_neg (by omega), w]; omega
      · rw [if_pos (by omega), w]; omega
    · rw [hc_succ hab hn.2]
      have m : (b + 1 ∈ h :: r) ↔ b + 1 ∈ r := by
        rw [List.mem_cons]
        exact ⟨fun q => q.resolve_left fun z => e z.symm, .inr⟩
      have i1 : (if a < h ∧ h ≤ b + 1 ∧ wd c h = 1 then (1 : Int) else 0) = (if a < h ∧ h ≤ b ∧ wd c h = 1 then 1 else 0) := by split <;> split <;> omega
      rw [i1]
      by_cases q : b + 1 ∈ r
      · rw [if_pos q, if_pos (m.2 q)]; omega
      · rw [if_neg q, if_neg (fun z => q (m.1 z))]; omega
theorem hc_none {c : Cl} {a b : Int} (h : b ≤ a) : ∀ l : List Int, hc c a b l = 0
  | [] => rfl
  | x :: r => by simp only [hc]; rw [hc_none h r, if_neg (by omega)]; rfl
theorem sm_op {c : Cl} (hn : c.hs.Nodup) (a : Int) : ∀ k : Nat, sm (op c) a k = sm (wd c) a k - hc c a (a + k) c.hs
  | 0 => by simp only [sm]; rw [hc_none (by omega)]; rfl
  | k + 1 => by
    have h1 := sm_op hn a k
    have h2 := hc_succ (c := c) (a := a) (b := a + k) (by omega) hn
    simp only [sm]
    rw [h1, show a + ((k + 1 : Nat) : Int) = a + k + 1 by omega, h2]
    unfold op
    split <;> omega
/-- business days of a week, but for holidays -/
def wk (c : Cl) : Int := sm (wd c) (-1) 7
theorem sm_wk (c : Cl) (a : Int) : sm (wd c) a 7 = wk c := by
  have per : ∀ x y : Int, x % 7 = y % 7 → wd c x = wd c y := fun x y h => by unfold wd; rw [h]
  have e : ∀ b, sm (wd c) b 7 = wd c (b + 1) + wd c (b + 2) + wd c (b + 3) + wd c (b + 4) + wd c (b + 5) + wd c (b + 6) + wd c (b + 7) := fun b => by
    simp only [sm, Int.zero_add]
    rw [show b + ((0 : Nat) : Int) + 1 = b + 1 by omega, show b + ((1 : Nat) : Int) + 1 = b + 2 by omega, show b + ((2 : Nat) : Int) + 1 = b + 3 by omega, show b + ((3 : Nat) : Int) + 1 = b + 4 by omega, show b + ((4 : Nat) : Int) + 1 = b + 5 by omega, show b + ((5 : Nat) : Int) + 1 = b + 6 by omega, show b + ((6 : Nat) : Int) + 1 = b + 7 by omega]
  have st : ∀ b, sm (wd c) (b + 1) 7 = sm (wd c) b 7 := fun b => by
    rw [e, e, show b + 1 + 7 = b + 1 + 7 from rfl, wd_7, show b + 1 + 1 = b + 2 by omega, show b + 1 + 2 = b + 3 by omega, show b + 1 + 3 = b + 4 by omega, show b + 1 + 4 = b + 5 by omega, show b + 1 + 5 = b + 6 by omega, show b + 1 + 6 = b + 7 by omega]
    omega
  have up : ∀ (k : Nat) b, sm (wd c) (b + k) 7 = sm (wd c) b 7 := by
    intro k
    induction k with
    | zero => intro b; rw [show b + ((0 : Nat) : Int) = b by omega]
    | succ k ih => intro b; rw [show b + ((k + 1 : Nat) : Int) = b + k + 1 by omega, st, ih]
  unfold wk
  by_cases h : -1 ≤ a
  · have := up (a + 1).toNat (-1)
    rwa [show -1 + ((a + 1).toNat : Int) = a by omega] at this
  · have := up (-1 - a).toNat a
    rw [show a + ((-1 - a).toNat : Int) = -1 by omega] at this
    exact this.symm
theorem sm_weeks (c : Cl) (a : Int) : ∀ q : Nat, sm (wd c) a (7 * q) = q * wk c
  | 0 => by simp [sm]
  | q + 1 => by
    rw [Nat.mul_succ, sm_add, sm_weeks c a q, sm_wk, Int.natCast_add, Int.add_mul]; omega
theorem count_is {c : Cl} (hn : c.hs.Nodup) {a b : Int} (h : a ≤ b) : cnt c a b = (b - a) / 7 * wk c + sm (wd c) (a + (b - a) / 7 * 7) ((b - a) % 7).toNat - hc c a b c.hs := by
  unfold cnt
  rw [sm_op hn, show a + ((b - a).toNat : Int) = b by omega, show (b - a).toNat = 7 * ((b - a) / 7).toNat + ((b - a) % 7).toNat by omega, sm_add, sm_weeks, show (((b - a) / 7).toNat : Int) = (b - a) / 7 by omega, show a + ((7 * ((b - a) / 7).toNat : Nat) : Int) = a + (b - a) / 7 * 7 by omega]
theorem ok_nodup {c : Cl} (h : Ok c) : c.hs.Nodup := h.2.2.2.imp (fun q => by omega)
/-! a binary search -/
def lb (l : List Int) (x : Int) : Nat := (l.takeWhile (fun y => decide (y < x))).length
theorem lb_is {l : List Int} {x : Int} {i : Nat} (hi : i ≤ l.length) (h1 : ∀ k, k < i → l.getD k default < x) (h2 : ∀ k, i ≤ k → k < l.length → ¬ l.getD k default < x) : lb l x = i := by
  have key : ∀ (l : List Int) (i : Nat), i ≤ l.length → (∀ k, k < i → l.getD k default < x) → (∀ k, i ≤ k → k < l.length → ¬ l.getD k default < x) → lb l x = i := by
    intro l
    induction l with
    | nil => intro i hi _ _; simp at hi; subst hi; rfl
    | cons a r ih =>
      intro i hi h1 h2
      unfold lb
      cases i with
      | zero =>
        have := h2 0 (by omega) (by simp)
        have e : ¬ a < x := by simpa using this
        rw [List.takeWhile_cons, if_neg (by simpa using e)]; rfl
      | succ i =>
        have := h1 0 (by omega)
        have e : a < x := by simpa using this
        rw [List.takeWhile_cons, if_pos (by simpa using e), List.length_cons]
        have := ih i (by simpa using hi) (fun k hk => by simpa using h1 (k + 1) (by omega)) (fun k h3 h4 => by simpa using h2 (k + 1) (by omega) (by simpa using h4))
        unfold lb at this
        rw [this]
  exact key l i hi h1 h2
theorem srt_lt {l : List Int} (h : l.Pairwise (· < ·)) {i j : Nat} (hij : i < j) (hj : j < l.length) : l.getD i default < l.getD j default := by
  rw [getD_at (by omega), getD_at hj]
  exact List.pairwise_iff_getElem.1 h i j (by omega) hj hij
/-- found, where it is -/
theorem found_is {l : List Int} {x : Int} {i : Nat} (h1 : ∀ k, k < i → l.getD k default < x) (h2 : ∀ k, i ≤ k → k < l.length → ¬ l.getD k default < x) (hs : l.Pairwise (· < ·)) : x ∈ l ↔ (i < l.length ∧ l.getD i default = x) := by
  constructor
  · intro h
    obtain ⟨k, hk, e⟩ := List.getElem_of_mem h
    have e : l.getD k default = x := by rw [getD_at hk]; exact e
    have hik : i ≤ k := by
      rcases Nat.lt_or_ge k i with q | q
      · have := h1 k q; omega
      · exact q
    refine ⟨by omega, ?_⟩
    by_cases q : i = k
    · subst q; exact e
    · have a := srt_lt hs (i := i) (j := k) (by omega) hk
      have b := h2 i (Nat.le_refl _) (by omega)
      omega
  · rintro ⟨a, b⟩
    rw [← b]; exact getD_mem a
/-! errors -/
def chks (c : Cl) (ds : List Int) : Int := if chk c ≠ 0 then chk c else fb D.chk ds
theorem chks_1 {c : Cl} {ds : List Int} (h : ¬ chk c = 0) : chks c ds = chk c := if_pos h
theorem chks_2 {c : Cl} {ds : List Int} (h : chk c = 0) : chks c ds = fb D.chk ds := if_neg (by omega)
def e1 (c : Cl) (n : Int) : Int := chks c [n]
theorem dchk (n : Int) : (D.chk n = 0 ∧ Day n) ∨ (D.chk n = 3 ∧ ¬ Day n) := by
  by_cases h : Day n
  · exact .inl ⟨D.chk_yes h.1 h.2, h⟩
  · exact .inr ⟨D.chk_no h, h⟩
theorem e1_ok {c : Cl} {n : Int} (h : e1 c n = 0) : Ok c ∧ Day n ∧ chk c = 0 := by
  unfold e1 at h
  by_cases a : chk c = 0
  · rw [chks_2 a] at h
    have := fb_ok h n (by simp)
    rcases dchk n with q | q
    · exact ⟨chk_ok a, q.2, a⟩
    · omega
  · rw [chks_1 a] at h; omega
theorem e1_of {c : Cl} {n : Int} (h : chk c = 0) (k : Day n) : e1 c n = 0 := by
  unfold e1
  rw [chks_2 h]
  exact fb_yes fun d hd => by rw [List.mem_singleton] at hd; subst hd; exact D.chk_yes k.1 k.2
theorem e1_1 {c : Cl} {n : Int} (h : ¬ chk c = 0) : e1 c n = chk c := chks_1 h
theorem e1_2 {c : Cl} {n : Int} (h : chk c = 0) (k : ¬ Day n) : e1 c n = 3 := by
  unfold e1
  rw [chks_2 h]
  have e := D.chk_no k
  show (if D.chk n ≠ 0 then D.chk n else _) = 3
  rw [if_pos (by omega), e]
/-- is it a business day? -/
def isV (c : Cl) (n : Int) : Bool := decide (e1 c n = 0 ∧ op c n = 1)
/-- what is told of a day, or that there is none -/
def toV (d : Int) : Int := if d < 0 then 0 else d
def toE (d : Int) : Int := if d < 0 then 8 else 0
noncomputable def neV (c : Cl) (n : Int) : Int := if e1 c n ≠ 0 then 0 else toV (stU c (n - 1) 1)
noncomputable def neE (c : Cl) (n : Int) : Int := if e1 c n ≠ 0 then e1 c n else toE (stU c (n - 1) 1)
def sE0 (c : Cl) (n m : Int) : Int := if e1 c n ≠ 0 then e1 c n else if m < -500 ∨ 500 < m then 3 else 0
theorem sE0_ok {c : Cl} {n m : Int} (h : sE0 c n m = 0) : e1 c n = 0 ∧ -500 ≤ m ∧ m ≤ 500 := by
  unfold sE0 at h
  split at h
  · exact absurd h ‹_›
  · split at h
    · omega
    · exact ⟨by omega, by omega, by omega⟩
noncomputable def sV (c : Cl) (n m : Int) : Int := if sE0 c n m ≠ 0 then 0 else toV (stp c n m)
noncomputable def sE (c : Cl) (n m : Int) : Int := if sE0 c n m ≠ 0 then sE0 c n m else toE (stp c n m)
def coE (c : Cl) (a b : Int) : Int := if chks c [a, b] ≠ 0 then chks c [a, b] else if b < a then 1 else 0
def coV (c : Cl) (a b : Int) : Int := if coE c a b = 0 then cnt c a b else 0
theorem chks2_ok {c : Cl} {a b : Int} (h : chks c [a, b] = 0) : chk c = 0 ∧ Day a ∧ Day b := by
  by_cases q : chk c = 0
  · rw [chks_2 q] at h
    have h1 := fb_ok h a (by simp)
    have h2 := fb_ok h b (by simp)
    rcases dchk a with x | x <;> rcases dchk b with y | y <;> first | exact ⟨q, x.2, y.2⟩ | omega
  · rw [chks_1 q] at h; omega
theorem coE_ok {c : Cl} {a b : Int} (h : coE c a b = 0) : chk c = 0 ∧ Day a ∧ Day b ∧ a ≤ b := by
  unfold coE at h
  split at h
  · exact absurd h ‹_›
  · split at h
    · omega
    · have := chks2_ok (c := c) (a := a) (b := b) (by omega)
      exact ⟨this.1, this.2.1, this.2.2, by omega⟩
theorem coE_of {c : Cl} {a b : Int} (h : chk c = 0) (ha : Day a) (hb : Day b) (hab : a ≤ b) : coE c a b = 0 := by
  have : chks c [a, b] = 0 := by
    rw [chks_2 h]
    exact fb_yes fun d hd => by
      simp only [List.mem_cons, List.not_mem_nil, or_false] at hd
      rcases hd with rfl | rfl
      · exact D.chk_yes ha.1 ha.2
      · exact D.chk_yes hb.1 hb.2
  unfold coE
  rw [if_neg (by omega), if_neg (by omega)]
theorem eAt_cases {hs : List Int} {k : Nat} {x last : Int} (hx : x = hs.getD k default) (hl : last = if k = 0 then -1 else hs.getD (k - 1) default) :
    (¬ Day x → eAt hs k = 3) ∧ (Day x → x = last → eAt hs k = 6) ∧ (Day x → ¬ x = last → x < last → eAt hs k = 4) ∧ (Day x → ¬ x = last → ¬ x < last → eAt hs k = 0) := by
  subst hx
  unfold eAt Day
  by_cases hk : k = 0
  · subst hk
    rw [if_pos rfl] at hl
    refine ⟨fun h => if_pos h, fun h e => by omega, fun h e q => by omega, fun h e q => ?_⟩
    rw [if_neg (fun z => z h), if_neg (by omega), if_neg (by omega)]
  · rw [if_neg hk] at hl
    refine ⟨fun h => if_pos h, fun h e => ?_, fun h e q => ?_, fun h e q => ?_⟩
    · rw [if_neg (fun z => z h), if_pos (by omega)]
    · rw [if_neg (fun z => z h), if_neg (by omega), if_pos (by omega)]
    · rw [if_neg (fun z => z h), if_neg (by omega), if_neg (by omega)]
theorem smw_bd (c : Cl) (a : Int) : ∀ k : Nat, 0 ≤ sm (wd c) a k ∧ sm (wd c) a k ≤ k
  | 0 => by simp [sm]
  | k + 1 => by
    have := smw_bd c a k
    have := wd_01 c (a + k + 1)
    simp only [sm]; omega
theorem hc_bd (c : Cl) (a b : Int) : ∀ l : List Int, 0 ≤ hc c a b l ∧ hc c a b l ≤ l.length
  | [] => by simp [hc]
  | x :: r => by
    have := hc_bd c a b r
    simp only [hc, List.length_cons]
    split <;> omega
end Ca
end Go.Proofs.Yteblbhbfdfifpaa

/- Plain facts on books: wide sums, keys, totals. -/
namespace Go.Proofs.Yteblbhbfdfifpaa
set_option linter.unusedVariables false
set_option linter.unusedSimpArgs false
namespace Bk
/-! wide sums -/
def wadd (s : Int × Int) (n : Int) : Int × Int := (s.1 + (s.2 + n).tdiv 1152921504606846976, (s.2 + n).tmod 1152921504606846976)
def wst (l : List Int) : Int × Int := l.foldl wadd (0, 0)
theorem wst_snoc (l : List Int) (n : Int) : wst (l ++ [n]) = wadd (wst l) n := by unfold wst; rw [List.foldl_append]; rfl
theorem tdm (x : Int) : x.tdiv 1152921504606846976 * 1152921504606846976 + x.tmod 1152921504606846976 = x ∧ -1152921504606846976 < x.tmod 1152921504606846976 ∧ x.tmod 1152921504606846976 < 1152921504606846976 ∧ (0 ≤ x → 0 ≤ x.tmod 1152921504606846976) ∧ (x ≤ 0 → x.tmod 1152921504606846976 ≤ 0) := by
  refine ⟨by have := Int.mul_tdiv_add_tmod x 1152921504606846976; omega, ?_, ?_, fun h => Int.tmod_nonneg _ h, fun h => ?_⟩
  · have := Int.lt_tmod_of_pos x (show (0 : Int) < 1152921504606846976 by decide); omega
  · exact Int.tmod_lt_of_pos x (by decide)
  · have := Int.tmod_nonneg (a := -x) 1152921504606846976 (by omega)
    rw [Int.neg_tmod] at this
    omega
theorem wadd_spec {s : Int × Int} {n : Int} (h1 : -1152921504606846976 < s.2 ∧ s.2 < 1152921504606846976) (hn : M.Amt n) : (wadd s n).1 * 1152921504606846976 + (wadd s n).2 = s.1 * 1152921504606846976 + s.2 + n ∧ (-1152921504606846976 < (wadd s n).2 ∧ (wadd s n).2 < 1152921504606846976) ∧ s.1 - 1 ≤ (wadd s n).1 ∧ (wadd s n).1 ≤ s.1 + 1 := by
  have d := tdm (s.2 + n)
  unfold M.Amt at hn
  unfold wadd
  simp only
  generalize (s.2 + n).tdiv 1152921504606846976 = q at *
  generalize (s.2 + n).tmod 1152921504606846976 = r at *
  omega
theorem wfold : ∀ (l : List Int) (s : Int × Int), (-1152921504606846976 < s.2 ∧ s.2 < 1152921504606846976) → (∀ a ∈ l, M.Amt a) → (l.foldl wadd s).1 * 1152921504606846976 + (l.foldl wadd s).2 = s.1 * 1152921504606846976 + s.2 + M.sum l ∧ (-1152921504606846976 < (l.foldl wadd s).2 ∧ (l.foldl wadd s).2 < 1152921504606846976) ∧ s.1 - l.length ≤ (l.foldl wadd s).1 ∧ (l.foldl wadd s).1 ≤ s.1 + l.length
  | [], s, h, _ => by simp [M.sum]; omega
  | a :: r, s, h, ha => by
    obtain ⟨w1, w2, w3⟩ := wadd_spec h (ha a (by simp))
    obtain ⟨i1, i2, i3⟩ := wfold r (wadd s a) w2 fun x hx => ha x (by simp [hx])
    simp only [List.foldl_cons, M.sum, List.length_cons]
    refine ⟨by omega, i2, by omega, by omega⟩
theorem wst_spec (l : List Int) (h : ∀ a ∈ l, M.Amt a) : (wst l).1 * 1152921504606846976 + (wst l).2 = M.sum l ∧ (-1152921504606846976 < (wst l).2 ∧ (wst l).2 < 1152921504606846976) ∧ -(l.length : Int) ≤ (wst l).1 ∧ (wst l).1 ≤ l.length := by
  obtain ⟨a, b, c⟩ := wfold l (0, 0) (by decide) h
  refine ⟨by unfold wst; simpa using a, b, ?_⟩
  unfold wst
  simp only at c
  omega
/-! postings -/
def Right (p : Po) : Prop := ((0 ≤ p.ac ∧ p.ac ≤ 100) ∧ (0 ≤ p.ut ∧ p.ut ≤ 20)) ∧ M.Amt p.am ∧ p.am ≠ 0
instance (p : Po) : Decidable (Right p) := by unfold Right M.Amt; exact inferInstance
/-- amounts of a unit -/
def amu (l : List Po) (u : Nat) : List Int := (l.filter fun p => decide (p.ut = (u : Int))).map (·.am)
theorem amu_snoc (l : List Po) (p : Po) (u : Nat) : amu (l ++ [p]) u = amu l u ++ if p.ut = (u : Int) then [p.am] else [] := by
  unfold amu
  rw [List.filter_append, List.map_append]
  congr 1
  by_cases h : p.ut = (u : Int)
  · rw [if_pos h]; simp [h]
  · rw [if_neg h]; simp [h]
theorem amu_amt {l : List Po} (h : ∀ p ∈ l, Right p) (u : Nat) : ∀ a ∈ amu l u, M.Amt a := fun a ha => by
  obtain ⟨p, hp, rfl⟩ := List.mem_map.1 ha
  exact (h p (List.mem_filter.1 hp).1).2.1
theorem amu_len (l : List Po) (u : Nat) : (amu l u).length ≤ l.length := by
  unfold amu
  rw [List.length_map]
  exact List.length_filter_le _ _
def even (l : List Po) : Bool := (List.range 21).all fun u => decide (M.sum (amu l u) = 0)
theorem even_iff (l : List Po) : even l = true ↔ ∀ u, u < 21 → M.sum (amu l u) = 0 := by
  unfold even
  rw [List.all_eq_true]
  exact ⟨fun h u hu => by simpa using h u (List.mem_range.2 hu), fun h u hu => by simpa using h u (List.mem_range.1 hu)⟩
def bad (p : Po) : Bool := !decide (Right p)
def chk (l : List Po) : Int := if l.length = 0 then 1 else if 60 < l.length then 2 else if 0 ≤ ixf bad l then 3 else if even l = true then 0 else 4
theorem chk_cases (l : List Po) : (l.length = 0 ∧ chk l = 1) ∨ (60 < l.length ∧ chk l = 2) ∨ ((0 < l.length ∧ l.length ≤ 60) ∧ 0 ≤ ixf bad l ∧ chk l = 3) ∨ ((0 < l.length ∧ l.length ≤ 60) ∧ ixf bad l < 0 ∧ (∀ p ∈ l, Right p) ∧ even l = false ∧ chk l = 4) ∨ ((0 < l.length ∧ l.length ≤ 60) ∧ ixf bad l < 0 ∧ (∀ p ∈ l, Right p) ∧ even l = true ∧ chk l = 0) := by
  unfold chk
  by_cases h1 : l.length = 0
  · rw [if_pos h1]; exact .inl ⟨h1, rfl⟩
  rw [if_neg h1]
  by_cases h2 : 60 < l.length
  · rw [if_pos h2]; exact .inr (.inl ⟨h2, rfl⟩)
  rw [if_neg h2]
  by_cases h3 : 0 ≤ ixf bad l
  · rw [if_pos h3]; exact .inr (.inr (.inl ⟨by omega, h3, rfl⟩))
  rw [if_neg h3]
  have hr : ∀ p ∈ l, Right p := fun p hp => by
    rcases ixf_cases bad l with ⟨_, a⟩ | ⟨k, e, _⟩
    · have := a p hp
      unfold bad at this
      simpa using this
    · omega
  cases h4 : even l
  · rw [if_neg (by decide)]; exact .inr (.inr (.inr (.inl ⟨by omega, by omega, hr, rfl, rfl⟩)))
  · rw [if_pos rfl]; exact .inr (.inr (.inr (.inr ⟨by omega, by omega, hr, rfl, rfl⟩)))
/-- the order of lines -/
def lx (p q : Po) : Bool := decide (p.ac < q.ac ∨ (p.ac = q.ac ∧ p.ut < q.ut))
def eAt (b : List Po) (k : Nat) : Int := if ¬ Right (b.getD k default) then 3 else if 0 < k ∧ lx (b.getD (k - 1) default) (b.getD k default) = false then 4 else 0
def lines (b : List Po) : Int := if 400 < b.length then 2 else if Ca.fe (eAt b) b.length ≠ 0 then Ca.fe (eAt b) b.length else if even b = true then 0 else 4
structure Lines (b : List Po) : Prop where
  le : b.length ≤ 400
  r : ∀ p ∈ b, Right p
  s : b.Pairwise fun p q => lx p q = true
theorem lx_trans {p q r : Po} (h1 : lx p q = true) (h2 : lx q r = true) : lx p r = true := by
  unfold lx at *
  simp only [decide_eq_true_eq] at *
  omega
theorem fe_ok {b : List Po} (n : b.length ≤ 400) (h : Ca.fe (eAt b) b.length = 0) : Lines b := by
  have a := Ca.fe_ok h
  have e : ∀ k, k < b.length → Right (b.getD k default) ∧ (0 < k → lx (b.getD (k - 1) default) (b.getD k default) = true) := fun k hk => by
    have := a k hk
    unfold eAt at this
    split at this
    · omega
    · rename_i q
      split at this
      · omega
      · rename_i r
        refine ⟨Classical.not_not.1 q, fun h0 => ?_⟩
        cases z : lx (b.getD (k - 1) default) (b.getD k default)
        · exact absurd ⟨h0, z⟩ r
        · rfl
  refine ⟨n, fun p hp => ?_, List.pairwise_iff_getElem.2 fun i j hi hj hij => ?_⟩
  · obtain ⟨i, hi, rfl⟩ := List.getElem_of_mem hp
    rw [← getD_at hi]
    exact (e i hi).1
  · have st : ∀ m, i < m → m < b.length → lx (b.getD i default) (b.getD m default) = true := by
      intro m
      induction m with
      | zero => intro h; omega
      | succ m ih =>
        intro h1 h2
        have h3 := (e (m + 1) h2).2 (by omega)
        rw [Nat.add_sub_cancel] at h3
        by_cases z : i = m
        · subst z; exact h3
        · exact lx_trans (ih (by omega) (by omega)) h3
    have := st j hij hj
    rwa [getD_at hi, getD_at hj] at this
theorem ok_fe {b : List Po} (h : Lines b) : Ca.fe (eAt b) b.length = 0 := Ca.fe_end fun k hk => by
  unfold eAt
  rw [if_neg (fun z => z (h.r _ (getD_mem hk))), if_neg]
  rintro ⟨h0, h1⟩
  have := List.pairwise_iff_getElem.1 h.s (k - 1) k (by omega) hk (by omega)
  rw [← getD_at (l := b) (k := k - 1) (by omega), ← getD_at hk, h1] at this
  cases this
theorem lines_cases (b : List Po) : (400 < b.length ∧ lines b = 2) ∨ (b.length ≤ 400 ∧ Ca.fe (eAt b) b.length ≠ 0 ∧ lines b = Ca.fe (eAt b) b.length) ∨ (Ca.fe (eAt b) b.length = 0 ∧ Lines b ∧ even b = false ∧ lines b = 4) ∨ (Ca.fe (eAt b) b.length = 0 ∧ Lines b ∧ even b = true ∧ lines b = 0) := by
  unfold lines
  by_cases h1 : 400 < b.length
  · rw [if_pos h1]; exact .inl ⟨h1, rfl⟩
  rw [if_neg h1]
  by_cases h2 : Ca.fe (eAt b) b.length = 0
  · rw [if_neg (fun z => z h2)]
    have l := fe_ok (by omega) h2
    cases h3 : even b
    · rw [if_neg (by decide)]; exact .inr (.inr (.inl ⟨h2, l, rfl, rfl⟩))
    · rw [if_pos rfl]; exact .inr (.inr (.inr ⟨h2, l, rfl, rfl⟩))
  · rw [if_pos h2]; exact .inr (.inl ⟨by omega, h2, rfl⟩)
theorem lines_0 {b : List Po} (h : lines b = 0) : Lines b ∧ even b = true := by
  rcases lines_cases b with ⟨_, e⟩ | ⟨_, a, e⟩ | ⟨_, _, _, e⟩ | ⟨_, l, e, _⟩
  · omega
  · omega
  · omega
  · exact ⟨l, e⟩
theorem lines_is {b : List Po} (l : Lines b) (e : even b = true) : lines b = 0 := by
  unfold lines
  rw [if_neg (by have := l.le; omega), if_neg (fun z => z (ok_fe l)), if_pos e]
theorem chk_0 {l : List Po} (h : chk l = 0) : (0 < l.length ∧ l.length ≤ 60) ∧ (∀ p ∈ l, Right p) ∧ even l = true := by
  rcases chk_cases l with ⟨_, e⟩ | ⟨_, e⟩ | ⟨_, _, e⟩ | ⟨_, _, _, _, e⟩ | ⟨a, _, b, c, _⟩
  · omega
  · omega
  · omega
  · omega
  · exact ⟨a, b, c⟩
theorem chk_is {l : List Po} (n : 0 < l.length ∧ l.length ≤ 60) (r : ∀ p ∈ l, Right p) (e : even l = true) : chk l = 0 := by
  rcases chk_cases l with ⟨a, _⟩ | ⟨a, _⟩ | ⟨_, a, _⟩ | ⟨_, _, _, a, _⟩ | ⟨_, _, _, _, a⟩
  · omega
  · omega
  · exfalso
    rcases ixf_cases bad l with ⟨e, _⟩ | ⟨k, _, hk, hp, _⟩
    · omega
    · have := r _ (getD_mem hk)
      unfold bad at hp
      simp only [Bool.not_eq_true', decide_eq_false_iff_not] at hp
      exact hp this
  · rw [e] at a; cases a
  · exact a
end Bk
end Go.Proofs.Yteblbhbfdfifpaa

/- Plain facts on books: keys, totals, a book is its totals. -/
namespace Go.Proofs.Yteblbhbfdfifpaa
set_option linter.unusedVariables false
set_option linter.unusedSimpArgs false
namespace Bk
def key (p : Po) : Nat := (21 * p.ac + p.ut).toNat
theorem key_r {p : Po} (h : Right p) : key p < 2121 ∧ p.ac = ((key p / 21 : Nat) : Int) ∧ p.ut = ((key p % 21 : Nat) : Int) := by
  obtain ⟨⟨h1, h2⟩, _⟩ := h
  unfold key
  omega
theorem key_lx {p q : Po} (hp : Right p) (hq : Right q) : lx p q = true ↔ key p < key q := by
  obtain ⟨⟨h1, h2⟩, _⟩ := hp
  obtain ⟨⟨h3, h4⟩, _⟩ := hq
  unfold lx key
  rw [decide_eq_true_eq]
  omega
theorem key_eq {p q : Po} (hp : Right p) (hq : Right q) : key p = key q ↔ p.ac = q.ac ∧ p.ut = q.ut := by
  obtain ⟨⟨h1, h2⟩, _⟩ := hp
  obtain ⟨⟨h3, h4⟩, _⟩ := hq
  unfold key
  omega
/-- amounts at a key, and their sum -/
def amk (l : List Po) (k : Nat) : List Int := (l.filter fun p => decide (key p = k)).map (·.am)
def tot (l : List Po) (k : Nat) : Int := M.sum (amk l k)
theorem amk_app (b l : List Po) (k : Nat) : amk (b ++ l) k = amk b k ++ amk l k := by unfold amk; rw [List.filter_append, List.map_append]
theorem tot_app (b l : List Po) (k : Nat) : tot (b ++ l) k = tot b k + tot l k := by unfold tot; rw [amk_app, M.sum_append]
theorem sum_perm {l m : List Int} (h : l.Perm m) : M.sum l = M.sum m := by
  induction h with
  | nil => rfl
  | cons x _ ih => simp only [M.sum, ih]
  | swap x y l => simp only [M.sum]; omega
  | trans _ _ h1 h2 => exact h1.trans h2
theorem tot_perm {l m : List Po} (h : l.Perm m) (k : Nat) : tot l k = tot m k := sum_perm ((h.filter _).map _)
theorem tot_none {l : List Po} {k : Nat} (h : ∀ p ∈ l, key p ≠ k) : tot l k = 0 := by
  unfold tot amk
  rw [List.filter_eq_nil_iff.2 fun p hp => by simpa using h p hp]
  rfl
theorem amk_amt {l : List Po} (h : ∀ p ∈ l, Right p) (k : Nat) : ∀ a ∈ amk l k, M.Amt a := fun a ha => by
  obtain ⟨p, hp, rfl⟩ := List.mem_map.1 ha
  exact (h p (List.mem_filter.1 hp).1).2.1
theorem amk_len (l : List Po) (k : Nat) : (amk l k).length ≤ l.length := by
  unfold amk
  rw [List.length_map]
  exact List.length_filter_le _ _
/-- a book of totals -/
def one (T : Nat → Int) (k : Nat) : Option Po := if T k = 0 then none else some ⟨((k / 21 : Nat) : Int), ((k % 21 : Nat) : Int), T k⟩
def out (T : Nat → Int) (n : Nat) : List Po := (List.range n).filterMap (one T)
theorem out_succ (T : Nat → Int) (n : Nat) : out T (n + 1) = out T n ++ if T n = 0 then [] else [⟨((n / 21 : Nat) : Int), ((n % 21 : Nat) : Int), T n⟩] := by
  unfold out
  rw [List.range_succ, List.filterMap_append]
  congr 1
  unfold one
  by_cases h : T n = 0
  · rw [if_pos h]; simp [h]
  · rw [if_neg h]; simp [h]
theorem out_len (T : Nat → Int) (n : Nat) : (out T n).length ≤ n := by
  unfold out
  exact Nat.le_trans (List.length_filterMap_le _ _) (by simp)
theorem out_mono (T : Nat → Int) {m n : Nat} (h : m ≤ n) : (out T m).length ≤ (out T n).length := by
  induction n with
  | zero => rw [show m = 0 by omega]; exact Nat.le_refl _
  | succ n ih =>
    by_cases e : m = n + 1
    · rw [e]; exact Nat.le_refl _
    · rw [out_succ, List.length_append]
      have := ih (by omega)
      omega
theorem out_skip (T : Nat → Int) {m n : Nat} (h : m ≤ n) (z : ∀ k, m ≤ k → k < n → T k = 0) : out T n = out T m := by
  induction n with
  | zero => rw [show m = 0 by omega]
  | succ n ih =>
    by_cases e : m = n + 1
    · rw [e]
    · rw [out_succ, if_pos (z n (by omega) (by omega)), List.append_nil]
      exact ih (by omega) fun k h1 h2 => z k h1 (by omega)
theorem out_mem {T : Nat → Int} {n : Nat} {p : Po} : p ∈ out T n ↔ ∃ k, k < n ∧ T k ≠ 0 ∧ p = ⟨((k / 21 : Nat) : Int), ((k % 21 : Nat) : Int), T k⟩ := by
  unfold out
  rw [List.mem_filterMap]
  constructor
  · rintro ⟨k, hk, e⟩
    unfold one at e
    split at e
    · cases e
    · exact ⟨k, List.mem_range.1 hk, by assumption, (Option.some.inj e).symm⟩
  · rintro ⟨k, hk, h, e⟩
    exact ⟨k, List.mem_range.2 hk, by unfold one; rw [if_neg h, e]⟩
theorem key_out (k : Nat) (n : Int) : key ⟨((k / 21 : Nat) : Int), ((k % 21 : Nat) : Int), n⟩ = k := by
  unfold key; simp only; omega
theorem out_srt (T : Nat → Int) (n : Nat) : (out T n).Pairwise fun p q => key p < key q := by
  induction n with
  | zero => exact List.Pairwise.nil
  | succ n ih =>
    rw [out_succ]
    by_cases h : T n = 0
    · rw [if_pos h, List.append_nil]; exact ih
    · rw [if_neg h]
      refine List.pairwise_append.2 ⟨ih, List.pairwise_singleton _ _, fun p hp q hq => ?_⟩
      obtain ⟨k, hk, _, rfl⟩ := out_mem.1 hp
      rw [List.mem_singleton.1 hq, key_out, key_out]
      exact hk
/-- each key once: the total is the amount -/
theorem tot_in {l : List Po} (s : l.Pairwise fun p q => key p ≠ key q) {p : Po} (hp : p ∈ l) : tot l (key p) = p.am := by
  induction l with
  | nil => cases hp
  | cons q r ih =>
    rw [List.pairwise_cons] at s
    have e : ∀ k, tot (q :: r) k = tot [q] k + tot r k := fun k => tot_app [q] r k
    rw [e]
    rcases List.mem_cons.1 hp with rfl | hr
    · rw [tot_none fun x hx => (s.1 x hx).symm]
      simp [tot, amk, M.sum]
    · rw [ih s.2 hr, tot_none fun x hx => by rw [List.mem_singleton.1 hx]; exact s.1 p hr]
      omega
theorem ne_of_lt {l : List Po} (s : l.Pairwise fun p q => key p < key q) : l.Pairwise fun p q => key p ≠ key q := s.imp fun h => by omega
theorem tot_out {T : Nat → Int} {n k : Nat} (hk : k < n) : tot (out T n) k = T k := by
  by_cases h : T k = 0
  · rw [h]
    refine tot_none fun p hp e => ?_
    obtain ⟨j, hj, hz, rfl⟩ := out_mem.1 hp
    rw [key_out] at e
    subst e
    exact hz h
  · have := tot_in (ne_of_lt (out_srt T n)) (out_mem.2 ⟨k, hk, h, rfl⟩)
    rwa [key_out] at this
theorem lines_srt {b : List Po} (h : Lines b) : b.Pairwise fun p q => key p < key q := by
  refine List.pairwise_iff_getElem.2 fun i j hi hj hij => ?_
  exact (key_lx (h.r _ (List.getElem_mem hi)) (h.r _ (List.getElem_mem hj))).1 (List.pairwise_iff_getElem.1 h.s i j hi hj hij)
/-- a book is its totals -/
theorem is_out {b : List Po} (h : Lines b) : b = out (tot b) 2121 := by
  have s := lines_srt h
  refine List.Perm.eq_of_pairwise (le := fun p q => key p < key q) (fun p q _ _ h1 h2 => by omega) s (out_srt _ _) ?_
  refine (List.perm_ext_iff_of_nodup (s.imp fun h e => by subst e; omega) ((out_srt _ _).imp fun h e => by subst e; omega)).2 fun p => ?_
  constructor
  · intro hp
    obtain ⟨k1, k2, k3⟩ := key_r (h.r p hp)
    have t := tot_in (ne_of_lt s) hp
    refine out_mem.2 ⟨key p, k1, by rw [t]; exact (h.r p hp).2.2, ?_⟩
    rw [t, ← k2, ← k3]
  · intro hp
    obtain ⟨k, hk, hz, rfl⟩ := out_mem.1 hp
    have : ∃ q ∈ b, key q = k := Classical.byContradiction fun z => hz (tot_none fun q hq e => z ⟨q, hq, e⟩)
    obtain ⟨q, hq, rfl⟩ := this
    obtain ⟨k1, k2, k3⟩ := key_r (h.r q hq)
    rw [tot_in (ne_of_lt s) hq, ← k2, ← k3]
    exact hq
/-! a unit's amounts, account by account -/
def su (T : Nat → Int) (u : Nat) : Nat → Int
  | 0 => 0
  | a + 1 => su T u a + T (21 * a + u)
theorem su_add (S T : Nat → Int) (u : Nat) : ∀ a, su (fun k => S k + T k) u a = su S u a + su T u a
  | 0 => rfl
  | a + 1 => by simp only [su, su_add S T u a]; omega
theorem su_congr {S T : Nat → Int} {u : Nat} : ∀ {a : Nat}, (∀ j, j < a → S (21 * j + u) = T (21 * j + u)) → su S u a = su T u a
  | 0, _ => rfl
  | a + 1, h => by simp only [su, su_congr (a := a) fun j hj => h j (by omega), h a (by omega)]
theorem su_one (p : Po) (u : Nat) (hu : u < 21) (h : Right p) : ∀ a, su (tot [p]) u a = if p.ut = (u : Int) ∧ p.ac < (a : Int) then p.am else 0
  | 0 => by
    rw [if_neg (by have := h.1.1.1; omega)]; rfl
  | a + 1 => by
    obtain ⟨⟨h1, h2⟩, _⟩ := h
    have e : tot [p] (21 * a + u) = if p.ut = (u : Int) ∧ p.ac = (a : Int) then p.am else 0 := by
      by_cases q : key p = 21 * a + u
      · have : p.ut = (u : Int) ∧ p.ac = (a : Int) := by unfold key at q; omega
        rw [if_pos this]
        simp [tot, amk, q, M.sum]
      · have : ¬ (p.ut = (u : Int) ∧ p.ac = (a : Int)) := fun z => q (by unfold key; omega)
        rw [if_neg this]
        exact tot_none fun x hx => by rw [List.mem_singleton.1 hx]; exact q
    simp only [su]
    rw [su_one p u hu ⟨⟨h1, h2⟩, by assumption⟩ a, e]
    by_cases q : p.ut = (u : Int)
    · by_cases r : p.ac < (a : Int)
      · rw [if_pos ⟨q, r⟩, if_neg (by omega), if_pos ⟨q, by omega⟩]; omega
      · by_cases s : p.ac = (a : Int)
        · rw [if_neg (by omega), if_pos ⟨q, s⟩, if_pos ⟨q, by omega⟩]; omega
        · rw [if_neg (by omega), if_neg (by omega), if_neg (by omega)]; rfl
    · rw [if_neg (fun z => q z.1), if_neg (fun z => q z.1), if_neg (fun z => q z.1)]; rfl
theorem su_all : ∀ {l : List Po}, (∀ p ∈ l, Right p) → ∀ u, u < 21 → M.sum (amu l u) = su (tot l) u 101
  | [], _, u, _ => by
    have : ∀ a, su (tot []) u a = 0 := fun a => by
      induction a with
      | zero => rfl
      | succ a ih => simp only [su, ih]; rfl
    rw [this]; rfl
  | p :: r, h, u, hu => by
    have ih := su_all (l := r) (fun q hq => h q (by simp [hq])) u hu
    have e : su (tot (p :: r)) u 101 = su (tot [p]) u 101 + su (tot r) u 101 := by
      rw [← su_add]
      exact su_congr fun j _ => tot_app [p] r _
    have hp := h p (by simp)
    rw [e, su_one p u hu hp, ← ih]
    have : amu (p :: r) u = (if p.ut = (u : Int) then [p.am] else []) ++ amu r u := by
      unfold amu
      rw [List.filter_cons]
      by_cases q : p.ut = (u : Int)
      · simp [q]
      · simp [q]
    rw [this, M.sum_append]
    refine congrArg (· + M.sum (amu r u)) ?_
    have ac := hp.1.1.2
    have w : p.ut = (u : Int) → p.ut = (u : Int) ∧ p.ac < ((101 : Nat) : Int) := fun q => ⟨q, by omega⟩
    generalize ((101 : Nat) : Int) = N at *
    by_cases q : p.ut = (u : Int)
    · rw [if_pos q, if_pos (w q)]
      show p.am + 0 = p.am
      omega
    · rw [if_neg q, if_neg (fun z => q z.1)]; rfl
theorem even_su {l : List Po} (h : ∀ p ∈ l, Right p) : even l = true ↔ ∀ u, u < 21 → su (tot l) u 101 = 0 := by
  rw [even_iff]
  exact ⟨fun q u hu => by rw [← su_all h u hu]; exact q u hu, fun q u hu => by rw [su_all h u hu]; exact q u hu⟩
/-! what is posted -/
def wideT (T : Nat → Int) : Bool := (List.range 2121).any fun k => !decide (M.Amt (T k))
theorem wide_no {T : Nat → Int} (h : wideT T = false) (k : Nat) (hk : k < 2121) : M.Amt (T k) := by
  refine Classical.byContradiction fun z => ?_
  have : wideT T = true := List.any_eq_true.2 ⟨k, List.mem_range.2 hk, by simp [z]⟩
  rw [h] at this; cases this
theorem wide_yes {T : Nat → Int} {k : Nat} (hk : k < 2121) (h : ¬ M.Amt (T k)) : wideT T = true := List.any_eq_true.2 ⟨k, List.mem_range.2 hk, by simp [h]⟩
theorem no_wide {T : Nat → Int} (h : ∀ k, k < 2121 → M.Amt (T k)) : wideT T = false := by
  cases q : wideT T
  · rfl
  · obtain ⟨k, hk, e⟩ := List.any_eq_true.1 q
    have := h k (List.mem_range.1 hk)
    simp [this] at e
def mE (T : Nat → Int) : Int := if wideT T = true then 8 else if 400 < (out T 2121).length then 2 else 0
def mL (T : Nat → Int) : List Po := if mE T = 0 then out T 2121 else []
def pE (b l : List Po) : Int := if lines b ≠ 0 then lines b else if chk l ≠ 0 then chk l else mE (tot (b ++ l))
def pL (b l : List Po) : List Po := if pE b l = 0 then out (tot (b ++ l)) 2121 else []
theorem out_right {T : Nat → Int} (h : ∀ k, k < 2121 → M.Amt (T k)) : ∀ p ∈ out T 2121, Right p := fun p hp => by
  obtain ⟨k, hk, hz, rfl⟩ := out_mem.1 hp
  exact ⟨⟨by simp only; omega, by simp only; omega⟩, h k hk, hz⟩
theorem out_lines {T : Nat → Int} (h : ∀ k, k < 2121 → M.Amt (T k)) (n : (out T 2121).length ≤ 400) : Lines (out T 2121) := by
  have r := out_right h
  refine ⟨n, r, ?_⟩
  refine List.pairwise_iff_getElem.2 fun i j hi hj hij => ?_
  exact (key_lx (r _ (List.getElem_mem hi)) (r _ (List.getElem_mem hj))).2 (List.pairwise_iff_getElem.1 (out_srt T 2121) i j hi hj hij)
theorem pE_cases (b l : List Po) : (¬ lines b = 0 ∧ pE b l = lines b) ∨ (lines b = 0 ∧ ¬ chk l = 0 ∧ pE b l = chk l) ∨ (lines b = 0 ∧ chk l = 0 ∧ pE b l = mE (tot (b ++ l))) := by
  unfold pE
  by_cases h1 : lines b = 0
  · rw [if_neg (fun z => z h1)]
    by_cases h2 : chk l = 0
    · rw [if_neg (fun z => z h2)]; exact .inr (.inr ⟨h1, h2, rfl⟩)
    · rw [if_pos h2]; exact .inr (.inl ⟨h1, h2, rfl⟩)
  · rw [if_pos h1]; exact .inl ⟨h1, rfl⟩
theorem mE_0 {T : Nat → Int} (h : mE T = 0) : (∀ k, k < 2121 → M.Amt (T k)) ∧ (out T 2121).length ≤ 400 := by
  unfold mE at h
  split at h
  · omega
  · rename_i w
    split at h
    · omega
    · exact ⟨wide_no (by simpa using w), by omega⟩
theorem mE_is {T : Nat → Int} (h : ∀ k, k < 2121 → M.Amt (T k)) : mE T = if 400 < (out T 2121).length then 2 else 0 := by
  unfold mE
  rw [if_neg (by rw [no_wide h]; decide)]
/-- wide sums of units -/
def ws (l : List Po) (k q : Nat) : Int × Int := wst (amu (l.take k) q)
theorem ws_0 (l : List Po) (q : Nat) : ws l 0 q = (0, 0) := rfl
theorem ws_succ {l : List Po} {k : Nat} (h : k < l.length) (u : Nat) (hu : (l.getD k default).ut = (u : Int)) (q : Nat) : ws l (k + 1) q = if q = u then wadd (ws l k u) (l.getD k default).am else ws l k q := by
  unfold ws
  rw [show l.take (k + 1) = l.take k ++ [l.getD k default] by rw [getD_at h, List.take_succ_eq_append_getElem h], amu_snoc, hu]
  by_cases e : q = u
  · rw [if_pos (by rw [e]), if_pos e, wst_snoc, e]
  · rw [if_neg (by omega), if_neg e, List.append_nil]
theorem ws_spec {l : List Po} (hr : ∀ p ∈ l, Right p) (k u : Nat) : (ws l k u).1 * 1152921504606846976 + (ws l k u).2 = M.sum (amu (l.take k) u) ∧ (-1152921504606846976 < (ws l k u).2 ∧ (ws l k u).2 < 1152921504606846976) ∧ -(l.length : Int) ≤ (ws l k u).1 ∧ (ws l k u).1 ≤ l.length := by
  obtain ⟨a, b, c⟩ := wst_spec (amu (l.take k) u) (amu_amt (fun p hp => hr p (List.mem_of_mem_take hp)) u)
  have d := amu_len (l.take k) u
  have e : (l.take k).length ≤ l.length := by rw [List.length_take]; omega
  unfold ws
  exact ⟨a, b, by omega, by omega⟩
/-- one place changed -/
def put (W : Nat → Int × Int) (u : Nat) (x : Int × Int) (q : Nat) : Int × Int := if q = u then x else W q
theorem put_u (W : Nat → Int × Int) (u : Nat) (x : Int × Int) : put W u x u = x := if_pos rfl
theorem put_2 (W : Nat → Int × Int) (u : Nat) (x y : Int × Int) : put (put W u x) u y = put W u y := funext fun q => by
  unfold put
  by_cases e : q = u
  · rw [if_pos e, if_pos e]
  · rw [if_neg e, if_neg e, if_neg e]
end Bk
end Go.Proofs.Yteblbhbfdfifpaa

/- What the functions on books answer: wide sums, the order, what is right. -/
namespace Go.Proofs.Yteblbhbfdfifpaa
open Go Go.Sort Go.RowKit V
set_option maxRecDepth 100000
set_option linter.unusedVariables false
set_option linter.unusedSimpArgs false
set_option maxHeartbeats 4000000
theorem v_order (p q : Po) : V.Fn Try.prog 70 [] [.agg [.val (.int .i64 p.ac), .val (.int .i64 p.ut), .val (.int .i64 p.am)], .agg [.val (.int .i64 q.ac), .val (.int .i64 q.ut), .val (.int .i64 q.am)]] (.int .i64 (orI (cmpI p.ac q.ac) (cmpI p.ut q.ut))) := by
  have c1 := v_compare p.ac q.ac
  have c2 := v_compare p.ut q.ut
  have c3 := v_or (cmpI p.ac q.ac) (cmpI p.ut q.ut)
  generalize cmpI p.ac q.ac = C1 at *
  generalize cmpI p.ut q.ut = C2 at *
  refine V.Fn.mk_ V.Tok V.mixed Try.func70 rfl Try.ntmps70 (by kernel_rfl) rfl rfl ?_
  repeat' ((conv => whnf); first | refine V.NCond.mk ?_ | refine V.NIf.not_ ?_ | refine V.NIf.dec_ ?_ | refine V.NIf.no (by omega) ?_ | refine V.NIf.yes (by omega) ?_ | refine V.NIf.mk (fun _ => ?_) (fun _ => ?_) | refine V.NWrap.ok (by omega) (by omega) ?_ | refine V.NWrap.u64 (by omega) (by omega) ?_ | refine V.NLt.mk (by omega) ?_ | refine V.NBoth.mk ?_ ?_ | refine V.NTF.yes (by omega) ?_ | refine V.NTF.no (by omega) ?_ | refine V.NTF.dec ?_ | refine V.NDraw.q (by exact rfl) (by kernel_rfl) ?_ | refine V.NApp.one (by first | omega | (simp; omega)) (by first | omega | (simp; omega)) ?_ | (first | refine V.Fn.k0 (c1) rfl ?_ | refine V.Fn.q0 (c1) rfl ?_ | refine V.Fn.a0 (c1) rfl ?_) | (first | refine V.Fn.k0 (c2) rfl ?_ | refine V.Fn.q0 (c2) rfl ?_ | refine V.Fn.a0 (c2) rfl ?_) | ((first | (first | refine V.Fn.k (c3) [2] rfl ?_ ?_ | refine V.Fn.q (c3) [2] rfl ?_ ?_ | refine V.Fn.a (c3) [2] rfl ?_ ?_); · ((repeat' (first | exact rfl | exact Iff.rfl | exact trivial | exact (fun _ _ => rfl) | exact (fun _ h => absurd h (Nat.not_lt_zero _)) | refine ⟨?_, ?_⟩ | exact Iff.rfl | exact congrArg (fun z => V.SV.one (V.At.val (Value.int .i64 z))) (by omega))); done) | (first | refine V.Fn.k (c3) [3] rfl ?_ ?_ | refine V.Fn.q (c3) [3] rfl ?_ ?_ | refine V.Fn.a (c3) [3] rfl ?_ ?_); · ((repeat' (first | exact rfl | exact Iff.rfl | exact trivial | exact (fun _ _ => rfl) | exact (fun _ h => absurd h (Nat.not_lt_zero _)) | refine ⟨?_, ?_⟩ | exact Iff.rfl | exact congrArg (fun z => V.SV.one (V.At.val (Value.int .i64 z))) (by omega))); done))) | (refine V.NDraw.any (by kernel_rfl) ?_) | fail)
  all_goals (conv => whnf)
  all_goals exact V.fin1 rfl
theorem order_lt (p q : Po) : decide (orI (cmpI p.ac q.ac) (cmpI p.ut q.ut) < 0) = Bk.lx p q := orI_lt _ _ _ _
theorem order_ge (p q : Po) : 0 ≤ orI (cmpI p.ac q.ac) (cmpI p.ut q.ut) ↔ Bk.lx p q = false := by
  have := order_lt p q
  rw [← this, decide_eq_false_iff_not]
  omega
theorem order_eq (p q : Po) : orI (cmpI p.ac q.ac) (cmpI p.ut q.ut) = 0 ↔ p.ac = q.ac ∧ p.ut = q.ut := by
  have z : ∀ a b, cmpI a b = 0 ↔ a = b := fun a b => by
    unfold cmpI
    by_cases q : a < b
    · rw [if_pos q]; omega
    · rw [if_neg q]
      by_cases q2 : b < a
      · rw [if_pos q2]; omega
      · rw [if_neg q2]; omega
  unfold orI
  by_cases h : cmpI p.ac q.ac = 0
  · rw [if_pos h, z]
    have := (z _ _).1 h
    omega
  · rw [if_neg h]
    exact ⟨fun e => absurd e h, fun e => absurd ((z _ _).2 e.1) h⟩
theorem v_bkKnown (a u : Int) : V.Fn Try.prog 68 [] [.one (.val (.int .i64 a)), .one (.val (.int .i64 u))] (.bool (decide ((0 ≤ a ∧ a ≤ 100) ∧ (0 ≤ u ∧ u ≤ 20)))) := by
  refine V.Fn.mk_ V.Tok V.mixed Try.func68 rfl Try.ntmps68 (by kernel_rfl) rfl rfl ?_
  repeat' ((conv => whnf); first | refine V.NCond.mk ?_ | refine V.NIf.not_ ?_ | refine V.NIf.dec_ ?_ | refine V.NIf.no (by omega) ?_ | refine V.NIf.yes (by omega) ?_ | refine V.NIf.mk (fun _ => ?_) (fun _ => ?_) | refine V.NWrap.ok (by omega) (by omega) ?_ | refine V.NWrap.u64 (by omega) (by omega) ?_ | refine V.NLt.mk (by omega) ?_ | refine V.NBoth.mk ?_ ?_ | refine V.NTF.yes (by omega) ?_ | refine V.NTF.no (by omega) ?_ | refine V.NTF.dec ?_ | refine V.NDraw.q (by exact rfl) (by kernel_rfl) ?_ | refine V.NApp.one (by first | omega | (simp; omega)) (by first | omega | (simp; omega)) ?_ | (refine V.NDraw.any (by kernel_rfl) ?_) | fail)
  all_goals (conv => whnf)
  all_goals first
    | rfl
    | exact ⟨_, rfl, by rw [decide_eq_true_eq]; omega⟩
    | (exact congrArg Value.bool (by simp; omega))
    | trace_state
theorem v_bkRight (p : Po) : V.Fn Try.prog 57 [] [.agg [.val (.int .i64 p.ac), .val (.int .i64 p.ut), .val (.int .i64 p.am)]] (.bool (decide (Bk.Right p))) := by
  have c := v_bkKnown p.ac p.ut
  have d := v_check p.am
  have e : M.chk p.am = 0 ↔ M.Amt p.am := ⟨fun q => Classical.byContradiction fun z => by rw [M.chk_no z] at q; omega, M.chk_yes⟩
  have r : Bk.Right p ↔ ((0 ≤ p.ac ∧ p.ac ≤ 100) ∧ (0 ≤ p.ut ∧ p.ut ≤ 20)) ∧ M.chk p.am = 0 ∧ p.am ≠ 0 := by rw [e]; exact Iff.rfl
  generalize M.chk p.am = C at *
  refine V.Fn.mk_ V.Tok V.mixed Try.func57 rfl Try.ntmps57 (by kernel_rfl) rfl rfl ?_
  repeat' ((conv => whnf); first | refine V.NCond.mk ?_ | refine V.NIf.not_ ?_ | refine V.NIf.dec_ ?_ | refine V.NIf.no (by omega) ?_ | refine V.NIf.yes (by omega) ?_ | refine V.NIf.mk (fun _ => ?_) (fun _ => ?_) | refine V.NWrap.ok (by omega) (by omega) ?_ | refine V.NWrap.u64 (by omega) (by omega) ?_ | refine V.NLt.mk (by omega) ?_ | refine V.NBoth.mk ?_ ?_ | refine V.NTF.yes (by omega) ?_ | refine V.NTF.no (by omega) ?_ | refine V.NTF.dec ?_ | refine V.NDraw.q (by exact rfl) (by kernel_rfl) ?_ | refine V.NApp.one (by first | omega | (simp; omega)) (by first | omega | (simp; omega)) ?_ | (first | refine V.Fn.k0 (c) rfl ?_ | refine V.Fn.q0 (c) rfl ?_ | refine V.Fn.a0 (c) rfl ?_) | (first | refine V.Fn.k0 (d) rfl ?_ | refine V.Fn.q0 (d) rfl ?_ | refine V.Fn.a0 (d) rfl ?_) | (refine V.NDraw.any (by kernel_rfl) ?_) | fail)
  all_goals (conv => whnf)
  all_goals first
    | rfl
    | exact ⟨_, rfl, by rw [decide_eq_true_eq, r]; omega⟩
    | (exact congrArg Value.bool (by simp only [r]; simp; omega))
    | trace_state
end Go.Proofs.Yteblbhbfdfifpaa

/- What slices.SortStableFunc answers on postings, by book.order. -/
namespace Go.Proofs.Yteblbhbfdfifpaa
open Go Go.Sort Go.RowKit V
set_option maxRecDepth 100000
set_option linter.unusedVariables false
set_option linter.unusedSimpArgs false
set_option maxHeartbeats 4000000
def ltP (x y : PtT) : Bool := Bk.lx x.q y.q || (!Bk.lx y.q x.q && decide (x.tg < y.tg))
theorem swoP : SWO ltP where
  irrefl x := by unfold ltP Bk.lx; simp
  trans x y z := by
    unfold ltP Bk.lx
    simp only [Bool.or_eq_true, Bool.and_eq_true, Bool.not_eq_true', decide_eq_true_eq, decide_eq_false_iff_not]
    omega
  ntrans x y z := by
    unfold ltP Bk.lx
    simp only [Bool.or_eq_false_iff, Bool.and_eq_false_iff, Bool.not_eq_false', decide_eq_false_iff_not, decide_eq_true_eq]
    omega
def dP (l : List Po) : Array PtT := (l.mapIdx fun i p => (⟨p, i⟩ : PtT)).toArray
theorem dP_sz (l : List Po) : (dP l).size = l.length := by simp [dP]
theorem dP_at {l : List Po} {i : Nat} (h : i < l.length) : (dP l)[i]! = ⟨l.getD i default, i⟩ := by
  rw [getElem!_pos _ i (by rw [dP_sz]; exact h), getD_at h]
  simp [dP]
theorem ga_dP (l : List Po) : ga encTP (dP l).toList = ga encP l := by
  funext k
  unfold ga
  by_cases h : k < l.length
  · rw [arr_getP, dP_at h]; rfl
  · rw [List.getD_eq_getElem?_getD, List.getD_eq_getElem?_getD, List.getElem?_eq_none (by rw [Array.length_toList, dP_sz]; omega), List.getElem?_eq_none (by omega)]
    rfl
theorem v_sortP (nx : Nat) (O : Obs) (hT : Tail (nx + 1) O) (l : List Po) (hn : l.length ≤ 1152921504606846975) :
    Fam Try.prog 81 [.one (.ref 0), .one (.clo 70 [])] 56 3 l.length (ga encP l) nx O (fun r => ∃ S : List Po, S.Perm l ∧ S.Pairwise (fun p q => Bk.lx q p = false) ∧ ∀ k, k < l.length → r k = ga encP S k) := by
  have c := v_stabP nx O hT 70 (fun x y => orI (cmpI x.q.ac y.q.ac) (cmpI x.q.ut y.q.ut)) (fun x y => v_order x.q y.q) ltP swoP (fun x y h => by
    show decide (orI (cmpI y.q.ac x.q.ac) (cmpI y.q.ut x.q.ut) < 0) = ltP y x
    rw [order_lt]
    unfold ltP
    rw [show decide (y.tg < x.tg) = false by simp; omega, Bool.and_false, Bool.or_false]) (dP l) (by rw [dP_sz]; exact hn) (fun i hi => by rw [dP_sz] at hi; rw [dP_at hi])
  rw [dP_sz, ga_dP] at c
  have done : ∀ d' : Array PtT, PermIn 0 l.length (dP l) d' → SortedIn ltP 0 l.length d' → ∃ S : List Po, S.Perm l ∧ S.Pairwise (fun p q => Bk.lx q p = false) ∧ ∀ k, k < l.length → ga encTP d'.toList k = ga encP S k := fun d' P s => by
    have s1 : d'.size = l.length := by rw [P.1, dP_sz]
    have p : d'.toList.Perm (dP l).toList := by
      have := P.2.2
      rwa [show d'.extract 0 l.length = d' by rw [← s1]; simp, show (dP l).extract 0 l.length = dP l by rw [← dP_sz l]; simp] at this
    have em : (dP l).toList.map PtT.q = l := by
      refine List.ext_getElem (by simp [dP]) fun i h1 h2 => ?_
      simp [dP]
    refine ⟨d'.toList.map PtT.q, by have := p.map PtT.q; rwa [em] at this, ?_, fun k hk => ?_⟩
    · refine List.pairwise_map.2 (List.pairwise_iff_getElem.2 fun i j hi hj hij => ?_)
      have q := s i j (Nat.zero_le _) hij (by simpa [s1] using hj)
      rw [← arr_getP, ← arr_getP, getD_at hi, getD_at hj] at q
      unfold ltP at q
      rw [Bool.or_eq_false_iff] at q
      exact q.1
    · unfold ga
      have h1 : k < d'.toList.length := by rw [Array.length_toList, s1]; exact hk
      rw [getD_at h1, getD_at (by rw [List.length_map]; exact h1), List.getElem_map]
      rfl
  refine Fam.mk hT ?_
  refine V.NCall.inl (f := 81) V.Tok V.mixed Try.func81 rfl Try.ntmps81 (by kernel_rfl) rfl ?_
  repeat' ((conv => whnf); first | refine V.NCond.mk ?_ | refine V.NIf.not_ ?_ | refine V.NIf.dec_ ?_ | refine V.NIf.no (by omega) ?_ | refine V.NIf.yes (by omega) ?_ | refine V.NIf.mk (fun _ => ?_) (fun _ => ?_) | refine V.NWrap.ok (by omega) (by omega) ?_ | refine V.NWrap.u64 (by omega) (by omega) ?_ | refine V.NLt.mk (by omega) ?_ | refine V.NBoth.mk ?_ ?_ | refine V.NTF.yes (by omega) ?_ | refine V.NTF.no (by omega) ?_ | refine V.NTF.dec ?_ | refine V.NDraw.q (by exact rfl) (by kernel_rfl) ?_ | refine V.NApp.one (by first | omega | (simp; omega)) (by first | omega | (simp; omega)) ?_ | (refine Fam.use c hT [(0, _)] rfl rfl rfl (fun k hk => rfl) ?_; rintro g1 ⟨d', P, S, rfl⟩) | (refine V.NDraw.any (by kernel_rfl) ?_) | fail)
  all_goals (conv => whnf)
  exact ⟨rfl, rfl, [(0, _)], _, rfl, rfl, rfl, done d' P S⟩
end Go.Proofs.Yteblbhbfdfifpaa

/- What the functions on books answer: even, Check, Lines. -/
namespace Go.Proofs.Yteblbhbfdfifpaa
open Go Go.Sort Go.RowKit V
set_option maxRecDepth 100000
set_option linter.unusedVariables false
set_option linter.unusedSimpArgs false
set_option maxHeartbeats 4000000
theorem arr2 {n k : Nat} {v : Go.Value} (h : k < n) : ((List.replicate (n * 2) v).drop (k * 2)).take 2 = [v, v] := by
  rw [List.drop_replicate, List.take_replicate, show min 2 (n * 2 - k * 2) = 2 by omega]
  rfl
theorem v_bkBad (p : Po) : V.Fn Try.prog 56 [] [.agg [.val (.int .i64 p.ac), .val (.int .i64 p.ut), .val (.int .i64 p.am)]] (.bool (Bk.bad p)) := by
  refine V.Fn.mk_ V.Tok V.mixed Try.func56 rfl Try.ntmps56 (by kernel_rfl) rfl rfl ?_
  repeat' ((conv => whnf); first | refine V.NCond.mk ?_ | refine V.NIf.not_ ?_ | refine V.NIf.dec_ ?_ | refine V.NIf.no (by omega) ?_ | refine V.NIf.yes (by omega) ?_ | refine V.NIf.mk (fun _ => ?_) (fun _ => ?_) | refine V.NWrap.ok (by omega) (by omega) ?_ | refine V.NWrap.u64 (by omega) (by omega) ?_ | refine V.NLt.mk (by omega) ?_ | refine V.NBoth.mk ?_ ?_ | refine V.NTF.yes (by omega) ?_ | refine V.NTF.no (by omega) ?_ | refine V.NTF.dec ?_ | refine V.NDraw.q (by exact rfl) (by kernel_rfl) ?_ | refine V.NApp.one (by first | omega | (simp; omega)) (by first | omega | (simp; omega)) ?_ | (first | refine V.Fn.k0 (v_bkRight p) rfl ?_ | refine V.Fn.q0 (v_bkRight p) rfl ?_ | refine V.Fn.a0 (v_bkRight p) rfl ?_) | (refine V.NDraw.any (by kernel_rfl) ?_) | fail)
  all_goals (conv => whnf)
  all_goals first
    | rfl
    | exact ⟨_, rfl, by unfold Bk.bad; simp⟩
    | (exact congrArg Value.bool (by unfold Bk.bad; simp; omega))
    | trace_state
theorem v_indexP (l : List Po) (f : FuncId) (p : Po → Bool) (hn : l.length ≤ 9223372036854775807) (hf : ∀ k, k < l.length → V.Fn Try.prog f [] [.agg [.val (.int .i64 (l.getD k default).ac), .val (.int .i64 (l.getD k default).ut), .val (.int .i64 (l.getD k default).am)]] (.bool (p (l.getD k default)))) :
    V.Fn Try.prog 75 [.arr 3 l.length (ga encP l)] [.one (.ref 0), .one (.clo f [])] (.int .i64 (ixf p l)) := by
  refine V.Fn.mk_ V.Tok V.mixed Try.func75 rfl Try.ntmps75 (by kernel_rfl) rfl rfl ?_
  repeat' ((conv => whnf); first | refine V.NCond.mk ?_ | refine V.NIf.not_ ?_ | refine V.NIf.dec_ ?_ | refine V.NIf.no (by omega) ?_ | refine V.NIf.yes (by omega) ?_ | refine V.NIf.mk (fun _ => ?_) (fun _ => ?_) | refine V.NWrap.ok (by omega) (by omega) ?_ | refine V.NWrap.u64 (by omega) (by omega) ?_ | refine V.NLt.mk (by omega) ?_ | refine V.NBoth.mk ?_ ?_ | refine V.NTF.yes (by omega) ?_ | refine V.NTF.no (by omega) ?_ | refine V.NTF.dec ?_ | refine V.NDraw.q (by exact rfl) (by kernel_rfl) ?_ | refine V.NApp.one (by first | omega | (simp; omega)) (by first | omega | (simp; omega)) ?_ | (refine V.NDraw.any (by kernel_rfl) ?_) | fail)
  refine V.NLoop.auto (fun (k : Nat) => [(8, .one (.val (.int .i64 k)))]) (fun (k : Nat) => []) [] [] (fun (k : Nat) => l.length - k) (fun (k : Nat) => k ≤ l.length ∧ ∀ d ∈ l.take k, p d = false) 0 ⟨by omega, by simp⟩ (by repeat' (first | exact rfl | exact Iff.rfl | exact trivial | exact (fun _ _ => rfl) | exact (fun _ h => absurd h (Nat.not_lt_zero _)) | refine ⟨?_, ?_⟩ | exact Iff.rfl | exact congrArg (fun z => V.SV.one (V.At.val (Value.int .i64 z))) (by omega))) (by repeat' (first | exact rfl | exact Iff.rfl | exact trivial | exact (fun _ _ => rfl) | exact (fun _ h => absurd h (Nat.not_lt_zero _)) | refine ⟨?_, ?_⟩ | exact Iff.rfl | exact congrArg (fun z => V.SV.one (V.At.val (Value.int .i64 z))) (by omega))) (fun _ => ⟨rfl, rfl⟩) ?_; (conv => whnf); refine ⟨⟨rfl, rfl⟩, ?_⟩
  rintro k ⟨hk, hJ⟩
  repeat' ((conv => whnf); first | refine V.NCond.mk ?_ | refine V.NIf.not_ ?_ | refine V.NIf.dec_ ?_ | refine V.NIf.no (by omega) ?_ | refine V.NIf.yes (by omega) ?_ | refine V.NIf.mk (fun _ => ?_) (fun _ => ?_) | refine V.NWrap.ok (by omega) (by omega) ?_ | refine V.NWrap.u64 (by omega) (by omega) ?_ | refine V.NLt.mk (by omega) ?_ | refine V.NBoth.mk ?_ ?_ | refine V.NTF.yes (by omega) ?_ | refine V.NTF.no (by omega) ?_ | refine V.NTF.dec ?_ | refine V.NDraw.q (by exact rfl) (by kernel_rfl) ?_ | refine V.NApp.one (by first | omega | (simp; omega)) (by first | omega | (simp; omega)) ?_ | (refine NIdx.mk ⟨_, rfl, by omega, ?_⟩) | (first | refine V.Fn.k0 (hf k (by omega)) rfl ?_ | refine V.Fn.q0 (hf k (by omega)) rfl ?_ | refine V.Fn.a0 (hf k (by omega)) rfl ?_) | (refine V.NDraw.any (by kernel_rfl) ?_) | fail)
  all_goals (conv => whnf)
  · exact V.fin1 (ixf_get (by omega) hJ (by assumption))
  · exact V.NBack.at_ (k + 1) [] ⟨by omega, all_snoc (by omega) hJ (by simpa using ‹¬ p (l.getD k default) = true›)⟩ (by omega) (by repeat' (first | exact rfl | exact Iff.rfl | exact trivial | exact (fun _ _ => rfl) | exact (fun _ h => absurd h (Nat.not_lt_zero _)) | refine ⟨?_, ?_⟩ | exact Iff.rfl | exact congrArg (fun z => V.SV.one (V.At.val (Value.int .i64 z))) (by omega))) rfl (by repeat' (first | exact rfl | exact Iff.rfl | exact trivial | exact (fun _ _ => rfl) | exact (fun _ h => absurd h (Nat.not_lt_zero _)) | refine ⟨?_, ?_⟩ | exact Iff.rfl | exact congrArg (fun z => V.SV.one (V.At.val (Value.int .i64 z))) (by omega))) (by repeat' (first | exact rfl | exact Iff.rfl | exact trivial | exact (fun _ _ => rfl) | exact (fun _ h => absurd h (Nat.not_lt_zero _)) | refine ⟨?_, ?_⟩ | exact Iff.rfl | exact congrArg (fun z => V.SV.one (V.At.val (Value.int .i64 z))) (by omega))) (by repeat' (first | exact rfl | exact Iff.rfl | exact trivial | exact (fun _ _ => rfl) | exact (fun _ h => absurd h (Nat.not_lt_zero _)) | refine ⟨?_, ?_⟩ | exact Iff.rfl | exact congrArg (fun z => V.SV.one (V.At.val (Value.int .i64 z))) (by omega)))
  · exact V.fin1 (ixf_no (all_whole (by omega) hJ))
theorem v_bkHas (l : List Po) (hn : l.length ≤ 9223372036854775807) : V.Fn Try.prog 55 [.arr 3 l.length (ga encP l)] [.one (.ref 0), .one (.clo 56 [])] (.bool (decide (0 ≤ ixf Bk.bad l))) := by
  have c := v_indexP l 56 Bk.bad hn (fun k _ => v_bkBad _)
  refine V.Fn.mk_ V.Tok V.mixed Try.func55 rfl Try.ntmps55 (by kernel_rfl) rfl rfl ?_
  repeat' ((conv => whnf); first | refine V.NCond.mk ?_ | refine V.NIf.not_ ?_ | refine V.NIf.dec_ ?_ | refine V.NIf.no (by omega) ?_ | refine V.NIf.yes (by omega) ?_ | refine V.NIf.mk (fun _ => ?_) (fun _ => ?_) | refine V.NWrap.ok (by omega) (by omega) ?_ | refine V.NWrap.u64 (by omega) (by omega) ?_ | refine V.NLt.mk (by omega) ?_ | refine V.NBoth.mk ?_ ?_ | refine V.NTF.yes (by omega) ?_ | refine V.NTF.no (by omega) ?_ | refine V.NTF.dec ?_ | refine V.NDraw.q (by exact rfl) (by kernel_rfl) ?_ | refine V.NApp.one (by first | omega | (simp; omega)) (by first | omega | (simp; omega)) ?_ | ((first | refine V.Fn.k (c) [0] rfl ?_ ?_ | refine V.Fn.q (c) [0] rfl ?_ ?_ | refine V.Fn.a (c) [0] rfl ?_ ?_); · ((repeat' (first | exact rfl | exact Iff.rfl | exact trivial | exact (fun _ _ => rfl) | exact (fun _ h => absurd h (Nat.not_lt_zero _)) | refine ⟨?_, ?_⟩ | exact Iff.rfl | exact congrArg (fun z => V.SV.one (V.At.val (Value.int .i64 z))) (by omega))); done)) | (refine V.NDraw.any (by kernel_rfl) ?_) | fail)
  all_goals (conv => whnf)
  exact ⟨_, rfl, decide_eq_true_iff.symm⟩
theorem put_is (W W' : Nat → Int × Int) (u : Nat) (a b : Int) (h : W' = Bk.put W u (a, b)) (q : Nat) : [Value.int .i64 (W' q).1, Value.int .i64 (W' q).2] = if q = u then [.int .i64 a, .int .i64 b] else [.int .i64 (W q).1, .int .i64 (W q).2] := by
  rw [h]
  unfold Bk.put
  by_cases e : q = u
  · rw [if_pos e, if_pos e]
  · rw [if_neg e, if_neg e]
theorem v_even (l : List Po) (hn : l.length ≤ 1000) (hr : ∀ p ∈ l, Bk.Right p) : V.Fn Try.prog 58 [.arr 3 l.length (ga encP l)] [.one (.ref 0)] (.bool (Bk.even l)) := by
  refine V.Fn.mk_ V.Tok V.mixed Try.func58 rfl Try.ntmps58 (by kernel_rfl) rfl rfl ?_
  repeat' ((conv => whnf); first | refine V.NCond.mk ?_ | refine V.NIf.not_ ?_ | refine V.NIf.dec_ ?_ | refine V.NIf.no (by omega) ?_ | refine V.NIf.yes (by omega) ?_ | refine V.NIf.mk (fun _ => ?_) (fun _ => ?_) | refine V.NWrap.ok (by omega) (by omega) ?_ | refine V.NWrap.u64 (by omega) (by omega) ?_ | refine V.NLt.mk (by omega) ?_ | refine V.NBoth.mk ?_ ?_ | refine V.NTF.yes (by omega) ?_ | refine V.NTF.no (by omega) ?_ | refine V.NTF.dec ?_ | refine V.NDraw.q (by exact rfl) (by kernel_rfl) ?_ | refine V.NApp.one (by first | omega | (simp; omega)) (by first | omega | (simp; omega)) ?_ | (refine V.NDraw.any (by kernel_rfl) ?_) | fail)
  all_goals (conv => whnf)
  refine V.NLoop.auto (fun (k : Nat) => [(9, .one (.val (.int .i64 k)))]) (fun (k : Nat) => [(1, .row 103 2 21 (fun q => [.int .i64 (Bk.ws l k q).1, .int .i64 (Bk.ws l k q).2]))]) [] [] (fun (k : Nat) => l.length - k) (fun (k : Nat) => k ≤ l.length) 0 (Nat.zero_le _) (by repeat' (first | exact rfl | exact Iff.rfl | exact trivial | exact (fun _ _ => rfl) | exact (fun _ h => absurd h (Nat.not_lt_zero _)) | refine ⟨?_, ?_⟩ | exact Iff.rfl | exact congrArg (fun z => V.SV.one (V.At.val (Value.int .i64 z))) (by omega))) (by (conv => whnf); exact ⟨⟨rfl, rfl, rfl, fun k hk => (show List.take 2 (List.drop (k * 2) (List.replicate (21 * 2) (Value.int .i64 0))) = _ from arr2 hk)⟩, trivial⟩) (fun _ => ⟨rfl, rfl⟩) ?_; (conv => whnf); refine ⟨⟨rfl, rfl⟩, ?_⟩
  rintro k hk
  by_cases hlt : k < l.length
  · obtain ⟨⟨h1, h2⟩, h3, h4⟩ := hr _ (getD_mem hlt)
    obtain ⟨u, hu⟩ : ∃ u : Nat, (l.getD k default).ut = (u : Int) := ⟨(l.getD k default).ut.toNat, by omega⟩
    obtain ⟨-, ws, wl⟩ := Bk.ws_spec hr k u
    have hx := Bk.ws_succ hlt u hu
    unfold M.Amt at h3
    have dm := Bk.tdm ((Bk.ws l k u).2 + (l.getD k default).am)
    have hx : ∀ q, Bk.ws l (k + 1) q = Bk.put (Bk.ws l k) u ((Bk.ws l k u).1 + ((Bk.ws l k u).2 + (l.getD k default).am).tdiv 1152921504606846976, ((Bk.ws l k u).2 + (l.getD k default).am).tmod 1152921504606846976) q := fun q => hx q
    generalize Bk.ws l k = W at *
    obtain ⟨A, hA⟩ : ∃ A, A = Bk.put W u ((W u).1, (W u).2 + (l.getD k default).am) := ⟨_, rfl⟩
    have eA : (A u).1 = (W u).1 ∧ (A u).2 = (W u).2 + (l.getD k default).am := by rw [hA, Bk.put_u]; exact ⟨rfl, rfl⟩
    rw [← eA.2] at dm hx
    rw [← eA.1] at hx
    have dq : -2 ≤ (A u).2.tdiv 1152921504606846976 ∧ (A u).2.tdiv 1152921504606846976 ≤ 2 := by omega
    obtain ⟨B, hB⟩ : ∃ B, B = Bk.put A u ((A u).1 + (A u).2.tdiv 1152921504606846976, (A u).2) := ⟨_, rfl⟩
    obtain ⟨C, hC⟩ : ∃ C, C = Bk.put A u ((A u).1, (A u).2.tmod 1152921504606846976) := ⟨_, rfl⟩
    obtain ⟨D, hD⟩ : ∃ D, D = Bk.put A u ((A u).1 + (A u).2.tdiv 1152921504606846976, (A u).2.tmod 1152921504606846976) := ⟨_, rfl⟩
    have eB : (B u).1 = (A u).1 + (A u).2.tdiv 1152921504606846976 ∧ (B u).2 = (A u).2 := by rw [hB, Bk.put_u]; exact ⟨rfl, rfl⟩
    have eC : (C u).1 = (A u).1 ∧ (C u).2 = (A u).2.tmod 1152921504606846976 := by rw [hC, Bk.put_u]; exact ⟨rfl, rfl⟩
    have pA := put_is W A u _ _ hA
    have pB := put_is A B u _ _ hB
    have pC := put_is A C u _ _ hC
    have pD := put_is B D u (B u).1 ((A u).2.tmod 1152921504606846976) (by rw [hD, eB.1, hB, Bk.put_2])
    have pE := put_is C D u ((A u).1 + (A u).2.tdiv 1152921504606846976) (C u).2 (by rw [hD, eC.2, hC, Bk.put_2])
    have hx : ∀ q, Bk.ws l (k + 1) q = D q := fun q => by rw [hx, hD, hA, Bk.put_2]
    clear hA hB hC hD
    repeat' ((conv => whnf); first | (refine V.NDraw.each (by kernel_rfl) ?_) | refine V.NCond.mk ?_ | refine V.NIf.not_ ?_ | refine V.NIf.dec_ ?_ | refine V.NIf.no (by omega) ?_ | refine V.NIf.yes (by omega) ?_ | refine V.NIf.mk (fun _ => ?_) (fun _ => ?_) | refine V.NWrap.ok (by omega) (by omega) ?_ | refine V.NWrap.u64 (by omega) (by omega) ?_ | refine V.NLt.mk (by omega) ?_ | refine V.NBoth.mk ?_ ?_ | refine V.NTF.yes (by omega) ?_ | refine V.NTF.no (by omega) ?_ | refine V.NTF.dec ?_ | refine V.NDraw.q (by exact rfl) (by kernel_rfl) ?_ | refine V.NApp.one (by first | omega | (simp; omega)) (by first | omega | (simp; omega)) ?_ | (refine NIdx.mk ⟨k, rfl, by omega, ?_⟩) | (refine NIdx.mk ⟨u, hu, by omega, ?_⟩) | (refine V.NCall.inl (f := 73) V.Tok V.mixed Try.func73 rfl Try.ntmps73 (by kernel_rfl) rfl ?_) | (refine NQuo.ok (by decide) (by omega) (by omega) ?_) | (refine NRem.mk (by decide) ?_) | (refine ⟨⟨fun q => [.int .i64 (A q).1, .int .i64 (A q).2], fun q hq => pA q, ?_⟩⟩) | (refine ⟨⟨fun q => [.int .i64 (B q).1, .int .i64 (B q).2], fun q hq => pB q, ?_⟩⟩) | (refine ⟨⟨fun q => [.int .i64 (C q).1, .int .i64 (C q).2], fun q hq => pC q, ?_⟩⟩) | (refine ⟨⟨fun q => [.int .i64 (D q).1, .int .i64 (D q).2], fun q hq => pD q, ?_⟩⟩) | (refine ⟨⟨fun q => [.int .i64 (D q).1, .int .i64 (D q).2], fun q hq => pE q, ?_⟩⟩) | (refine V.NDraw.any (by kernel_rfl) ?_) | fail)
    all_goals (conv => whnf)
    all_goals exact V.NBack.at_ (k + 1) [] (by omega) (by omega) (by repeat' (first | exact rfl | exact Iff.rfl | exact trivial | exact (fun _ _ => rfl) | exact (fun _ h => absurd h (Nat.not_lt_zero _)) | refine ⟨?_, ?_⟩ | exact Iff.rfl | exact congrArg (fun z => V.SV.one (V.At.val (Value.int .i64 z))) (by omega))) rfl ⟨⟨rfl, rfl, rfl, fun q _ => by show [_, _] = [_, _]; rw [hx q]⟩, trivial⟩ (by repeat' (first | exact rfl | exact Iff.rfl | exact trivial | exact (fun _ _ => rfl) | exact (fun _ h => absurd h (Nat.not_lt_zero _)) | refine ⟨?_, ?_⟩ | exact Iff.rfl | exact congrArg (fun z => V.SV.one (V.At.val (Value.int .i64 z))) (by omega))) (by repeat' (first | exact rfl | exact Iff.rfl | exact trivial | exact (fun _ _ => rfl) | exact (fun _ h => absurd h (Nat.not_lt_zero _)) | refine ⟨?_, ?_⟩ | exact Iff.rfl | exact congrArg (fun z => V.SV.one (V.At.val (Value.int .i64 z))) (by omega)))
  obtain rfl : k = l.length := by omega
  have wsp := fun u => Bk.ws_spec hr l.length u
  rw [List.take_length] at wsp
  have ev := Bk.even_iff l
  generalize Bk.ws l l.length = W at *
  repeat' ((conv => whnf); first | refine V.NCond.mk ?_ | refine V.NIf.not_ ?_ | refine V.NIf.dec_ ?_ | refine V.NIf.no (by omega) ?_ | refine V.NIf.yes (by omega) ?_ | refine V.NIf.mk (fun _ => ?_) (fun _ => ?_) | refine V.NWrap.ok (by omega) (by omega) ?_ | refine V.NWrap.u64 (by omega) (by omega) ?_ | refine V.NLt.mk (by omega) ?_ | refine V.NBoth.mk ?_ ?_ | refine V.NTF.yes (by omega) ?_ | refine V.NTF.no (by omega) ?_ | refine V.NTF.dec ?_ | refine V.NDraw.q (by exact rfl) (by kernel_rfl) ?_ | refine V.NApp.one (by first | omega | (simp; omega)) (by first | omega | (simp; omega)) ?_ | (refine V.NDraw.any (by kernel_rfl) ?_) | fail)
  all_goals (conv => whnf)
  refine V.NLoop.auto (fun (i : Nat) => [(20, .one (.val (.int .i64 i)))]) (fun (i : Nat) => []) [] [] (fun (i : Nat) => 21 - i) (fun (i : Nat) => i ≤ 21 ∧ ∀ u, u < i → M.sum (Bk.amu l u) = 0) 0 ⟨Nat.zero_le _, fun u h => absurd h (Nat.not_lt_zero _)⟩ (by repeat' (first | exact rfl | exact Iff.rfl | exact trivial | exact (fun _ _ => rfl) | exact (fun _ h => absurd h (Nat.not_lt_zero _)) | refine ⟨?_, ?_⟩ | exact Iff.rfl | exact congrArg (fun z => V.SV.one (V.At.val (Value.int .i64 z))) (by omega))) (by repeat' (first | exact rfl | exact Iff.rfl | exact trivial | exact (fun _ _ => rfl) | exact (fun _ h => absurd h (Nat.not_lt_zero _)) | refine ⟨?_, ?_⟩ | exact Iff.rfl | exact congrArg (fun z => V.SV.one (V.At.val (Value.int .i64 z))) (by omega))) (fun _ => ⟨rfl, rfl⟩) ?_; (conv => whnf); refine ⟨⟨rfl, rfl⟩, ?_⟩
  rintro i ⟨hi, hJ⟩
  have wi := wsp i
  obtain ⟨z, hz, zt⟩ : ∃ z, IntKind.wrap .i64 ((W i).1 * 1152921504606846976) = z ∧ (-1 ≤ (W i).1 ∧ (W i).1 ≤ 1 → z = (W i).1 * 1152921504606846976) := ⟨_, rfl, fun h => by rw [IntKind.wrap_i64]; omega⟩
  obtain ⟨y, hy, yt⟩ : ∃ y, IntKind.wrap .i64 (z + (W i).2) = y ∧ (-1 ≤ (W i).1 ∧ (W i).1 ≤ 1 → y = (W i).1 * 1152921504606846976 + (W i).2) := ⟨_, rfl, fun h => by rw [IntKind.wrap_i64]; have := zt h; omega⟩
  have hq : M.sum (Bk.amu l i) = 0 ↔ y = 0 ∧ -1 ≤ (W i).1 ∧ (W i).1 ≤ 1 := by
    by_cases h : -1 ≤ (W i).1 ∧ (W i).1 ≤ 1
    · have := yt h; omega
    · omega
  have evf : i < 21 → ¬ M.sum (Bk.amu l i) = 0 → Bk.even l = false := fun h1 h2 => by
    cases e : Bk.even l
    · rfl
    · exact absurd (ev.1 e i h1) h2
  clear zt yt
  repeat' ((conv => whnf); first | refine V.NCond.mk ?_ | refine V.NIf.not_ ?_ | refine V.NIf.dec_ ?_ | refine V.NIf.no (by omega) ?_ | refine V.NIf.yes (by omega) ?_ | refine V.NIf.mk (fun _ => ?_) (fun _ => ?_) | refine V.NWrap.ok (by omega) (by omega) ?_ | refine V.NWrap.u64 (by omega) (by omega) ?_ | refine V.NLt.mk (by omega) ?_ | refine V.NBoth.mk ?_ ?_ | refine V.NTF.yes (by omega) ?_ | refine V.NTF.no (by omega) ?_ | refine V.NTF.dec ?_ | refine V.NDraw.q (by exact rfl) (by kernel_rfl) ?_ | refine V.NApp.one (by first | omega | (simp; omega)) (by first | omega | (simp; omega)) ?_ | (refine NIdx.mk ⟨i, rfl, by omega, ?_⟩) | (refine V.NCall.inl (f := 77) V.Tok V.mixed Try.func77 rfl Try.ntmps77 (by kernel_rfl) rfl ?_) | (refine NWrap.mk ?_; rw [hz]) | (refine NWrap.mk ?_; rw [hy]) | (refine V.NDraw.any (by kernel_rfl) ?_) | fail)
  all_goals (conv => whnf)
  all_goals first
    | exact V.NBack.at_ (i + 1) [] ⟨by omega, fun u hu => (show u < i ∨ u = i by omega).elim (hJ u) (fun e => by rw [e]; exact hq.2 (by omega))⟩ (by omega) (by repeat' (first | exact rfl | exact Iff.rfl | exact trivial | exact (fun _ _ => rfl) | exact (fun _ h => absurd h (Nat.not_lt_zero _)) | refine ⟨?_, ?_⟩ | exact Iff.rfl | exact congrArg (fun z => V.SV.one (V.At.val (Value.int .i64 z))) (by omega))) rfl (by repeat' (first | exact rfl | exact Iff.rfl | exact trivial | exact (fun _ _ => rfl) | exact (fun _ h => absurd h (Nat.not_lt_zero _)) | refine ⟨?_, ?_⟩ | exact Iff.rfl | exact congrArg (fun z => V.SV.one (V.At.val (Value.int .i64 z))) (by omega))) (by repeat' (first | exact rfl | exact Iff.rfl | exact trivial | exact (fun _ _ => rfl) | exact (fun _ h => absurd h (Nat.not_lt_zero _)) | refine ⟨?_, ?_⟩ | exact Iff.rfl | exact congrArg (fun z => V.SV.one (V.At.val (Value.int .i64 z))) (by omega))) (by repeat' (first | exact rfl | exact Iff.rfl | exact trivial | exact (fun _ _ => rfl) | exact (fun _ h => absurd h (Nat.not_lt_zero _)) | refine ⟨?_, ?_⟩ | exact Iff.rfl | exact congrArg (fun z => V.SV.one (V.At.val (Value.int .i64 z))) (by omega)))
    | exact congrArg Value.bool (evf (by omega) (fun e => by have := hq.1 e; omega)).symm
    | exact congrArg Value.bool (ev.2 fun u hu => hJ u (by omega)).symm
    | trace_state
end Go.Proofs.Yteblbhbfdfifpaa

/- What the functions on books answer: Check, Lines. -/
namespace Go.Proofs.Yteblbhbfdfifpaa
open Go Go.Sort Go.RowKit V
set_option maxRecDepth 100000
set_option linter.unusedVariables false
set_option linter.unusedSimpArgs false
set_option maxHeartbeats 4000000
theorem v_bkCheck (l : List Po) (hn : l.length ≤ 9223372036854775807) : V.Fn Try.prog 27 [.arr 3 l.length (ga encP l)] [.one (.ref 0)] (.int .i64 (Bk.chk l)) := by
  have cc := Bk.chk_cases l
  have ce := fun (q : l.length ≤ 1000) (r : ixf Bk.bad l < 0) => v_even l q (by
    rcases ixf_cases Bk.bad l with ⟨_, a⟩ | ⟨k, e, _⟩
    · intro p hp
      have := a p hp
      unfold Bk.bad at this
      simpa using this
    · omega)
  have h1 := v_bkHas l hn
  generalize ixf Bk.bad l = ix at *
  generalize Bk.chk l = c at *
  generalize Bk.even l = ev at *
  refine V.Fn.mk_ V.Tok V.mixed Try.func27 rfl Try.ntmps27 (by kernel_rfl) rfl rfl ?_
  repeat' ((conv => whnf); first | refine V.NCond.mk ?_ | refine V.NIf.not_ ?_ | refine V.NIf.dec_ ?_ | refine V.NIf.no (by omega) ?_ | refine V.NIf.yes (by omega) ?_ | refine V.NIf.mk (fun _ => ?_) (fun _ => ?_) | refine V.NWrap.ok (by omega) (by omega) ?_ | refine V.NWrap.u64 (by omega) (by omega) ?_ | refine V.NLt.mk (by omega) ?_ | refine V.NBoth.mk ?_ ?_ | refine V.NTF.yes (by omega) ?_ | refine V.NTF.no (by omega) ?_ | refine V.NTF.dec ?_ | refine V.NDraw.q (by exact rfl) (by kernel_rfl) ?_ | refine V.NApp.one (by first | omega | (simp; omega)) (by first | omega | (simp; omega)) ?_ | ((first | refine V.Fn.k (h1) [0] rfl ?_ ?_ | refine V.Fn.q (h1) [0] rfl ?_ ?_ | refine V.Fn.a (h1) [0] rfl ?_ ?_); · ((repeat' (first | exact rfl | exact Iff.rfl | exact trivial | exact (fun _ _ => rfl) | exact (fun _ h => absurd h (Nat.not_lt_zero _)) | refine ⟨?_, ?_⟩ | exact Iff.rfl | exact congrArg (fun z => V.SV.one (V.At.val (Value.int .i64 z))) (by omega))); done)) | ((first | refine V.Fn.k (ce (by omega) (by omega)) [0] rfl ?_ ?_ | refine V.Fn.q (ce (by omega) (by omega)) [0] rfl ?_ ?_ | refine V.Fn.a (ce (by omega) (by omega)) [0] rfl ?_ ?_); · ((repeat' (first | exact rfl | exact Iff.rfl | exact trivial | exact (fun _ _ => rfl) | exact (fun _ h => absurd h (Nat.not_lt_zero _)) | refine ⟨?_, ?_⟩ | exact Iff.rfl | exact congrArg (fun z => V.SV.one (V.At.val (Value.int .i64 z))) (by omega))); done)) | (refine V.NDraw.any (by kernel_rfl) ?_) | fail)
  all_goals (conv => whnf)
  all_goals exact V.fin1 (by rcases cc with ⟨h1, h2⟩ | ⟨h1, h2⟩ | ⟨h1, h2, h3⟩ | ⟨h1, h2, h3, h4, h5⟩ | ⟨h1, h2, h3, h4, h5⟩ <;> first | omega | (simp_all; done) | (simp_all; omega))
theorem v_bkLines (l : List Po) (hn : l.length ≤ 9223372036854775807) : V.Fn Try.prog 54 [.arr 3 l.length (ga encP l)] [.one (.ref 0)] (.int .i64 (Bk.lines l)) := by
  have lc := Bk.lines_cases l
  have lq : l.length ≤ 400 → Ca.fe (Bk.eAt l) l.length = 0 → Bk.Lines l := fun h1 h2 => Bk.fe_ok h1 h2
  have ce := fun (q : Bk.Lines l) => v_even l (Nat.le_trans q.le (by decide)) q.r
  have lf : l.length ≤ 400 → Ca.fe (Bk.eAt l) l.length ≠ 0 → Bk.lines l = Ca.fe (Bk.eAt l) l.length := fun h1 h2 => by omega
  have le : l.length ≤ 400 → Ca.fe (Bk.eAt l) l.length = 0 → Bk.lines l = if Bk.even l = true then 0 else 4 := fun h1 h2 => by
    rcases lc with ⟨h, e⟩ | ⟨_, h, e⟩ | ⟨_, _, h, e⟩ | ⟨_, _, h, e⟩
    · omega
    · exact absurd h2 h
    · rw [h, e]; rfl
    · rw [h, e]; rfl
  generalize Bk.even l = ev at *
  have l2 : 400 < l.length → Bk.lines l = 2 := fun h => by
    rcases lc with ⟨_, e⟩ | ⟨h', _⟩ | ⟨_, h', _⟩ | ⟨_, h', _⟩
    · exact e
    · omega
    · have := h'.le; omega
    · have := h'.le; omega
  clear lc
  refine V.Fn.mk_ V.Tok V.mixed Try.func54 rfl Try.ntmps54 (by kernel_rfl) rfl rfl ?_
  repeat' ((conv => whnf); first | refine V.NCond.mk ?_ | refine V.NIf.not_ ?_ | refine V.NIf.dec_ ?_ | refine V.NIf.no (by omega) ?_ | refine V.NIf.yes (by omega) ?_ | refine V.NIf.mk (fun _ => ?_) (fun _ => ?_) | refine V.NWrap.ok (by omega) (by omega) ?_ | refine V.NWrap.u64 (by omega) (by omega) ?_ | refine V.NLt.mk (by omega) ?_ | refine V.NBoth.mk ?_ ?_ | refine V.NTF.yes (by omega) ?_ | refine V.NTF.no (by omega) ?_ | refine V.NTF.dec ?_ | refine V.NDraw.q (by exact rfl) (by kernel_rfl) ?_ | refine V.NApp.one (by first | omega | (simp; omega)) (by first | omega | (simp; omega)) ?_ | (refine V.NDraw.any (by kernel_rfl) ?_) | fail)
  all_goals (conv => whnf)
  · exact V.fin1 (l2 (by omega))
  refine V.NLoop.auto (fun (k : Nat) => [(10, .one (.val (.int .i64 k)))]) (fun (k : Nat) => []) [] [] (fun (k : Nat) => l.length - k) (fun (k : Nat) => k ≤ l.length ∧ ∀ j, j < k → Bk.eAt l j = 0) 0 ⟨Nat.zero_le _, fun u h => absurd h (Nat.not_lt_zero _)⟩ (by repeat' (first | exact rfl | exact Iff.rfl | exact trivial | exact (fun _ _ => rfl) | exact (fun _ h => absurd h (Nat.not_lt_zero _)) | refine ⟨?_, ?_⟩ | exact Iff.rfl | exact congrArg (fun z => V.SV.one (V.At.val (Value.int .i64 z))) (by omega))) (by repeat' (first | exact rfl | exact Iff.rfl | exact trivial | exact (fun _ _ => rfl) | exact (fun _ h => absurd h (Nat.not_lt_zero _)) | refine ⟨?_, ?_⟩ | exact Iff.rfl | exact congrArg (fun z => V.SV.one (V.At.val (Value.int .i64 z))) (by omega))) (fun _ => ⟨rfl, rfl⟩) ?_; (conv => whnf); refine ⟨⟨rfl, rfl⟩, ?_⟩
  rintro k ⟨hk, hJ⟩
  by_cases hlt : k < l.length
  · have hA : Bk.eAt l k ≠ 0 → Bk.lines l = Bk.eAt l k := fun h => by
      have := Ca.fe_get hlt hJ h
      rw [lf (by omega) (by omega), this]
    have e1 : ¬ Bk.Right (l.getD k default) → Bk.eAt l k = 3 := fun h => if_pos h
    have e2 : Bk.Right (l.getD k default) → 0 < k → Bk.lx (l.getD (k - 1) default) (l.getD k default) = false → Bk.eAt l k = 4 := fun h1 h2 h3 => (if_neg (fun z => z h1)).trans (if_pos ⟨h2, h3⟩)
    have e3 : Bk.Right (l.getD k default) → (0 < k → Bk.lx (l.getD (k - 1) default) (l.getD k default) = true) → Bk.eAt l k = 0 := fun h1 h2 => (if_neg (fun z => z h1)).trans (if_neg (fun z => by have := h2 z.1; rw [z.2] at this; cases this))
    have c1 := v_bkRight (l.getD k default)
    have c2 := v_order (l.getD (k - 1) default) (l.getD k default)
    have og := order_ge (l.getD (k - 1) default) (l.getD k default)
    have ol : ¬ 0 ≤ orI (cmpI (l.getD (k - 1) default).ac (l.getD k default).ac) (cmpI (l.getD (k - 1) default).ut (l.getD k default).ut) → Bk.lx (l.getD (k - 1) default) (l.getD k default) = true := fun h => by
      cases q : Bk.lx (l.getD (k - 1) default) (l.getD k default)
      · exact absurd (og.2 q) h
      · rfl
    generalize orI (cmpI (l.getD (k - 1) default).ac (l.getD k default).ac) (cmpI (l.getD (k - 1) default).ut (l.getD k default).ut) = oo at *
    repeat' ((conv => whnf); first | refine V.NCond.mk ?_ | refine V.NIf.not_ ?_ | refine V.NIf.dec_ ?_ | refine V.NIf.no (by omega) ?_ | refine V.NIf.yes (by omega) ?_ | refine V.NIf.mk (fun _ => ?_) (fun _ => ?_) | refine V.NWrap.ok (by omega) (by omega) ?_ | refine V.NWrap.u64 (by omega) (by omega) ?_ | refine V.NLt.mk (by omega) ?_ | refine V.NBoth.mk ?_ ?_ | refine V.NTF.yes (by omega) ?_ | refine V.NTF.no (by omega) ?_ | refine V.NTF.dec ?_ | refine V.NDraw.q (by exact rfl) (by kernel_rfl) ?_ | refine V.NApp.one (by first | omega | (simp; omega)) (by first | omega | (simp; omega)) ?_ | (refine NIdx.mk ⟨k, rfl, by omega, ?_⟩) | (refine NIdx.mk ⟨k - 1, by omega, by omega, ?_⟩) | (first | refine V.Fn.k0 (c1) rfl ?_ | refine V.Fn.q0 (c1) rfl ?_ | refine V.Fn.a0 (c1) rfl ?_) | (first | refine V.Fn.k0 (c2) rfl ?_ | refine V.Fn.q0 (c2) rfl ?_ | refine V.Fn.a0 (c2) rfl ?_) | (refine V.NDraw.any (by kernel_rfl) ?_) | fail)
    all_goals (conv => whnf)
    · have e := e2 (by assumption) (by omega) (og.1 (by assumption))
      exact V.fin1 ((hA (by omega)).trans e)
    · exact V.NBack.at_ (k + 1) [] ⟨by omega, fun j hj => (show j < k ∨ j = k by omega).elim (hJ j) (fun e => by rw [e]; exact e3 (by assumption) fun _ => ol (by assumption))⟩ (by omega) (by repeat' (first | exact rfl | exact Iff.rfl | exact trivial | exact (fun _ _ => rfl) | exact (fun _ h => absurd h (Nat.not_lt_zero _)) | refine ⟨?_, ?_⟩ | exact Iff.rfl | exact congrArg (fun z => V.SV.one (V.At.val (Value.int .i64 z))) (by omega))) rfl (by repeat' (first | exact rfl | exact Iff.rfl | exact trivial | exact (fun _ _ => rfl) | exact (fun _ h => absurd h (Nat.not_lt_zero _)) | refine ⟨?_, ?_⟩ | exact Iff.rfl | exact congrArg (fun z => V.SV.one (V.At.val (Value.int .i64 z))) (by omega))) (by repeat' (first | exact rfl | exact Iff.rfl | exact trivial | exact (fun _ _ => rfl) | exact (fun _ h => absurd h (Nat.not_lt_zero _)) | refine ⟨?_, ?_⟩ | exact Iff.rfl | exact congrArg (fun z => V.SV.one (V.At.val (Value.int .i64 z))) (by omega))) (by repeat' (first | exact rfl | exact Iff.rfl | exact trivial | exact (fun _ _ => rfl) | exact (fun _ h => absurd h (Nat.not_lt_zero _)) | refine ⟨?_, ?_⟩ | exact Iff.rfl | exact congrArg (fun z => V.SV.one (V.At.val (Value.int .i64 z))) (by omega)))
    · exact V.NBack.at_ (k + 1) [] ⟨by omega, fun j hj => (show j < k ∨ j = k by omega).elim (hJ j) (fun e => by rw [e]; exact e3 (by assumption) fun _ => by omega)⟩ (by omega) (by repeat' (first | exact rfl | exact Iff.rfl | exact trivial | exact (fun _ _ => rfl) | exact (fun _ h => absurd h (Nat.not_lt_zero _)) | refine ⟨?_, ?_⟩ | exact Iff.rfl | exact congrArg (fun z => V.SV.one (V.At.val (Value.int .i64 z))) (by omega))) rfl (by repeat' (first | exact rfl | exact Iff.rfl | exact trivial | exact (fun _ _ => rfl) | exact (fun _ h => absurd h (Nat.not_lt_zero _)) | refine ⟨?_, ?_⟩ | exact Iff.rfl | exact congrArg (fun z => V.SV.one (V.At.val (Value.int .i64 z))) (by omega))) (by repeat' (first | exact rfl | exact Iff.rfl | exact trivial | exact (fun _ _ => rfl) | exact (fun _ h => absurd h (Nat.not_lt_zero _)) | refine ⟨?_, ?_⟩ | exact Iff.rfl | exact congrArg (fun z => V.SV.one (V.At.val (Value.int .i64 z))) (by omega))) (by repeat' (first | exact rfl | exact Iff.rfl | exact trivial | exact (fun _ _ => rfl) | exact (fun _ h => absurd h (Nat.not_lt_zero _)) | refine ⟨?_, ?_⟩ | exact Iff.rfl | exact congrArg (fun z => V.SV.one (V.At.val (Value.int .i64 z))) (by omega)))
    · have e := e1 (by assumption)
      exact V.fin1 ((hA (by omega)).trans e)
  · obtain rfl : k = l.length := by omega
    have f0 := Ca.fe_end hJ
    have le := le (by omega) f0
    repeat' ((conv => whnf); first | refine V.NCond.mk ?_ | refine V.NIf.not_ ?_ | refine V.NIf.dec_ ?_ | refine V.NIf.no (by omega) ?_ | refine V.NIf.yes (by omega) ?_ | refine V.NIf.mk (fun _ => ?_) (fun _ => ?_) | refine V.NWrap.ok (by omega) (by omega) ?_ | refine V.NWrap.u64 (by omega) (by omega) ?_ | refine V.NLt.mk (by omega) ?_ | refine V.NBoth.mk ?_ ?_ | refine V.NTF.yes (by omega) ?_ | refine V.NTF.no (by omega) ?_ | refine V.NTF.dec ?_ | refine V.NDraw.q (by exact rfl) (by kernel_rfl) ?_ | refine V.NApp.one (by first | omega | (simp; omega)) (by first | omega | (simp; omega)) ?_ | ((first | refine V.Fn.k (ce (lq (by omega) f0)) [0] rfl ?_ ?_ | refine V.Fn.q (ce (lq (by omega) f0)) [0] rfl ?_ ?_ | refine V.Fn.a (ce (lq (by omega) f0)) [0] rfl ?_ ?_); · ((repeat' (first | exact rfl | exact Iff.rfl | exact trivial | exact (fun _ _ => rfl) | exact (fun _ h => absurd h (Nat.not_lt_zero _)) | refine ⟨?_, ?_⟩ | exact Iff.rfl | exact congrArg (fun z => V.SV.one (V.At.val (Value.int .i64 z))) (by omega))); done)) | (refine V.NDraw.any (by kernel_rfl) ?_) | fail)
    all_goals (conv => whnf)
    · exact V.fin1 (le.trans (if_pos (by assumption)))
    · exact V.fin1 (le.trans (if_neg (by assumption)))
end Go.Proofs.Yteblbhbfdfifpaa

/- What slices.Grow and slices.Concat answer on postings. -/
namespace Go.Proofs.Yteblbhbfdfifpaa
open Go Go.RowKit V
set_option maxRecDepth 100000
set_option linter.unusedVariables false
set_option linter.unusedSimpArgs false
set_option maxHeartbeats 4000000
theorem po_info : ∃ i z, Try.prog.info? 56 = some i ∧ i.zero = some z ∧ i.size = 3 ∧ i.bytes = 24 ∧ z.cells.size = 3 := by
  obtain ⟨ty, i, d, z, ht, hi, hd, hz, e, h⟩ := fnd_ty V.Tok (t := 56) (K := fun ty => ty.size = 3 ∧ ty.bytes = 24 ∧ ty.zero.length = 3) (by (conv => whnf); exact ⟨rfl, rfl, rfl⟩)
  subst e
  exact ⟨i, z, hi, hz, h.1, h.2.1, by simpa using h.2.2⟩
theorem grow_any (n : Nat) (h : 1 ≤ n ∧ n ≤ 100000) (w : World) : Calls Try.prog 87 #[.slice none 0 0, .int .i64 n] w fun e w' => ∃ c cur, e = .returned (.slice (some ⟨w.heap.size, 0, none⟩) 0 c) ∧ 0 < c ∧ c ≤ maxLen ∧ cur.size = c * 3 ∧ w'.heap[w.heap.size]? = some (.cells cur 56 (0, 0)) ∧ Below w.heap.size w w' := by
  obtain ⟨i, z, hi, hz, hs, hb, hzc⟩ := po_info
  have hrz : ∀ ty, (Builtin.append_ #[31, 3] ty #[.slice none 0 0, .int .i64 ((n : Nat) : Int)]).run Try.prog w = .ok (.slice (some ⟨w.heap.size, 0, none⟩) n (grownCap w n 0 56)) (w.drew.alloc (.cells (#[] ++ Builtin.zeroCells z.cells n ++ Builtin.zeroCells z.cells (grownCap w n 0 56 - n)) 56)) := fun ty => by
    have q := Lib.run_append_grow_zeros w 31 3 ty 56 i z .i64 .i64 Try.underlying31 Try.underlying3 hi hz none 0 0 [] (run_firstCells_none w.drew i.size 0 0 0) n (by omega) (by omega) (by omega) (by omega) (by rw [hb]; omega) (growslice_fits (by omega) (by rw [hb]; omega))
    rw [Nat.zero_add] at q
    exact q
  have hG := grownCap_ge w n 0 56
  have hG2 := grownCap_le_maxLen w n 0 56 (by unfold maxLen; omega)
  generalize grownCap w n 0 56 = G at *
  have hX : (#[] ++ Builtin.zeroCells z.cells n ++ Builtin.zeroCells z.cells (G - n)).size = G * 3 := by
    simp only [Array.size_append, size_zeroCells, hzc, Array.size_empty]
    have : G = n + (G - n) := by omega
    omega
  generalize #[] ++ Builtin.zeroCells z.cells n ++ Builtin.zeroCells z.cells (G - n) = X at *
  clear hzc hz hi hs hb
  have h1 : ¬ ((n : Int) < 0) := by omega
  have h2 : wrap64 ((0 : Int) - (0 : Int)) = 0 := by unfold wrap64; omega
  have h3 : wrap64 ((n : Int) - 0) = (n : Int) := by unfold wrap64; omega
  have h4 : (n : Int) > 0 := by omega
  go_enter Try.func87, Try.ntmps87
  go_wp2_with (at_builtin; refine Lib.wpList_append_run _ rfl _ _ _ _ rfl _ _ rfl rfl _ _ (hrz _) ?_)
  go_ret
  exact ⟨G, rfl, by omega, hG2, X, hX, heap_alloc_new _ _, ((Below.refl _ _).alloc (Nat.le_refl _) _).drew⟩
theorem v_grow (n : Nat) (h : 1 ≤ n ∧ n ≤ 100000) : V.FnR Try.prog 87 [] [.one (.val (.slice none 0 0)), .one (.val (.int .i64 ((n : Int))))] (.one (.ref 0)) [.row 56 3 0 (fun _ => [])] :=
  ⟨by kernel_rfl, rfl, rfl, fun w ρ xs _ hs => by
    obtain ⟨_, _, rfl, h1, _, _, rfl, h2, h3⟩ := hs
    have e1 : _ = Value.slice none 0 0 := h1
    have e2 : _ = Value.int .i64 n := h2
    have e3 : _ = [] := h3
    subst e1 e2 e3
    refine (grow_any n h w).mono ?_
    rintro e w' ⟨c, cur, rfl, h0, h1, h2, h3, h4⟩
    refine ⟨fun i => if i = 0 then some (.slice (some ⟨w.heap.size, 0, none⟩) 0 c) else none, _, rfl, ?_, ⟨?_, ?_⟩, h4⟩
    · exact ⟨rfl, rfl⟩
    · intro j o hj
      match j, hj with
      | 0, hj =>
        injection hj with hj
        subst hj
        refine ⟨⟨_, rfl, _, c, rfl, by omega, fun k hk => by omega, .inr ⟨_, cur, rfl, Nat.le_refl _, h3, by omega, h0, h1, h2, by simp [flat]⟩⟩, fun b hb => ?_⟩
        match c, h0 with
        | c + 1, _ =>
          have hb : some w.heap.size = some b := hb
          injection hb with hb
          omega
      | j + 1, hj => cases hj
    · intro j k o o' b hj hk hne
      match j, k, hj, hk with
      | 0, 0, _, _ => exact absurd rfl hne
      | 0, k + 1, _, hk => cases hk
      | j + 1, _, hj, _ => cases hj⟩
end Go.Proofs.Yteblbhbfdfifpaa

/- A contract over an empty list, of a call that is handed nil. -/
namespace Go.Proofs.Yteblbhbfdfifpaa.V
open Go Go.RowKit
set_option linter.unusedVariables false
/-- nil in the place of object n -/
def aN (n : Nat) : At → At
  | .ref j => if j = n then .val (.slice none 0 0) else .ref j
  | a => a
def aNok (n : Nat) : At → Bool
  | .ptr i _ _ _ => i != n
  | .clo _ _ => false
  | _ => true
def sN (n : Nat) : SV → SV
  | .one a => .one (aN n a)
  | .agg l => .agg (l.map (aN n))
  | .tup l => .tup l
def sNok (n : Nat) : SV → Bool
  | .one a => aNok n a
  | .agg l => l.all (aNok n)
  | .tup _ => false
def rN (n : Nat) (ρ : Rho) : Rho := fun i => if i = n then some (.slice none 0 0) else ρ i
theorem At.nil_ {n : Nat} {ρ : Rho} {a : At} {x : Value} (hk : aNok n a = true) (h : (aN n a).is ρ x) : a.is (rN n ρ) x := by
  cases a with
  | val v => exact h
  | tf b => exact h
  | prop p => exact h
  | clo f c => cases hk
  | ptr i k j s =>
    have hne : i ≠ n := by simpa [aNok] using hk
    obtain ⟨b, e, q⟩ := h
    refine ⟨b, ?_, q⟩
    unfold base rN at *
    rw [if_neg hne]; exact e
  | ref i =>
    by_cases e : i = n
    · have h : (aN n (.ref i)).is ρ x := h
      rw [show aN n (.ref i) = .val (.slice none 0 0) from if_pos e] at h
      have h : x = .slice none 0 0 := h
      subst h
      exact ⟨if_pos e, rfl⟩
    · have h : (aN n (.ref i)).is ρ x := h
      rw [show aN n (.ref i) = .ref i from if_neg e] at h
      exact ⟨(if_neg e).trans h.1, h.2⟩
theorem Ats.nil_ {n : Nat} {ρ : Rho} : ∀ {l : List At} {xs : List Value}, l.all (aNok n) = true → Ats ρ (l.map (aN n)) xs → Ats (rN n ρ) l xs
  | [], _, _, h => h
  | a :: l, _, hk, ⟨x, r, e, h, hr⟩ => by
    simp only [List.all_cons, Bool.and_eq_true] at hk
    exact ⟨x, r, e, At.nil_ hk.1 h, Ats.nil_ hk.2 hr⟩
theorem Svs.nilv {n : Nat} {ρ : Rho} : ∀ {l : List SV} {xs : List Value}, l.all (sNok n) = true → Svs ρ (l.map (sN n)) xs → Svs (rN n ρ) l xs
  | [], _, _, h => h
  | a :: l, _, hk, ⟨x, r, e, h, hr⟩ => by
    simp only [List.all_cons, Bool.and_eq_true] at hk
    refine ⟨x, r, e, ?_, Svs.nilv hk.2 hr⟩
    cases a with
    | one a => exact At.nil_ (n := n) hk.1 h
    | agg c => obtain ⟨cs, hc, e⟩ := h; exact ⟨cs, Ats.nil_ hk.1 hc, e⟩
    | tup c => exact h
def ncB : Ob → Bool
  | .cel _ => false
  | _ => true
/-- the last of the objects: nil -/
theorem Fn.nilv {P : Program} {f : FuncId} {os : List Ob} {args : List SV} {x : Value} {s : Nat} {g : Nat → List Value} (h : Fn P f (os ++ [.arr s 0 g]) args x) (hk : (args.all (sNok os.length) && os.all ncB) = true) : Fn P f os (args.map (sN os.length)) x :=
  ⟨h.b, fun w ρ xs ho hs => h.c w (rN os.length ρ) xs (fun i o e => by
    rcases Nat.lt_trichotomy i os.length with q | q | q
    · rw [List.getElem?_append_left q] at e
      obtain ⟨v, hv, r⟩ := ho i o e
      have hn := List.all_eq_true.1 ((Bool.and_eq_true _ _).mp hk).2 o (List.mem_of_getElem? e)
      exact ⟨v, (if_neg (by omega)).trans hv, by cases o <;> first | exact r | cases hn⟩
    · subst q
      rw [List.getElem?_append_right (Nat.le_refl _), Nat.sub_self] at e
      obtain rfl := Option.some.inj e
      exact ⟨_, if_pos rfl, none, 0, rfl, by omega, by omega, fun k hk => by omega⟩
    · rw [List.getElem?_eq_none (by simp; omega)] at e; cases e) (Svs.nilv ((Bool.and_eq_true _ _).mp hk).1 hs)⟩
/-- an append, told as a list -/
theorem NApp.to_ {α : Type} [Inhabited α] {en : α → List Value} {n m : Nat} (l' : List α) {get news : Nat → List Value} {bytes : Nat} {K : Nat → (Nat → List Value) → Prop} (h : n + m = l'.length) (hb : l'.length ≤ 9223372036854775807) (hr : l'.length * bytes ≤ 140737488355328) (h1 : ∀ k, k < n → ga en l' k = get k) (h2 : ∀ k, k < m → ga en l' (n + k) = news k) (hK : K l'.length (ga en l')) : NApp n m get news bytes K :=
  ⟨⟨_, _, h.symm, hb, hr, h1, h2, hK⟩⟩
theorem ga_take {α : Type} [Inhabited α] {en : α → List Value} {l : List α} {i k : Nat} (h : k < i) (hl : i ≤ l.length) : ga en (l.take i) k = ga en l k := by
  rw [ga_at (by rw [List.length_take]; omega), ga_at (by omega), List.getElem_take]
theorem ga_left {α : Type} [Inhabited α] {en : α → List Value} {l r : List α} {k : Nat} (h : k < l.length) : ga en (l ++ r) k = ga en l k := by
  rw [ga_at (by simp; omega), ga_at h, List.getElem_append_left h]
theorem ga_right {α : Type} [Inhabited α] {en : α → List Value} {l r : List α} {n k : Nat} (hn : n = l.length) (h : k < r.length) : ga en (l ++ r) (n + k) = ga en r k := by
  subst hn
  rw [ga_at (by simp; omega), ga_at h, List.getElem_append_right (by omega)]
  congr 2
  omega
theorem ga_drop {α : Type} [Inhabited α] {en : α → List Value} {l : List α} {i k : Nat} (h : i + k < l.length) : ga en (l.drop i) k = ga en l (i + k) := by
  rw [ga_at (by simp; omega), ga_at h, List.getElem_drop]
end Go.Proofs.Yteblbhbfdfifpaa.V

/- Plain facts on books: groups of a sorted list. -/
namespace Go.Proofs.Yteblbhbfdfifpaa
set_option linter.unusedVariables false
set_option linter.unusedSimpArgs false
namespace Bk
def kap (S : List Po) (i : Nat) : Nat := if i < S.length then key (S.getD i default) else 2121
def seg (S : List Po) (i j : Nat) : List Int := ((S.drop i).take (j - i)).map (·.am)
theorem seg_0 (S : List Po) (i : Nat) : seg S i i = [] := by simp [seg]
theorem seg_succ {S : List Po} {i j : Nat} (h : i ≤ j) (hj : j < S.length) : seg S i (j + 1) = seg S i j ++ [(S.getD j default).am] := by
  unfold seg
  rw [show j + 1 - i = (j - i) + 1 by omega, List.take_succ_eq_append_getElem (by rw [List.length_drop]; omega), List.map_append, getD_at hj]
  simp [List.getElem_drop, show i + (j - i) = j by omega]
theorem seg_amt {S : List Po} (h : ∀ p ∈ S, Right p) (i j : Nat) : ∀ a ∈ seg S i j, M.Amt a := fun a ha => by
  obtain ⟨p, hp, rfl⟩ := List.mem_map.1 ha
  exact (h p (List.mem_of_mem_drop (List.mem_of_mem_take hp))).2.1
theorem seg_len (S : List Po) (i j : Nat) : (seg S i j).length ≤ S.length := by
  unfold seg
  simp
  omega
/-- sorted: keys do not fall -/
def Sd (S : List Po) : Prop := ∀ i j, i < j → j < S.length → key (S.getD i default) ≤ key (S.getD j default)
theorem sd_of {S : List Po} (r : ∀ p ∈ S, Right p) (h : S.Pairwise fun p q => lx q p = false) : Sd S := fun i j hij hj => by
  have q := List.pairwise_iff_getElem.1 h i j (by omega) hj hij
  rw [← getD_at (show i < S.length by omega), ← getD_at hj] at q
  refine Classical.byContradiction fun z => ?_
  rw [(key_lx (r _ (getD_mem hj)) (r _ (getD_mem (by omega)))).2 (by omega)] at q
  cases q
theorem mem_at {S : List Po} {p : Po} (h : p ∈ S) : ∃ m, m < S.length ∧ S.getD m default = p := by
  obtain ⟨m, hm, e⟩ := List.getElem_of_mem h
  exact ⟨m, hm, by rw [getD_at hm]; exact e⟩
theorem amk_none {l : List Po} {k : Nat} (h : ∀ p ∈ l, key p ≠ k) : amk l k = [] := by
  unfold amk
  rw [List.filter_eq_nil_iff.2 fun p hp => by simpa using h p hp]
  rfl
theorem amk_all {l : List Po} {k : Nat} (h : ∀ p ∈ l, key p = k) : amk l k = l.map (·.am) := by
  unfold amk
  rw [List.filter_eq_self.2 fun p hp => by simpa using h p hp]
theorem kap_lt {S : List Po} (r : ∀ p ∈ S, Right p) (i : Nat) : kap S i ≤ 2121 := by
  unfold kap
  split
  · have := (key_r (r _ (getD_mem (by assumption)))).1; omega
  · exact Nat.le_refl _
theorem kap_le {S : List Po} (r : ∀ p ∈ S, Right p) (s : Sd S) {i m : Nat} (h : i ≤ m) (hm : m < S.length) : kap S i ≤ key (S.getD m default) := by
  unfold kap
  rw [if_pos (by omega)]
  by_cases e : i = m
  · rw [e]; exact Nat.le_refl _
  · exact s i m (by omega) hm
theorem kap_0 {S : List Po} (r : ∀ p ∈ S, Right p) (s : Sd S) (k : Nat) (h : k < kap S 0) : tot S k = 0 := tot_none fun p hp e => by
  obtain ⟨m, hm, rfl⟩ := mem_at hp
  have := kap_le r s (Nat.zero_le m) hm
  omega
structure Grp (S : List Po) (i j : Nat) : Prop where
  hi : i < S.length
  hj : i ≤ j ∧ j ≤ S.length
  b : ∀ m, m < i → key (S.getD m default) < kap S i
  e : ∀ m, i ≤ m → m < j → key (S.getD m default) = kap S i
  n : j < S.length → key (S.getD j default) ≠ kap S i
theorem Grp.gt {S : List Po} {i j : Nat} (g : Grp S i j) (r : ∀ p ∈ S, Right p) (s : Sd S) : kap S i < kap S j := by
  obtain ⟨hi, hj, _, _, n⟩ := g
  have ki : kap S i < 2121 := by
    have := (key_r (r _ (getD_mem hi))).1
    unfold kap
    rw [if_pos hi]
    exact this
  by_cases h : j < S.length
  · have := kap_le r s hj.1 h
    have n := n h
    have : kap S j = key (S.getD j default) := if_pos h
    omega
  · have : kap S j = 2121 := if_neg h
    omega
theorem Grp.next {S : List Po} {i j : Nat} (g : Grp S i j) (r : ∀ p ∈ S, Right p) (s : Sd S) (m : Nat) (hm : m < j) : key (S.getD m default) < kap S j := by
  have := g.gt r s
  by_cases h : m < i
  · have := g.b m h; omega
  · have := g.e m (by omega) hm; omega
theorem Grp.skip {S : List Po} {i j : Nat} (g : Grp S i j) (r : ∀ p ∈ S, Right p) (s : Sd S) (k : Nat) (h1 : kap S i + 1 ≤ k) (h2 : k < kap S j) : tot S k = 0 := tot_none fun p hp e => by
  obtain ⟨m, hm, rfl⟩ := mem_at hp
  by_cases h : m < i
  · have := g.b m h; omega
  · by_cases h' : m < j
    · have := g.e m (by omega) h'; omega
    · have := kap_le r s (show j ≤ m by omega) hm; omega
theorem Grp.sum {S : List Po} {i j : Nat} (g : Grp S i j) (r : ∀ p ∈ S, Right p) (s : Sd S) : tot S (kap S i) = M.sum (seg S i j) := by
  have e : S = S.take i ++ ((S.drop i).take (j - i) ++ S.drop j) := by
    have h1 : S.drop j = (S.drop i).drop (j - i) := by rw [List.drop_drop, show i + (j - i) = j by have := g.hj; omega]
    rw [h1, List.take_append_drop, List.take_append_drop]
  have s1 : amk (S.take i) (kap S i) = [] := amk_none fun p hp q => by
    obtain ⟨m, hm, rfl⟩ := List.getElem_of_mem hp
    rw [List.length_take] at hm
    rw [List.getElem_take] at q
    have := g.b m (by omega)
    rw [getD_at (by omega)] at this
    omega
  have s2 : amk ((S.drop i).take (j - i)) (kap S i) = seg S i j := amk_all fun p hp => by
    obtain ⟨m, hm, rfl⟩ := List.getElem_of_mem hp
    rw [List.length_take, List.length_drop] at hm
    rw [List.getElem_take, List.getElem_drop]
    have := g.e (i + m) (by omega) (by omega)
    rwa [getD_at (by omega)] at this
  have s3 : amk (S.drop j) (kap S i) = [] := amk_none fun p hp q => by
    obtain ⟨m, hm, rfl⟩ := List.getElem_of_mem hp
    rw [List.length_drop] at hm
    rw [List.getElem_drop] at q
    have k1 := kap_le r s (show j ≤ j + m by omega) (show j + m < S.length by omega)
    rw [getD_at (show j + m < S.length by omega)] at k1
    have := g.gt r s
    omega
  unfold tot
  rw [show amk S (kap S i) = amk (S.take i ++ ((S.drop i).take (j - i) ++ S.drop j)) (kap S i) from congrArg (fun l => amk l (kap S i)) e, amk_app, amk_app, s1, s2, s3]
  simp
/-- what is out, behind a group -/
theorem Grp.out {S : List Po} {i j : Nat} (g : Grp S i j) (r : ∀ p ∈ S, Right p) (s : Sd S) : out (tot S) (kap S j) = out (tot S) (kap S i) ++ if tot S (kap S i) = 0 then [] else [⟨(S.getD i default).ac, (S.getD i default).ut, tot S (kap S i)⟩] := by
  have k := g.gt r s
  rw [out_skip (tot S) (m := kap S i + 1) (n := kap S j) (by omega) (fun q h1 h2 => g.skip r s q h1 h2), out_succ]
  have ki : kap S i = key (S.getD i default) := if_pos g.hi
  obtain ⟨_, k2, k3⟩ := key_r (r _ (getD_mem g.hi))
  rw [← ki] at k2 k3
  rw [← k2, ← k3]
theorem kap_end {S : List Po} : kap S S.length = 2121 := if_neg (Nat.lt_irrefl _)
theorem grp_amt {S : List Po} {i j : Nat} (g : Grp S i j) (r : ∀ p ∈ S, Right p) (s : Sd S) (h : ∀ k, k < kap S i → M.Amt (tot S k)) (h1 : M.Amt (tot S (kap S i))) (k : Nat) (hk : k < kap S j) : M.Amt (tot S k) := by
  by_cases e1 : k < kap S i
  · exact h k e1
  · by_cases e2 : k = kap S i
    · rw [e2]; exact h1
    · rw [g.skip r s k (by omega) hk]; unfold M.Amt; omega
end Bk
end Go.Proofs.Yteblbhbfdfifpaa

/- What merged lines are. -/
namespace Go.Proofs.Yteblbhbfdfifpaa
open Go Go.Sort Go.RowKit V
set_option maxRecDepth 100000
set_option linter.unusedVariables false
set_option linter.unusedSimpArgs false
set_option maxHeartbeats 4000000
theorem v_merged (b l : List Po) (hb : b.length ≤ 1000) (hn : 0 < l.length ∧ l.length ≤ 1000) (R : ∀ p ∈ b ++ l, Bk.Right p) : V.FnR Try.prog 67 [.arr 3 b.length (ga encP b), .arr 3 l.length (ga encP l)] [.one (.ref 0), .one (.ref 1)] (.tup [.one (.ref 2), .one (.val (.int .i64 (Bk.mE (Bk.tot (b ++ l)))))]) [.row 56 3 (Bk.mL (Bk.tot (b ++ l))).length (ga encP (Bk.mL (Bk.tot (b ++ l))))] := by
  obtain ⟨sz, s0, s1, s2⟩ : ∃ sz : Nat → Int, sz 0 = 0 ∧ sz 1 = b.length ∧ sz 2 = ((b.length + l.length : Nat) : Int) := ⟨fun k => if k = 0 then 0 else if k = 1 then b.length else ((b.length + l.length : Nat) : Int), rfl, rfl, rfl⟩
  obtain ⟨cc, d0, d1, d2⟩ : ∃ cc : Nat → List Po, cc 0 = [] ∧ cc 1 = b ∧ cc 2 = b ++ l := ⟨fun k => if k = 0 then [] else if k = 1 then b else b ++ l, rfl, rfl, rfl⟩
  have cg := v_grow (b.length + l.length) (by omega)
  rw [← s2] at cg
  refine V.FnR.mk_ V.Tok V.mixed Try.func67 rfl Try.ntmps67 (by kernel_rfl) rfl rfl rfl rfl ?_
  repeat' ((conv => whnf); first | refine V.NCond.mk ?_ | refine V.NIf.not_ ?_ | refine V.NIf.dec_ ?_ | refine V.NIf.no (by omega) ?_ | refine V.NIf.yes (by omega) ?_ | refine V.NIf.mk (fun _ => ?_) (fun _ => ?_) | refine V.NWrap.ok (by omega) (by omega) ?_ | refine V.NWrap.u64 (by omega) (by omega) ?_ | refine V.NLt.mk (by omega) ?_ | refine V.NBoth.mk ?_ ?_ | refine V.NTF.yes (by omega) ?_ | refine V.NTF.no (by omega) ?_ | refine V.NTF.dec ?_ | refine V.NDraw.q (by exact rfl) (by kernel_rfl) ?_ | refine V.NApp.one (by first | omega | (simp; omega)) (by first | omega | (simp; omega)) ?_ | (refine V.NCall.inl (f := 80) V.Tok V.mixed Try.func80 rfl Try.ntmps80 (by kernel_rfl) rfl ?_) | (refine V.NDraw.any (by kernel_rfl) ?_) | fail)
  all_goals (conv => whnf)
  refine V.NLoop.auto (fun (k : Nat) => [(11, .one (.val (.int .i64 k))), (3, .one (.val (.int .i64 (sz k))))]) (fun (k : Nat) => []) [] [] (fun (k : Nat) => 2 - k) (fun (k : Nat) => k ≤ 2) 0 (Nat.zero_le _) (by (conv => whnf); exact ⟨rfl, congrArg (fun z : Int => V.SV.one (V.At.val (Value.int .i64 z))) s0.symm, trivial⟩) (by repeat' (first | exact rfl | exact Iff.rfl | exact trivial | exact (fun _ _ => rfl) | exact (fun _ h => absurd h (Nat.not_lt_zero _)) | refine ⟨?_, ?_⟩ | exact Iff.rfl | exact congrArg (fun z => V.SV.one (V.At.val (Value.int .i64 z))) (by omega))) (fun _ => ⟨rfl, rfl⟩) ?_; (conv => whnf); refine ⟨⟨rfl, rfl⟩, ?_⟩
  rintro k hk
  match k, hk with
  | 0, _ =>
    repeat' ((conv => whnf); first | (refine V.NIf.yes ?_ ?_; · (decide; done)) | (refine V.NIf.no ?_ ?_; · (decide; done)) | refine V.NCond.mk ?_ | refine V.NIf.not_ ?_ | refine V.NIf.dec_ ?_ | refine V.NIf.no (by omega) ?_ | refine V.NIf.yes (by omega) ?_ | refine V.NIf.mk (fun _ => ?_) (fun _ => ?_) | refine V.NWrap.ok (by omega) (by omega) ?_ | refine V.NWrap.u64 (by omega) (by omega) ?_ | refine V.NLt.mk (by omega) ?_ | refine V.NBoth.mk ?_ ?_ | refine V.NTF.yes (by omega) ?_ | refine V.NTF.no (by omega) ?_ | refine V.NTF.dec ?_ | refine V.NDraw.q (by exact rfl) (by kernel_rfl) ?_ | refine V.NApp.one (by first | omega | (simp; omega)) (by first | omega | (simp; omega)) ?_ | (refine NIdx.mk ⟨0, rfl, by decide, ?_⟩) | (refine V.NDraw.any (by kernel_rfl) ?_) | fail)
    all_goals (conv => whnf)
    exact V.NBack.at_ 1 [] (by omega) (by omega) ⟨(by repeat' (first | exact rfl | exact Iff.rfl | exact trivial | exact (fun _ _ => rfl) | exact (fun _ h => absurd h (Nat.not_lt_zero _)) | refine ⟨?_, ?_⟩ | exact Iff.rfl | exact congrArg (fun z => V.SV.one (V.At.val (Value.int .i64 z))) (by omega))), congrArg (fun z : Int => V.SV.one (V.At.val (Value.int .i64 z))) (by omega), trivial⟩ rfl (by repeat' (first | exact rfl | exact Iff.rfl | exact trivial | exact (fun _ _ => rfl) | exact (fun _ h => absurd h (Nat.not_lt_zero _)) | refine ⟨?_, ?_⟩ | exact Iff.rfl | exact congrArg (fun z => V.SV.one (V.At.val (Value.int .i64 z))) (by omega))) (by repeat' (first | exact rfl | exact Iff.rfl | exact trivial | exact (fun _ _ => rfl) | exact (fun _ h => absurd h (Nat.not_lt_zero _)) | refine ⟨?_, ?_⟩ | exact Iff.rfl | exact congrArg (fun z => V.SV.one (V.At.val (Value.int .i64 z))) (by omega))) (by repeat' (first | exact rfl | exact Iff.rfl | exact trivial | exact (fun _ _ => rfl) | exact (fun _ h => absurd h (Nat.not_lt_zero _)) | refine ⟨?_, ?_⟩ | exact Iff.rfl | exact congrArg (fun z => V.SV.one (V.At.val (Value.int .i64 z))) (by omega)))
  | 1, _ =>
    repeat' ((conv => whnf); first | (refine V.NIf.yes ?_ ?_; · (decide; done)) | (refine V.NIf.no ?_ ?_; · (decide; done)) | refine V.NCond.mk ?_ | refine V.NIf.not_ ?_ | refine V.NIf.dec_ ?_ | refine V.NIf.no (by omega) ?_ | refine V.NIf.yes (by omega) ?_ | refine V.NIf.mk (fun _ => ?_) (fun _ => ?_) | refine V.NWrap.ok (by omega) (by omega) ?_ | refine V.NWrap.u64 (by omega) (by omega) ?_ | refine V.NLt.mk (by omega) ?_ | refine V.NBoth.mk ?_ ?_ | refine V.NTF.yes (by omega) ?_ | refine V.NTF.no (by omega) ?_ | refine V.NTF.dec ?_ | refine V.NDraw.q (by exact rfl) (by kernel_rfl) ?_ | refine V.NApp.one (by first | omega | (simp; omega)) (by first | omega | (simp; omega)) ?_ | (refine NIdx.mk ⟨1, rfl, by decide, ?_⟩) | (refine V.NDraw.any (by kernel_rfl) ?_) | fail)
    all_goals (conv => whnf)
    exact V.NBack.at_ 2 [] (by omega) (by omega) ⟨(by repeat' (first | exact rfl | exact Iff.rfl | exact trivial | exact (fun _ _ => rfl) | exact (fun _ h => absurd h (Nat.not_lt_zero _)) | refine ⟨?_, ?_⟩ | exact Iff.rfl | exact congrArg (fun z => V.SV.one (V.At.val (Value.int .i64 z))) (by omega))), congrArg (fun z : Int => V.SV.one (V.At.val (Value.int .i64 z))) (by omega), trivial⟩ rfl (by repeat' (first | exact rfl | exact Iff.rfl | exact trivial | exact (fun _ _ => rfl) | exact (fun _ h => absurd h (Nat.not_lt_zero _)) | refine ⟨?_, ?_⟩ | exact Iff.rfl | exact congrArg (fun z => V.SV.one (V.At.val (Value.int .i64 z))) (by omega))) (by repeat' (first | exact rfl | exact Iff.rfl | exact trivial | exact (fun _ _ => rfl) | exact (fun _ h => absurd h (Nat.not_lt_zero _)) | refine ⟨?_, ?_⟩ | exact Iff.rfl | exact congrArg (fun z => V.SV.one (V.At.val (Value.int .i64 z))) (by omega))) (by repeat' (first | exact rfl | exact Iff.rfl | exact trivial | exact (fun _ _ => rfl) | exact (fun _ h => absurd h (Nat.not_lt_zero _)) | refine ⟨?_, ?_⟩ | exact Iff.rfl | exact congrArg (fun z => V.SV.one (V.At.val (Value.int .i64 z))) (by omega)))
  | 2, _ =>
    repeat' ((conv => whnf); first | (refine V.NIf.yes ?_ ?_; · (decide; done)) | (refine V.NIf.no ?_ ?_; · (decide; done)) | refine V.NCond.mk ?_ | refine V.NIf.not_ ?_ | refine V.NIf.dec_ ?_ | refine V.NIf.no (by omega) ?_ | refine V.NIf.yes (by omega) ?_ | refine V.NIf.mk (fun _ => ?_) (fun _ => ?_) | refine V.NWrap.ok (by omega) (by omega) ?_ | refine V.NWrap.u64 (by omega) (by omega) ?_ | refine V.NLt.mk (by omega) ?_ | refine V.NBoth.mk ?_ ?_ | refine V.NTF.yes (by omega) ?_ | refine V.NTF.no (by omega) ?_ | refine V.NTF.dec ?_ | refine V.NDraw.q (by exact rfl) (by kernel_rfl) ?_ | refine V.NApp.one (by first | omega | (simp; omega)) (by first | omega | (simp; omega)) ?_ | (first | refine V.FnR.k0 (cg) rfl ?_ | refine V.FnR.a0 (cg) rfl ?_) | (refine V.NDraw.any (by kernel_rfl) ?_) | fail)
    all_goals (conv => whnf)
    refine V.NLoop.auto (fun (k : Nat) => [(27, .one (.val (.int .i64 k))), (6, .one (.ref 5))]) (fun (k : Nat) => [(5, .row 56 3 (cc k).length (ga encP (cc k)))]) [] [] (fun (k : Nat) => 2 - k) (fun (k : Nat) => k ≤ 2) 0 (Nat.zero_le _) (by repeat' (first | exact rfl | exact Iff.rfl | exact trivial | exact (fun _ _ => rfl) | exact (fun _ h => absurd h (Nat.not_lt_zero _)) | refine ⟨?_, ?_⟩ | exact Iff.rfl | exact congrArg (fun z => V.SV.one (V.At.val (Value.int .i64 z))) (by omega))) (by (conv => whnf); exact ⟨⟨rfl, rfl, by rw [d0]; rfl, fun k hk => absurd hk (Nat.not_lt_zero _)⟩, trivial⟩) (fun _ => ⟨rfl, rfl⟩) ?_; (conv => whnf); refine ⟨⟨rfl, rfl⟩, ?_⟩
    rintro k hk
    match k, hk with
    | 0, _ =>
      repeat' ((conv => whnf); first | (refine V.NIf.yes ?_ ?_; · (decide; done)) | (refine V.NIf.no ?_ ?_; · (decide; done)) | refine V.NCond.mk ?_ | refine V.NIf.not_ ?_ | refine V.NIf.dec_ ?_ | refine V.NIf.no (by omega) ?_ | refine V.NIf.yes (by omega) ?_ | refine V.NIf.mk (fun _ => ?_) (fun _ => ?_) | refine V.NWrap.ok (by omega) (by omega) ?_ | refine V.NWrap.u64 (by omega) (by omega) ?_ | refine V.NLt.mk (by omega) ?_ | refine V.NBoth.mk ?_ ?_ | refine V.NTF.yes (by omega) ?_ | refine V.NTF.no (by omega) ?_ | refine V.NTF.dec ?_ | refine V.NDraw.q (by exact rfl) (by kernel_rfl) ?_ | refine V.NApp.one (by first | omega | (simp; omega)) (by first | omega | (simp; omega)) ?_ | (refine NIdx.mk ⟨0, rfl, by decide, ?_⟩) | (refine NOne.mk ?_ ?_; · (intro k hk; rfl)) | (refine V.NApp.to_ (en := encP) (cc 1) (by rw [d0, d1]; simp) (by rw [d1]; omega) (by rw [d1]; simp; omega) (fun k hk => absurd hk (by rw [d0]; exact Nat.not_lt_zero _)) (fun k hk => by rw [d0, d1]; simp) ?_) | (refine V.NDraw.any (by kernel_rfl) ?_) | fail)
      all_goals (conv => whnf)
      exact V.NBack.at_ 1 [(5, 6)] (by omega) (by omega) (by repeat' (first | exact rfl | exact Iff.rfl | exact trivial | exact (fun _ _ => rfl) | exact (fun _ h => absurd h (Nat.not_lt_zero _)) | refine ⟨?_, ?_⟩ | exact Iff.rfl | exact congrArg (fun z => V.SV.one (V.At.val (Value.int .i64 z))) (by omega))) rfl ⟨⟨rfl, rfl, rfl, fun _ _ => rfl⟩, trivial⟩ (by repeat' (first | exact rfl | exact Iff.rfl | exact trivial | exact (fun _ _ => rfl) | exact (fun _ h => absurd h (Nat.not_lt_zero _)) | refine ⟨?_, ?_⟩ | exact Iff.rfl | exact congrArg (fun z => V.SV.one (V.At.val (Value.int .i64 z))) (by omega))) (by repeat' (first | exact rfl | exact Iff.rfl | exact trivial | exact (fun _ _ => rfl) | exact (fun _ h => absurd h (Nat.not_lt_zero _)) | refine ⟨?_, ?_⟩ | exact Iff.rfl | exact congrArg (fun z => V.SV.one (V.At.val (Value.int .i64 z))) (by omega)))
    | 1, _ =>
      repeat' ((conv => whnf); first | (refine V.NIf.yes ?_ ?_; · (decide; done)) | (refine V.NIf.no ?_ ?_; · (decide; done)) | refine V.NCond.mk ?_ | refine V.NIf.not_ ?_ | refine V.NIf.dec_ ?_ | refine V.NIf.no (by omega) ?_ | refine V.NIf.yes (by omega) ?_ | refine V.NIf.mk (fun _ => ?_) (fun _ => ?_) | refine V.NWrap.ok (by omega) (by omega) ?_ | refine V.NWrap.u64 (by omega) (by omega) ?_ | refine V.NLt.mk (by omega) ?_ | refine V.NBoth.mk ?_ ?_ | refine V.NTF.yes (by omega) ?_ | refine V.NTF.no (by omega) ?_ | refine V.NTF.dec ?_ | refine V.NDraw.q (by exact rfl) (by kernel_rfl) ?_ | refine V.NApp.one (by first | omega | (simp; omega)) (by first | omega | (simp; omega)) ?_ | (refine NIdx.mk ⟨1, rfl, by decide, ?_⟩) | (refine NOne.mk ?_ ?_; · (intro k hk; rfl)) | (refine V.NApp.to_ (en := encP) (cc 2) (by rw [d1, d2]; simp) (by rw [d2]; simp; omega) (by rw [d2]; simp; omega) (fun k hk => by rw [d2, d1]; exact ga_left (by rwa [d1] at hk)) (fun k hk => by rw [d2, d1]; exact ga_right rfl hk) ?_) | (refine V.NDraw.any (by kernel_rfl) ?_) | fail)
      all_goals (conv => whnf)
      exact V.NBack.at_ 2 [(5, 6)] (by omega) (by omega) (by repeat' (first | exact rfl | exact Iff.rfl | exact trivial | exact (fun _ _ => rfl) | exact (fun _ h => absurd h (Nat.not_lt_zero _)) | refine ⟨?_, ?_⟩ | exact Iff.rfl | exact congrArg (fun z => V.SV.one (V.At.val (Value.int .i64 z))) (by omega))) rfl ⟨⟨rfl, rfl, rfl, fun _ _ => rfl⟩, trivial⟩ (by repeat' (first | exact rfl | exact Iff.rfl | exact trivial | exact (fun _ _ => rfl) | exact (fun _ h => absurd h (Nat.not_lt_zero _)) | refine ⟨?_, ?_⟩ | exact Iff.rfl | exact congrArg (fun z => V.SV.one (V.At.val (Value.int .i64 z))) (by omega))) (by repeat' (first | exact rfl | exact Iff.rfl | exact trivial | exact (fun _ _ => rfl) | exact (fun _ h => absurd h (Nat.not_lt_zero _)) | refine ⟨?_, ?_⟩ | exact Iff.rfl | exact congrArg (fun z => V.SV.one (V.At.val (Value.int .i64 z))) (by omega)))
    | 2, _ =>
      have sq := v_sortP 5 [(5, .arr 3 b.length (ga encP b)), (1, .arr 3 l.length (ga encP l))] (Tail.of rfl rfl) (cc 2) (by rw [d2]; simp; omega)
      repeat' ((conv => whnf); first | (refine V.NIf.yes ?_ ?_; · (decide; done)) | (refine V.NIf.no ?_ ?_; · (decide; done)) | refine V.NCond.mk ?_ | refine V.NIf.not_ ?_ | refine V.NIf.dec_ ?_ | refine V.NIf.no (by omega) ?_ | refine V.NIf.yes (by omega) ?_ | refine V.NIf.mk (fun _ => ?_) (fun _ => ?_) | refine V.NWrap.ok (by omega) (by omega) ?_ | refine V.NWrap.u64 (by omega) (by omega) ?_ | refine V.NLt.mk (by omega) ?_ | refine V.NBoth.mk ?_ ?_ | refine V.NTF.yes (by omega) ?_ | refine V.NTF.no (by omega) ?_ | refine V.NTF.dec ?_ | refine V.NDraw.q (by exact rfl) (by kernel_rfl) ?_ | refine V.NApp.one (by first | omega | (simp; omega)) (by first | omega | (simp; omega)) ?_ | (refine Fam.call sq (Tail.of rfl rfl) [(5, 0), (0, 5)] (fun g' => [(5, .row 56 3 (cc 2).length g'), (0, .arr 3 b.length (ga encP b)), (1, .arr 3 l.length (ga encP l))]) rfl rfl rfl (by decide) ⟨⟨rfl, rfl, rfl, fun _ _ => rfl⟩, ⟨rfl, rfl, fun _ _ => rfl⟩, ⟨rfl, rfl, fun _ _ => rfl⟩, trivial⟩ (fun g => rfl) (fun g => ⟨⟨rfl, rfl, rfl, fun _ _ => rfl⟩, ⟨rfl, rfl, fun _ _ => rfl⟩, ⟨rfl, rfl, fun _ _ => rfl⟩, trivial⟩) ?_; rintro g ⟨S, P, sd, hg⟩) | (refine V.NDraw.any (by kernel_rfl) ?_) | fail)
      rw [d2] at P hg ⊢
      have RS : ∀ p ∈ S, Bk.Right p := fun p hp => R p (P.mem_iff.1 hp)
      have s := Bk.sd_of RS sd
      have eT : Bk.tot (b ++ l) = Bk.tot S := funext fun k => (Bk.tot_perm P k).symm
      have nS : S.length = (b ++ l).length := P.length_eq
      have nS2 : (b ++ l).length = b.length + l.length := List.length_append
      rw [eT]
      have o0 : Bk.out (Bk.tot S) (Bk.kap S 0) = [] := Bk.out_skip (Bk.tot S) (m := 0) (Nat.zero_le _) (fun k _ hk => Bk.kap_0 RS s k hk)
      clear sq R P sd eT cg
      all_goals (conv => whnf)
      refine V.NLoop.auto (fun (i : Nat) => [(6, .one (.ref 5)), (7, .one (.ref 6))]) (fun (i : Nat) => [(5, .arr 3 (S.length - i) (fun k => encP (S.getD (k + i) default))), (6, .row 56 3 (Bk.out (Bk.tot S) (Bk.kap S i)).length (ga encP (Bk.out (Bk.tot S) (Bk.kap S i))))]) [] [] (fun (i : Nat) => S.length - i) (fun (i : Nat) => i ≤ S.length ∧ (∀ m, m < i → Bk.key (S.getD m default) < Bk.kap S i) ∧ ∀ k, k < Bk.kap S i → M.Amt (Bk.tot S k)) 0 ⟨Nat.zero_le _, fun m h => absurd h (Nat.not_lt_zero _), fun k hk => by rw [Bk.kap_0 RS s k hk]; unfold M.Amt; omega⟩ (by repeat' (first | exact rfl | exact Iff.rfl | exact trivial | exact (fun _ _ => rfl) | exact (fun _ h => absurd h (Nat.not_lt_zero _)) | refine ⟨?_, ?_⟩ | exact Iff.rfl | exact congrArg (fun z => V.SV.one (V.At.val (Value.int .i64 z))) (by omega))) (by (conv => whnf); exact ⟨⟨rfl, nS.symm, hg⟩, ⟨rfl, rfl, by rw [o0]; rfl, fun k hk => absurd hk (Nat.not_lt_zero _)⟩, trivial⟩) (fun _ => ⟨rfl, rfl⟩) ?_; (conv => whnf); refine ⟨⟨rfl, rfl⟩, ?_⟩
      rintro i ⟨hi, hB, hA⟩
      by_cases hlt : i < S.length
      · have ol := Bk.out_len (Bk.tot S) (Bk.kap S i)
        have kl := Bk.kap_lt RS i
        have si : ∀ j, S.getD (0 + j) default = S.getD j default := fun j => by rw [Nat.zero_add]
        repeat' ((conv => whnf); first | refine V.NCond.mk ?_ | refine V.NIf.not_ ?_ | refine V.NIf.dec_ ?_ | refine V.NIf.no (by omega) ?_ | refine V.NIf.yes (by omega) ?_ | refine V.NIf.mk (fun _ => ?_) (fun _ => ?_) | refine V.NWrap.ok (by omega) (by omega) ?_ | refine V.NWrap.u64 (by omega) (by omega) ?_ | refine V.NLt.mk (by omega) ?_ | refine V.NBoth.mk ?_ ?_ | refine V.NTF.yes (by omega) ?_ | refine V.NTF.no (by omega) ?_ | refine V.NTF.dec ?_ | refine V.NDraw.q (by exact rfl) (by kernel_rfl) ?_ | refine V.NApp.one (by first | omega | (simp; omega)) (by first | omega | (simp; omega)) ?_ | (refine NIdx.mk ⟨0, rfl, by omega, ?_⟩) | (refine V.NDraw.any (by kernel_rfl) ?_) | fail)
        all_goals (conv => whnf)
        have w0 : Bk.wst (Bk.seg S i i) = (0, 0) := by rw [Bk.seg_0]; rfl
        refine V.NLoop.auto (fun (j : Nat) => [(6, .one (.ref 5))]) (fun (j : Nat) => [(5, .arr 3 (S.length - j) (fun k => encP (S.getD (k + j) default))), (8, .box 102 [.val (.int .i64 (Bk.wst (Bk.seg S i j)).1), .val (.int .i64 (Bk.wst (Bk.seg S i j)).2)])]) [22] [] (fun (j : Nat) => S.length - j) (fun (j : Nat) => (i ≤ j ∧ j ≤ S.length) ∧ ∀ m, i ≤ m → m < j → Bk.key (S.getD m default) = Bk.kap S i) i ⟨⟨Nat.le_refl _, hi⟩, fun m h1 h2 => by omega⟩ (by repeat' (first | exact rfl | exact Iff.rfl | exact trivial | exact (fun _ _ => rfl) | exact (fun _ h => absurd h (Nat.not_lt_zero _)) | refine ⟨?_, ?_⟩ | exact Iff.rfl | exact congrArg (fun z => V.SV.one (V.At.val (Value.int .i64 z))) (by omega))) (by (conv => whnf); exact ⟨⟨rfl, rfl, fun _ _ => rfl⟩, (by rw [w0]; rfl), trivial⟩) (fun _ => ⟨rfl, rfl⟩) ?_; (conv => whnf); refine ⟨⟨rfl, rfl⟩, ?_⟩
        rintro j ⟨hj, hE⟩
        obtain ⟨we, wb, wl⟩ := Bk.wst_spec (Bk.seg S i j) (Bk.seg_amt RS i j)
        have sl := Bk.seg_len S i j
        by_cases jlt : j < S.length
        · have c1 := v_order (S.getD (0 + j) default) (S.getD (0 + i) default)
          have oe := order_eq (S.getD (0 + j) default) (S.getD (0 + i) default)
          have hd := Bk.tdm ((Bk.wst (Bk.seg S i j)).2 + (S.getD (0 + j) default).am)
          have rj := RS _ (getD_mem jlt)
          have aj := rj.2.1
          have ss := Bk.seg_succ hj.1 jlt
          have ri := RS _ (getD_mem hlt)
          have ke := Bk.key_eq rj ri
          have ki : Bk.kap S i = Bk.key (S.getD i default) := if_pos hlt
          have ws : Bk.wst (Bk.seg S i (j + 1)) = ((Bk.wst (Bk.seg S i j)).1 + ((Bk.wst (Bk.seg S i j)).2 + (S.getD j default).am).tdiv 1152921504606846976, ((Bk.wst (Bk.seg S i j)).2 + (S.getD j default).am).tmod 1152921504606846976) := by rw [ss, Bk.wst_snoc]; rfl
          rw [si] at c1 oe hd
          rw [si] at c1 oe
          rw [← ke, ← ki] at oe
          unfold M.Amt at aj
          have nS3 : S.length ≤ 2000 := by omega
          generalize orI (cmpI (S.getD j default).ac (S.getD i default).ac) (cmpI (S.getD j default).ut (S.getD i default).ut) = oo at *
          repeat' ((conv => whnf); first | refine V.NCond.mk ?_ | refine V.NIf.not_ ?_ | refine V.NIf.dec_ ?_ | refine V.NIf.no (by omega) ?_ | refine V.NIf.yes (by omega) ?_ | refine V.NIf.mk (fun _ => ?_) (fun _ => ?_) | refine V.NWrap.ok (by omega) (by omega) ?_ | refine V.NWrap.u64 (by omega) (by omega) ?_ | refine V.NLt.mk (by omega) ?_ | refine V.NBoth.mk ?_ ?_ | refine V.NTF.yes (by omega) ?_ | refine V.NTF.no (by omega) ?_ | refine V.NTF.dec ?_ | refine V.NDraw.q (by exact rfl) (by kernel_rfl) ?_ | refine V.NApp.one (by first | omega | (simp; omega)) (by first | omega | (simp; omega)) ?_ | (refine NIdx.mk ⟨0, rfl, by omega, ?_⟩) | (simp only [Nat.zero_add]) | (first | refine V.Fn.k0 (c1) rfl ?_ | refine V.Fn.q0 (c1) rfl ?_ | refine V.Fn.a0 (c1) rfl ?_) | (refine V.NCall.inl (f := 73) V.Tok V.mixed Try.func73 rfl Try.ntmps73 (by kernel_rfl) rfl ?_) | (refine NQuo.ok (by decide) (by omega) (by omega) ?_) | (refine NRem.mk (by decide) ?_) | (refine NCut.mk ⟨1, _, rfl, rfl, by omega, by omega, ?_⟩) | (refine V.NDraw.any (by kernel_rfl) ?_) | fail)
          all_goals (conv => whnf)
          · exact V.NBack.at_ (j + 1) [(5, 9)] ⟨by omega, fun m h1 h2 => (show m < j ∨ m = j by omega).elim (hE m h1) (fun e => by rw [e]; exact oe.1 (by assumption))⟩ (by omega) (by repeat' (first | exact rfl | exact Iff.rfl | exact trivial | exact (fun _ _ => rfl) | exact (fun _ h => absurd h (Nat.not_lt_zero _)) | refine ⟨?_, ?_⟩ | exact Iff.rfl | exact congrArg (fun z => V.SV.one (V.At.val (Value.int .i64 z))) (by omega))) rfl ⟨ObLe.cut_ (by omega) (by omega), (by rw [ws]; rfl), trivial⟩ (by repeat' (first | exact rfl | exact Iff.rfl | exact trivial | exact (fun _ _ => rfl) | exact (fun _ h => absurd h (Nat.not_lt_zero _)) | refine ⟨?_, ?_⟩ | exact Iff.rfl | exact congrArg (fun z => V.SV.one (V.At.val (Value.int .i64 z))) (by omega))) (by repeat' (first | exact rfl | exact Iff.rfl | exact trivial | exact (fun _ _ => rfl) | exact (fun _ h => absurd h (Nat.not_lt_zero _)) | refine ⟨?_, ?_⟩ | exact Iff.rfl | exact congrArg (fun z => V.SV.one (V.At.val (Value.int .i64 z))) (by omega)))
          have g : Bk.Grp S i j := ⟨hlt, hj, hB, hE, fun _ h => absurd (oe.2 h) (by assumption)⟩
          have gs := g.sum RS s
          have go := g.out RS s
          have gk := g.gt RS s
          have hij : i ≠ j := fun e => by rw [e] at gk; omega
          have gn := g.next RS s
          have ga_ := fun h => Bk.grp_amt g RS s hA h
          have k1 := Bk.kap_lt RS j
          rw [← we] at gs
          have am : M.Amt (Bk.tot S (Bk.kap S i)) ↔ -1152921504606846976 ≤ (Bk.wst (Bk.seg S i j)).1 * 1152921504606846976 + (Bk.wst (Bk.seg S i j)).2 ∧ (Bk.wst (Bk.seg S i j)).1 * 1152921504606846976 + (Bk.wst (Bk.seg S i j)).2 ≤ 1152921504606846976 := by rw [gs]; exact Iff.rfl
          have w8 : ¬ M.Amt (Bk.tot S (Bk.kap S i)) → Bk.mE (Bk.tot S) = 8 := fun h => if_pos (Bk.wide_yes (k := Bk.kap S i) (by omega) h)
          have ckn := fun n => @M.chk_yes n
          have ckz := fun n (h : M.chk n = 0) => Classical.byContradiction fun (z : ¬ M.Amt n) => by rw [M.chk_no z] at h; omega
          unfold M.Amt at ckz
          repeat' ((conv => whnf); first | (refine NApp.one (en := encP) (l := Bk.out (Bk.tot S) (Bk.kap S i)) (x := ⟨(S.getD i default).ac, (S.getD i default).ut, (Bk.wst (Bk.seg S i j)).1 * 1152921504606846976 + (Bk.wst (Bk.seg S i j)).2⟩) (by simp; omega) (by simp; omega) ?_) | refine V.NCond.mk ?_ | refine V.NIf.not_ ?_ | refine V.NIf.dec_ ?_ | refine V.NIf.no (by omega) ?_ | refine V.NIf.yes (by omega) ?_ | refine V.NIf.mk (fun _ => ?_) (fun _ => ?_) | refine V.NWrap.ok (by omega) (by omega) ?_ | refine V.NWrap.u64 (by omega) (by omega) ?_ | refine V.NLt.mk (by omega) ?_ | refine V.NBoth.mk ?_ ?_ | refine V.NTF.yes (by omega) ?_ | refine V.NTF.no (by omega) ?_ | refine V.NTF.dec ?_ | refine V.NDraw.q (by exact rfl) (by kernel_rfl) ?_ | refine V.NApp.one (by first | omega | (simp; omega)) (by first | omega | (simp; omega)) ?_ | (refine V.NCall.inl (f := 74) V.Tok V.mixed Try.func74 rfl Try.ntmps74 (by kernel_rfl) rfl ?_) | (first | refine V.Fn.k0 (v_check _) rfl ?_ | refine V.Fn.q0 (v_check _) rfl ?_ | refine V.Fn.a0 (v_check _) rfl ?_) | (refine V.NDraw.any (by kernel_rfl) ?_) | fail)
          all_goals (conv => whnf)
          · have w := w8 (fun h => by have := am.1 h; omega)
            rw [show Bk.mL (Bk.tot S) = [] from if_neg (by omega), w]
            exact NRet.mk_ [some 9] rfl ⟨rfl, rfl, trivial⟩ ⟨⟨rfl, rfl, rfl, fun k hk => absurd hk (Nat.not_lt_zero _)⟩, trivial⟩
          · have w := w8 (fun h => by have := am.1 h; omega)
            rw [show Bk.mL (Bk.tot S) = [] from if_neg (by omega), w]
            exact NRet.mk_ [some 9] rfl ⟨rfl, rfl, trivial⟩ ⟨⟨rfl, rfl, rfl, fun k hk => absurd hk (Nat.not_lt_zero _)⟩, trivial⟩
          · exact V.NBack.at_ j [] ⟨hj.2, gn, ga_ (am.2 (by omega))⟩ (by omega) (by repeat' (first | exact rfl | exact Iff.rfl | exact trivial | exact (fun _ _ => rfl) | exact (fun _ h => absurd h (Nat.not_lt_zero _)) | refine ⟨?_, ?_⟩ | exact Iff.rfl | exact congrArg (fun z => V.SV.one (V.At.val (Value.int .i64 z))) (by omega))) rfl ⟨(by repeat' (first | exact rfl | exact Iff.rfl | exact trivial | exact (fun _ _ => rfl) | exact (fun _ h => absurd h (Nat.not_lt_zero _)) | refine ⟨?_, ?_⟩ | exact Iff.rfl | exact congrArg (fun z => V.SV.one (V.At.val (Value.int .i64 z))) (by omega))), ObLe.as_ (go.trans (by rw [if_pos (by omega), List.append_nil])), trivial⟩ (by repeat' (first | exact rfl | exact Iff.rfl | exact trivial | exact (fun _ _ => rfl) | exact (fun _ h => absurd h (Nat.not_lt_zero _)) | refine ⟨?_, ?_⟩ | exact Iff.rfl | exact congrArg (fun z => V.SV.one (V.At.val (Value.int .i64 z))) (by omega))) (by repeat' (first | exact rfl | exact Iff.rfl | exact trivial | exact (fun _ _ => rfl) | exact (fun _ h => absurd h (Nat.not_lt_zero _)) | refine ⟨?_, ?_⟩ | exact Iff.rfl | exact congrArg (fun z => V.SV.one (V.At.val (Value.int .i64 z))) (by omega)))
          · have ha := ga_ (am.2 (ckz _ (by assumption)))
            exact V.NBack.at_ j [(6, 10)] ⟨hj.2, gn, ha⟩ (by omega) (by repeat' (first | exact rfl | exact Iff.rfl | exact trivial | exact (fun _ _ => rfl) | exact (fun _ h => absurd h (Nat.not_lt_zero _)) | refine ⟨?_, ?_⟩ | exact Iff.rfl | exact congrArg (fun z => V.SV.one (V.At.val (Value.int .i64 z))) (by omega))) rfl ⟨(by repeat' (first | exact rfl | exact Iff.rfl | exact trivial | exact (fun _ _ => rfl) | exact (fun _ h => absurd h (Nat.not_lt_zero _)) | refine ⟨?_, ?_⟩ | exact Iff.rfl | exact congrArg (fun z => V.SV.one (V.At.val (Value.int .i64 z))) (by omega))), ObLe.as_ (go.trans (by rw [if_neg (by omega), gs])), trivial⟩ (by repeat' (first | exact rfl | exact Iff.rfl | exact trivial | exact (fun _ _ => rfl) | exact (fun _ h => absurd h (Nat.not_lt_zero _)) | refine ⟨?_, ?_⟩ | exact Iff.rfl | exact congrArg (fun z => V.SV.one (V.At.val (Value.int .i64 z))) (by omega))) (by repeat' (first | exact rfl | exact Iff.rfl | exact trivial | exact (fun _ _ => rfl) | exact (fun _ h => absurd h (Nat.not_lt_zero _)) | refine ⟨?_, ?_⟩ | exact Iff.rfl | exact congrArg (fun z => V.SV.one (V.At.val (Value.int .i64 z))) (by omega)))
          · have w := w8 (fun h => absurd (ckn _ (am.1 h)) (by assumption))
            rw [show Bk.mL (Bk.tot S) = [] from if_neg (by omega), w]
            exact NRet.mk_ [some 9] rfl ⟨rfl, rfl, trivial⟩ ⟨⟨rfl, rfl, rfl, fun k hk => absurd hk (Nat.not_lt_zero _)⟩, trivial⟩
        · obtain rfl : j = S.length := by omega
          have g : Bk.Grp S i S.length := ⟨hlt, hj, hB, hE, fun h => absurd h (Nat.lt_irrefl _)⟩
          have gs := g.sum RS s
          have go := g.out RS s
          have gk := g.gt RS s
          have hij : i ≠ S.length := fun e => by rw [e] at gk; omega
          have gn := g.next RS s
          have ga_ := fun h => Bk.grp_amt g RS s hA h
          have k1 := Bk.kap_lt RS S.length
          rw [← we] at gs
          have am : M.Amt (Bk.tot S (Bk.kap S i)) ↔ -1152921504606846976 ≤ (Bk.wst (Bk.seg S i S.length)).1 * 1152921504606846976 + (Bk.wst (Bk.seg S i S.length)).2 ∧ (Bk.wst (Bk.seg S i S.length)).1 * 1152921504606846976 + (Bk.wst (Bk.seg S i S.length)).2 ≤ 1152921504606846976 := by rw [gs]; exact Iff.rfl
          have w8 : ¬ M.Amt (Bk.tot S (Bk.kap S i)) → Bk.mE (Bk.tot S) = 8 := fun h => if_pos (Bk.wide_yes (k := Bk.kap S i) (by omega) h)
          have ckn := fun n => @M.chk_yes n
          have ckz := fun n (h : M.chk n = 0) => Classical.byContradiction fun (z : ¬ M.Amt n) => by rw [M.chk_no z] at h; omega
          unfold M.Amt at ckz
          repeat' ((conv => whnf); first | (refine NApp.one (en := encP) (l := Bk.out (Bk.tot S) (Bk.kap S i)) (x := ⟨(S.getD i default).ac, (S.getD i default).ut, (Bk.wst (Bk.seg S i S.length)).1 * 1152921504606846976 + (Bk.wst (Bk.seg S i S.length)).2⟩) (by simp; omega) (by simp; omega) ?_) | refine V.NCond.mk ?_ | refine V.NIf.not_ ?_ | refine V.NIf.dec_ ?_ | refine V.NIf.no (by omega) ?_ | refine V.NIf.yes (by omega) ?_ | refine V.NIf.mk (fun _ => ?_) (fun _ => ?_) | refine V.NWrap.ok (by omega) (by omega) ?_ | refine V.NWrap.u64 (by omega) (by omega) ?_ | refine V.NLt.mk (by omega) ?_ | refine V.NBoth.mk ?_ ?_ | refine V.NTF.yes (by omega) ?_ | refine V.NTF.no (by omega) ?_ | refine V.NTF.dec ?_ | refine V.NDraw.q (by exact rfl) (by kernel_rfl) ?_ | refine V.NApp.one (by first | omega | (simp; omega)) (by first | omega | (simp; omega)) ?_ | (simp only [Nat.zero_add]) | (refine V.NCall.inl (f := 74) V.Tok V.mixed Try.func74 rfl Try.ntmps74 (by kernel_rfl) rfl ?_) | (first | refine V.Fn.k0 (v_check _) rfl ?_ | refine V.Fn.q0 (v_check _) rfl ?_ | refine V.Fn.a0 (v_check _) rfl ?_) | (refine V.NDraw.any (by kernel_rfl) ?_) | fail)
          all_goals (conv => whnf)
          · have w := w8 (fun h => by have := am.1 h; omega)
            rw [show Bk.mL (Bk.tot S) = [] from if_neg (by omega), w]
            exact NRet.mk_ [some 9] rfl ⟨rfl, rfl, trivial⟩ ⟨⟨rfl, rfl, rfl, fun k hk => absurd hk (Nat.not_lt_zero _)⟩, trivial⟩
          · have w := w8 (fun h => by have := am.1 h; omega)
            rw [show Bk.mL (Bk.tot S) = [] from if_neg (by omega), w]
            exact NRet.mk_ [some 9] rfl ⟨rfl, rfl, trivial⟩ ⟨⟨rfl, rfl, rfl, fun k hk => absurd hk (Nat.not_lt_zero _)⟩, trivial⟩
          · exact V.NBack.at_ S.length [] ⟨hj.2, gn, ga_ (am.2 (by omega))⟩ (by omega) (by repeat' (first | exact rfl | exact Iff.rfl | exact trivial | exact (fun _ _ => rfl) | exact (fun _ h => absurd h (Nat.not_lt_zero _)) | refine ⟨?_, ?_⟩ | exact Iff.rfl | exact congrArg (fun z => V.SV.one (V.At.val (Value.int .i64 z))) (by omega))) rfl ⟨(by repeat' (first | exact rfl | exact Iff.rfl | exact trivial | exact (fun _ _ => rfl) | exact (fun _ h => absurd h (Nat.not_lt_zero _)) | refine ⟨?_, ?_⟩ | exact Iff.rfl | exact congrArg (fun z => V.SV.one (V.At.val (Value.int .i64 z))) (by omega))), ObLe.as_ (go.trans (by rw [if_pos (by omega), List.append_nil])), trivial⟩ (by repeat' (first | exact rfl | exact Iff.rfl | exact trivial | exact (fun _ _ => rfl) | exact (fun _ h => absurd h (Nat.not_lt_zero _)) | refine ⟨?_, ?_⟩ | exact Iff.rfl | exact congrArg (fun z => V.SV.one (V.At.val (Value.int .i64 z))) (by omega))) (by repeat' (first | exact rfl | exact Iff.rfl | exact trivial | exact (fun _ _ => rfl) | exact (fun _ h => absurd h (Nat.not_lt_zero _)) | refine ⟨?_, ?_⟩ | exact Iff.rfl | exact congrArg (fun z => V.SV.one (V.At.val (Value.int .i64 z))) (by omega)))
          · have ha := ga_ (am.2 (ckz _ (by assumption)))
            exact V.NBack.at_ S.length [(6, 10)] ⟨hj.2, gn, ha⟩ (by omega) (by repeat' (first | exact rfl | exact Iff.rfl | exact trivial | exact (fun _ _ => rfl) | exact (fun _ h => absurd h (Nat.not_lt_zero _)) | refine ⟨?_, ?_⟩ | exact Iff.rfl | exact congrArg (fun z => V.SV.one (V.At.val (Value.int .i64 z))) (by omega))) rfl ⟨(by repeat' (first | exact rfl | exact Iff.rfl | exact trivial | exact (fun _ _ => rfl) | exact (fun _ h => absurd h (Nat.not_lt_zero _)) | refine ⟨?_, ?_⟩ | exact Iff.rfl | exact congrArg (fun z => V.SV.one (V.At.val (Value.int .i64 z))) (by omega))), ObLe.as_ (go.trans (by rw [if_neg (by omega), gs])), trivial⟩ (by repeat' (first | exact rfl | exact Iff.rfl | exact trivial | exact (fun _ _ => rfl) | exact (fun _ h => absurd h (Nat.not_lt_zero _)) | refine ⟨?_, ?_⟩ | exact Iff.rfl | exact congrArg (fun z => V.SV.one (V.At.val (Value.int .i64 z))) (by omega))) (by repeat' (first | exact rfl | exact Iff.rfl | exact trivial | exact (fun _ _ => rfl) | exact (fun _ h => absurd h (Nat.not_lt_zero _)) | refine ⟨?_, ?_⟩ | exact Iff.rfl | exact congrArg (fun z => V.SV.one (V.At.val (Value.int .i64 z))) (by omega)))
          · have w := w8 (fun h => absurd (ckn _ (am.1 h)) (by assumption))
            rw [show Bk.mL (Bk.tot S) = [] from if_neg (by omega), w]
            exact NRet.mk_ [some 9] rfl ⟨rfl, rfl, trivial⟩ ⟨⟨rfl, rfl, rfl, fun k hk => absurd hk (Nat.not_lt_zero _)⟩, trivial⟩
      · obtain rfl : i = S.length := by omega
        rw [Bk.kap_end] at hA ⊢
        have m := Bk.mE_is hA
        repeat' ((conv => whnf); first | refine V.NCond.mk ?_ | refine V.NIf.not_ ?_ | refine V.NIf.dec_ ?_ | refine V.NIf.no (by omega) ?_ | refine V.NIf.yes (by omega) ?_ | refine V.NIf.mk (fun _ => ?_) (fun _ => ?_) | refine V.NWrap.ok (by omega) (by omega) ?_ | refine V.NWrap.u64 (by omega) (by omega) ?_ | refine V.NLt.mk (by omega) ?_ | refine V.NBoth.mk ?_ ?_ | refine V.NTF.yes (by omega) ?_ | refine V.NTF.no (by omega) ?_ | refine V.NTF.dec ?_ | refine V.NDraw.q (by exact rfl) (by kernel_rfl) ?_ | refine V.NApp.one (by first | omega | (simp; omega)) (by first | omega | (simp; omega)) ?_ | (refine V.NDraw.any (by kernel_rfl) ?_) | fail)
        all_goals (conv => whnf)
        · have m : Bk.mE (Bk.tot S) = 2 := m.trans (if_pos (by omega))
          rw [show Bk.mL (Bk.tot S) = [] from if_neg (by omega), m]
          exact NRet.mk_ [some 7] rfl ⟨rfl, rfl, trivial⟩ ⟨⟨rfl, rfl, rfl, fun k hk => absurd hk (Nat.not_lt_zero _)⟩, trivial⟩
        · have m : Bk.mE (Bk.tot S) = 0 := m.trans (if_neg (by omega))
          rw [show Bk.mL (Bk.tot S) = Bk.out (Bk.tot S) 2121 from if_pos m, m]
          exact NRet.mk_ [some 6] rfl ⟨rfl, rfl, trivial⟩ ⟨⟨rfl, rfl, rfl, fun k hk => rfl⟩, trivial⟩
end Go.Proofs.Yteblbhbfdfifpaa

/- What Post, Turn, Balance and Trial answer. -/
namespace Go.Proofs.Yteblbhbfdfifpaa
open Go Go.Sort Go.RowKit V
set_option maxRecDepth 100000
set_option linter.unusedVariables false
set_option linter.unusedSimpArgs false
set_option maxHeartbeats 4000000
theorem v_bkPost (b l : List Po) (hb : b.length ≤ 9223372036854775807) (hn : l.length ≤ 9223372036854775807) : V.FnR Try.prog 50 [.arr 3 b.length (ga encP b), .arr 3 l.length (ga encP l)] [.one (.ref 0), .one (.ref 1)] (.tup [.one (.ref 2), .one (.val (.int .i64 (Bk.pE b l)))]) [.row 56 3 (Bk.pL b l).length (ga encP (Bk.pL b l))] := by
  have pc := Bk.pE_cases b l
  have c1 := v_bkLines b hb
  have c2 := v_bkCheck l hn
  have lo := @Bk.lines_0 b
  have lc := @Bk.chk_0 l
  have pl : Bk.pE b l ≠ 0 → Bk.pL b l = [] := fun h => if_neg h
  have cm := fun (h1 : Bk.Lines b) (h2 : 0 < l.length ∧ l.length ≤ 60) (h3 : ∀ p ∈ l, Bk.Right p) => v_merged b l (Nat.le_trans h1.le (by decide)) ⟨h2.1, by omega⟩ (fun p hp => (List.mem_append.1 hp).elim (h1.r p) (h3 p))
  generalize hL : Bk.lines b = L at *
  generalize hC : Bk.chk l = C at *
  refine V.FnR.mk_ V.Tok V.mixed Try.func50 rfl Try.ntmps50 (by kernel_rfl) rfl rfl rfl rfl ?_
  repeat' ((conv => whnf); first | refine V.NCond.mk ?_ | refine V.NIf.not_ ?_ | refine V.NIf.dec_ ?_ | refine V.NIf.no (by omega) ?_ | refine V.NIf.yes (by omega) ?_ | refine V.NIf.mk (fun _ => ?_) (fun _ => ?_) | refine V.NWrap.ok (by omega) (by omega) ?_ | refine V.NWrap.u64 (by omega) (by omega) ?_ | refine V.NLt.mk (by omega) ?_ | refine V.NBoth.mk ?_ ?_ | refine V.NTF.yes (by omega) ?_ | refine V.NTF.no (by omega) ?_ | refine V.NTF.dec ?_ | refine V.NDraw.q (by exact rfl) (by kernel_rfl) ?_ | refine V.NApp.one (by first | omega | (simp; omega)) (by first | omega | (simp; omega)) ?_ | ((first | refine V.Fn.k (c1) [0] rfl ?_ ?_ | refine V.Fn.q (c1) [0] rfl ?_ ?_ | refine V.Fn.a (c1) [0] rfl ?_ ?_); · ((repeat' (first | exact rfl | exact Iff.rfl | exact trivial | exact (fun _ _ => rfl) | exact (fun _ h => absurd h (Nat.not_lt_zero _)) | refine ⟨?_, ?_⟩ | exact Iff.rfl | exact congrArg (fun z => V.SV.one (V.At.val (Value.int .i64 z))) (by omega))); done)) | ((first | refine V.Fn.k (c2) [1] rfl ?_ ?_ | refine V.Fn.q (c2) [1] rfl ?_ ?_ | refine V.Fn.a (c2) [1] rfl ?_ ?_); · ((repeat' (first | exact rfl | exact Iff.rfl | exact trivial | exact (fun _ _ => rfl) | exact (fun _ h => absurd h (Nat.not_lt_zero _)) | refine ⟨?_, ?_⟩ | exact Iff.rfl | exact congrArg (fun z => V.SV.one (V.At.val (Value.int .i64 z))) (by omega))); done)) | ((first | refine V.FnR.k_ (cm (lo (by assumption)).1 (lc (by assumption)).1 (lc (by assumption)).2.1) [0, 1] rfl ?_ ?_ | refine V.FnR.a_ (cm (lo (by assumption)).1 (lc (by assumption)).1 (lc (by assumption)).2.1) [0, 1] rfl ?_ ?_); · ((repeat' (first | exact rfl | exact Iff.rfl | exact trivial | exact (fun _ _ => rfl) | exact (fun _ h => absurd h (Nat.not_lt_zero _)) | refine ⟨?_, ?_⟩ | exact Iff.rfl | exact congrArg (fun z => V.SV.one (V.At.val (Value.int .i64 z))) (by omega))); done)) | (refine V.NDraw.any (by kernel_rfl) ?_) | fail)
  all_goals (conv => whnf)
  · have e : Bk.pE b l = Bk.mE (Bk.tot (b ++ l)) := by omega
    have eL : Bk.pL b l = Bk.mL (Bk.tot (b ++ l)) := by unfold Bk.pL Bk.mL; rw [e]
    rw [e, eL]
    exact NRet.mk_ [some 3] rfl ⟨rfl, rfl, trivial⟩ ⟨⟨rfl, rfl, rfl, fun k hk => rfl⟩, trivial⟩
  · have e : Bk.pE b l = C := by omega
    rw [pl (by omega), e]
    exact NRet.mk_ [some 3] rfl ⟨rfl, rfl, trivial⟩ ⟨⟨rfl, rfl, rfl, fun k hk => absurd hk (Nat.not_lt_zero _)⟩, trivial⟩
  · have e : Bk.pE b l = L := by omega
    rw [pl (by omega), e]
    exact NRet.mk_ [some 3] rfl ⟨rfl, rfl, trivial⟩ ⟨⟨rfl, rfl, rfl, fun k hk => absurd hk (Nat.not_lt_zero _)⟩, trivial⟩
theorem v_cloneP (l : List Po) (hn : l.length ≤ 5864062014634) : V.FnR Try.prog 71 [.arr 3 l.length (ga encP l)] [.one (.ref 0)] (.one (.ref 1)) [.row 56 3 l.length (ga encP l)] := by
  refine V.FnR.mk_ V.Tok V.mixed Try.func71 rfl Try.ntmps71 (by kernel_rfl) rfl rfl rfl rfl ?_
  repeat' ((conv => whnf); first | refine V.NCond.mk ?_ | refine V.NIf.not_ ?_ | refine V.NIf.dec_ ?_ | refine V.NIf.no (by omega) ?_ | refine V.NIf.yes (by omega) ?_ | refine V.NIf.mk (fun _ => ?_) (fun _ => ?_) | refine V.NWrap.ok (by omega) (by omega) ?_ | refine V.NWrap.u64 (by omega) (by omega) ?_ | refine V.NLt.mk (by omega) ?_ | refine V.NBoth.mk ?_ ?_ | refine V.NTF.yes (by omega) ?_ | refine V.NTF.no (by omega) ?_ | refine V.NTF.dec ?_ | refine V.NDraw.q (by exact rfl) (by kernel_rfl) ?_ | refine V.NApp.one (by first | omega | (simp; omega)) (by first | omega | (simp; omega)) ?_ | (refine NNil.mk ?_; intro p hp) | (refine NOne.mk ?_ ?_; · (intro k hk; rfl)) | (refine NApp.all_ (by first | omega | (simp; omega)) (by omega) ?_) | (refine V.NDraw.any (by kernel_rfl) ?_) | fail)
  all_goals (conv => whnf)
  · refine NRet.mk_ [some 2] rfl ?_ ?_
    · exact rfl
    · exact ⟨⟨rfl, rfl, (hp (by assumption)).symm, fun k hk => absurd hk (Nat.not_lt_zero _)⟩, trivial⟩
  · refine NRet.mk_ [some 3] rfl ?_ ?_
    · exact rfl
    · exact ⟨⟨rfl, rfl, rfl, fun _ _ => rfl⟩, trivial⟩
namespace Bk
def neg (p : Po) : Po := ⟨p.ac, p.ut, 0 - p.am⟩
def trn (l : List Po) : List Po := (l.map neg).reverse
def rv (l : List Po) : Nat → List Po
  | 0 => l
  | k + 1 => ((rv l k).set k ((rv l k).getD (l.length - 1 - k) default)).set (l.length - 1 - k) ((rv l k).getD k default)
theorem rv_len (l : List Po) : ∀ k, (rv l k).length = l.length
  | 0 => rfl
  | k + 1 => by unfold rv; rw [List.length_set, List.length_set, rv_len l k]
theorem rv_at (l : List Po) : ∀ k, 2 * k ≤ l.length → ∀ q, q < l.length → (rv l k).getD q default = if q < k ∨ l.length - 1 - k < q then l.getD (l.length - 1 - q) default else l.getD q default
  | 0, _, q, hq => by rw [if_neg (by omega)]; rfl
  | k + 1, h, q, hq => by
    have i := rv_at l k (by omega)
    have n := rv_len l k
    unfold rv
    rw [getD_at (by rw [List.length_set, List.length_set, n]; exact hq), List.getElem_set]
    by_cases e : l.length - 1 - k = q
    · rw [if_pos e, i k (by omega), if_neg (by omega), if_pos (by omega), ← e]
      congr 1
      omega
    · rw [if_neg e, List.getElem_set]
      by_cases e2 : k = q
      · rw [if_pos e2, i _ (by omega), if_neg (by omega), if_pos (by omega), ← e2]
      · rw [if_neg e2, ← getD_at (by rw [n]; exact hq), i q hq]
        by_cases e3 : q < k ∨ l.length - 1 - k < q
        · rw [if_pos e3, if_pos (by omega)]
        · rw [if_neg e3, if_neg (by omega)]
theorem rv_end (l : List Po) (k : Nat) (h1 : 2 * k ≤ l.length) (h2 : l.length ≤ 2 * k + 1) : rv l k = l.reverse := by
  refine List.ext_getElem (by rw [rv_len, List.length_reverse]) fun q q1 q2 => ?_
  rw [rv_len] at q1
  rw [← getD_at, rv_at l k h1 q q1, List.getElem_reverse, ← getD_at]
  by_cases e : q < k ∨ l.length - 1 - k < q
  · rw [if_pos e]
  · rw [if_neg e]
    congr 1
    omega
def ng (l : List Po) : Nat → List Po
  | 0 => l
  | k + 1 => (ng l k).set k (neg ((ng l k).getD k default))
theorem ng_len (l : List Po) : ∀ k, (ng l k).length = l.length
  | 0 => rfl
  | k + 1 => by unfold ng; rw [List.length_set, ng_len l k]
theorem ng_at (l : List Po) : ∀ k, k ≤ l.length → ∀ q, q < l.length → (ng l k).getD q default = if q < k then neg (l.getD q default) else l.getD q default
  | 0, _, q, hq => by rw [if_neg (by omega)]; rfl
  | k + 1, h, q, hq => by
    have i := ng_at l k (by omega)
    have n := ng_len l k
    unfold ng
    rw [getD_at (by rw [List.length_set, n]; exact hq), List.getElem_set]
    by_cases e : k = q
    · rw [if_pos e, i k (by omega), if_neg (by omega), if_pos (by omega), ← e]
    · rw [if_neg e, ← getD_at (by rw [n]; exact hq), i q hq]
      by_cases e3 : q < k
      · rw [if_pos e3, if_pos (by omega)]
      · rw [if_neg e3, if_neg (by omega)]
theorem ng_end (l : List Po) : ng l l.length = l.map neg := by
  refine List.ext_getElem (by rw [ng_len, List.length_map]) fun q q1 q2 => ?_
  rw [ng_len] at q1
  rw [← getD_at, ng_at l _ (Nat.le_refl _) q q1, if_pos q1, List.getElem_map, getD_at q1]
def tL (l : List Po) : List Po := if chk l = 0 then trn l else []
end Bk
theorem v_bkTurn (l : List Po) (hn : l.length ≤ 9223372036854775807) : V.FnR Try.prog 52 [.arr 3 l.length (ga encP l)] [.one (.ref 0)] (.tup [.one (.ref 1), .one (.val (.int .i64 (Bk.chk l)))]) [.row 56 3 (Bk.tL l).length (ga encP (Bk.tL l))] := by
  have c1 := v_bkCheck l hn
  have lc := @Bk.chk_0 l
  have tl0 : Bk.chk l = 0 → Bk.tL l = Bk.trn l := fun h => if_pos h
  have tl1 : ¬ Bk.chk l = 0 → Bk.tL l = [] := fun h => if_neg h
  generalize hC : Bk.chk l = C at *
  have cc := fun (h : l.length ≤ 60) => v_cloneP l (by omega)
  refine V.FnR.mk_ V.Tok V.mixed Try.func52 rfl Try.ntmps52 (by kernel_rfl) rfl rfl rfl rfl ?_
  repeat' ((conv => whnf); first | refine V.NCond.mk ?_ | refine V.NIf.not_ ?_ | refine V.NIf.dec_ ?_ | refine V.NIf.no (by omega) ?_ | refine V.NIf.yes (by omega) ?_ | refine V.NIf.mk (fun _ => ?_) (fun _ => ?_) | refine V.NWrap.ok (by omega) (by omega) ?_ | refine V.NWrap.u64 (by omega) (by omega) ?_ | refine V.NLt.mk (by omega) ?_ | refine V.NBoth.mk ?_ ?_ | refine V.NTF.yes (by omega) ?_ | refine V.NTF.no (by omega) ?_ | refine V.NTF.dec ?_ | refine V.NDraw.q (by exact rfl) (by kernel_rfl) ?_ | refine V.NApp.one (by first | omega | (simp; omega)) (by first | omega | (simp; omega)) ?_ | ((first | refine V.Fn.k (c1) [0] rfl ?_ ?_ | refine V.Fn.q (c1) [0] rfl ?_ ?_ | refine V.Fn.a (c1) [0] rfl ?_ ?_); · ((repeat' (first | exact rfl | exact Iff.rfl | exact trivial | exact (fun _ _ => rfl) | exact (fun _ h => absurd h (Nat.not_lt_zero _)) | refine ⟨?_, ?_⟩ | exact Iff.rfl | exact congrArg (fun z => V.SV.one (V.At.val (Value.int .i64 z))) (by omega))); done)) | ((first | refine V.FnR.k_ (cc (lc (by assumption)).1.2) [0] rfl ?_ ?_ | refine V.FnR.a_ (cc (lc (by assumption)).1.2) [0] rfl ?_ ?_); · ((repeat' (first | exact rfl | exact Iff.rfl | exact trivial | exact (fun _ _ => rfl) | exact (fun _ h => absurd h (Nat.not_lt_zero _)) | refine ⟨?_, ?_⟩ | exact Iff.rfl | exact congrArg (fun z => V.SV.one (V.At.val (Value.int .i64 z))) (by omega))); done)) | (refine V.NCall.inl (f := 72) V.Tok V.mixed Try.func72 rfl Try.ntmps72 (by kernel_rfl) rfl ?_) | (refine V.NDraw.any (by kernel_rfl) ?_) | fail)
  all_goals (conv => whnf)
  · obtain ⟨⟨n0, n1⟩, R, _⟩ := lc (by assumption)
    refine V.NLoop.auto (fun (k : Nat) => [(2, .one (.val (.int .i64 k))), (3, .one (.val (.int .i64 ((l.length : Int) - 1 - k)))), (0, .one (.ref 2))]) (fun (k : Nat) => [(2, .row 56 3 l.length (ga encP (Bk.rv l k)))]) [] [] (fun (k : Nat) => l.length - k) (fun (k : Nat) => 2 * k ≤ l.length) 0 (Nat.zero_le _) (by repeat' (first | exact rfl | exact Iff.rfl | exact trivial | exact (fun _ _ => rfl) | exact (fun _ h => absurd h (Nat.not_lt_zero _)) | refine ⟨?_, ?_⟩ | exact Iff.rfl | exact congrArg (fun z => V.SV.one (V.At.val (Value.int .i64 z))) (by omega))) (by repeat' (first | exact rfl | exact Iff.rfl | exact trivial | exact (fun _ _ => rfl) | exact (fun _ h => absurd h (Nat.not_lt_zero _)) | refine ⟨?_, ?_⟩ | exact Iff.rfl | exact congrArg (fun z => V.SV.one (V.At.val (Value.int .i64 z))) (by omega))) (fun _ => ⟨rfl, rfl⟩) ?_; (conv => whnf); refine ⟨⟨rfl, rfl⟩, ?_⟩
    rintro k hk
    have rl := Bk.rv_len l k
    repeat' ((conv => whnf); first | refine V.NCond.mk ?_ | refine V.NIf.not_ ?_ | refine V.NIf.dec_ ?_ | refine V.NIf.no (by omega) ?_ | refine V.NIf.yes (by omega) ?_ | refine V.NIf.mk (fun _ => ?_) (fun _ => ?_) | refine V.NWrap.ok (by omega) (by omega) ?_ | refine V.NWrap.u64 (by omega) (by omega) ?_ | refine V.NLt.mk (by omega) ?_ | refine V.NBoth.mk ?_ ?_ | refine V.NTF.yes (by omega) ?_ | refine V.NTF.no (by omega) ?_ | refine V.NTF.dec ?_ | refine V.NDraw.q (by exact rfl) (by kernel_rfl) ?_ | refine V.NApp.one (by first | omega | (simp; omega)) (by first | omega | (simp; omega)) ?_ | (refine NIdx.mk ⟨k, rfl, by omega, ?_⟩) | (refine NIdx.mk ⟨l.length - 1 - k, by omega, by omega, ?_⟩) | (refine NPut.is_ (en := encP) (l := Bk.rv l k) ((Bk.rv l k).getD (l.length - 1 - k) default) ((Bk.rv l k).set k ((Bk.rv l k).getD (l.length - 1 - k) default)) rfl rl rfl ?_) | (refine NPut.is_ (en := encP) (l := (Bk.rv l k).set k ((Bk.rv l k).getD (l.length - 1 - k) default)) ((Bk.rv l k).getD k default) (Bk.rv l (k + 1)) rfl (by rw [List.length_set]; exact rl) rfl ?_) | (refine V.NDraw.any (by kernel_rfl) ?_) | fail)
    all_goals (conv => whnf)
    · exact V.NBack.at_ (k + 1) [] (by omega) (by omega) (by repeat' (first | exact rfl | exact Iff.rfl | exact trivial | exact (fun _ _ => rfl) | exact (fun _ h => absurd h (Nat.not_lt_zero _)) | refine ⟨?_, ?_⟩ | exact Iff.rfl | exact congrArg (fun z => V.SV.one (V.At.val (Value.int .i64 z))) (by omega))) rfl ⟨⟨rfl, rfl, rfl, fun _ _ => rfl⟩, trivial⟩ (by repeat' (first | exact rfl | exact Iff.rfl | exact trivial | exact (fun _ _ => rfl) | exact (fun _ h => absurd h (Nat.not_lt_zero _)) | refine ⟨?_, ?_⟩ | exact Iff.rfl | exact congrArg (fun z => V.SV.one (V.At.val (Value.int .i64 z))) (by omega))) (by repeat' (first | exact rfl | exact Iff.rfl | exact trivial | exact (fun _ _ => rfl) | exact (fun _ h => absurd h (Nat.not_lt_zero _)) | refine ⟨?_, ?_⟩ | exact Iff.rfl | exact congrArg (fun z => V.SV.one (V.At.val (Value.int .i64 z))) (by omega)))
    rw [Bk.rv_end l k hk (by omega)]
    have rn : l.reverse.length = l.length := List.length_reverse
    have RR : ∀ p ∈ l.reverse, Bk.Right p := fun p hp => R p (List.mem_reverse.1 hp)
    have et : Bk.tL l = Bk.ng l.reverse l.reverse.length := by rw [tl0 (by assumption), Bk.ng_end]; exact (List.map_reverse).symm
    rw [et]
    clear et tl0 tl1 c1 cc
    generalize l.reverse = L at *
    rw [← rn]
    refine V.NLoop.auto (fun (m : Nat) => [(18, .one (.val (.int .i64 m))), (5, .one (.ref 2))]) (fun (m : Nat) => [(2, .row 56 3 L.length (ga encP (Bk.ng L m)))]) [] [] (fun (m : Nat) => L.length - m) (fun (m : Nat) => m ≤ L.length) 0 (Nat.zero_le _) (by repeat' (first | exact rfl | exact Iff.rfl | exact trivial | exact (fun _ _ => rfl) | exact (fun _ h => absurd h (Nat.not_lt_zero _)) | refine ⟨?_, ?_⟩ | exact Iff.rfl | exact congrArg (fun z => V.SV.one (V.At.val (Value.int .i64 z))) (by omega))) (by repeat' (first | exact rfl | exact Iff.rfl | exact trivial | exact (fun _ _ => rfl) | exact (fun _ h => absurd h (Nat.not_lt_zero _)) | refine ⟨?_, ?_⟩ | exact Iff.rfl | exact congrArg (fun z => V.SV.one (V.At.val (Value.int .i64 z))) (by omega))) (fun _ => ⟨rfl, rfl⟩) ?_; (conv => whnf); refine ⟨⟨rfl, rfl⟩, ?_⟩
    rintro m hm
    have nl := Bk.ng_len L m
    by_cases hlt : m < L.length
    · have na : (Bk.ng L m).getD m default = L.getD m default := by rw [Bk.ng_at L m hm m hlt, if_neg (Nat.lt_irrefl _)]
      have am := (RR _ (getD_mem hlt)).2.1
      rw [← na] at am
      unfold M.Amt at am
      repeat' ((conv => whnf); first | refine V.NCond.mk ?_ | refine V.NIf.not_ ?_ | refine V.NIf.dec_ ?_ | refine V.NIf.no (by omega) ?_ | refine V.NIf.yes (by omega) ?_ | refine V.NIf.mk (fun _ => ?_) (fun _ => ?_) | refine V.NWrap.ok (by omega) (by omega) ?_ | refine V.NWrap.u64 (by omega) (by omega) ?_ | refine V.NLt.mk (by omega) ?_ | refine V.NBoth.mk ?_ ?_ | refine V.NTF.yes (by omega) ?_ | refine V.NTF.no (by omega) ?_ | refine V.NTF.dec ?_ | refine V.NDraw.q (by exact rfl) (by kernel_rfl) ?_ | refine V.NApp.one (by first | omega | (simp; omega)) (by first | omega | (simp; omega)) ?_ | (refine NIdx.mk ⟨m, rfl, by omega, ?_⟩) | (refine NPut.is_ (en := encP) (l := Bk.ng L m) (Bk.neg ((Bk.ng L m).getD m default)) (Bk.ng L (m + 1)) rfl nl rfl ?_) | (refine V.NDraw.any (by kernel_rfl) ?_) | fail)
      all_goals (conv => whnf)
      exact V.NBack.at_ (m + 1) [] (by omega) (by omega) (by repeat' (first | exact rfl | exact Iff.rfl | exact trivial | exact (fun _ _ => rfl) | exact (fun _ h => absurd h (Nat.not_lt_zero _)) | refine ⟨?_, ?_⟩ | exact Iff.rfl | exact congrArg (fun z => V.SV.one (V.At.val (Value.int .i64 z))) (by omega))) rfl ⟨⟨rfl, rfl, rfl, fun _ _ => rfl⟩, trivial⟩ (by repeat' (first | exact rfl | exact Iff.rfl | exact trivial | exact (fun _ _ => rfl) | exact (fun _ h => absurd h (Nat.not_lt_zero _)) | refine ⟨?_, ?_⟩ | exact Iff.rfl | exact congrArg (fun z => V.SV.one (V.At.val (Value.int .i64 z))) (by omega))) (by repeat' (first | exact rfl | exact Iff.rfl | exact trivial | exact (fun _ _ => rfl) | exact (fun _ h => absurd h (Nat.not_lt_zero _)) | refine ⟨?_, ?_⟩ | exact Iff.rfl | exact congrArg (fun z => V.SV.one (V.At.val (Value.int .i64 z))) (by omega)))
    · obtain rfl : m = L.length := by omega
      repeat' ((conv => whnf); first | refine V.NCond.mk ?_ | refine V.NIf.not_ ?_ | refine V.NIf.dec_ ?_ | refine V.NIf.no (by omega) ?_ | refine V.NIf.yes (by omega) ?_ | refine V.NIf.mk (fun _ => ?_) (fun _ => ?_) | refine V.NWrap.ok (by omega) (by omega) ?_ | refine V.NWrap.u64 (by omega) (by omega) ?_ | refine V.NLt.mk (by omega) ?_ | refine V.NBoth.mk ?_ ?_ | refine V.NTF.yes (by omega) ?_ | refine V.NTF.no (by omega) ?_ | refine V.NTF.dec ?_ | refine V.NDraw.q (by exact rfl) (by kernel_rfl) ?_ | refine V.NApp.one (by first | omega | (simp; omega)) (by first | omega | (simp; omega)) ?_ | (refine V.NDraw.any (by kernel_rfl) ?_) | fail)
      all_goals (conv => whnf)
      rw [show C = 0 by assumption]
      exact NRet.mk_ [some 2] rfl ⟨rfl, rfl, trivial⟩ ⟨⟨rfl, rfl, nl.symm, fun k hk => rfl⟩, trivial⟩
  · rw [tl1 (by assumption)]
    exact NRet.mk_ [some 2] rfl ⟨rfl, rfl, trivial⟩ ⟨⟨rfl, rfl, rfl, fun k hk => absurd hk (Nat.not_lt_zero _)⟩, trivial⟩
end Go.Proofs.Yteblbhbfdfifpaa

/- What the sum of some amounts is, by the document. -/
namespace Go.Proofs.Yteblbhbfdfifpaa
open Go Go.RowKit V
set_option maxRecDepth 100000
set_option linter.unusedVariables false
theorem fin_ib {x u : Int} {p : Prop} {b : Bool} (h1 : u = x) (h2 : b = true ↔ p) : Fin1 (.one (.val (.int .i64 x))) (.int .i64 u) ∧ FinL [.one (.prop p)] [.bool b] := ⟨V.fin1 h1, ⟨b, rfl, h2.symm⟩, trivial⟩
end Go.Proofs.Yteblbhbfdfifpaa

/- What the document's functions on books answer. -/
namespace Go.Proofs.Yteblbhbfdfifpaa
open Go Go.Sort Go.RowKit V
set_option maxRecDepth 100000
set_option linter.unusedVariables false
set_option linter.unusedSimpArgs false
set_option maxHeartbeats 4000000
namespace Bk
def selB (a u : Int) (p : Po) : Bool := decide (p.ut = u ∧ (a < 0 ∨ p.ac = a))
def sel (l : List Po) (a u : Int) : List Int := (l.filter (selB a u)).map (·.am)
theorem sel_snoc (l : List Po) (p : Po) (a u : Int) : sel (l ++ [p]) a u = sel l a u ++ if p.ut = u ∧ (a < 0 ∨ p.ac = a) then [p.am] else [] := by
  unfold sel
  rw [List.filter_append, List.map_append]
  congr 1
  by_cases h : p.ut = u ∧ (a < 0 ∨ p.ac = a)
  · rw [if_pos h]; simp [selB, h]
  · rw [if_neg h]; simp [selB, h]
theorem sel_len (l : List Po) (a u : Int) : (sel l a u).length ≤ l.length := by
  unfold sel
  rw [List.length_map]
  exact List.length_filter_le _ _
theorem sel_amt {l : List Po} (h : ∀ p ∈ l, Right p) (a u : Int) : ∀ x ∈ sel l a u, M.Amt x := fun x hx => by
  obtain ⟨p, hp, rfl⟩ := List.mem_map.1 hx
  exact (h p (List.mem_filter.1 hp).1).2.1
theorem sel_amu (l : List Po) (u : Nat) : sel l (-1) u = amu l u := by
  unfold sel amu
  congr 1
  refine List.filter_congr fun p _ => ?_
  unfold selB
  rw [decide_eq_decide]
  omega
theorem sel_amk {l : List Po} (h : ∀ p ∈ l, Right p) (k : Nat) : sel l ((k / 21 : Nat) : Int) ((k % 21 : Nat) : Int) = amk l k := by
  unfold sel amk
  congr 1
  refine List.filter_congr fun p hp => ?_
  obtain ⟨k1, k2, k3⟩ := key_r (h p hp)
  unfold selB
  rw [decide_eq_decide, k2, k3]
  omega
end Bk
theorem tk_all {P : Po → Prop} {l : List Po} {k : Nat} (hk : k < l.length) (h : ∀ p ∈ l.take k, P p) (h2 : P (l.getD k default)) : ∀ p ∈ l.take (k + 1), P p := fun p hp => by
  rw [List.take_succ_eq_append_getElem hk, List.mem_append] at hp
  rcases hp with hp | hp
  · exact h p hp
  · rw [List.mem_singleton.1 hp, ← getD_at hk]; exact h2
theorem sofV_eq (l : List Int) : M.sofV l = M.sum l ∨ ¬ M.Amt (M.sum l) := by
  unfold M.sofV M.Amt
  split <;> omega
namespace Bk
def at? (a u : Int) (p : Po) : Bool := decide (p.ac = a ∧ p.ut = u)
def amAt (b : List Po) (a u : Int) : Int := if 0 ≤ ixf (at? a u) b then (b.getD (ixf (at? a u) b).toNat default).am else 0
end Bk
end Go.Proofs.Yteblbhbfdfifpaa

/- What the document's functions on books answer: what is posted. -/
namespace Go.Proofs.Yteblbhbfdfifpaa
open Go Go.Sort Go.RowKit V
set_option maxRecDepth 100000
set_option linter.unusedVariables false
set_option linter.unusedSimpArgs false
set_option maxHeartbeats 4000000
end Go.Proofs.Yteblbhbfdfifpaa

/- What the functions on calendars answer. -/
namespace Go.Proofs.Yteblbhbfdfifpaa
open Go Go.RowKit V
set_option maxRecDepth 100000
set_option linter.unusedVariables false
theorem _root_.Go.Proofs.Yteblbhbfdfifpaa.V.NBit.one {x : Int} {K : Int → Prop} (h0 : 0 ≤ x) (h1 : x ≤ 9223372036854775807) (hK : ∀ z, z = x % 2 → K z) : NBit .and .i64 x 1 K := by
  refine ⟨fun z hz => hK z ?_⟩
  have := hz default default
  rw [intBits_and, Sem.run_pure] at this
  injection this with this _
  injection this with _ this
  rw [← this]
  unfold bits
  simp only [BitVec.toNat_and, BitVec.toNat_ofInt, show IntKind.i64.bits = 64 from rfl]
  have e1 : ((1 : Int) % ((2 ^ 64 : Nat) : Int)).toNat = 1 := by decide
  have e2 : (x % ((2 ^ 64 : Nat) : Int)).toNat = x.toNat := by rw [Int.emod_eq_of_lt h0 (by simp; omega)]
  rw [e1, e2, Nat.and_one_is_mod]
  rw [IntWalk.i64_in _ ⟨by omega, by omega⟩]; omega
theorem _root_.Go.Proofs.Yteblbhbfdfifpaa.V.NShr.u64 {x y : Int} {K : Int → Prop} (n : Nat) (hy : y = n) (hn : n ≤ 64) (h1 : 0 ≤ x) (hK : ∀ z, z = x / 2 ^ n → 0 ≤ z → z ≤ x → K z) : NShr .u64 x y K := by
  subst hy
  have p : (0 : Int) ≤ 2 ^ n := Int.le_of_lt (Int.pow_pos (by omega))
  refine ⟨by omega, ?_⟩
  rw [Int.toNat_natCast, show IntKind.u64.bits = 64 from rfl, Nat.min_eq_left hn, Int.fdiv_eq_ediv_of_nonneg _ p]
  exact hK _ rfl (Int.ediv_nonneg h1 p) (Int.ediv_le_self _ h1)
theorem v_cisnan (x : Int) : V.Fn Try.prog 89 [] [.one (.val (.int .i64 x))] (.bool false) := by
  refine V.Fn.mk_ V.Tok V.mixed Try.func89 rfl Try.ntmps89 (by kernel_rfl) rfl rfl ?_
  repeat' ((conv => whnf); first | refine V.NCond.mk ?_ | refine V.NIf.not_ ?_ | refine V.NIf.dec_ ?_ | refine V.NIf.no (by omega) ?_ | refine V.NIf.yes (by omega) ?_ | refine V.NIf.mk (fun _ => ?_) (fun _ => ?_) | refine V.NWrap.ok (by omega) (by omega) ?_ | refine V.NWrap.u64 (by omega) (by omega) ?_ | refine V.NLt.mk (by omega) ?_ | refine V.NBoth.mk ?_ ?_ | refine V.NTF.yes (by omega) ?_ | refine V.NTF.no (by omega) ?_ | refine V.NTF.dec ?_ | refine V.NDraw.q (by exact rfl) (by kernel_rfl) ?_ | refine V.NApp.one (by first | omega | (simp; omega)) (by first | omega | (simp; omega)) ?_ | (refine V.NDraw.any (by kernel_rfl) ?_) | fail)
  exact ⟨_, rfl, by simp⟩
end Go.Proofs.Yteblbhbfdfifpaa

/- What Balance and Trial answer. -/
namespace Go.Proofs.Yteblbhbfdfifpaa
open Go Go.Sort Go.RowKit V
set_option maxRecDepth 100000
set_option linter.unusedVariables false
set_option linter.unusedSimpArgs false
set_option maxHeartbeats 4000000
namespace Bk
def lbk (b : List Po) (t : Po) : Nat := (b.takeWhile fun p => lx p t).length
theorem lbk_is {t : Po} : ∀ {b : List Po} {i : Nat}, i ≤ b.length → (∀ k, k < i → lx (b.getD k default) t = true) → (i < b.length → lx (b.getD i default) t = false) → lbk b t = i
  | [], i, hi, _, _ => by simp at hi; subst hi; rfl
  | p :: r, 0, _, _, h2 => by
    have := h2 (by simp)
    unfold lbk
    rw [List.takeWhile_cons_of_neg (by simpa using this)]
    rfl
  | p :: r, i + 1, hi, h1, h2 => by
    have e := h1 0 (by omega)
    have q := lbk_is (b := r) (i := i) (by simpa using hi) (fun k hk => by have := h1 (k + 1) (by omega); simpa using this) (fun h => by have := h2 (by simpa using h); simpa using this)
    unfold lbk at *
    rw [List.takeWhile_cons_of_pos (by simpa using e), List.length_cons, q]
def hit (b : List Po) (t : Po) : Bool := b.any fun p => decide (p.ac = t.ac ∧ p.ut = t.ut)
theorem lx_irr (p : Po) : lx p p = false := by unfold lx; simp
theorem hit_yes {b : List Po} {t : Po} {i : Nat} (h : i < b.length) (h1 : (b.getD i default).ac = t.ac ∧ (b.getD i default).ut = t.ut) : hit b t = true := List.any_eq_true.2 ⟨_, getD_mem h, by simpa using h1⟩
theorem hit_no {b : List Po} {t : Po} {i : Nat} (s : b.Pairwise fun p q => lx p q = true) (h1 : ∀ k, k < i → lx (b.getD k default) t = true) (h2 : ∀ k, i ≤ k → k < b.length → lx (b.getD k default) t = false) (h3 : i < b.length → ¬ ((b.getD i default).ac = t.ac ∧ (b.getD i default).ut = t.ut)) : hit b t = false := by
  refine Bool.eq_false_iff.2 fun z => ?_
  obtain ⟨p, hp, e⟩ := List.any_eq_true.1 z
  obtain ⟨k, hk, rfl⟩ := List.getElem_of_mem hp
  rw [decide_eq_true_eq, ← getD_at hk] at e
  by_cases q : k < i
  · have := h1 k q
    unfold lx at this
    rw [decide_eq_true_eq] at this
    omega
  · by_cases q2 : k = i
    · subst q2; exact h3 hk e
    · have a := List.pairwise_iff_getElem.1 s i k (by omega) hk (by omega)
      have c := h2 i (Nat.le_refl _) (by omega)
      rw [← getD_at (show i < b.length by omega), ← getD_at hk] at a
      unfold lx at a c
      rw [decide_eq_true_eq] at a
      rw [decide_eq_false_iff_not] at c
      omega
end Bk
theorem v_bsearchP (b : List Po) (t : Po) (hn : b.length ≤ 1000) (hs : b.Pairwise fun p q => Bk.lx p q = true) : V.Fn Try.prog 69 [.arr 3 b.length (ga encP b)] [.one (.ref 0), .agg [.val (.int .i64 t.ac), .val (.int .i64 t.ut), .val (.int .i64 t.am)], .one (.clo 70 [])] (.tuple #[.int .i64 (Bk.lbk b t), .bool (Bk.hit b t)]) := by
  refine V.Fn.mk_ V.Tok V.mixed Try.func69 rfl Try.ntmps69 (by kernel_rfl) rfl rfl ?_
  repeat' ((conv => whnf); first | refine V.NCond.mk ?_ | refine V.NIf.not_ ?_ | refine V.NIf.dec_ ?_ | refine V.NIf.no (by omega) ?_ | refine V.NIf.yes (by omega) ?_ | refine V.NIf.mk (fun _ => ?_) (fun _ => ?_) | refine V.NWrap.ok (by omega) (by omega) ?_ | refine V.NWrap.u64 (by omega) (by omega) ?_ | refine V.NLt.mk (by omega) ?_ | refine V.NBoth.mk ?_ ?_ | refine V.NTF.yes (by omega) ?_ | refine V.NTF.no (by omega) ?_ | refine V.NTF.dec ?_ | refine V.NDraw.q (by exact rfl) (by kernel_rfl) ?_ | refine V.NApp.one (by first | omega | (simp; omega)) (by first | omega | (simp; omega)) ?_ | (refine V.NDraw.any (by kernel_rfl) ?_) | fail)
  refine V.NLoop.auto (fun (s : Nat × Nat) => [(9, .one (.val (.int .i64 s.1))), (10, .one (.val (.int .i64 s.2)))]) (fun (s : Nat × Nat) => []) [] [] (fun (s : Nat × Nat) => s.2 - s.1) (fun (s : Nat × Nat) => s.1 ≤ s.2 ∧ s.2 ≤ b.length ∧ (∀ k, k < s.1 → Bk.lx (b.getD k default) t = true) ∧ (∀ k, s.2 ≤ k → k < b.length → Bk.lx (b.getD k default) t = false)) (0, b.length) ⟨Nat.zero_le _, Nat.le_refl _, fun k h => absurd h (Nat.not_lt_zero _), fun k h1 h2 => absurd h2 (by dsimp only at h1; omega)⟩ (by repeat' (first | exact rfl | exact Iff.rfl | exact trivial | exact (fun _ _ => rfl) | exact (fun _ h => absurd h (Nat.not_lt_zero _)) | refine ⟨?_, ?_⟩ | exact Iff.rfl | exact congrArg (fun z => V.SV.one (V.At.val (Value.int .i64 z))) (by omega))) (by repeat' (first | exact rfl | exact Iff.rfl | exact trivial | exact (fun _ _ => rfl) | exact (fun _ h => absurd h (Nat.not_lt_zero _)) | refine ⟨?_, ?_⟩ | exact Iff.rfl | exact congrArg (fun z => V.SV.one (V.At.val (Value.int .i64 z))) (by omega))) (fun _ => ⟨rfl, rfl⟩) ?_; (conv => whnf); refine ⟨⟨rfl, rfl⟩, ?_⟩
  rintro s ⟨h1, h2, h3, h4⟩
  generalize s.1 = i at *
  generalize s.2 = j at *
  have c1 := v_order (b.getD ((i + j) / 2) default) t
  have c2 := v_order (b.getD i default) t
  have o1 := order_lt (b.getD ((i + j) / 2) default) t
  have o2 := order_eq (b.getD i default) t
  have o3 := order_eq (b.getD ((i + j) / 2) default) t
  generalize orI (cmpI (b.getD ((i + j) / 2) default).ac t.ac) (cmpI (b.getD ((i + j) / 2) default).ut t.ut) = x1 at *
  generalize orI (cmpI (b.getD i default).ac t.ac) (cmpI (b.getD i default).ut t.ut) = x2 at *
  have tr : ∀ p q : Nat, p < q → q < b.length → Bk.lx (b.getD p default) (b.getD q default) = true := fun p q h h' => by
    have := List.pairwise_iff_getElem.1 hs p q (by omega) h' h
    rwa [← getD_at (by omega), ← getD_at h'] at this
  repeat' ((conv => whnf); first | refine V.NCond.mk ?_ | refine V.NIf.not_ ?_ | refine V.NIf.dec_ ?_ | refine V.NIf.no (by omega) ?_ | refine V.NIf.yes (by omega) ?_ | refine V.NIf.mk (fun _ => ?_) (fun _ => ?_) | refine V.NWrap.ok (by omega) (by omega) ?_ | refine V.NWrap.u64 (by omega) (by omega) ?_ | refine V.NLt.mk (by omega) ?_ | refine V.NBoth.mk ?_ ?_ | refine V.NTF.yes (by omega) ?_ | refine V.NTF.no (by omega) ?_ | refine V.NTF.dec ?_ | refine V.NDraw.q (by exact rfl) (by kernel_rfl) ?_ | refine V.NApp.one (by first | omega | (simp; omega)) (by first | omega | (simp; omega)) ?_ | (refine NShr.u64 1 rfl (by omega) (by omega) ?_; intro z hz hz0 hz1) | (refine NIdx.mk ⟨(i + j) / 2, by omega, by omega, ?_⟩) | (refine NIdx.mk ⟨i, rfl, by omega, ?_⟩) | (first | refine V.Fn.k0 (c1) rfl ?_ | refine V.Fn.q0 (c1) rfl ?_ | refine V.Fn.a0 (c1) rfl ?_) | (first | refine V.Fn.k0 (c2) rfl ?_ | refine V.Fn.q0 (c2) rfl ?_ | refine V.Fn.a0 (c2) rfl ?_) | (refine V.NDraw.any (by kernel_rfl) ?_) | fail)
  all_goals (conv => whnf)
  · have e : Bk.lx (b.getD ((i + j) / 2) default) t = true := by rw [← o1]; exact decide_eq_true (by assumption)
    refine V.NBack.at_ ((i + j) / 2 + 1, j) [] ⟨by dsimp only; omega, h2, fun k hk => ?_, h4⟩ (by dsimp only; omega) (by repeat' (first | exact rfl | exact Iff.rfl | exact trivial | exact (fun _ _ => rfl) | exact (fun _ h => absurd h (Nat.not_lt_zero _)) | refine ⟨?_, ?_⟩ | exact Iff.rfl | exact congrArg (fun z => V.SV.one (V.At.val (Value.int .i64 z))) (by omega))) rfl (by repeat' (first | exact rfl | exact Iff.rfl | exact trivial | exact (fun _ _ => rfl) | exact (fun _ h => absurd h (Nat.not_lt_zero _)) | refine ⟨?_, ?_⟩ | exact Iff.rfl | exact congrArg (fun z => V.SV.one (V.At.val (Value.int .i64 z))) (by omega))) (by repeat' (first | exact rfl | exact Iff.rfl | exact trivial | exact (fun _ _ => rfl) | exact (fun _ h => absurd h (Nat.not_lt_zero _)) | refine ⟨?_, ?_⟩ | exact Iff.rfl | exact congrArg (fun z => V.SV.one (V.At.val (Value.int .i64 z))) (by omega))) (by repeat' (first | exact rfl | exact Iff.rfl | exact trivial | exact (fun _ _ => rfl) | exact (fun _ h => absurd h (Nat.not_lt_zero _)) | refine ⟨?_, ?_⟩ | exact Iff.rfl | exact congrArg (fun z => V.SV.one (V.At.val (Value.int .i64 z))) (by omega)))
    by_cases q : k = (i + j) / 2
    · rw [q]; exact e
    · exact Bk.lx_trans (tr k ((i + j) / 2) (by dsimp only at hk; omega) (by omega)) e
  · have e : Bk.lx (b.getD ((i + j) / 2) default) t = false := by rw [← o1]; exact decide_eq_false (by assumption)
    refine V.NBack.at_ (i, (i + j) / 2) [] ⟨by dsimp only; omega, by dsimp only; omega, h3, fun k h5 h6 => ?_⟩ (by dsimp only; omega) (by repeat' (first | exact rfl | exact Iff.rfl | exact trivial | exact (fun _ _ => rfl) | exact (fun _ h => absurd h (Nat.not_lt_zero _)) | refine ⟨?_, ?_⟩ | exact Iff.rfl | exact congrArg (fun z => V.SV.one (V.At.val (Value.int .i64 z))) (by omega))) rfl (by repeat' (first | exact rfl | exact Iff.rfl | exact trivial | exact (fun _ _ => rfl) | exact (fun _ h => absurd h (Nat.not_lt_zero _)) | refine ⟨?_, ?_⟩ | exact Iff.rfl | exact congrArg (fun z => V.SV.one (V.At.val (Value.int .i64 z))) (by omega))) (by repeat' (first | exact rfl | exact Iff.rfl | exact trivial | exact (fun _ _ => rfl) | exact (fun _ h => absurd h (Nat.not_lt_zero _)) | refine ⟨?_, ?_⟩ | exact Iff.rfl | exact congrArg (fun z => V.SV.one (V.At.val (Value.int .i64 z))) (by omega))) (by repeat' (first | exact rfl | exact Iff.rfl | exact trivial | exact (fun _ _ => rfl) | exact (fun _ h => absurd h (Nat.not_lt_zero _)) | refine ⟨?_, ?_⟩ | exact Iff.rfl | exact congrArg (fun z => V.SV.one (V.At.val (Value.int .i64 z))) (by omega)))
    by_cases q : k = (i + j) / 2
    · rw [q]; exact e
    · refine Bool.eq_false_iff.2 fun z => ?_
      rw [Bk.lx_trans (tr ((i + j) / 2) k (by dsimp only at h5; omega) h6) z] at e
      cases e
  · obtain rfl : i = j := by omega
    rw [show (i + i) / 2 = i by omega] at o3
    have e1 := Bk.lbk_is h2 h3 (fun h => h4 i (Nat.le_refl _) h)
    rw [e1]
    have e2 : x1 = 0 → Bk.hit b t = true := fun h => Bk.hit_yes (i := i) (by omega) (o3.1 h)
    have e3 : ¬ x1 = 0 → Bk.hit b t = false := fun h => Bk.hit_no hs h3 h4 (fun _ z => h (o3.2 z))
    refine ⟨rfl, ⟨_, rfl, ?_⟩, trivial⟩
    by_cases q : x1 = 0
    · rw [e2 q]; simp [q]
    · rw [e3 q]; simp [q]
  · obtain rfl : i = j := by omega
    have e1 := Bk.lbk_is h2 h3 (fun h => h4 i (Nat.le_refl _) h)
    rw [e1]
    exact ⟨rfl, congrArg Value.bool (Bk.hit_no hs h3 h4 (fun h => absurd h (by omega))).symm, trivial⟩
namespace Bk
def Kn (a u : Int) : Prop := (0 ≤ a ∧ a ≤ 100) ∧ (0 ≤ u ∧ u ≤ 20)
instance (a u : Int) : Decidable (Kn a u) := by unfold Kn; exact inferInstance
def bE (b : List Po) (a u : Int) : Int := if lines b ≠ 0 then lines b else if Kn a u then 0 else 3
def bV (b : List Po) (a u : Int) : Int := if bE b a u = 0 then amAt b a u else 0
theorem hit_at {b : List Po} {t : Po} (s : b.Pairwise fun p q => lx p q = true) : (hit b t = true → lbk b t < b.length ∧ (b.getD (lbk b t) default).am = amAt b t.ac t.ut) ∧ (hit b t = false → amAt b t.ac t.ut = 0) := by
  refine ⟨fun h => ?_, fun h => ?_⟩
  · obtain ⟨p, hp, e⟩ := List.any_eq_true.1 h
    obtain ⟨k, hk, rfl⟩ := List.getElem_of_mem hp
    rw [decide_eq_true_eq] at e
    have pre : ∀ m, m < k → lx (b.getD m default) t = true := fun m hm => by
      have := List.pairwise_iff_getElem.1 s m k (by omega) hk hm
      rw [← getD_at (show m < b.length by omega)] at this
      unfold lx at *
      rw [decide_eq_true_eq] at *
      omega
    have at0 : lx (b.getD k default) t = false := by
      rw [getD_at hk]
      unfold lx
      rw [decide_eq_false_iff_not]
      omega
    have l := lbk_is (t := t) (b := b) (i := k) (by omega) pre (fun _ => at0)
    rw [l]
    refine ⟨hk, ?_⟩
    have ix := ixf_get (p := at? t.ac t.ut) hk (fun d hd => by
      obtain ⟨m, hm, rfl⟩ := List.getElem_of_mem hd
      rw [List.length_take] at hm
      rw [List.getElem_take, ← getD_at (show m < b.length by omega)]
      have := pre m (by omega)
      unfold lx at this
      rw [decide_eq_true_eq] at this
      exact decide_eq_false (by omega)) (decide_eq_true (by rw [getD_at hk]; exact e))
    unfold amAt
    rw [ix, if_pos (by omega), Int.toNat_natCast]
  · unfold amAt
    rw [ixf_no fun d hd => ?_, if_neg (by decide)]
    have := List.any_eq_false.1 h d hd
    rw [decide_eq_true_eq] at this
    exact decide_eq_false this
end Bk
theorem v_bkBalance (b : List Po) (a u : Int) (hb : b.length ≤ 9223372036854775807) : V.Fn Try.prog 51 [.arr 3 b.length (ga encP b)] [.one (.ref 0), .one (.val (.int .i64 a)), .one (.val (.int .i64 u))] (.tuple #[.int .i64 (Bk.bV b a u), .int .i64 (Bk.bE b a u)]) := by
  have c1 := v_bkLines b hb
  have c2 := v_bkKnown a u
  have c3 := fun (h : Bk.Lines b) => v_bsearchP b ⟨a, u, 0⟩ (Nat.le_trans h.le (by decide)) h.s
  have hh := fun (h : Bk.Lines b) => Bk.hit_at (t := ⟨a, u, 0⟩) h.s
  have lo := @Bk.lines_0 b
  have e1 : Bk.lines b ≠ 0 → Bk.bE b a u = Bk.lines b := fun h => if_pos h
  have e2 : Bk.lines b = 0 → ¬ Bk.Kn a u → Bk.bE b a u = 3 := fun h h2 => (if_neg (fun z => z h)).trans (if_neg h2)
  have e3 : Bk.lines b = 0 → Bk.Kn a u → Bk.bE b a u = 0 := fun h h2 => (if_neg (fun z => z h)).trans (if_pos h2)
  have v0 : Bk.bE b a u ≠ 0 → Bk.bV b a u = 0 := fun h => if_neg h
  have v1 : Bk.bE b a u = 0 → Bk.bV b a u = Bk.amAt b a u := fun h => if_pos h
  generalize Bk.lines b = L at *
  generalize Bk.lbk b ⟨a, u, 0⟩ = ix at *
  generalize Bk.hit b ⟨a, u, 0⟩ = ht at *
  refine V.Fn.mk_ V.Tok V.mixed Try.func51 rfl Try.ntmps51 (by kernel_rfl) rfl rfl ?_
  repeat' ((conv => whnf); first | refine V.NCond.mk ?_ | refine V.NIf.not_ ?_ | refine V.NIf.dec_ ?_ | refine V.NIf.no (by omega) ?_ | refine V.NIf.yes (by omega) ?_ | refine V.NIf.mk (fun _ => ?_) (fun _ => ?_) | refine V.NWrap.ok (by omega) (by omega) ?_ | refine V.NWrap.u64 (by omega) (by omega) ?_ | refine V.NLt.mk (by omega) ?_ | refine V.NBoth.mk ?_ ?_ | refine V.NTF.yes (by omega) ?_ | refine V.NTF.no (by omega) ?_ | refine V.NTF.dec ?_ | refine V.NDraw.q (by exact rfl) (by kernel_rfl) ?_ | refine V.NApp.one (by first | omega | (simp; omega)) (by first | omega | (simp; omega)) ?_ | (refine NIdx.mk ⟨ix, rfl, ((hh (lo (by assumption)).1).1 (by assumption)).1, ?_⟩) | (refine V.NLt.mk ((hh (lo (by assumption)).1).1 (by assumption)).1 ?_) | ((first | refine V.Fn.k (c1) [0] rfl ?_ ?_ | refine V.Fn.q (c1) [0] rfl ?_ ?_ | refine V.Fn.a (c1) [0] rfl ?_ ?_); · ((repeat' (first | exact rfl | exact Iff.rfl | exact trivial | exact (fun _ _ => rfl) | exact (fun _ h => absurd h (Nat.not_lt_zero _)) | refine ⟨?_, ?_⟩ | exact Iff.rfl | exact congrArg (fun z => V.SV.one (V.At.val (Value.int .i64 z))) (by omega))); done)) | (first | refine V.Fn.k0 (c2) rfl ?_ | refine V.Fn.q0 (c2) rfl ?_ | refine V.Fn.a0 (c2) rfl ?_) | ((first | refine V.Fn.k (c3 (lo (by assumption)).1) [0] rfl ?_ ?_ | refine V.Fn.q (c3 (lo (by assumption)).1) [0] rfl ?_ ?_ | refine V.Fn.a (c3 (lo (by assumption)).1) [0] rfl ?_ ?_); · ((repeat' (first | exact rfl | exact Iff.rfl | exact trivial | exact (fun _ _ => rfl) | exact (fun _ h => absurd h (Nat.not_lt_zero _)) | refine ⟨?_, ?_⟩ | exact Iff.rfl | exact congrArg (fun z => V.SV.one (V.At.val (Value.int .i64 z))) (by omega))); done)) | (refine V.NDraw.any (by kernel_rfl) ?_) | fail)
  all_goals (conv => whnf)
  · have e := e3 (by assumption) (by assumption)
    exact ⟨V.fin1 ((v1 e).trans ((hh (lo (by assumption)).1).1 (by assumption)).2.symm), congrArg (Value.int .i64) e.symm, trivial⟩
  · have e := e3 (by assumption) (by assumption)
    exact ⟨V.fin1 ((v1 e).trans ((hh (lo (by assumption)).1).2 (by simpa using ‹¬ ht = true›))), congrArg (Value.int .i64) e.symm, trivial⟩
  · have e := e2 (by assumption) (by assumption)
    exact ⟨V.fin1 (v0 (by omega)), congrArg (Value.int .i64) e.symm, trivial⟩
  · have e := e1 (by assumption)
    exact ⟨V.fin1 (v0 (by omega)), congrArg (Value.int .i64) e.symm, trivial⟩
end Go.Proofs.Yteblbhbfdfifpaa
