/- Shared texts, one behind the other: StI4, StI5, StI6, VLoan2, VRange, LoanPl2, VLoan4, VSameI, VSh5, VLoan5, StI7, LoanPl3, BuyPl, VBuy, BuyPl2 -/
import Derived.Test.YtcdlhfbpmpjfkaaZ1
import Derived.Test.YtcdlhfbpmpjfkaaZ2
import Derived.Test.YtcdlhfbpmpjfkaaZ3
import Derived.Test.YtcdlhfbpmpjfkaaZ4

/- Sorting that keeps the order of equals, of numbers: what two sorted runs become, the general case. -/
namespace Go.Proofs.Ytcdlhfbpmpjfkaa
open Go Go.Sort Go.RowKit V
set_option maxRecDepth 100000
set_option linter.unusedVariables false
set_option linter.unusedSimpArgs false
set_option maxHeartbeats 4000000
variable {Z : Nat}
theorem v_symC1I (nx : Nat) (O : Obs) (hT : Tail (nx + 1) O) (g : FuncId) (cp : Nat) (hcl : Nat.blt cp (nx + 1) = true) (cf : (It Z) → (It Z) → Int) (hc : CmpI nx O g cp cf) (lt : (It Z) → (It Z) → Bool) (S : SWO lt) (d : Array (It Z)) (a m b : Nat) (h0 : a + 1 < m) (h1 : m + 1 < b) (h2 : b ≤ d.size) (h3 : d.size ≤ 2305843009213693951) (H1 : SortedIn lt a m d) (H2 : SortedIn lt m b d)
    (HT : ∀ i j, a ≤ i → i < m → m ≤ j → j < b → lessI cf d[j]! d[i]! = lt d[j]! d[i]!) (hm : (a + b) / 2 < m)
    (ih : ∀ (e : Array (It Z)) (x y z : Nat), z - x < b - a → a ≤ x → x < y → y < z → z ≤ b → e.size = d.size → SortedIn lt x y e → SortedIn lt y z e → (∀ i j, x ≤ i → i < y → y ≤ j → j < z → lessI cf e[j]! e[i]! = lt e[j]! e[i]!) →
      Fam Try.prog 57 [.one (.ref 0), .one (.val (.int .i64 ((x : Int)))), .one (.val (.int .i64 ((y : Int)))), .one (.val (.int .i64 ((z : Int)))), .one (.clo g [cp])] 3 1 d.size (ga encTI e.toList) nx O (fun r => ∃ d', PermIn x z e d' ∧ SortedIn lt x z d' ∧ r = ga encTI d'.toList)) :
    Fam Try.prog 57 [.one (.ref 0), .one (.val (.int .i64 ((a : Int)))), .one (.val (.int .i64 ((m : Int)))), .one (.val (.int .i64 ((b : Int)))), .one (.clo g [cp])] 3 1 d.size (ga encTI d.toList) nx O (fun r => ∃ d', PermIn a b d d' ∧ SortedIn lt a b d' ∧ r = ga encTI d'.toList) := by
  refine Fam.mk hT ?_
  refine V.NCall.inl (f := 57) V.Tok V.mixed Try.func57 rfl Try.ntmps57 (by kernel_rfl) rfl ?_
  obtain ⟨mid, em⟩ : ∃ mid, mid = (a + b) / 2 := ⟨_, rfl⟩
  have bm : a < mid ∧ mid < b := by omega
  have bm2 : 2 * mid ≤ a + b ∧ a + b ≤ 2 * mid + 1 := by omega
  repeat' ((conv => whnf); first | refine V.NCond.mk ?_ | refine V.NIf.not_ ?_ | refine V.NIf.dec_ ?_ | refine V.NIf.no (by omega) ?_ | refine V.NIf.yes (by omega) ?_ | refine V.NIf.mk (fun _ => ?_) (fun _ => ?_) | refine V.NWrap.ok (by omega) (by omega) ?_ | refine V.NWrap.u64 (by omega) (by omega) ?_ | refine V.NLt.mk (by omega) ?_ | refine V.NBoth.mk ?_ ?_ | refine V.NTF.yes (by omega) ?_ | refine V.NTF.no (by omega) ?_ | refine V.NTF.dec ?_ | refine V.NDraw.q (by exact rfl) (by kernel_rfl) ?_ | refine V.NApp.one (by first | omega | (simp; omega)) (by first | omega | (simp; omega)) ?_ | (refine NShr.mid ?_; rw [← em]) | (refine V.NDraw.any (by kernel_rfl) ?_) | fail)
  all_goals (conv => whnf)
  refine NLoop.fam hT (fun (s : Nat × Nat) => [(20, .one (.val (.int .i64 s.1))), (21, .one (.val (.int .i64 s.2)))]) [(0, .one (.ref 0)), (1, .one (.val (.int .i64 a))), (2, .one (.val (.int .i64 m))), (3, .one (.val (.int .i64 b))), (4, .one (.clo g [cp])), (18, .one (.val (.int .i64 mid))), (19, .one (.val (.int .i64 ((mid : Int) + m)))), (22, .one (.val (.int .i64 ((mid : Int) + m - 1))))] 3 1 d.size (fun s => ga encTI d.toList) (fun s => s.2 - s.1) (fun s => (mid + m - b) ≤ s.1 ∧ s.1 ≤ s.2 ∧ s.2 ≤ mid ∧ (s.1 = (mid + m - b) ∨ lt d[mid + m - s.1]! d[s.1 - 1]! = false) ∧ (s.2 = mid ∨ lt d[mid + m - 1 - s.2]! d[s.2]! = true)) ((mid + m - b), mid) ⟨Nat.le_refl _, by dsimp only; omega, Nat.le_refl _, .inl rfl, .inl rfl⟩ [(0, _)] rfl rfl rfl (fun k hk => rfl) ⟨congrArg (fun z : Int => SV.one (At.val (Value.int .i64 z))) (show (mid : Int) + m - b = ((mid + m - b : Nat) : Int) by omega), rfl, rfl, rfl, rfl, rfl, rfl, rfl, rfl, rfl, trivial⟩ (fun _ => rfl) (by first | rfl | simpa [envB, svB, atB] using hcl) ?_
  rintro ⟨i, j⟩ ⟨hi, hij, hj, C1, C2⟩
  dsimp only at hi hij hj C1 C2 ⊢
  by_cases hlt : i < j
  · obtain ⟨h, eh⟩ : ∃ h, h = (i + j) / 2 := ⟨_, rfl⟩
    have h5 : i ≤ h ∧ h < j := by omega
    obtain ⟨k, ek⟩ : ∃ k, k = mid + m - 1 - h := ⟨_, rfl⟩
    have h6 : m ≤ k ∧ k < b := by omega
    have h7 : a ≤ h ∧ h < m := by omega
    have e1 := arr_getI (d := d) (k := k)
    have e2 := arr_getI (d := d) (k := h)
    have hcc := hc (d.toList.getD k default) (d.toList.getD h default)
    have ht := HT h k h7.1 h7.2 h6.1 h6.2
    rw [← e1, ← e2] at ht
    unfold lessI at ht
    generalize cf (d.toList.getD k default) (d.toList.getD h default) = c at *
    rw [e1, e2] at ht
    repeat' ((conv => whnf); first | refine V.NCond.mk ?_ | refine V.NIf.not_ ?_ | refine V.NIf.dec_ ?_ | refine V.NIf.no (by omega) ?_ | refine V.NIf.yes (by omega) ?_ | refine V.NIf.mk (fun _ => ?_) (fun _ => ?_) | refine V.NWrap.ok (by omega) (by omega) ?_ | refine V.NWrap.u64 (by omega) (by omega) ?_ | refine V.NLt.mk (by omega) ?_ | refine V.NBoth.mk ?_ ?_ | refine V.NTF.yes (by omega) ?_ | refine V.NTF.no (by omega) ?_ | refine V.NTF.dec ?_ | refine V.NDraw.q (by exact rfl) (by kernel_rfl) ?_ | refine V.NApp.one (by first | omega | (simp; omega)) (by first | omega | (simp; omega)) ?_ | (refine NShr.mid ?_; rw [← eh]) | (refine NIdx.mk ⟨k, by omega, by omega, ?_⟩) | (refine NIdx.mk ⟨h, by omega, by omega, ?_⟩) | (first | refine hcc _ _ _ ?_ | refine NCallQ.toA (hcc _ _ _ ?_) | refine NCallA.to (NCallQ.toA (hcc _ _ _ ?_))) | (refine V.NDraw.any (by kernel_rfl) ?_) | fail)
    all_goals (conv => whnf)
    · have hl : c < 0 := by assumption
      exact FBack.at_ hT (i, h) [(0, _)] ⟨hi, by dsimp only; omega, by dsimp only; omega, C1, .inr (by dsimp only; rw [← ek, ← ht]; exact decide_eq_true hl)⟩ (by dsimp only; omega) (by repeat' (first | exact rfl | exact Iff.rfl | exact trivial | exact (fun _ _ => rfl) | exact (fun _ h => absurd h (Nat.not_lt_zero _)) | refine ⟨?_, ?_⟩ | exact Iff.rfl | exact congrArg (fun z => V.SV.one (V.At.val (Value.int .i64 z))) (by omega))) rfl rfl rfl (fun k hk => rfl)
    · have hl : ¬ c < 0 := by assumption
      exact FBack.at_ hT (h + 1, j) [(0, _)] ⟨by dsimp only; omega, by dsimp only; omega, hj, .inr (by dsimp only; rw [Nat.add_sub_cancel, show mid + m - (h + 1) = k by omega, ← ht]; exact decide_eq_false hl), C2⟩ (by dsimp only; omega) (by repeat' (first | exact rfl | exact Iff.rfl | exact trivial | exact (fun _ _ => rfl) | exact (fun _ h => absurd h (Nat.not_lt_zero _)) | refine ⟨?_, ?_⟩ | exact Iff.rfl | exact congrArg (fun z => V.SV.one (V.At.val (Value.int .i64 z))) (by omega))) rfl rfl rfl (fun k hk => rfl)
  · obtain rfl : i = j := by omega
    clear hlt hij
    obtain ⟨e, ee⟩ : ∃ e, e = mid + m - i := ⟨_, rfl⟩
    have hai : a ≤ i := by omega
    have sm : i ≤ m := by omega
    have me : m ≤ e := by omega
    have eb : e ≤ b := by omega
    have ec : i + (e - m) = mid := by omega
    have ei : (mid : Int) + m - i = (e : Int) := by omega
    have D1 : a < i → e < b → lt d[e]! d[i - 1]! = false := fun q1 q2 => by
      rcases C1 with z | z
      · omega
      · rwa [← ee] at z
    have D2 : m < e → i < m → lt d[e - 1]! d[i]! = true := fun q1 q2 => by
      rcases C2 with z | z
      · omega
      · rwa [show mid + m - 1 - i = e - 1 by omega] at z
    clear C1 C2 hi hj
    have fin : ∀ d1 d2 d3 : Array (It Z), St.Rot i m e d d1 → PermIn a mid d1 d2 → SortedIn lt a mid d2 → PermIn mid b d2 d3 → SortedIn lt mid b d3 → PermIn a b d d3 ∧ SortedIn lt a b d3 := fun d1 d2 d3 r P2 S2 P3 S3 => by
      have X := St.cross S r hai sm me eb H1 H2 D1 D2
      rw [ec] at X
      have hv := St.halves (lt := lt) (by omega) (by omega) (by rw [r.1]; exact h2) X P2 S2 P3 S3
      exact ⟨permIn_trans _ _ _ _ _ (permIn_mono _ _ _ _ a b hai eb h2 (r.perm sm me (by omega))) hv.1, hv.2⟩
    have parts : ∀ d1 : Array (It Z), St.Rot i m e d d1 → (SortedIn lt a i d1 ∧ SortedIn lt i mid d1 ∧ SortedIn lt mid e d1 ∧ SortedIn lt e b d1) ∧ (∀ p q, a ≤ p → p < i → i ≤ q → q < mid → lessI cf d1[q]! d1[p]! = lt d1[q]! d1[p]!) ∧ (∀ p q, mid ≤ p → p < e → e ≤ q → q < b → lessI cf d1[q]! d1[p]! = lt d1[q]! d1[p]!) := fun d1 r => by
      have A := St.runs r hai sm me eb H1 H2
      have B := St.tests (p := fun x y => lessI cf x y = lt x y) r hai sm me eb HT
      rw [ec] at A B
      exact ⟨A, B⟩
    clear D1 D2
    -- the rotation, if there is one
    by_cases q1 : i < m ∧ m < e
    · have c1 := v_rotI nx O hT g cp hcl d i m e sm me (by omega) q1.1 q1.2 (by omega)
      rw [← ei] at c1
      by_cases q2 : a < i ∧ i < mid
      · by_cases q3 : mid < e ∧ e < b
        · first
            | (exfalso; omega)
            | (repeat' ((conv => whnf); first | (refine V.NIf.yes ?_ ?_; · (decide; done)) | (refine V.NIf.no ?_ ?_; · (decide; done)) | refine V.NCond.mk ?_ | refine V.NIf.not_ ?_ | refine V.NIf.dec_ ?_ | refine V.NIf.no (by omega) ?_ | refine V.NIf.yes (by omega) ?_ | refine V.NIf.mk (fun _ => ?_) (fun _ => ?_) | refine V.NWrap.ok (by omega) (by omega) ?_ | refine V.NWrap.u64 (by omega) (by omega) ?_ | refine V.NLt.mk (by omega) ?_ | refine V.NBoth.mk ?_ ?_ | refine V.NTF.yes (by omega) ?_ | refine V.NTF.no (by omega) ?_ | refine V.NTF.dec ?_ | refine V.NDraw.q (by exact rfl) (by kernel_rfl) ?_ | refine V.NApp.one (by first | omega | (simp; omega)) (by first | omega | (simp; omega)) ?_ | (refine Fam.use c1 hT [(0, _)] rfl rfl rfl (fun k hk => rfl) ?_; rintro g1 ⟨d1, r0, rfl⟩; obtain ⟨⟨A1, A2, A3, A4⟩, B1, B2⟩ := parts d1 r0; have z1 : d1.size = d.size := r0.1) | (have c2 := ih d1 a i mid (by omega) (Nat.le_refl _) q2.1 q2.2 (by omega) z1 A1 A2 B1; refine Fam.use c2 hT [(0, _)] rfl rfl rfl (fun k hk => rfl) ?_; rintro g2 ⟨d2, P2, S2, rfl⟩; have A3' := St.sorted_perm A3 P2 (.inr (Nat.le_refl _)); have A4' := St.sorted_perm A4 P2 (.inr (by omega)); have z2 : d2.size = d.size := P2.1.trans z1; have B2' : ∀ p q, mid ≤ p → p < e → e ≤ q → q < b → lessI cf d2[q]! d2[p]! = lt d2[q]! d2[p]! := fun p q h1 h2 h3 h4 => (by rw [P2.2.1 p (by omega), P2.2.1 q (by omega)]; exact B2 p q h1 h2 h3 h4)) | (have c3 := ih d2 mid e b (by omega) (by omega) q3.1 q3.2 (Nat.le_refl _) z2 A3' A4' B2'; rw [← ei] at c3; refine Fam.use c3 hT [(0, _)] rfl rfl rfl (fun k hk => rfl) ?_; rintro g3 ⟨d3, P3, S3, rfl⟩) | (refine V.NDraw.any (by kernel_rfl) ?_) | fail)
               all_goals (conv => whnf)
               have F := fin d1 d2 d3 r0 P2 S2 P3 S3
               exact ⟨rfl, rfl, [(0, _)], _, rfl, rfl, rfl, d3, F.1, F.2, rfl⟩)
        · first
            | (exfalso; omega)
            | (repeat' ((conv => whnf); first | (refine V.NIf.yes ?_ ?_; · (decide; done)) | (refine V.NIf.no ?_ ?_; · (decide; done)) | refine V.NCond.mk ?_ | refine V.NIf.not_ ?_ | refine V.NIf.dec_ ?_ | refine V.NIf.no (by omega) ?_ | refine V.NIf.yes (by omega) ?_ | refine V.NIf.mk (fun _ => ?_) (fun _ => ?_) | refine V.NWrap.ok (by omega) (by omega) ?_ | refine V.NWrap.u64 (by omega) (by omega) ?_ | refine V.NLt.mk (by omega) ?_ | refine V.NBoth.mk ?_ ?_ | refine V.NTF.yes (by omega) ?_ | refine V.NTF.no (by omega) ?_ | refine V.NTF.dec ?_ | refine V.NDraw.q (by exact rfl) (by kernel_rfl) ?_ | refine V.NApp.one (by first | omega | (simp; omega)) (by first | omega | (simp; omega)) ?_ | (refine Fam.use c1 hT [(0, _)] rfl rfl rfl (fun k hk => rfl) ?_; rintro g1 ⟨d1, r0, rfl⟩; obtain ⟨⟨A1, A2, A3, A4⟩, B1, B2⟩ := parts d1 r0; have z1 : d1.size = d.size := r0.1) | (have c2 := ih d1 a i mid (by omega) (Nat.le_refl _) q2.1 q2.2 (by omega) z1 A1 A2 B1; refine Fam.use c2 hT [(0, _)] rfl rfl rfl (fun k hk => rfl) ?_; rintro g2 ⟨d2, P2, S2, rfl⟩; have A3' := St.sorted_perm A3 P2 (.inr (Nat.le_refl _)); have A4' := St.sorted_perm A4 P2 (.inr (by omega)); have z2 : d2.size = d.size := P2.1.trans z1; have B2' : ∀ p q, mid ≤ p → p < e → e ≤ q → q < b → lessI cf d2[q]! d2[p]! = lt d2[q]! d2[p]! := fun p q h1 h2 h3 h4 => (by rw [P2.2.1 p (by omega), P2.2.1 q (by omega)]; exact B2 p q h1 h2 h3 h4)) | (refine V.NDraw.any (by kernel_rfl) ?_) | fail)
               all_goals (conv => whnf)
               have F := fin d1 d2 d2 r0 P2 S2 (permIn_refl _ _ _) (St.sorted_one A3' A4' (by omega) eb q3)
               exact ⟨rfl, rfl, [(0, _)], _, rfl, rfl, rfl, d2, F.1, F.2, rfl⟩)
      · by_cases q3 : mid < e ∧ e < b
        · first
            | (exfalso; omega)
            | (repeat' ((conv => whnf); first | (refine V.NIf.yes ?_ ?_; · (decide; done)) | (refine V.NIf.no ?_ ?_; · (decide; done)) | refine V.NCond.mk ?_ | refine V.NIf.not_ ?_ | refine V.NIf.dec_ ?_ | refine V.NIf.no (by omega) ?_ | refine V.NIf.yes (by omega) ?_ | refine V.NIf.mk (fun _ => ?_) (fun _ => ?_) | refine V.NWrap.ok (by omega) (by omega) ?_ | refine V.NWrap.u64 (by omega) (by omega) ?_ | refine V.NLt.mk (by omega) ?_ | refine V.NBoth.mk ?_ ?_ | refine V.NTF.yes (by omega) ?_ | refine V.NTF.no (by omega) ?_ | refine V.NTF.dec ?_ | refine V.NDraw.q (by exact rfl) (by kernel_rfl) ?_ | refine V.NApp.one (by first | omega | (simp; omega)) (by first | omega | (simp; omega)) ?_ | (refine Fam.use c1 hT [(0, _)] rfl rfl rfl (fun k hk => rfl) ?_; rintro g1 ⟨d1, r0, rfl⟩; obtain ⟨⟨A1, A2, A3, A4⟩, B1, B2⟩ := parts d1 r0; have z1 : d1.size = d.size := r0.1) | (have c3 := ih d1 mid e b (by omega) (by omega) q3.1 q3.2 (Nat.le_refl _) z1 A3 A4 B2; rw [← ei] at c3; refine Fam.use c3 hT [(0, _)] rfl rfl rfl (fun k hk => rfl) ?_; rintro g3 ⟨d3, P3, S3, rfl⟩) | (refine V.NDraw.any (by kernel_rfl) ?_) | fail)
               all_goals (conv => whnf)
               have F := fin d1 d1 d3 r0 (permIn_refl _ _ _) (St.sorted_one A1 A2 hai (by omega) q2) P3 S3
               exact ⟨rfl, rfl, [(0, _)], _, rfl, rfl, rfl, d3, F.1, F.2, rfl⟩)
        · first
            | (exfalso; omega)
            | (repeat' ((conv => whnf); first | (refine V.NIf.yes ?_ ?_; · (decide; done)) | (refine V.NIf.no ?_ ?_; · (decide; done)) | refine V.NCond.mk ?_ | refine V.NIf.not_ ?_ | refine V.NIf.dec_ ?_ | refine V.NIf.no (by omega) ?_ | refine V.NIf.yes (by omega) ?_ | refine V.NIf.mk (fun _ => ?_) (fun _ => ?_) | refine V.NWrap.ok (by omega) (by omega) ?_ | refine V.NWrap.u64 (by omega) (by omega) ?_ | refine V.NLt.mk (by omega) ?_ | refine V.NBoth.mk ?_ ?_ | refine V.NTF.yes (by omega) ?_ | refine V.NTF.no (by omega) ?_ | refine V.NTF.dec ?_ | refine V.NDraw.q (by exact rfl) (by kernel_rfl) ?_ | refine V.NApp.one (by first | omega | (simp; omega)) (by first | omega | (simp; omega)) ?_ | (refine Fam.use c1 hT [(0, _)] rfl rfl rfl (fun k hk => rfl) ?_; rintro g1 ⟨d1, r0, rfl⟩; obtain ⟨⟨A1, A2, A3, A4⟩, B1, B2⟩ := parts d1 r0; have z1 : d1.size = d.size := r0.1) | (refine V.NDraw.any (by kernel_rfl) ?_) | fail)
               all_goals (conv => whnf)
               have F := fin d1 d1 d1 r0 (permIn_refl _ _ _) (St.sorted_one A1 A2 hai (by omega) q2) (permIn_refl _ _ _) (St.sorted_one A3 A4 (by omega) eb q3)
               exact ⟨rfl, rfl, [(0, _)], _, rfl, rfl, rfl, d1, F.1, F.2, rfl⟩)
    · have r0 : St.Rot i m e d d := by
        by_cases z : i = m
        · subst z; exact St.Rot.refl_l
        · obtain rfl : m = e := by omega
          exact St.Rot.refl_r
      by_cases q2 : a < i ∧ i < mid
      · by_cases q3 : mid < e ∧ e < b
        · first
            | (exfalso; omega)
            | (obtain ⟨⟨A1, A2, A3, A4⟩, B1, B2⟩ := parts d r0
               have z1 : d.size = d.size := rfl
               repeat' ((conv => whnf); first | (refine V.NIf.yes ?_ ?_; · (decide; done)) | (refine V.NIf.no ?_ ?_; · (decide; done)) | refine V.NCond.mk ?_ | refine V.NIf.not_ ?_ | refine V.NIf.dec_ ?_ | refine V.NIf.no (by omega) ?_ | refine V.NIf.yes (by omega) ?_ | refine V.NIf.mk (fun _ => ?_) (fun _ => ?_) | refine V.NWrap.ok (by omega) (by omega) ?_ | refine V.NWrap.u64 (by omega) (by omega) ?_ | refine V.NLt.mk (by omega) ?_ | refine V.NBoth.mk ?_ ?_ | refine V.NTF.yes (by omega) ?_ | refine V.NTF.no (by omega) ?_ | refine V.NTF.dec ?_ | refine V.NDraw.q (by exact rfl) (by kernel_rfl) ?_ | refine V.NApp.one (by first | omega | (simp; omega)) (by first | omega | (simp; omega)) ?_ | (have c2 := ih d a i mid (by omega) (Nat.le_refl _) q2.1 q2.2 (by omega) z1 A1 A2 B1; refine Fam.use c2 hT [(0, _)] rfl rfl rfl (fun k hk => rfl) ?_; rintro g2 ⟨d2, P2, S2, rfl⟩; have A3' := St.sorted_perm A3 P2 (.inr (Nat.le_refl _)); have A4' := St.sorted_perm A4 P2 (.inr (by omega)); have z2 : d2.size = d.size := P2.1.trans z1; have B2' : ∀ p q, mid ≤ p → p < e → e ≤ q → q < b → lessI cf d2[q]! d2[p]! = lt d2[q]! d2[p]! := fun p q h1 h2 h3 h4 => (by rw [P2.2.1 p (by omega), P2.2.1 q (by omega)]; exact B2 p q h1 h2 h3 h4)) | (have c3 := ih d2 mid e b (by omega) (by omega) q3.1 q3.2 (Nat.le_refl _) z2 A3' A4' B2'; rw [← ei] at c3; refine Fam.use c3 hT [(0, _)] rfl rfl rfl (fun k hk => rfl) ?_; rintro g3 ⟨d3, P3, S3, rfl⟩) | (refine V.NDraw.any (by kernel_rfl) ?_) | fail)
               all_goals (conv => whnf)
               have F := fin d d2 d3 r0 P2 S2 P3 S3
               exact ⟨rfl, rfl, [(0, _)], _, rfl, rfl, rfl, d3, F.1, F.2, rfl⟩)
        · first
            | (exfalso; omega)
            | (obtain ⟨⟨A1, A2, A3, A4⟩, B1, B2⟩ := parts d r0
               have z1 : d.size = d.size := rfl
               repeat' ((conv => whnf); first | (refine V.NIf.yes ?_ ?_; · (decide; done)) | (refine V.NIf.no ?_ ?_; · (decide; done)) | refine V.NCond.mk ?_ | refine V.NIf.not_ ?_ | refine V.NIf.dec_ ?_ | refine V.NIf.no (by omega) ?_ | refine V.NIf.yes (by omega) ?_ | refine V.NIf.mk (fun _ => ?_) (fun _ => ?_) | refine V.NWrap.ok (by omega) (by omega) ?_ | refine V.NWrap.u64 (by omega) (by omega) ?_ | refine V.NLt.mk (by omega) ?_ | refine V.NBoth.mk ?_ ?_ | refine V.NTF.yes (by omega) ?_ | refine V.NTF.no (by omega) ?_ | refine V.NTF.dec ?_ | refine V.NDraw.q (by exact rfl) (by kernel_rfl) ?_ | refine V.NApp.one (by first | omega | (simp; omega)) (by first | omega | (simp; omega)) ?_ | (have c2 := ih d a i mid (by omega) (Nat.le_refl _) q2.1 q2.2 (by omega) z1 A1 A2 B1; refine Fam.use c2 hT [(0, _)] rfl rfl rfl (fun k hk => rfl) ?_; rintro g2 ⟨d2, P2, S2, rfl⟩; have A3' := St.sorted_perm A3 P2 (.inr (Nat.le_refl _)); have A4' := St.sorted_perm A4 P2 (.inr (by omega)); have z2 : d2.size = d.size := P2.1.trans z1; have B2' : ∀ p q, mid ≤ p → p < e → e ≤ q → q < b → lessI cf d2[q]! d2[p]! = lt d2[q]! d2[p]! := fun p q h1 h2 h3 h4 => (by rw [P2.2.1 p (by omega), P2.2.1 q (by omega)]; exact B2 p q h1 h2 h3 h4)) | (refine V.NDraw.any (by kernel_rfl) ?_) | fail)
               all_goals (conv => whnf)
               have F := fin d d2 d2 r0 P2 S2 (permIn_refl _ _ _) (St.sorted_one A3' A4' (by omega) eb q3)
               exact ⟨rfl, rfl, [(0, _)], _, rfl, rfl, rfl, d2, F.1, F.2, rfl⟩)
      · by_cases q3 : mid < e ∧ e < b
        · first
            | (exfalso; omega)
            | (obtain ⟨⟨A1, A2, A3, A4⟩, B1, B2⟩ := parts d r0
               have z1 : d.size = d.size := rfl
               repeat' ((conv => whnf); first | (refine V.NIf.yes ?_ ?_; · (decide; done)) | (refine V.NIf.no ?_ ?_; · (decide; done)) | refine V.NCond.mk ?_ | refine V.NIf.not_ ?_ | refine V.NIf.dec_ ?_ | refine V.NIf.no (by omega) ?_ | refine V.NIf.yes (by omega) ?_ | refine V.NIf.mk (fun _ => ?_) (fun _ => ?_) | refine V.NWrap.ok (by omega) (by omega) ?_ | refine V.NWrap.u64 (by omega) (by omega) ?_ | refine V.NLt.mk (by omega) ?_ | refine V.NBoth.mk ?_ ?_ | refine V.NTF.yes (by omega) ?_ | refine V.NTF.no (by omega) ?_ | refine V.NTF.dec ?_ | refine V.NDraw.q (by exact rfl) (by kernel_rfl) ?_ | refine V.NApp.one (by first | omega | (simp; omega)) (by first | omega | (simp; omega)) ?_ | (have c3 := ih d mid e b (by omega) (by omega) q3.1 q3.2 (Nat.le_refl _) z1 A3 A4 B2; rw [← ei] at c3; refine Fam.use c3 hT [(0, _)] rfl rfl rfl (fun k hk => rfl) ?_; rintro g3 ⟨d3, P3, S3, rfl⟩) | (refine V.NDraw.any (by kernel_rfl) ?_) | fail)
               all_goals (conv => whnf)
               have F := fin d d d3 r0 (permIn_refl _ _ _) (St.sorted_one A1 A2 hai (by omega) q2) P3 S3
               exact ⟨rfl, rfl, [(0, _)], _, rfl, rfl, rfl, d3, F.1, F.2, rfl⟩)
        · first
            | (exfalso; omega)
            | (obtain ⟨⟨A1, A2, A3, A4⟩, B1, B2⟩ := parts d r0
               have z1 : d.size = d.size := rfl
               repeat' ((conv => whnf); first | (refine V.NIf.yes ?_ ?_; · (decide; done)) | (refine V.NIf.no ?_ ?_; · (decide; done)) | refine V.NCond.mk ?_ | refine V.NIf.not_ ?_ | refine V.NIf.dec_ ?_ | refine V.NIf.no (by omega) ?_ | refine V.NIf.yes (by omega) ?_ | refine V.NIf.mk (fun _ => ?_) (fun _ => ?_) | refine V.NWrap.ok (by omega) (by omega) ?_ | refine V.NWrap.u64 (by omega) (by omega) ?_ | refine V.NLt.mk (by omega) ?_ | refine V.NBoth.mk ?_ ?_ | refine V.NTF.yes (by omega) ?_ | refine V.NTF.no (by omega) ?_ | refine V.NTF.dec ?_ | refine V.NDraw.q (by exact rfl) (by kernel_rfl) ?_ | refine V.NApp.one (by first | omega | (simp; omega)) (by first | omega | (simp; omega)) ?_ | (refine V.NDraw.any (by kernel_rfl) ?_) | fail)
               all_goals (conv => whnf)
               have F := fin d d d r0 (permIn_refl _ _ _) (St.sorted_one A1 A2 hai (by omega) q2) (permIn_refl _ _ _) (St.sorted_one A3 A4 (by omega) eb q3)
               exact ⟨rfl, rfl, [(0, _)], _, rfl, rfl, rfl, d, F.1, F.2, rfl⟩)
end Go.Proofs.Ytcdlhfbpmpjfkaa

/- Sorting that keeps the order of equals, of numbers: what two sorted runs become, the general case. -/
namespace Go.Proofs.Ytcdlhfbpmpjfkaa
open Go Go.Sort Go.RowKit V
set_option maxRecDepth 100000
set_option linter.unusedVariables false
set_option linter.unusedSimpArgs false
set_option maxHeartbeats 4000000
variable {Z : Nat}
theorem v_symC0I (nx : Nat) (O : Obs) (hT : Tail (nx + 1) O) (g : FuncId) (cp : Nat) (hcl : Nat.blt cp (nx + 1) = true) (cf : (It Z) → (It Z) → Int) (hc : CmpI nx O g cp cf) (lt : (It Z) → (It Z) → Bool) (S : SWO lt) (d : Array (It Z)) (a m b : Nat) (h0 : a + 1 < m) (h1 : m + 1 < b) (h2 : b ≤ d.size) (h3 : d.size ≤ 2305843009213693951) (H1 : SortedIn lt a m d) (H2 : SortedIn lt m b d)
    (HT : ∀ i j, a ≤ i → i < m → m ≤ j → j < b → lessI cf d[j]! d[i]! = lt d[j]! d[i]!) (hm : m ≤ (a + b) / 2)
    (ih : ∀ (e : Array (It Z)) (x y z : Nat), z - x < b - a → a ≤ x → x < y → y < z → z ≤ b → e.size = d.size → SortedIn lt x y e → SortedIn lt y z e → (∀ i j, x ≤ i → i < y → y ≤ j → j < z → lessI cf e[j]! e[i]! = lt e[j]! e[i]!) →
      Fam Try.prog 57 [.one (.ref 0), .one (.val (.int .i64 ((x : Int)))), .one (.val (.int .i64 ((y : Int)))), .one (.val (.int .i64 ((z : Int)))), .one (.clo g [cp])] 3 1 d.size (ga encTI e.toList) nx O (fun r => ∃ d', PermIn x z e d' ∧ SortedIn lt x z d' ∧ r = ga encTI d'.toList)) :
    Fam Try.prog 57 [.one (.ref 0), .one (.val (.int .i64 ((a : Int)))), .one (.val (.int .i64 ((m : Int)))), .one (.val (.int .i64 ((b : Int)))), .one (.clo g [cp])] 3 1 d.size (ga encTI d.toList) nx O (fun r => ∃ d', PermIn a b d d' ∧ SortedIn lt a b d' ∧ r = ga encTI d'.toList) := by
  refine Fam.mk hT ?_
  refine V.NCall.inl (f := 57) V.Tok V.mixed Try.func57 rfl Try.ntmps57 (by kernel_rfl) rfl ?_
  obtain ⟨mid, em⟩ : ∃ mid, mid = (a + b) / 2 := ⟨_, rfl⟩
  have bm : a < mid ∧ mid < b := by omega
  have bm2 : 2 * mid ≤ a + b ∧ a + b ≤ 2 * mid + 1 := by omega
  repeat' ((conv => whnf); first | refine V.NCond.mk ?_ | refine V.NIf.not_ ?_ | refine V.NIf.dec_ ?_ | refine V.NIf.no (by omega) ?_ | refine V.NIf.yes (by omega) ?_ | refine V.NIf.mk (fun _ => ?_) (fun _ => ?_) | refine V.NWrap.ok (by omega) (by omega) ?_ | refine V.NWrap.u64 (by omega) (by omega) ?_ | refine V.NLt.mk (by omega) ?_ | refine V.NBoth.mk ?_ ?_ | refine V.NTF.yes (by omega) ?_ | refine V.NTF.no (by omega) ?_ | refine V.NTF.dec ?_ | refine V.NDraw.q (by exact rfl) (by kernel_rfl) ?_ | refine V.NApp.one (by first | omega | (simp; omega)) (by first | omega | (simp; omega)) ?_ | (refine NShr.mid ?_; rw [← em]) | (refine V.NDraw.any (by kernel_rfl) ?_) | fail)
  all_goals (conv => whnf)
  refine NLoop.fam hT (fun (s : Nat × Nat) => [(20, .one (.val (.int .i64 s.1))), (21, .one (.val (.int .i64 s.2)))]) [(0, .one (.ref 0)), (1, .one (.val (.int .i64 a))), (2, .one (.val (.int .i64 m))), (3, .one (.val (.int .i64 b))), (4, .one (.clo g [cp])), (18, .one (.val (.int .i64 mid))), (19, .one (.val (.int .i64 ((mid : Int) + m)))), (22, .one (.val (.int .i64 ((mid : Int) + m - 1))))] 3 1 d.size (fun s => ga encTI d.toList) (fun s => s.2 - s.1) (fun s => a ≤ s.1 ∧ s.1 ≤ s.2 ∧ s.2 ≤ m ∧ (s.1 = a ∨ lt d[mid + m - s.1]! d[s.1 - 1]! = false) ∧ (s.2 = m ∨ lt d[mid + m - 1 - s.2]! d[s.2]! = true)) (a, m) ⟨Nat.le_refl _, by dsimp only; omega, Nat.le_refl _, .inl rfl, .inl rfl⟩ [(0, _)] rfl rfl rfl (fun k hk => rfl) (by repeat' (first | exact rfl | exact Iff.rfl | exact trivial | exact (fun _ _ => rfl) | exact (fun _ h => absurd h (Nat.not_lt_zero _)) | refine ⟨?_, ?_⟩ | exact Iff.rfl | exact congrArg (fun z => V.SV.one (V.At.val (Value.int .i64 z))) (by omega))) (fun _ => rfl) (by first | rfl | simpa [envB, svB, atB] using hcl) ?_
  rintro ⟨i, j⟩ ⟨hi, hij, hj, C1, C2⟩
  dsimp only at hi hij hj C1 C2 ⊢
  by_cases hlt : i < j
  · obtain ⟨h, eh⟩ : ∃ h, h = (i + j) / 2 := ⟨_, rfl⟩
    have h5 : i ≤ h ∧ h < j := by omega
    obtain ⟨k, ek⟩ : ∃ k, k = mid + m - 1 - h := ⟨_, rfl⟩
    have h6 : m ≤ k ∧ k < b := by omega
    have h7 : a ≤ h ∧ h < m := by omega
    have e1 := arr_getI (d := d) (k := k)
    have e2 := arr_getI (d := d) (k := h)
    have hcc := hc (d.toList.getD k default) (d.toList.getD h default)
    have ht := HT h k h7.1 h7.2 h6.1 h6.2
    rw [← e1, ← e2] at ht
    unfold lessI at ht
    generalize cf (d.toList.getD k default) (d.toList.getD h default) = c at *
    rw [e1, e2] at ht
    repeat' ((conv => whnf); first | refine V.NCond.mk ?_ | refine V.NIf.not_ ?_ | refine V.NIf.dec_ ?_ | refine V.NIf.no (by omega) ?_ | refine V.NIf.yes (by omega) ?_ | refine V.NIf.mk (fun _ => ?_) (fun _ => ?_) | refine V.NWrap.ok (by omega) (by omega) ?_ | refine V.NWrap.u64 (by omega) (by omega) ?_ | refine V.NLt.mk (by omega) ?_ | refine V.NBoth.mk ?_ ?_ | refine V.NTF.yes (by omega) ?_ | refine V.NTF.no (by omega) ?_ | refine V.NTF.dec ?_ | refine V.NDraw.q (by exact rfl) (by kernel_rfl) ?_ | refine V.NApp.one (by first | omega | (simp; omega)) (by first | omega | (simp; omega)) ?_ | (refine NShr.mid ?_; rw [← eh]) | (refine NIdx.mk ⟨k, by omega, by omega, ?_⟩) | (refine NIdx.mk ⟨h, by omega, by omega, ?_⟩) | (first | refine hcc _ _ _ ?_ | refine NCallQ.toA (hcc _ _ _ ?_) | refine NCallA.to (NCallQ.toA (hcc _ _ _ ?_))) | (refine V.NDraw.any (by kernel_rfl) ?_) | fail)
    all_goals (conv => whnf)
    · have hl : c < 0 := by assumption
      exact FBack.at_ hT (i, h) [(0, _)] ⟨hi, by dsimp only; omega, by dsimp only; omega, C1, .inr (by dsimp only; rw [← ek, ← ht]; exact decide_eq_true hl)⟩ (by dsimp only; omega) (by repeat' (first | exact rfl | exact Iff.rfl | exact trivial | exact (fun _ _ => rfl) | exact (fun _ h => absurd h (Nat.not_lt_zero _)) | refine ⟨?_, ?_⟩ | exact Iff.rfl | exact congrArg (fun z => V.SV.one (V.At.val (Value.int .i64 z))) (by omega))) rfl rfl rfl (fun k hk => rfl)
    · have hl : ¬ c < 0 := by assumption
      exact FBack.at_ hT (h + 1, j) [(0, _)] ⟨by dsimp only; omega, by dsimp only; omega, hj, .inr (by dsimp only; rw [Nat.add_sub_cancel, show mid + m - (h + 1) = k by omega, ← ht]; exact decide_eq_false hl), C2⟩ (by dsimp only; omega) (by repeat' (first | exact rfl | exact Iff.rfl | exact trivial | exact (fun _ _ => rfl) | exact (fun _ h => absurd h (Nat.not_lt_zero _)) | refine ⟨?_, ?_⟩ | exact Iff.rfl | exact congrArg (fun z => V.SV.one (V.At.val (Value.int .i64 z))) (by omega))) rfl rfl rfl (fun k hk => rfl)
  · obtain rfl : i = j := by omega
    clear hlt hij
    obtain ⟨e, ee⟩ : ∃ e, e = mid + m - i := ⟨_, rfl⟩
    have hai : a ≤ i := by omega
    have sm : i ≤ m := by omega
    have me : m ≤ e := by omega
    have eb : e ≤ b := by omega
    have ec : i + (e - m) = mid := by omega
    have ei : (mid : Int) + m - i = (e : Int) := by omega
    have D1 : a < i → e < b → lt d[e]! d[i - 1]! = false := fun q1 q2 => by
      rcases C1 with z | z
      · omega
      · rwa [← ee] at z
    have D2 : m < e → i < m → lt d[e - 1]! d[i]! = true := fun q1 q2 => by
      rcases C2 with z | z
      · omega
      · rwa [show mid + m - 1 - i = e - 1 by omega] at z
    clear C1 C2 hi hj
    have fin : ∀ d1 d2 d3 : Array (It Z), St.Rot i m e d d1 → PermIn a mid d1 d2 → SortedIn lt a mid d2 → PermIn mid b d2 d3 → SortedIn lt mid b d3 → PermIn a b d d3 ∧ SortedIn lt a b d3 := fun d1 d2 d3 r P2 S2 P3 S3 => by
      have X := St.cross S r hai sm me eb H1 H2 D1 D2
      rw [ec] at X
      have hv := St.halves (lt := lt) (by omega) (by omega) (by rw [r.1]; exact h2) X P2 S2 P3 S3
      exact ⟨permIn_trans _ _ _ _ _ (permIn_mono _ _ _ _ a b hai eb h2 (r.perm sm me (by omega))) hv.1, hv.2⟩
    have parts : ∀ d1 : Array (It Z), St.Rot i m e d d1 → (SortedIn lt a i d1 ∧ SortedIn lt i mid d1 ∧ SortedIn lt mid e d1 ∧ SortedIn lt e b d1) ∧ (∀ p q, a ≤ p → p < i → i ≤ q → q < mid → lessI cf d1[q]! d1[p]! = lt d1[q]! d1[p]!) ∧ (∀ p q, mid ≤ p → p < e → e ≤ q → q < b → lessI cf d1[q]! d1[p]! = lt d1[q]! d1[p]!) := fun d1 r => by
      have A := St.runs r hai sm me eb H1 H2
      have B := St.tests (p := fun x y => lessI cf x y = lt x y) r hai sm me eb HT
      rw [ec] at A B
      exact ⟨A, B⟩
    clear D1 D2
    -- the rotation, if there is one
    by_cases q1 : i < m ∧ m < e
    · have c1 := v_rotI nx O hT g cp hcl d i m e sm me (by omega) q1.1 q1.2 (by omega)
      rw [← ei] at c1
      by_cases q2 : a < i ∧ i < mid
      · by_cases q3 : mid < e ∧ e < b
        · first
            | (exfalso; omega)
            | (repeat' ((conv => whnf); first | (refine V.NIf.yes ?_ ?_; · (decide; done)) | (refine V.NIf.no ?_ ?_; · (decide; done)) | refine V.NCond.mk ?_ | refine V.NIf.not_ ?_ | refine V.NIf.dec_ ?_ | refine V.NIf.no (by omega) ?_ | refine V.NIf.yes (by omega) ?_ | refine V.NIf.mk (fun _ => ?_) (fun _ => ?_) | refine V.NWrap.ok (by omega) (by omega) ?_ | refine V.NWrap.u64 (by omega) (by omega) ?_ | refine V.NLt.mk (by omega) ?_ | refine V.NBoth.mk ?_ ?_ | refine V.NTF.yes (by omega) ?_ | refine V.NTF.no (by omega) ?_ | refine V.NTF.dec ?_ | refine V.NDraw.q (by exact rfl) (by kernel_rfl) ?_ | refine V.NApp.one (by first | omega | (simp; omega)) (by first | omega | (simp; omega)) ?_ | (refine Fam.use c1 hT [(0, _)] rfl rfl rfl (fun k hk => rfl) ?_; rintro g1 ⟨d1, r0, rfl⟩; obtain ⟨⟨A1, A2, A3, A4⟩, B1, B2⟩ := parts d1 r0; have z1 : d1.size = d.size := r0.1) | (have c2 := ih d1 a i mid (by omega) (Nat.le_refl _) q2.1 q2.2 (by omega) z1 A1 A2 B1; refine Fam.use c2 hT [(0, _)] rfl rfl rfl (fun k hk => rfl) ?_; rintro g2 ⟨d2, P2, S2, rfl⟩; have A3' := St.sorted_perm A3 P2 (.inr (Nat.le_refl _)); have A4' := St.sorted_perm A4 P2 (.inr (by omega)); have z2 : d2.size = d.size := P2.1.trans z1; have B2' : ∀ p q, mid ≤ p → p < e → e ≤ q → q < b → lessI cf d2[q]! d2[p]! = lt d2[q]! d2[p]! := fun p q h1 h2 h3 h4 => (by rw [P2.2.1 p (by omega), P2.2.1 q (by omega)]; exact B2 p q h1 h2 h3 h4)) | (have c3 := ih d2 mid e b (by omega) (by omega) q3.1 q3.2 (Nat.le_refl _) z2 A3' A4' B2'; rw [← ei] at c3; refine Fam.use c3 hT [(0, _)] rfl rfl rfl (fun k hk => rfl) ?_; rintro g3 ⟨d3, P3, S3, rfl⟩) | (refine V.NDraw.any (by kernel_rfl) ?_) | fail)
               all_goals (conv => whnf)
               have F := fin d1 d2 d3 r0 P2 S2 P3 S3
               exact ⟨rfl, rfl, [(0, _)], _, rfl, rfl, rfl, d3, F.1, F.2, rfl⟩)
        · first
            | (exfalso; omega)
            | (repeat' ((conv => whnf); first | (refine V.NIf.yes ?_ ?_; · (decide; done)) | (refine V.NIf.no ?_ ?_; · (decide; done)) | refine V.NCond.mk ?_ | refine V.NIf.not_ ?_ | refine V.NIf.dec_ ?_ | refine V.NIf.no (by omega) ?_ | refine V.NIf.yes (by omega) ?_ | refine V.NIf.mk (fun _ => ?_) (fun _ => ?_) | refine V.NWrap.ok (by omega) (by omega) ?_ | refine V.NWrap.u64 (by omega) (by omega) ?_ | refine V.NLt.mk (by omega) ?_ | refine V.NBoth.mk ?_ ?_ | refine V.NTF.yes (by omega) ?_ | refine V.NTF.no (by omega) ?_ | refine V.NTF.dec ?_ | refine V.NDraw.q (by exact rfl) (by kernel_rfl) ?_ | refine V.NApp.one (by first | omega | (simp; omega)) (by first | omega | (simp; omega)) ?_ | (refine Fam.use c1 hT [(0, _)] rfl rfl rfl (fun k hk => rfl) ?_; rintro g1 ⟨d1, r0, rfl⟩; obtain ⟨⟨A1, A2, A3, A4⟩, B1, B2⟩ := parts d1 r0; have z1 : d1.size = d.size := r0.1) | (have c2 := ih d1 a i mid (by omega) (Nat.le_refl _) q2.1 q2.2 (by omega) z1 A1 A2 B1; refine Fam.use c2 hT [(0, _)] rfl rfl rfl (fun k hk => rfl) ?_; rintro g2 ⟨d2, P2, S2, rfl⟩; have A3' := St.sorted_perm A3 P2 (.inr (Nat.le_refl _)); have A4' := St.sorted_perm A4 P2 (.inr (by omega)); have z2 : d2.size = d.size := P2.1.trans z1; have B2' : ∀ p q, mid ≤ p → p < e → e ≤ q → q < b → lessI cf d2[q]! d2[p]! = lt d2[q]! d2[p]! := fun p q h1 h2 h3 h4 => (by rw [P2.2.1 p (by omega), P2.2.1 q (by omega)]; exact B2 p q h1 h2 h3 h4)) | (refine V.NDraw.any (by kernel_rfl) ?_) | fail)
               all_goals (conv => whnf)
               have F := fin d1 d2 d2 r0 P2 S2 (permIn_refl _ _ _) (St.sorted_one A3' A4' (by omega) eb q3)
               exact ⟨rfl, rfl, [(0, _)], _, rfl, rfl, rfl, d2, F.1, F.2, rfl⟩)
      · by_cases q3 : mid < e ∧ e < b
        · first
            | (exfalso; omega)
            | (repeat' ((conv => whnf); first | (refine V.NIf.yes ?_ ?_; · (decide; done)) | (refine V.NIf.no ?_ ?_; · (decide; done)) | refine V.NCond.mk ?_ | refine V.NIf.not_ ?_ | refine V.NIf.dec_ ?_ | refine V.NIf.no (by omega) ?_ | refine V.NIf.yes (by omega) ?_ | refine V.NIf.mk (fun _ => ?_) (fun _ => ?_) | refine V.NWrap.ok (by omega) (by omega) ?_ | refine V.NWrap.u64 (by omega) (by omega) ?_ | refine V.NLt.mk (by omega) ?_ | refine V.NBoth.mk ?_ ?_ | refine V.NTF.yes (by omega) ?_ | refine V.NTF.no (by omega) ?_ | refine V.NTF.dec ?_ | refine V.NDraw.q (by exact rfl) (by kernel_rfl) ?_ | refine V.NApp.one (by first | omega | (simp; omega)) (by first | omega | (simp; omega)) ?_ | (refine Fam.use c1 hT [(0, _)] rfl rfl rfl (fun k hk => rfl) ?_; rintro g1 ⟨d1, r0, rfl⟩; obtain ⟨⟨A1, A2, A3, A4⟩, B1, B2⟩ := parts d1 r0; have z1 : d1.size = d.size := r0.1) | (have c3 := ih d1 mid e b (by omega) (by omega) q3.1 q3.2 (Nat.le_refl _) z1 A3 A4 B2; rw [← ei] at c3; refine Fam.use c3 hT [(0, _)] rfl rfl rfl (fun k hk => rfl) ?_; rintro g3 ⟨d3, P3, S3, rfl⟩) | (refine V.NDraw.any (by kernel_rfl) ?_) | fail)
               all_goals (conv => whnf)
               have F := fin d1 d1 d3 r0 (permIn_refl _ _ _) (St.sorted_one A1 A2 hai (by omega) q2) P3 S3
               exact ⟨rfl, rfl, [(0, _)], _, rfl, rfl, rfl, d3, F.1, F.2, rfl⟩)
        · first
            | (exfalso; omega)
            | (repeat' ((conv => whnf); first | (refine V.NIf.yes ?_ ?_; · (decide; done)) | (refine V.NIf.no ?_ ?_; · (decide; done)) | refine V.NCond.mk ?_ | refine V.NIf.not_ ?_ | refine V.NIf.dec_ ?_ | refine V.NIf.no (by omega) ?_ | refine V.NIf.yes (by omega) ?_ | refine V.NIf.mk (fun _ => ?_) (fun _ => ?_) | refine V.NWrap.ok (by omega) (by omega) ?_ | refine V.NWrap.u64 (by omega) (by omega) ?_ | refine V.NLt.mk (by omega) ?_ | refine V.NBoth.mk ?_ ?_ | refine V.NTF.yes (by omega) ?_ | refine V.NTF.no (by omega) ?_ | refine V.NTF.dec ?_ | refine V.NDraw.q (by exact rfl) (by kernel_rfl) ?_ | refine V.NApp.one (by first | omega | (simp; omega)) (by first | omega | (simp; omega)) ?_ | (refine Fam.use c1 hT [(0, _)] rfl rfl rfl (fun k hk => rfl) ?_; rintro g1 ⟨d1, r0, rfl⟩; obtain ⟨⟨A1, A2, A3, A4⟩, B1, B2⟩ := parts d1 r0; have z1 : d1.size = d.size := r0.1) | (refine V.NDraw.any (by kernel_rfl) ?_) | fail)
               all_goals (conv => whnf)
               have F := fin d1 d1 d1 r0 (permIn_refl _ _ _) (St.sorted_one A1 A2 hai (by omega) q2) (permIn_refl _ _ _) (St.sorted_one A3 A4 (by omega) eb q3)
               exact ⟨rfl, rfl, [(0, _)], _, rfl, rfl, rfl, d1, F.1, F.2, rfl⟩)
    · have r0 : St.Rot i m e d d := by
        by_cases z : i = m
        · subst z; exact St.Rot.refl_l
        · obtain rfl : m = e := by omega
          exact St.Rot.refl_r
      by_cases q2 : a < i ∧ i < mid
      · by_cases q3 : mid < e ∧ e < b
        · first
            | (exfalso; omega)
            | (obtain ⟨⟨A1, A2, A3, A4⟩, B1, B2⟩ := parts d r0
               have z1 : d.size = d.size := rfl
               repeat' ((conv => whnf); first | (refine V.NIf.yes ?_ ?_; · (decide; done)) | (refine V.NIf.no ?_ ?_; · (decide; done)) | refine V.NCond.mk ?_ | refine V.NIf.not_ ?_ | refine V.NIf.dec_ ?_ | refine V.NIf.no (by omega) ?_ | refine V.NIf.yes (by omega) ?_ | refine V.NIf.mk (fun _ => ?_) (fun _ => ?_) | refine V.NWrap.ok (by omega) (by omega) ?_ | refine V.NWrap.u64 (by omega) (by omega) ?_ | refine V.NLt.mk (by omega) ?_ | refine V.NBoth.mk ?_ ?_ | refine V.NTF.yes (by omega) ?_ | refine V.NTF.no (by omega) ?_ | refine V.NTF.dec ?_ | refine V.NDraw.q (by exact rfl) (by kernel_rfl) ?_ | refine V.NApp.one (by first | omega | (simp; omega)) (by first | omega | (simp; omega)) ?_ | (have c2 := ih d a i mid (by omega) (Nat.le_refl _) q2.1 q2.2 (by omega) z1 A1 A2 B1; refine Fam.use c2 hT [(0, _)] rfl rfl rfl (fun k hk => rfl) ?_; rintro g2 ⟨d2, P2, S2, rfl⟩; have A3' := St.sorted_perm A3 P2 (.inr (Nat.le_refl _)); have A4' := St.sorted_perm A4 P2 (.inr (by omega)); have z2 : d2.size = d.size := P2.1.trans z1; have B2' : ∀ p q, mid ≤ p → p < e → e ≤ q → q < b → lessI cf d2[q]! d2[p]! = lt d2[q]! d2[p]! := fun p q h1 h2 h3 h4 => (by rw [P2.2.1 p (by omega), P2.2.1 q (by omega)]; exact B2 p q h1 h2 h3 h4)) | (have c3 := ih d2 mid e b (by omega) (by omega) q3.1 q3.2 (Nat.le_refl _) z2 A3' A4' B2'; rw [← ei] at c3; refine Fam.use c3 hT [(0, _)] rfl rfl rfl (fun k hk => rfl) ?_; rintro g3 ⟨d3, P3, S3, rfl⟩) | (refine V.NDraw.any (by kernel_rfl) ?_) | fail)
               all_goals (conv => whnf)
               have F := fin d d2 d3 r0 P2 S2 P3 S3
               exact ⟨rfl, rfl, [(0, _)], _, rfl, rfl, rfl, d3, F.1, F.2, rfl⟩)
        · first
            | (exfalso; omega)
            | (obtain ⟨⟨A1, A2, A3, A4⟩, B1, B2⟩ := parts d r0
               have z1 : d.size = d.size := rfl
               repeat' ((conv => whnf); first | (refine V.NIf.yes ?_ ?_; · (decide; done)) | (refine V.NIf.no ?_ ?_; · (decide; done)) | refine V.NCond.mk ?_ | refine V.NIf.not_ ?_ | refine V.NIf.dec_ ?_ | refine V.NIf.no (by omega) ?_ | refine V.NIf.yes (by omega) ?_ | refine V.NIf.mk (fun _ => ?_) (fun _ => ?_) | refine V.NWrap.ok (by omega) (by omega) ?_ | refine V.NWrap.u64 (by omega) (by omega) ?_ | refine V.NLt.mk (by omega) ?_ | refine V.NBoth.mk ?_ ?_ | refine V.NTF.yes (by omega) ?_ | refine V.NTF.no (by omega) ?_ | refine V.NTF.dec ?_ | refine V.NDraw.q (by exact rfl) (by kernel_rfl) ?_ | refine V.NApp.one (by first | omega | (simp; omega)) (by first | omega | (simp; omega)) ?_ | (have c2 := ih d a i mid (by omega) (Nat.le_refl _) q2.1 q2.2 (by omega) z1 A1 A2 B1; refine Fam.use c2 hT [(0, _)] rfl rfl rfl (fun k hk => rfl) ?_; rintro g2 ⟨d2, P2, S2, rfl⟩; have A3' := St.sorted_perm A3 P2 (.inr (Nat.le_refl _)); have A4' := St.sorted_perm A4 P2 (.inr (by omega)); have z2 : d2.size = d.size := P2.1.trans z1; have B2' : ∀ p q, mid ≤ p → p < e → e ≤ q → q < b → lessI cf d2[q]! d2[p]! = lt d2[q]! d2[p]! := fun p q h1 h2 h3 h4 => (by rw [P2.2.1 p (by omega), P2.2.1 q (by omega)]; exact B2 p q h1 h2 h3 h4)) | (refine V.NDraw.any (by kernel_rfl) ?_) | fail)
               all_goals (conv => whnf)
               have F := fin d d2 d2 r0 P2 S2 (permIn_refl _ _ _) (St.sorted_one A3' A4' (by omega) eb q3)
               exact ⟨rfl, rfl, [(0, _)], _, rfl, rfl, rfl, d2, F.1, F.2, rfl⟩)
      · by_cases q3 : mid < e ∧ e < b
        · first
            | (exfalso; omega)
            | (obtain ⟨⟨A1, A2, A3, A4⟩, B1, B2⟩ := parts d r0
               have z1 : d.size = d.size := rfl
               repeat' ((conv => whnf); first | (refine V.NIf.yes ?_ ?_; · (decide; done)) | (refine V.NIf.no ?_ ?_; · (decide; done)) | refine V.NCond.mk ?_ | refine V.NIf.not_ ?_ | refine V.NIf.dec_ ?_ | refine V.NIf.no (by omega) ?_ | refine V.NIf.yes (by omega) ?_ | refine V.NIf.mk (fun _ => ?_) (fun _ => ?_) | refine V.NWrap.ok (by omega) (by omega) ?_ | refine V.NWrap.u64 (by omega) (by omega) ?_ | refine V.NLt.mk (by omega) ?_ | refine V.NBoth.mk ?_ ?_ | refine V.NTF.yes (by omega) ?_ | refine V.NTF.no (by omega) ?_ | refine V.NTF.dec ?_ | refine V.NDraw.q (by exact rfl) (by kernel_rfl) ?_ | refine V.NApp.one (by first | omega | (simp; omega)) (by first | omega | (simp; omega)) ?_ | (have c3 := ih d mid e b (by omega) (by omega) q3.1 q3.2 (Nat.le_refl _) z1 A3 A4 B2; rw [← ei] at c3; refine Fam.use c3 hT [(0, _)] rfl rfl rfl (fun k hk => rfl) ?_; rintro g3 ⟨d3, P3, S3, rfl⟩) | (refine V.NDraw.any (by kernel_rfl) ?_) | fail)
               all_goals (conv => whnf)
               have F := fin d d d3 r0 (permIn_refl _ _ _) (St.sorted_one A1 A2 hai (by omega) q2) P3 S3
               exact ⟨rfl, rfl, [(0, _)], _, rfl, rfl, rfl, d3, F.1, F.2, rfl⟩)
        · first
            | (exfalso; omega)
            | (obtain ⟨⟨A1, A2, A3, A4⟩, B1, B2⟩ := parts d r0
               have z1 : d.size = d.size := rfl
               repeat' ((conv => whnf); first | (refine V.NIf.yes ?_ ?_; · (decide; done)) | (refine V.NIf.no ?_ ?_; · (decide; done)) | refine V.NCond.mk ?_ | refine V.NIf.not_ ?_ | refine V.NIf.dec_ ?_ | refine V.NIf.no (by omega) ?_ | refine V.NIf.yes (by omega) ?_ | refine V.NIf.mk (fun _ => ?_) (fun _ => ?_) | refine V.NWrap.ok (by omega) (by omega) ?_ | refine V.NWrap.u64 (by omega) (by omega) ?_ | refine V.NLt.mk (by omega) ?_ | refine V.NBoth.mk ?_ ?_ | refine V.NTF.yes (by omega) ?_ | refine V.NTF.no (by omega) ?_ | refine V.NTF.dec ?_ | refine V.NDraw.q (by exact rfl) (by kernel_rfl) ?_ | refine V.NApp.one (by first | omega | (simp; omega)) (by first | omega | (simp; omega)) ?_ | (refine V.NDraw.any (by kernel_rfl) ?_) | fail)
               all_goals (conv => whnf)
               have F := fin d d d r0 (permIn_refl _ _ _) (St.sorted_one A1 A2 hai (by omega) q2) (permIn_refl _ _ _) (St.sorted_one A3 A4 (by omega) eb q3)
               exact ⟨rfl, rfl, [(0, _)], _, rfl, rfl, rfl, d, F.1, F.2, rfl⟩)
end Go.Proofs.Ytcdlhfbpmpjfkaa

/- Sorting that keeps the order of equals, of numbers: the whole. -/
namespace Go.Proofs.Ytcdlhfbpmpjfkaa
open Go Go.Sort Go.RowKit V
set_option maxRecDepth 100000
set_option linter.unusedVariables false
set_option linter.unusedSimpArgs false
set_option maxHeartbeats 4000000
variable {Z : Nat}
theorem v_symI (nx : Nat) (O : Obs) (hT : Tail (nx + 1) O) (g : FuncId) (cp : Nat) (hcl : Nat.blt cp (nx + 1) = true) (cf : (It Z) → (It Z) → Int) (hc : CmpI nx O g cp cf) (lt : (It Z) → (It Z) → Bool) (S : SWO lt) (sz : Nat) (h3 : sz ≤ 2305843009213693951) : ∀ (N : Nat) (d : Array (It Z)) (a m b : Nat), b - a ≤ N → a < m → m < b → b ≤ d.size → d.size = sz → SortedIn lt a m d → SortedIn lt m b d →
    (∀ i j, a ≤ i → i < m → m ≤ j → j < b → lessI cf d[j]! d[i]! = lt d[j]! d[i]!) →
    Fam Try.prog 57 [.one (.ref 0), .one (.val (.int .i64 ((a : Int)))), .one (.val (.int .i64 ((m : Int)))), .one (.val (.int .i64 ((b : Int)))), .one (.clo g [cp])] 3 1 sz (ga encTI d.toList) nx O (fun r => ∃ d', PermIn a b d d' ∧ SortedIn lt a b d' ∧ r = ga encTI d'.toList)
  | 0, d, a, m, b, hN, h0, h1, _, _, _, _, _ => absurd hN (by omega)
  | N + 1, d, a, m, b, hN, h0, h1, h2, hs, H1, H2, HT => by
    subst hs
    have ih := fun (e : Array (It Z)) (x y z : Nat) (q1 : z - x < b - a) (q2 : a ≤ x) (q3 : x < y) (q4 : y < z) (q5 : z ≤ b) (q6 : e.size = d.size) r1 r2 r3 => v_symI nx O hT g cp hcl cf hc lt S d.size h3 N e x y z (by omega) q3 q4 (by omega) q6 r1 r2 r3
    by_cases hA : m = a + 1
    · subst hA
      exact v_symAI nx O hT g cp hcl cf hc lt S d a b (by omega) h2 (by omega) H2 (fun j j1 j2 => HT a j (Nat.le_refl _) (by omega) j1 j2)
    by_cases hB : b = m + 1
    · subst hB
      exact v_symBI nx O hT g cp hcl cf hc lt S d a m (by omega) h2 (by omega) H1 (fun i i1 i2 => HT i m i1 i2 (Nat.le_refl _) (by omega))
    by_cases hm : (a + b) / 2 < m
    · exact v_symC1I nx O hT g cp hcl cf hc lt S d a m b (by omega) (by omega) h2 h3 H1 H2 HT hm ih
    · exact v_symC0I nx O hT g cp hcl cf hc lt S d a m b (by omega) (by omega) h2 h3 H1 H2 HT (by omega) ih
theorem v_stabI (nx : Nat) (O : Obs) (hT : Tail (nx + 1) O) (g : FuncId) (cp : Nat) (hcl : Nat.blt cp (nx + 1) = true) (cf : (It Z) → (It Z) → Int) (hc : CmpI nx O g cp cf) (lt : (It Z) → (It Z) → Bool) (S : SWO lt) (HL : ∀ x y : (It Z), x.tg < y.tg → lessI cf y x = lt y x) (d : Array (It Z)) (h3 : d.size ≤ 1152921504606846975) (ht : ∀ i, i < d.size → d[i]!.tg = i) :
    Fam Try.prog 47 [.one (.ref 0), .one (.val (.int .i64 ((d.size : Int)))), .one (.clo g [cp])] 3 1 d.size (ga encTI d.toList) nx O (fun r => ∃ d', PermIn 0 d.size d d' ∧ SortedIn lt 0 d.size d' ∧ r = ga encTI d'.toList) := by
  refine Fam.mk hT ?_
  obtain ⟨n, en⟩ : ∃ n, d.size = n := ⟨_, rfl⟩
  rw [en] at h3 ht ⊢
  refine V.NCall.inl (f := 47) V.Tok V.mixed Try.func47 rfl Try.ntmps47 (by kernel_rfl) rfl ?_
  repeat' ((conv => whnf); first | refine V.NCond.mk ?_ | refine V.NIf.not_ ?_ | refine V.NIf.dec_ ?_ | refine V.NIf.no (by omega) ?_ | refine V.NIf.yes (by omega) ?_ | refine V.NIf.mk (fun _ => ?_) (fun _ => ?_) | refine V.NWrap.ok (by omega) (by omega) ?_ | refine V.NWrap.u64 (by omega) (by omega) ?_ | refine V.NLt.mk (by omega) ?_ | refine V.NBoth.mk ?_ ?_ | refine V.NTF.yes (by omega) ?_ | refine V.NTF.no (by omega) ?_ | refine V.NTF.dec ?_ | refine V.NDraw.q (by exact rfl) (by kernel_rfl) ?_ | refine V.NApp.one (by first | omega | (simp; omega)) (by first | omega | (simp; omega)) ?_ | (refine V.NDraw.any (by kernel_rfl) ?_) | fail)
  all_goals (conv => whnf)
  have ins : ∀ (d1 : Array (It Z)) (a b : Nat), d1.size = n → a ≤ b → b ≤ n → (∀ i, a ≤ i → i < n → d1[i]! = d[i]!) → PermIn a b d1 (insertionSort (lessI cf) d1 a b) ∧ St.Good It.tg lt a b (insertionSort (lessI cf) d1 a b) := fun d1 a b s1 ab bn same => by
    have tg1 : ∀ i, a ≤ i → i < b → d1[i]!.tg = i := fun i q1 q2 => by rw [same i q1 (by omega)]; exact ht i (by omega)
    rw [St.ins_eq (l1 := lt) (by omega) (fun p q q1 q2 q3 => HL _ _ (by rw [tg1 p (by omega) q1, tg1 q q2 (by omega)]; exact q3))]
    have h := insertionSort_holds S d1 a b ab (by omega)
    exact ⟨h.1, St.Good.of_perm (by omega) (fun i q1 q2 => by rw [tg1 i q1 q2]; omega) h.1 h.2⟩
  refine NLoop.fam hT (fun (s : Nat × Array (It Z)) => [(7, .one (.val (.int .i64 ((s.1 * 20 : Nat) : Int)))), (8, .one (.val (.int .i64 ((s.1 * 20 + 20 : Nat) : Int))))]) [(0, .one (.ref 0)), (1, .one (.val (.int .i64 n))), (2, .one (.clo g [cp])), (6, .one (.val (.int .i64 20)))] 3 1 n (fun s => ga encTI s.2.toList) (fun s => n - s.1 * 20) (fun s => s.1 * 20 ≤ n ∧ PermIn 0 n d s.2 ∧ St.To It.tg lt 20 (s.1 * 20) s.2 ∧ ∀ i, s.1 * 20 ≤ i → i < n → s.2[i]! = d[i]!) (0, d) ⟨Nat.zero_le _, permIn_refl _ _ _, St.To.zero 20 d, fun _ _ _ => rfl⟩ [(0, _)] rfl rfl rfl (fun k hk => rfl) (by repeat' (first | exact rfl | exact Iff.rfl | exact trivial | exact (fun _ _ => rfl) | exact (fun _ h => absurd h (Nat.not_lt_zero _)) | refine ⟨?_, ?_⟩ | exact Iff.rfl | exact congrArg (fun z => V.SV.one (V.At.val (Value.int .i64 z))) (by omega))) (fun _ => rfl) (by first | rfl | simpa [envB, svB, atB] using hcl) ?_
  rintro ⟨K, d1⟩ ⟨hK, P, TO, same⟩
  dsimp only at hK P TO same ⊢
  have s1 : d1.size = n := by rw [P.1, en]
  obtain ⟨a, ea⟩ : ∃ a, a = K * 20 := ⟨_, rfl⟩
  rw [← ea] at hK TO same ⊢
  by_cases hlt : a + 20 ≤ n
  · obtain ⟨I1, I2⟩ := ins d1 a (a + 20) s1 (by omega) hlt same
    have c := v_insI nx O hT g cp hcl cf hc d1 a (a + 20) (by omega) (by omega) (by omega)
    rw [s1] at c
    generalize insertionSort (lessI cf) d1 a (a + 20) = d2 at *
    have ek : (K + 1) * 20 = a + 20 := by omega
    have TO2 := (TO.same (fun i q => I1.2.1 i (.inl q))).push ea (by omega) I2
    have P2 : PermIn 0 n d d2 := permIn_trans _ _ _ _ _ P (permIn_mono _ _ _ _ 0 n (Nat.zero_le _) hlt (by omega) I1)
    have same2 : ∀ i, a + 20 ≤ i → i < n → d2[i]! = d[i]! := fun i q1 q2 => by rw [I1.2.1 i (.inr q1)]; exact same i (by omega) q2
    repeat' ((conv => whnf); first | refine V.NCond.mk ?_ | refine V.NIf.not_ ?_ | refine V.NIf.dec_ ?_ | refine V.NIf.no (by omega) ?_ | refine V.NIf.yes (by omega) ?_ | refine V.NIf.mk (fun _ => ?_) (fun _ => ?_) | refine V.NWrap.ok (by omega) (by omega) ?_ | refine V.NWrap.u64 (by omega) (by omega) ?_ | refine V.NLt.mk (by omega) ?_ | refine V.NBoth.mk ?_ ?_ | refine V.NTF.yes (by omega) ?_ | refine V.NTF.no (by omega) ?_ | refine V.NTF.dec ?_ | refine V.NDraw.q (by exact rfl) (by kernel_rfl) ?_ | refine V.NApp.one (by first | omega | (simp; omega)) (by first | omega | (simp; omega)) ?_ | (refine Fam.use c hT [(0, _)] rfl rfl rfl (fun k hk => rfl) ?_; rintro g1 rfl) | (refine V.NDraw.any (by kernel_rfl) ?_) | fail)
    all_goals (conv => whnf)
    exact FBack.at_ hT (K + 1, d2) [(0, _)] (by dsimp only; rw [ek]; exact ⟨hlt, P2, TO2, same2⟩) (by dsimp only; omega) ⟨congrArg (fun z : Int => SV.one (At.val (Value.int .i64 z))) (show ((a + 20 : Nat) : Int) = (((K + 1) * 20 : Nat) : Int) by omega), congrArg (fun z : Int => SV.one (At.val (Value.int .i64 z))) (show ((a + 20 : Nat) : Int) + 20 = (((K + 1) * 20 + 20 : Nat) : Int) by omega), rfl, rfl, rfl, rfl, trivial⟩ rfl rfl rfl (fun k hk => rfl)
  · obtain ⟨I1, I2⟩ := ins d1 a n s1 hK (Nat.le_refl _) same
    have c := v_insI nx O hT g cp hcl cf hc d1 a n hK (by omega) (by omega)
    rw [s1] at c
    generalize insertionSort (lessI cf) d1 a n = d2 at *
    have P2 : PermIn 0 n d d2 := permIn_trans _ _ _ _ _ P (permIn_mono _ _ _ _ 0 n (Nat.zero_le _) (Nat.le_refl _) (by omega) I1)
    have TO2 : St.To It.tg lt 20 n d2 := by
      have t0 := TO.same (fun i q => I1.2.1 i (.inl q))
      by_cases z : a < n
      · exact t0.last ea (by omega) I2 z (by omega)
      · obtain rfl : a = n := by omega
        exact t0
    clear ins I1 I2 TO same P
    repeat' ((conv => whnf); first | refine V.NCond.mk ?_ | refine V.NIf.not_ ?_ | refine V.NIf.dec_ ?_ | refine V.NIf.no (by omega) ?_ | refine V.NIf.yes (by omega) ?_ | refine V.NIf.mk (fun _ => ?_) (fun _ => ?_) | refine V.NWrap.ok (by omega) (by omega) ?_ | refine V.NWrap.u64 (by omega) (by omega) ?_ | refine V.NLt.mk (by omega) ?_ | refine V.NBoth.mk ?_ ?_ | refine V.NTF.yes (by omega) ?_ | refine V.NTF.no (by omega) ?_ | refine V.NTF.dec ?_ | refine V.NDraw.q (by exact rfl) (by kernel_rfl) ?_ | refine V.NApp.one (by first | omega | (simp; omega)) (by first | omega | (simp; omega)) ?_ | (refine Fam.use c hT [(0, _)] rfl rfl rfl (fun k hk => rfl) ?_; rintro g1 rfl) | (refine V.NDraw.any (by kernel_rfl) ?_) | fail)
    all_goals (conv => whnf)
    refine NLoop.fam hT (fun (s : Nat × Array (It Z)) => [(6, .one (.val (.int .i64 s.1)))]) [(0, .one (.ref 0)), (1, .one (.val (.int .i64 n))), (2, .one (.clo g [cp]))] 3 1 n (fun s => ga encTI s.2.toList) (fun s => n - s.1) (fun s => 20 ≤ s.1 ∧ s.1 ≤ 2 * n + 20 ∧ PermIn 0 n d s.2 ∧ St.To It.tg lt s.1 n s.2) (20, d2) ⟨Nat.le_refl _, by dsimp only; omega, P2, TO2⟩ [(0, _)] rfl rfl rfl (fun k hk => rfl) (by repeat' (first | exact rfl | exact Iff.rfl | exact trivial | exact (fun _ _ => rfl) | exact (fun _ h => absurd h (Nat.not_lt_zero _)) | refine ⟨?_, ?_⟩ | exact Iff.rfl | exact congrArg (fun z => V.SV.one (V.At.val (Value.int .i64 z))) (by omega))) (fun _ => rfl) (by first | rfl | simpa [envB, svB, atB] using hcl) ?_
    clear P2 TO2 c d2 s1 hlt ea hK a K d1
    rintro ⟨bs, d1⟩ ⟨hb, hb2, P, TO⟩
    dsimp only at hb hb2 P TO ⊢
    have s1 : d1.size = n := by rw [P.1, en]
    by_cases hlt : bs < n
    · repeat' ((conv => whnf); first | refine V.NCond.mk ?_ | refine V.NIf.not_ ?_ | refine V.NIf.dec_ ?_ | refine V.NIf.no (by omega) ?_ | refine V.NIf.yes (by omega) ?_ | refine V.NIf.mk (fun _ => ?_) (fun _ => ?_) | refine V.NWrap.ok (by omega) (by omega) ?_ | refine V.NWrap.u64 (by omega) (by omega) ?_ | refine V.NLt.mk (by omega) ?_ | refine V.NBoth.mk ?_ ?_ | refine V.NTF.yes (by omega) ?_ | refine V.NTF.no (by omega) ?_ | refine V.NTF.dec ?_ | refine V.NDraw.q (by exact rfl) (by kernel_rfl) ?_ | refine V.NApp.one (by first | omega | (simp; omega)) (by first | omega | (simp; omega)) ?_ | (refine V.NDraw.any (by kernel_rfl) ?_) | fail)
      all_goals (conv => whnf)
      refine NLoop.fam hT (fun (s : Nat × Array (It Z)) => [(7, .one (.val (.int .i64 ((s.1 * (2 * bs) : Nat) : Int)))), (8, .one (.val (.int .i64 ((s.1 * (2 * bs) + 2 * bs : Nat) : Int))))]) [(0, .one (.ref 0)), (1, .one (.val (.int .i64 n))), (2, .one (.clo g [cp])), (6, .one (.val (.int .i64 bs)))] 3 1 n (fun s => ga encTI s.2.toList) (fun s => n - s.1 * (2 * bs)) (fun s => s.1 * (2 * bs) ≤ n ∧ PermIn 0 n d s.2 ∧ St.To It.tg lt (2 * bs) (s.1 * (2 * bs)) s.2 ∧ St.Fr It.tg lt bs (s.1 * (2 * bs)) n s.2) (0, d1) ⟨by dsimp only; rw [Nat.zero_mul]; exact Nat.zero_le _, P, by dsimp only; rw [Nat.zero_mul]; exact St.To.zero _ _, by dsimp only; rw [Nat.zero_mul]; exact St.Fr.of_to TO⟩ [(0, _)] rfl rfl rfl (fun k hk => rfl) ⟨congrArg (fun z : Int => SV.one (At.val (Value.int .i64 z))) (show (0 : Int) = ((0 * (2 * bs) : Nat) : Int) by rw [Nat.zero_mul]; rfl), congrArg (fun z : Int => SV.one (At.val (Value.int .i64 z))) (show (2 : Int) * bs = ((0 * (2 * bs) + 2 * bs : Nat) : Int) by rw [Nat.zero_mul]; omega), rfl, rfl, rfl, rfl, trivial⟩ (fun _ => rfl) (by first | rfl | simpa [envB, svB, atB] using hcl) ?_
      clear P TO s1 d1
      rintro ⟨K, d1⟩ ⟨hK, P, TO, FR⟩
      dsimp only at hK P TO FR ⊢
      have s1 : d1.size = n := by rw [P.1, en]
      obtain ⟨a, ea⟩ : ∃ a, a = K * (2 * bs) := ⟨_, rfl⟩
      rw [← ea] at hK TO FR ⊢
      by_cases hle : a + 2 * bs ≤ n
      · have G1 := FR.head (by omega)
        rw [show min (a + bs) n = a + bs by omega] at G1
        have G2 := FR.tail.head (by omega)
        rw [show min (a + bs + bs) n = a + 2 * bs by omega] at G2
        have c := v_symI nx O hT g cp hcl cf hc lt S n (by omega) (a + 2 * bs - a) d1 a (a + bs) (a + 2 * bs) (Nat.le_refl _) (by omega) (by omega) (by omega) s1 G1.s G2.s (fun i j i1 i2 j1 j2 => HL _ _ (by have := G1.t i i1 i2; have := G2.t j j1 j2; omega))
        have ek : (K + 1) * (2 * bs) = a + 2 * bs := by rw [Nat.succ_mul, ← ea]
        repeat' ((conv => whnf); first | refine V.NCond.mk ?_ | refine V.NIf.not_ ?_ | refine V.NIf.dec_ ?_ | refine V.NIf.no (by omega) ?_ | refine V.NIf.yes (by omega) ?_ | refine V.NIf.mk (fun _ => ?_) (fun _ => ?_) | refine V.NWrap.ok (by omega) (by omega) ?_ | refine V.NWrap.u64 (by omega) (by omega) ?_ | refine V.NLt.mk (by omega) ?_ | refine V.NBoth.mk ?_ ?_ | refine V.NTF.yes (by omega) ?_ | refine V.NTF.no (by omega) ?_ | refine V.NTF.dec ?_ | refine V.NDraw.q (by exact rfl) (by kernel_rfl) ?_ | refine V.NApp.one (by first | omega | (simp; omega)) (by first | omega | (simp; omega)) ?_ | (refine Fam.use c hT [(0, _)] rfl rfl rfl (fun k hk => rfl) ?_; rintro g1 ⟨d2, P2, S2, rfl⟩) | (refine V.NDraw.any (by kernel_rfl) ?_) | fail)
        all_goals (conv => whnf)
        have G := St.Good.merge (by omega) (by omega) (by omega) G1 G2 P2 S2
        have TO2 := (TO.same (fun i q => P2.2.1 i (.inl q))).push ea (by omega) G
        have FR2 : St.Fr It.tg lt bs (a + 2 * bs) n d2 := by
          have q := FR.tail.tail
          rw [show a + bs + bs = a + 2 * bs by omega] at q
          exact q.same fun i q => P2.2.1 i (.inr q)
        exact FBack.at_ hT (K + 1, d2) [(0, _)] (by dsimp only; rw [ek]; exact ⟨hle, permIn_trans _ _ _ _ _ P (permIn_mono _ _ _ _ 0 n (Nat.zero_le _) hle (by omega) P2), TO2, FR2⟩) (by dsimp only; rw [ek]; omega) ⟨congrArg (fun z : Int => SV.one (At.val (Value.int .i64 z))) (show ((a + 2 * bs : Nat) : Int) = (((K + 1) * (2 * bs) : Nat) : Int) by rw [ek]), congrArg (fun z : Int => SV.one (At.val (Value.int .i64 z))) (show ((a + 2 * bs : Nat) : Int) + 2 * (bs : Int) = (((K + 1) * (2 * bs) + 2 * bs : Nat) : Int) by rw [ek]; omega), rfl, rfl, rfl, rfl, trivial⟩ rfl rfl rfl (fun k hk => rfl)
      · by_cases hm : a + bs < n
        · have G1 := FR.head (by omega)
          rw [show min (a + bs) n = a + bs by omega] at G1
          have G2 := FR.tail.head hm
          rw [show min (a + bs + bs) n = n by omega] at G2
          have c := v_symI nx O hT g cp hcl cf hc lt S n (by omega) (n - a) d1 a (a + bs) n (Nat.le_refl _) (by omega) hm (by omega) s1 G1.s G2.s (fun i j i1 i2 j1 j2 => HL _ _ (by have := G1.t i i1 i2; have := G2.t j j1 j2; omega))
          rw [show ((a + bs : Nat) : Int) = (a : Int) + bs by omega] at c
          repeat' ((conv => whnf); first | refine V.NCond.mk ?_ | refine V.NIf.not_ ?_ | refine V.NIf.dec_ ?_ | refine V.NIf.no (by omega) ?_ | refine V.NIf.yes (by omega) ?_ | refine V.NIf.mk (fun _ => ?_) (fun _ => ?_) | refine V.NWrap.ok (by omega) (by omega) ?_ | refine V.NWrap.u64 (by omega) (by omega) ?_ | refine V.NLt.mk (by omega) ?_ | refine V.NBoth.mk ?_ ?_ | refine V.NTF.yes (by omega) ?_ | refine V.NTF.no (by omega) ?_ | refine V.NTF.dec ?_ | refine V.NDraw.q (by exact rfl) (by kernel_rfl) ?_ | refine V.NApp.one (by first | omega | (simp; omega)) (by first | omega | (simp; omega)) ?_ | (refine Fam.use c hT [(0, _)] rfl rfl rfl (fun k hk => rfl) ?_; rintro g1 ⟨d2, P2, S2, rfl⟩) | (refine V.NDraw.any (by kernel_rfl) ?_) | fail)
          all_goals (conv => whnf)
          have G := St.Good.merge (by omega) (by omega) (by omega) G1 G2 P2 S2
          have TO2 := (TO.same (fun i q => P2.2.1 i (.inl q))).last ea (by omega) G (by omega) (by omega)
          exact FBack.at_ hT (2 * bs, d2) [(0, _)] ⟨by dsimp only; omega, by dsimp only; omega, permIn_trans _ _ _ _ _ P (permIn_mono _ _ _ _ 0 n (Nat.zero_le _) (Nat.le_refl _) (by omega) P2), TO2⟩ (by dsimp only; omega) ⟨congrArg (fun z : Int => SV.one (At.val (Value.int .i64 z))) (show (bs : Int) * 2 = ((2 * bs : Nat) : Int) by omega), rfl, rfl, rfl, trivial⟩ rfl rfl rfl (fun k hk => rfl)
        · have TO2 : St.To It.tg lt (2 * bs) n d1 := by
            by_cases z : a < n
            · have G1 := FR.head z
              rw [show min (a + bs) n = n by omega] at G1
              exact TO.last ea (by omega) G1 z (by omega)
            · obtain rfl : a = n := by omega
              exact TO
          repeat' ((conv => whnf); first | refine V.NCond.mk ?_ | refine V.NIf.not_ ?_ | refine V.NIf.dec_ ?_ | refine V.NIf.no (by omega) ?_ | refine V.NIf.yes (by omega) ?_ | refine V.NIf.mk (fun _ => ?_) (fun _ => ?_) | refine V.NWrap.ok (by omega) (by omega) ?_ | refine V.NWrap.u64 (by omega) (by omega) ?_ | refine V.NLt.mk (by omega) ?_ | refine V.NBoth.mk ?_ ?_ | refine V.NTF.yes (by omega) ?_ | refine V.NTF.no (by omega) ?_ | refine V.NTF.dec ?_ | refine V.NDraw.q (by exact rfl) (by kernel_rfl) ?_ | refine V.NApp.one (by first | omega | (simp; omega)) (by first | omega | (simp; omega)) ?_ | (refine V.NDraw.any (by kernel_rfl) ?_) | fail)
          all_goals (conv => whnf)
          exact FBack.at_ hT (2 * bs, d1) [(0, _)] ⟨by dsimp only; omega, by dsimp only; omega, P, TO2⟩ (by dsimp only; omega) ⟨congrArg (fun z : Int => SV.one (At.val (Value.int .i64 z))) (show (bs : Int) * 2 = ((2 * bs : Nat) : Int) by omega), rfl, rfl, rfl, trivial⟩ rfl rfl rfl (fun k hk => rfl)
    · repeat' ((conv => whnf); first | refine V.NCond.mk ?_ | refine V.NIf.not_ ?_ | refine V.NIf.dec_ ?_ | refine V.NIf.no (by omega) ?_ | refine V.NIf.yes (by omega) ?_ | refine V.NIf.mk (fun _ => ?_) (fun _ => ?_) | refine V.NWrap.ok (by omega) (by omega) ?_ | refine V.NWrap.u64 (by omega) (by omega) ?_ | refine V.NLt.mk (by omega) ?_ | refine V.NBoth.mk ?_ ?_ | refine V.NTF.yes (by omega) ?_ | refine V.NTF.no (by omega) ?_ | refine V.NTF.dec ?_ | refine V.NDraw.q (by exact rfl) (by kernel_rfl) ?_ | refine V.NApp.one (by first | omega | (simp; omega)) (by first | omega | (simp; omega)) ?_ | (refine V.NDraw.any (by kernel_rfl) ?_) | fail)
      all_goals (conv => whnf)
      exact ⟨rfl, rfl, [(0, _)], _, rfl, rfl, rfl, d1, P, TO.all (by omega), rfl⟩
end Go.Proofs.Ytcdlhfbpmpjfkaa

/- What the functions on offers answer: who lends how much, in shares, and at the least cost. -/
namespace Go.Proofs.Ytcdlhfbpmpjfkaa
open Go Go.RowKit V
set_option maxRecDepth 100000
set_option linter.unusedVariables false
set_option linter.unusedSimpArgs false
set_option maxHeartbeats 4000000
theorem v_lnErr (l : List Of) (m : Int) (hn : l.length ≤ 9223372036854775807) : V.Fn Try.prog 35 [.arr 3 l.length (ga encO l)] [.one (.ref 0), .one (.val (.int .i64 m))] (.int .i64 (O.err l m)) := by
  have ck := v_lnCheck l hn
  rcases O.err_cases l m with ⟨a, e⟩ | ⟨a, b, e⟩ | ⟨a, b, c, e⟩ | ⟨a, b, c, e⟩
  · rw [e]
    generalize O.chk l = C at *
    refine V.Fn.mk_ V.Tok V.mixed Try.func35 rfl Try.ntmps35 (by kernel_rfl) rfl rfl ?_
    repeat' ((conv => whnf); first | (refine V.NIf.yes ?_ ?_; · (decide; done)) | (refine V.NIf.no ?_ ?_; · (decide; done)) | refine V.NCond.mk ?_ | refine V.NIf.not_ ?_ | refine V.NIf.dec_ ?_ | refine V.NIf.no (by omega) ?_ | refine V.NIf.yes (by omega) ?_ | refine V.NIf.mk (fun _ => ?_) (fun _ => ?_) | refine V.NWrap.ok (by omega) (by omega) ?_ | refine V.NWrap.u64 (by omega) (by omega) ?_ | refine V.NLt.mk (by omega) ?_ | refine V.NBoth.mk ?_ ?_ | refine V.NTF.yes (by omega) ?_ | refine V.NTF.no (by omega) ?_ | refine V.NTF.dec ?_ | refine V.NDraw.q (by exact rfl) (by kernel_rfl) ?_ | refine V.NApp.one (by first | omega | (simp; omega)) (by first | omega | (simp; omega)) ?_ | ((first | refine V.Fn.k (ck) [0] rfl ?_ ?_ | refine V.Fn.q (ck) [0] rfl ?_ ?_ | refine V.Fn.a (ck) [0] rfl ?_ ?_); · ((repeat' (first | exact rfl | exact Iff.rfl | exact trivial | exact (fun _ _ => rfl) | exact (fun _ h => absurd h (Nat.not_lt_zero _)) | refine ⟨?_, ?_⟩ | exact Iff.rfl | exact congrArg (fun z => V.SV.one (V.At.val (Value.int .i64 z))) (by omega))); done)) | (refine V.NDraw.any (by kernel_rfl) ?_) | fail)
    all_goals (conv => whnf)
    all_goals exact V.fin1 rfl
  · rw [e]
    rw [a] at ck
    refine V.Fn.mk_ V.Tok V.mixed Try.func35 rfl Try.ntmps35 (by kernel_rfl) rfl rfl ?_
    repeat' ((conv => whnf); first | (refine V.NIf.yes ?_ ?_; · (decide; done)) | (refine V.NIf.no ?_ ?_; · (decide; done)) | refine V.NCond.mk ?_ | refine V.NIf.not_ ?_ | refine V.NIf.dec_ ?_ | refine V.NIf.no (by omega) ?_ | refine V.NIf.yes (by omega) ?_ | refine V.NIf.mk (fun _ => ?_) (fun _ => ?_) | refine V.NWrap.ok (by omega) (by omega) ?_ | refine V.NWrap.u64 (by omega) (by omega) ?_ | refine V.NLt.mk (by omega) ?_ | refine V.NBoth.mk ?_ ?_ | refine V.NTF.yes (by omega) ?_ | refine V.NTF.no (by omega) ?_ | refine V.NTF.dec ?_ | refine V.NDraw.q (by exact rfl) (by kernel_rfl) ?_ | refine V.NApp.one (by first | omega | (simp; omega)) (by first | omega | (simp; omega)) ?_ | ((first | refine V.Fn.k (ck) [0] rfl ?_ ?_ | refine V.Fn.q (ck) [0] rfl ?_ ?_ | refine V.Fn.a (ck) [0] rfl ?_ ?_); · ((repeat' (first | exact rfl | exact Iff.rfl | exact trivial | exact (fun _ _ => rfl) | exact (fun _ h => absurd h (Nat.not_lt_zero _)) | refine ⟨?_, ?_⟩ | exact Iff.rfl | exact congrArg (fun z => V.SV.one (V.At.val (Value.int .i64 z))) (by omega))); done)) | (refine V.NDraw.any (by kernel_rfl) ?_) | fail)
    all_goals (conv => whnf)
    all_goals exact V.fin1 rfl
  · rw [e]
    have un := v_lnUnits l (O.chk_ok a)
    rw [a] at ck
    refine V.Fn.mk_ V.Tok V.mixed Try.func35 rfl Try.ntmps35 (by kernel_rfl) rfl rfl ?_
    repeat' ((conv => whnf); first | (refine V.NIf.yes ?_ ?_; · (decide; done)) | (refine V.NIf.no ?_ ?_; · (decide; done)) | refine V.NCond.mk ?_ | refine V.NIf.not_ ?_ | refine V.NIf.dec_ ?_ | refine V.NIf.no (by omega) ?_ | refine V.NIf.yes (by omega) ?_ | refine V.NIf.mk (fun _ => ?_) (fun _ => ?_) | refine V.NWrap.ok (by omega) (by omega) ?_ | refine V.NWrap.u64 (by omega) (by omega) ?_ | refine V.NLt.mk (by omega) ?_ | refine V.NBoth.mk ?_ ?_ | refine V.NTF.yes (by omega) ?_ | refine V.NTF.no (by omega) ?_ | refine V.NTF.dec ?_ | refine V.NDraw.q (by exact rfl) (by kernel_rfl) ?_ | refine V.NApp.one (by first | omega | (simp; omega)) (by first | omega | (simp; omega)) ?_ | ((first | refine V.Fn.k (ck) [0] rfl ?_ ?_ | refine V.Fn.q (ck) [0] rfl ?_ ?_ | refine V.Fn.a (ck) [0] rfl ?_ ?_); · ((repeat' (first | exact rfl | exact Iff.rfl | exact trivial | exact (fun _ _ => rfl) | exact (fun _ h => absurd h (Nat.not_lt_zero _)) | refine ⟨?_, ?_⟩ | exact Iff.rfl | exact congrArg (fun z => V.SV.one (V.At.val (Value.int .i64 z))) (by omega))); done)) | ((first | refine V.FnR.k_ (un) [0] rfl ?_ ?_ | refine V.FnR.a_ (un) [0] rfl ?_ ?_); · ((repeat' (first | exact rfl | exact Iff.rfl | exact trivial | exact (fun _ _ => rfl) | exact (fun _ h => absurd h (Nat.not_lt_zero _)) | refine ⟨?_, ?_⟩ | exact Iff.rfl | exact congrArg (fun z => V.SV.one (V.At.val (Value.int .i64 z))) (by omega))); done)) | (refine V.NDraw.any (by kernel_rfl) ?_) | fail)
    all_goals (conv => whnf)
    all_goals exact V.fin1 rfl
  · rw [e]
    have un := v_lnUnits l (O.chk_ok a)
    rw [a] at ck
    refine V.Fn.mk_ V.Tok V.mixed Try.func35 rfl Try.ntmps35 (by kernel_rfl) rfl rfl ?_
    repeat' ((conv => whnf); first | (refine V.NIf.yes ?_ ?_; · (decide; done)) | (refine V.NIf.no ?_ ?_; · (decide; done)) | refine V.NCond.mk ?_ | refine V.NIf.not_ ?_ | refine V.NIf.dec_ ?_ | refine V.NIf.no (by omega) ?_ | refine V.NIf.yes (by omega) ?_ | refine V.NIf.mk (fun _ => ?_) (fun _ => ?_) | refine V.NWrap.ok (by omega) (by omega) ?_ | refine V.NWrap.u64 (by omega) (by omega) ?_ | refine V.NLt.mk (by omega) ?_ | refine V.NBoth.mk ?_ ?_ | refine V.NTF.yes (by omega) ?_ | refine V.NTF.no (by omega) ?_ | refine V.NTF.dec ?_ | refine V.NDraw.q (by exact rfl) (by kernel_rfl) ?_ | refine V.NApp.one (by first | omega | (simp; omega)) (by first | omega | (simp; omega)) ?_ | ((first | refine V.Fn.k (ck) [0] rfl ?_ ?_ | refine V.Fn.q (ck) [0] rfl ?_ ?_ | refine V.Fn.a (ck) [0] rfl ?_ ?_); · ((repeat' (first | exact rfl | exact Iff.rfl | exact trivial | exact (fun _ _ => rfl) | exact (fun _ h => absurd h (Nat.not_lt_zero _)) | refine ⟨?_, ?_⟩ | exact Iff.rfl | exact congrArg (fun z => V.SV.one (V.At.val (Value.int .i64 z))) (by omega))); done)) | ((first | refine V.FnR.k_ (un) [0] rfl ?_ ?_ | refine V.FnR.a_ (un) [0] rfl ?_ ?_); · ((repeat' (first | exact rfl | exact Iff.rfl | exact trivial | exact (fun _ _ => rfl) | exact (fun _ h => absurd h (Nat.not_lt_zero _)) | refine ⟨?_, ?_⟩ | exact Iff.rfl | exact congrArg (fun z => V.SV.one (V.At.val (Value.int .i64 z))) (by omega))); done)) | (refine V.NDraw.any (by kernel_rfl) ?_) | fail)
    all_goals (conv => whnf)
    all_goals exact V.fin1 rfl
theorem _root_.Go.Proofs.Ytcdlhfbpmpjfkaa.O.err_0 {l : List Of} {m : Int} (h : O.err l m = 0) : O.Oks l ∧ (1 ≤ m ∧ m ≤ 1073741824) ∧ m ≤ Sh.sm (O.us l) ∧ 0 < l.length := by
  rcases O.err_cases l m with ⟨a, e⟩ | ⟨a, b, e⟩ | ⟨a, b, c, e⟩ | ⟨a, b, c, e⟩
  · rw [h] at e; exact absurd e.symm a
  · omega
  · omega
  · refine ⟨O.chk_ok a, b, c, ?_⟩
    rcases Nat.eq_zero_or_pos l.length with z | z
    · have : O.us l = [] := by rw [List.length_eq_zero_iff.1 z]; rfl
      rw [this] at c
      simp [Sh.sm] at c
      omega
    · exact z
def _root_.Go.Proofs.Ytcdlhfbpmpjfkaa.O.shL (l : List Of) (m : Int) : List Int := if O.err l m = 0 then Sh.raw m (O.us l) else []
def _root_.Go.Proofs.Ytcdlhfbpmpjfkaa.O.bL (l : List Of) (m : Int) : List Int := if O.err l m = 0 then O.bst l m else []
def _root_.Go.Proofs.Ytcdlhfbpmpjfkaa.O.bC (l : List Of) (m : Int) : Int := if O.err l m = 0 then O.cost l m else 0
theorem v_lnShare (l : List Of) (m : Int) (hn : l.length ≤ 9223372036854775807) : V.FnR Try.prog 40 [.arr 3 l.length (ga encO l)] [.one (.ref 0), .one (.val (.int .i64 m))] (.tup [.one (.ref 1), .one (.val (.int .i64 (O.err l m)))]) [.row 3 1 (O.shL l m).length (ga e1 (O.shL l m))] := by
  have ck := v_lnErr l m hn
  by_cases h : O.err l m = 0
  · obtain ⟨ok, b, c, z⟩ := O.err_0 h
    have un := v_lnUnits l ok
    have so := O.us_oks ok z
    have rw_ := v_shRaw m (O.us l) so (by omega)
    rw [show O.shL l m = Sh.raw m (O.us l) from if_pos h]
    rw [h] at ck ⊢
    generalize Sh.raw m (O.us l) = R at *
    refine V.FnR.mk_ V.Tok V.mixed Try.func40 rfl Try.ntmps40 (by kernel_rfl) rfl rfl rfl rfl ?_
    repeat' ((conv => whnf); first | (refine V.NIf.yes ?_ ?_; · (decide; done)) | (refine V.NIf.no ?_ ?_; · (decide; done)) | refine V.NCond.mk ?_ | refine V.NIf.not_ ?_ | refine V.NIf.dec_ ?_ | refine V.NIf.no (by omega) ?_ | refine V.NIf.yes (by omega) ?_ | refine V.NIf.mk (fun _ => ?_) (fun _ => ?_) | refine V.NWrap.ok (by omega) (by omega) ?_ | refine V.NWrap.u64 (by omega) (by omega) ?_ | refine V.NLt.mk (by omega) ?_ | refine V.NBoth.mk ?_ ?_ | refine V.NTF.yes (by omega) ?_ | refine V.NTF.no (by omega) ?_ | refine V.NTF.dec ?_ | refine V.NDraw.q (by exact rfl) (by kernel_rfl) ?_ | refine V.NApp.one (by first | omega | (simp; omega)) (by first | omega | (simp; omega)) ?_ | ((first | refine V.Fn.k (ck) [0] rfl ?_ ?_ | refine V.Fn.q (ck) [0] rfl ?_ ?_ | refine V.Fn.a (ck) [0] rfl ?_ ?_); · ((repeat' (first | exact rfl | exact Iff.rfl | exact trivial | exact (fun _ _ => rfl) | exact (fun _ h => absurd h (Nat.not_lt_zero _)) | refine ⟨?_, ?_⟩ | exact Iff.rfl | exact congrArg (fun z => V.SV.one (V.At.val (Value.int .i64 z))) (by omega))); done)) | ((first | refine V.FnR.k_ (un) [0] rfl ?_ ?_ | refine V.FnR.a_ (un) [0] rfl ?_ ?_); · ((repeat' (first | exact rfl | exact Iff.rfl | exact trivial | exact (fun _ _ => rfl) | exact (fun _ h => absurd h (Nat.not_lt_zero _)) | refine ⟨?_, ?_⟩ | exact Iff.rfl | exact congrArg (fun z => V.SV.one (V.At.val (Value.int .i64 z))) (by omega))); done)) | ((first | (first | refine V.FnR.k_ (rw_) [1] rfl ?_ ?_ | refine V.FnR.a_ (rw_) [1] rfl ?_ ?_); · ((repeat' (first | exact rfl | exact Iff.rfl | exact trivial | exact (fun _ _ => rfl) | exact (fun _ h => absurd h (Nat.not_lt_zero _)) | refine ⟨?_, ?_⟩ | exact Iff.rfl | exact congrArg (fun z => V.SV.one (V.At.val (Value.int .i64 z))) (by omega))); done) | (first | refine V.FnR.k_ (rw_) [2] rfl ?_ ?_ | refine V.FnR.a_ (rw_) [2] rfl ?_ ?_); · ((repeat' (first | exact rfl | exact Iff.rfl | exact trivial | exact (fun _ _ => rfl) | exact (fun _ h => absurd h (Nat.not_lt_zero _)) | refine ⟨?_, ?_⟩ | exact Iff.rfl | exact congrArg (fun z => V.SV.one (V.At.val (Value.int .i64 z))) (by omega))); done))) | (refine V.NDraw.any (by kernel_rfl) ?_) | fail)
    all_goals (conv => whnf)
    all_goals first
      | exact NRet.mk_ [some 2] rfl ⟨rfl, rfl, trivial⟩ ⟨⟨rfl, rfl, rfl, fun k hk => rfl⟩, trivial⟩
      | exact NRet.mk_ [some 3] rfl ⟨rfl, rfl, trivial⟩ ⟨⟨rfl, rfl, rfl, fun k hk => rfl⟩, trivial⟩
      | trace_state
  · rw [show O.shL l m = [] from if_neg h]
    generalize O.err l m = E at *
    refine V.FnR.mk_ V.Tok V.mixed Try.func40 rfl Try.ntmps40 (by kernel_rfl) rfl rfl rfl rfl ?_
    repeat' ((conv => whnf); first | (refine V.NIf.yes ?_ ?_; · (decide; done)) | (refine V.NIf.no ?_ ?_; · (decide; done)) | refine V.NCond.mk ?_ | refine V.NIf.not_ ?_ | refine V.NIf.dec_ ?_ | refine V.NIf.no (by omega) ?_ | refine V.NIf.yes (by omega) ?_ | refine V.NIf.mk (fun _ => ?_) (fun _ => ?_) | refine V.NWrap.ok (by omega) (by omega) ?_ | refine V.NWrap.u64 (by omega) (by omega) ?_ | refine V.NLt.mk (by omega) ?_ | refine V.NBoth.mk ?_ ?_ | refine V.NTF.yes (by omega) ?_ | refine V.NTF.no (by omega) ?_ | refine V.NTF.dec ?_ | refine V.NDraw.q (by exact rfl) (by kernel_rfl) ?_ | refine V.NApp.one (by first | omega | (simp; omega)) (by first | omega | (simp; omega)) ?_ | ((first | refine V.Fn.k (ck) [0] rfl ?_ ?_ | refine V.Fn.q (ck) [0] rfl ?_ ?_ | refine V.Fn.a (ck) [0] rfl ?_ ?_); · ((repeat' (first | exact rfl | exact Iff.rfl | exact trivial | exact (fun _ _ => rfl) | exact (fun _ h => absurd h (Nat.not_lt_zero _)) | refine ⟨?_, ?_⟩ | exact Iff.rfl | exact congrArg (fun z => V.SV.one (V.At.val (Value.int .i64 z))) (by omega))); done)) | (refine V.NDraw.any (by kernel_rfl) ?_) | fail)
    all_goals (conv => whnf)
    all_goals exact NRet.mk_ [some 2] rfl ⟨rfl, rfl, trivial⟩ ⟨⟨rfl, rfl, rfl, fun k hk => absurd hk (Nat.not_lt_zero _)⟩, trivial⟩
end Go.Proofs.Ytcdlhfbpmpjfkaa

/- Ranges over functions, walked by verification conditions: the iterator is walked in place, and the loop's body where the iterator calls yield. -/
namespace Go.Proofs.Ytcdlhfbpmpjfkaa.V
open Go Go.RowKit
set_option linter.unusedVariables false
set_option linter.unusedSimpArgs false

def lpK (obs : Obs) (i : Nat) (K : Lc → Env → Lst → Prop) : Prop := fndK obs i fun o => match o with
  | .lp L env st => K L env st
  | _ => False
theorem lpK_spec {obs : Obs} {i : Nat} {K : Lc → Env → Lst → Prop} (h : lpK obs i K) : ∃ L env st, fnd obs i = some (.lp L env st) ∧ K L env st := by
  obtain ⟨o, ho, h⟩ := fndK_spec h
  cases o <;> first | exact h.elim | exact ⟨_, _, _, ho, h⟩
/-- the parameters of a round -/
def zipK (sz : Nat) : List Nat → List SV → Env → (Env → Prop) → Prop
  | [], [], env, K => K env
  | p :: ps, v :: vs, env, K => match Nat.blt p sz with
    | true => zipK sz ps vs ((p, v) :: env) K
    | false => False
  | _, _, _, _ => False
theorem zip_spec {sz : Nat} {ρ : Rho} : ∀ {ps : List Nat} {vs : List SV} {xs : List Value} {env : Env} {tmps : Array Value} {K : Env → Prop}, EnvR sz ρ env { tmps := tmps, defers := [] } → Svs ρ vs xs → zipK sz ps vs env K →
    ∃ env', K env' ∧ xs.length = ps.length ∧ EnvR sz ρ env' { tmps := (ps.zip xs).foldl (fun t (p : Nat × Value) => t.setIfInBounds p.1 p.2) tmps, defers := [] }
  | [], [], xs, env, tmps, K, hE, hs, h => by
    have e : xs = [] := hs
    subst e
    exact ⟨env, h, rfl, hE⟩
  | p :: ps, v :: vs, xs, env, tmps, K, hE, ⟨x, r, e, hv, hr⟩, h => by
    subst e
    unfold zipK at h
    cases hb : Nat.blt p sz <;> simp only [hb] at h
    have hd : p < sz := by simpa [Nat.blt_eq] using hb
    have hsz : tmps.size = sz := hE.size
    have hE' : EnvR sz ρ ((p, v) :: env) { tmps := tmps.setIfInBounds p x, defers := [] } := by
      refine ⟨by simp [hsz], fun t u hu => ?_⟩
      rcases fnd_cons hu with ⟨rfl, rfl⟩ | ⟨hn, hu⟩
      · exact ⟨x, by simp [hsz, hd], SV.is_of1 hv⟩
      · obtain ⟨y, hy, h2⟩ := hE.env t u hu
        exact ⟨y, by rw [Array.getElem?_setIfInBounds_ne hn]; exact hy, h2⟩
    obtain ⟨env', hK, hl, hE2⟩ := zip_spec hE' hr h
    exact ⟨env', hK, by simp [hl], hE2⟩
  | [], _ :: _, _, _, _, _, _, _, h => h.elim
  | _ :: _, [], _, _, _, _, _, _, h => h.elim
/-- what becomes of the record at a round's end -/
def rndK (i : Nat) (K : SV → Obs → Nat → Prop) : Kon := fun e _ obs nx => lpK obs i fun L env st => match st with
  | .busy => match e with
    | .nrm => K (.one (.tf true)) ((i, .lp L env .ready) :: obs) nx
    | .exit id => K (.one (.tf false)) ((i, .lp L env (.done (.exit id))) :: obs) nx
    | .ret => K (.one (.tf false)) ((i, .lp L env (.done .ret)) :: obs) nx
  | _ => False
/-- what is done when the iterator has returned -/
def endK (i : Nat) (env : Env) (K : Kon) (obs : Obs) (nx : Nat) : Prop := lpK obs i fun _ _ st => match st with
  | .ready => K .nrm env ((i, .gone) :: obs) nx
  | .done (.exit id) => K (.exit id) env ((i, .gone) :: obs) nx
  | .done .ret => K .ret env ((i, .gone) :: obs) nx
  | _ => False
theorem put_below {B l : Nat} {w : World} (h : B ≤ l) (o : Obj) : Below B w (w.putObj l o) :=
  ⟨rfl, rfl, rfl, by rw [World.putObj_size]; exact Nat.le_refl _, fun k hk => World.putObj_heap_other (by omega)⟩
theorem put_oth {l : Nat} {w : World} {r : Loop} (h : w.heap[l]? = some (.loop r)) (o : Obj) : Oth w (w.putObj l o) :=
  oth_one (b := l) (fun k hk => World.putObj_heap_other hk) fun D e => by rw [h] at e; cases e
theorem Cls.lpset {B nx : Nat} {ρ : Rho} {obs : Obs} {w : World} {i l : Nat} {L : Lc} {env : Env} {st : Lst} (hC : Cls B ρ obs nx w) (ho : fnd obs i = some (.lp L env st)) (hl : ρ i = some (.func (.yield l) #[] #[])) :
    ∃ fn tmps D, B ≤ l ∧ w.heap[l]? = some (.loop { state := st.state, pending := st.pend, fn := fn, tmps := tmps, params := L.ps.toArray, assign := L.assign, body := L.body, defers := D }) ∧
      ∀ st' : Lst, Cls B ρ ((i, .lp L env st') :: obs) nx (w.putObj l (.loop { state := st'.state, pending := st'.pend, fn := fn, tmps := tmps, params := L.ps.toArray, assign := L.assign, body := L.body, defers := D })) := by
  obtain ⟨l', fn, tmps, D, e, hB, hh, hE⟩ := hC.sat i _ ho
  rw [hl] at e
  have e : l = l' := by injection e with e; injection e with e; injection e
  subst e
  have hf : ∀ st' : Lst, foot ρ i (.lp L env st') = some l := fun st' => by simp [foot, hl]
  exact ⟨fn, tmps, D, hB, hh, fun st' => hC.set ho rfl (hf st) (.inl (hf st')) rfl World.putObj_size (fun k hk => World.putObj_heap_other hk)
    ⟨l, fn, tmps, D, hl, hB, World.putObj_heap_same (Array.getElem?_eq_some_iff.1 hh).1, hE⟩⟩
theorem Cls.kill {B nx : Nat} {ρ : Rho} {obs : Obs} {w w' : World} {i b : Nat} {o : Ob} (h : Cls B ρ obs nx w) (ho : fnd obs i = some o) (hm : o.mut = true) (hf : foot ρ i o = some b) (hsz : w'.heap.size = w.heap.size) (hk : ∀ k, k ≠ b → w'.heap[k]? = w.heap[k]?) : Cls B ρ ((i, .gone) :: obs) nx w' := by
  refine ⟨by rw [hsz]; exact h.le, fun j u hu => ?_, fun j k o1 o2 c h1 h2 hne hmu hf1 => ?_, h.new⟩
  · rcases fnd_cons hu with ⟨rfl, rfl⟩ | ⟨hn, hu⟩
    · trivial
    · exact (h.sat j u hu).keep (by omega) fun c hc => hk c (fun e => by subst e; exact h.apart i j o u c ho hu hn hm hf hc)
  · rcases fnd_cons h1 with ⟨rfl, rfl⟩ | ⟨hn1, h1⟩
    · cases hf1
    · rcases fnd_cons h2 with ⟨rfl, rfl⟩ | ⟨hn2, h2⟩
      · intro e; cases e
      · exact h.apart j k o1 o2 c h1 h2 hne hmu hf1

/-- a round -/
theorem NYield.mk_ {P : Program} {T : TT} (hT : TTok P T) (hm : P.follows .mixedOrders = true) {i : Nat} {L : Lc} {env0 : Env} {sz : Nat} {ps : List Nat} {assign body : Code} (hL : L = ⟨sz, ps, assign, body⟩) (hc : (calm assign && calm body) = true)
    {args : List SV} {obs : Obs} {nx : Nat} {K : SV → Obs → Nat → Prop} (ho : fnd obs i = some (.lp L env0 .ready))
    (h : zipK sz ps args env0 fun env => vc P T sz nx assign env obs nx fun e env1 obs1 nx1 => match e with
      | .nrm => lpK obs1 i fun L1 e1 st => match st with
        | .ready => vc P T sz nx body env1 ((i, .lp L1 e1 .busy) :: obs1) nx1 (rndK i K)
        | _ => False
      | _ => False) : NYield P i args obs nx K :=
  ⟨fun B ρ w xs l n hC hs hl => by
    subst hL
    simp only [Bool.and_eq_true] at hc
    obtain ⟨l', fn, tmps, D, e, hB, hh, hE0⟩ := hC.sat i _ ho
    rw [hl] at e
    have e : l = l' := by injection e with e; injection e with e; injection e
    subst e
    obtain ⟨env, h, hlen, hE⟩ := zip_spec hE0 hs h
    have hy := run_yield (P := P) (args := xs.toArray) hh (by simp [hlen])
    have hin : i < nx := by
      rcases Nat.lt_or_ge i nx with q | q
      · exact q
      · rw [hC.new i q] at hl; cases hl
    have ex : ∀ {ρ1 : Rho} {ds : List Deferred} {w1 : World}, Wy B ⟨w, ρ, nx⟩ ρ1 ds w1 → ∀ j y, ρ j = some y → ρ1 j = some y := fun {ρ1 ds w1} hW j y hy => by
      by_cases hj : j < nx
      · exact hW.e j y hj hy
      · rw [hC.new j (by omega)] at hy; cases hy
    refine ⟨fn, _, assign, body, hy, roundIn_of_wpIn trivial ?_⟩
    have et : ((ps.toArray.zip xs.toArray).foldl (fun t (x : Nat × Value) => match x with | (t', a) => t.setIfInBounds t' a) tmps) = (ps.zip xs).foldl (fun t (p : Nat × Value) => t.setIfInBounds p.1 p.2) tmps := by
      rw [← Array.foldl_toList, Array.toList_zip]
    rw [et]
    have h1 := vc_sound (ro := some l) (n := n) (w0 := ⟨w, ρ, nx⟩) hT hm assign (.inr hc.1) h hE hC ⟨Below.refl _ _, Oth.refl _, fun _ _ _ h => h, [], rfl, List.nodup_nil, by simp⟩
    refine wpIn_mono h1 ?_
    intro e a1 w1 q
    cases e with
    | normal =>
      obtain ⟨ρ1, env1, obs1, nx1, hk, hE1, hC1, hW1⟩ := q
      obtain ⟨L1, e1, st, ho1, hk⟩ := lpK_spec hk
      split at hk
      rotate_left
      · exact hk.elim
      have hl1 := ex hW1 _ _ hl
      obtain ⟨fn1, tmps1, D1, _, hh1, hset⟩ := hC1.lpset ho1 hl1
      refine ⟨_, run_beginRound hh1 rfl, ?_⟩
      have h2 := vc_sound (ro := some l) (n := n) (w0 := ⟨w, ρ, nx⟩) hT hm body (.inr hc.2) hk hE1 (hset .busy) (hW1.trans (put_below hB _) (put_oth hh1 _))
      refine wpIn_mono h2 ?_
      intro e a2 w2 q
      have fin : ∀ (e : Ex) (st : Lst) (b : Bool) (K2 : Env → Obs → Nat → Prop), Nx B ⟨w, ρ, nx⟩ sz K2 a2 w2 → (∀ env2 obs2 nx2, K2 env2 obs2 nx2 → lpK obs2 i fun L env s => match s with
            | .busy => K (.one (.tf b)) ((i, .lp L env st) :: obs2) nx2
            | _ => False) → st ≠ .busy → b = st.pend.isNone → st.state = (if st.pend.isNone then .ready else .done) →
          ∃ v w', (Instr.endRound l st.pend).run P w2 = .ok v w' ∧ ∃ u obs' nx' ρ' x, K u obs' nx' ∧ (∀ i y, ρ i = some y → ρ' i = some y) ∧ Ending.returned v = .returned x ∧ u.is ρ' x ∧ Cls B ρ' obs' nx' w' ∧ Below B w w' ∧ Oth w w' := by
        rintro e st b K2 ⟨ρ2, env2, obs2, nx2, hk2, hE2, hC2, hW2⟩ hK hnb hb hst
        obtain ⟨L2, e2, s2, ho2, hk2⟩ := lpK_spec (hK _ _ _ hk2)
        split at hk2
        rotate_left
        · exact hk2.elim
        obtain ⟨fn2, tmps2, D2, _, hh2, hset2⟩ := hC2.lpset ho2 (ex hW2 _ _ hl)
        refine ⟨_, _, run_endRound st.pend hh2, _, _, _, ρ2, _, hk2, ex hW2, rfl, ?_, ?_, hW2.b.trans (put_below hB _), hW2.o.trans (put_oth hh2 _)⟩
        · subst hb; exact rfl
        · have := hset2 st
          rw [hst] at this
          exact this
      cases e with
      | normal => exact fin .nrm .ready true _ q (fun _ _ _ h => h) (fun q => by cases q) rfl rfl
      | ret => exact fin .ret (.done .ret) false _ q (fun _ _ _ h => h) (fun q => by cases q) rfl rfl
      | exit id => exact fin (.exit id) (.done (.exit id)) false _ q (fun _ _ _ h => h) (fun q => by cases q) rfl rfl
      | goto t => exact q.elim
      | panic c => exact q.elim
      | outgrown => exact q.elim
    | exit id => obtain ⟨_, _, _, _, hk, _⟩ := q; exact hk.elim
    | ret => obtain ⟨_, _, _, _, hk, _⟩ := q; exact hk.elim
    | goto t => exact q
    | panic c => exact q
    | outgrown => exact q⟩
structure NIs (a b : Nat) (K : Prop) : Prop where
  e : a = b
  h : K
theorem run_enter {P : Program} {f : FuncId} (hb : hasBody P f = true) (args : Array Value) (w : World) : (callFunc f args).run P w = .ok (.enter f args) w := by
  unfold hasBody at hb
  cases hf : P.funcs[f]? with
  | none => rw [hf] at hb; cases hb
  | some fn =>
    rw [hf] at hb
    simp only [Bool.and_eq_true, Bool.not_eq_true', Option.isSome_iff_ne_none] at hb
    obtain ⟨h1, h2⟩ := hb
    have h3 : fn.body.isNone = false := by cases hq : fn.body with | none => exact absurd hq h1 | some c => rfl
    have h4 : ¬ fn.name = "runtime.NumGoroutine" := by simpa using h2
    simp [callFunc, hf, h4, h3, Sem.run_bind]
    exact fun q => absurd q h1
/-! a row that the rounds change takes a new name -/
def mvA (i j : Nat) : At → At
  | .ref k => match Nat.beq k i with
    | true => .ref j
    | false => .ref k
  | a => a
def mvOb (i j : Nat) : Ob → Ob
  | .box t l => .box t (l.map (mvA i j))
  | o => o
def mvObs (i j : Nat) : Obs → Obs
  | [] => []
  | (k, o) :: r => match Nat.beq k i with
    | true => (k, .gone) :: mvObs i j r
    | false => (k, mvOb i j o) :: mvObs i j r
theorem mvObs_get {i j k : Nat} {o : Ob} : ∀ {obs : Obs}, fnd (mvObs i j obs) k = some o → (k = i ∧ o = .gone) ∨ (k ≠ i ∧ ∃ o', fnd obs k = some o' ∧ o = mvOb i j o')
  | [], h => by cases h
  | (u, x) :: r, h => by
    unfold mvObs at h
    cases hb : Nat.beq u i <;> simp only [hb] at h
    · rcases fnd_cons h with ⟨rfl, rfl⟩ | ⟨hn, h⟩
      · exact .inr ⟨Nat.ne_of_beq_eq_false hb, x, by unfold fnd; rw [Nat.beq_refl], rfl⟩
      · rcases mvObs_get h with q | ⟨q, o', h1, h2⟩
        · exact .inl q
        · refine .inr ⟨q, o', ?_, h2⟩
          unfold fnd
          cases hb2 : Nat.beq u k
          · exact h1
          · exact absurd (Nat.eq_of_beq_eq_true hb2) hn
    · have e := Nat.eq_of_beq_eq_true hb
      subst e
      rcases fnd_cons h with ⟨rfl, rfl⟩ | ⟨hn, h⟩
      · exact .inl ⟨rfl, rfl⟩
      · rcases mvObs_get h with q | ⟨q, o', h1, h2⟩
        · exact .inl q
        · refine .inr ⟨q, o', ?_, h2⟩
          unfold fnd
          cases hb2 : Nat.beq u k
          · exact h1
          · exact absurd (Nat.eq_of_beq_eq_true hb2) hn
theorem Ats.mv {i j : Nat} {ρ : Rho} (hj : ρ j = ρ i) : ∀ {l : List At} {x : List Value}, Ats ρ l x → Ats ρ (l.map (mvA i j)) x
  | [], _, h => h
  | a :: l, _, ⟨u, r, hx, ha, hr⟩ => by
    refine ⟨u, r, hx, ?_, Ats.mv hj hr⟩
    cases a with
    | ref k =>
      show (mvA i j (.ref k)).is ρ u
      simp only [mvA]
      cases hb : Nat.beq k i
      · exact ha
      · have e := Nat.eq_of_beq_eq_true hb
        subst e
        exact ⟨hj.trans ha.1, ha.2⟩
    | _ => exact ha
theorem foot_mv {ρ : Rho} {i j k : Nat} {o : Ob} : foot ρ k (mvOb i j o) = foot ρ k o := by cases o <;> rfl
def mvAsK (i j : Nat) : List At → (List At → Prop) → Prop
  | [], K => K []
  | a :: l, K => match a with
    | .ref k => match Nat.beq k i with
      | true => mvAsK i j l fun r => K (.ref j :: r)
      | false => mvAsK i j l fun r => K (.ref k :: r)
    | a => mvAsK i j l fun r => K (a :: r)
theorem mvAsK_eq {i j : Nat} : ∀ {l : List At} {K : List At → Prop}, mvAsK i j l K → K (l.map (mvA i j))
  | [], _, h => h
  | a :: l, K, h => by
    unfold mvAsK at h
    cases a with
    | ref k =>
      simp only at h
      rw [List.map_cons]
      show K (mvA i j (.ref k) :: _)
      simp only [mvA]
      cases hb : Nat.beq k i <;> simp only [hb] at h ⊢ <;> exact mvAsK_eq (K := fun r => K (_ :: r)) h
    | _ => exact mvAsK_eq (K := fun r => K (_ :: r)) h
def mvK (i j : Nat) : Obs → (Obs → Prop) → Prop
  | [], K => K []
  | (k, o) :: r, K => match Nat.beq k i with
    | true => mvK i j r fun r' => K ((k, .gone) :: r')
    | false => match o with
      | .box t l => mvAsK i j l fun l' => mvK i j r fun r' => K ((k, .box t l') :: r')
      | o => mvK i j r fun r' => K ((k, o) :: r')
theorem mvK_eq {i j : Nat} : ∀ {obs : Obs} {K : Obs → Prop}, mvK i j obs K → K (mvObs i j obs)
  | [], _, h => h
  | (k, o) :: r, K, h => by
    unfold mvK at h
    unfold mvObs
    cases hb : Nat.beq k i <;> simp only [hb] at h ⊢
    · cases o with
      | box t l => exact mvK_eq (K := fun r' => K (_ :: r')) (mvAsK_eq h)
      | _ => exact mvK_eq (K := fun r' => K (_ :: r')) h
    · exact mvK_eq (K := fun r' => K (_ :: r')) h
theorem Cls.mv {B nx : Nat} {ρ : Rho} {obs : Obs} {w : World} (i : Nat) {t s n : Nat} {get : Nat → List Value} (hC : Cls B ρ obs nx w) (ho : fnd obs i = some (.row t s n get)) :
    ∃ ρ', Ext ρ ρ' ∧ Cls B ρ' ((nx, .row t s n get) :: mvObs i nx obs) (nx + 1) w := by
  obtain ⟨v, hv, hr⟩ := hC.sat i _ ho
  have hx : Ext ρ (upd ρ nx v) := ext_upd (hC.new nx (Nat.le_refl _))
  have hne : i ≠ nx := fun e => by rw [e, hC.new nx (Nat.le_refl _)] at hv; cases hv
  have hi : upd ρ nx v nx = upd ρ nx v i := by rw [upd_same, upd_ne v hne, hv]
  have ol : ∀ k o, nx ≠ k → foot (upd ρ nx v) k o = foot ρ k o := fun k o hn => foot_eq (upd_ne v (Ne.symm hn))
  have fnx : foot (upd ρ nx v) nx (.row t s n get) = foot ρ i (.row t s n get) := by rw [foot_at hi, foot_eq (upd_ne v hne)]
  refine ⟨upd ρ nx v, hx, ⟨hC.le, fun k o hk => ?_, fun j k o1 o2 b h1 h2 hne' hmu hf => ?_, fun k hk => ?_⟩⟩
  · rcases fnd_cons hk with ⟨rfl, rfl⟩ | ⟨hn, hk⟩
    · exact ⟨v, upd_same _ _ _, hr⟩
    · rcases mvObs_get hk with ⟨_, rfl⟩ | ⟨_, o', h1, rfl⟩
      · trivial
      · have hs := (hC.sat k o' h1).ext hx
        cases o' with
        | box t l => obtain ⟨b, cs, e, hB, hl, hh⟩ := hs; exact ⟨b, cs, e, hB, hl.mv hi, hh⟩
        | _ => exact hs
  · rcases fnd_cons h1 with ⟨rfl, rfl⟩ | ⟨hn1, h1⟩
    · rcases fnd_cons h2 with ⟨rfl, rfl⟩ | ⟨hn2, h2⟩
      · exact absurd rfl hne'
      · rw [fnx] at hf
        rcases mvObs_get h2 with ⟨_, rfl⟩ | ⟨q, o', h3, rfl⟩
        · intro e; cases e
        · rw [foot_mv, ol _ _ hn2]
          exact hC.apart i k _ o' b ho h3 (Ne.symm q) rfl hf
    · rcases mvObs_get h1 with ⟨_, rfl⟩ | ⟨q, o', h3, rfl⟩
      · cases hf
      · rw [foot_mv, ol _ _ hn1] at hf
        have hmu' : o'.mut = true := by cases o' <;> exact hmu
        rcases fnd_cons h2 with ⟨rfl, rfl⟩ | ⟨hn2, h2⟩
        · rw [fnx]
          exact hC.apart j i o' _ b h3 ho q hmu' hf
        · rcases mvObs_get h2 with ⟨_, rfl⟩ | ⟨q2, o2', h4, rfl⟩
          · intro e; cases e
          · rw [foot_mv, ol _ _ hn2]
            exact hC.apart j k o' o2' b h3 h4 hne' hmu' hf
  · rw [upd_ne v (by omega)]; exact hC.new k (by omega)
def mvsK : List Nat → Obs → Nat → (Obs → Nat → Prop) → Prop
  | [], obs, n, K => K obs n
  | i :: r, obs, n, K => fndK obs i fun o => match o with
    | .row t s m g => mvK i n obs fun obs' => mvsK r ((n, .row t s m g) :: obs') (n + 1) K
    | _ => False
theorem mvsK_spec {B : Nat} {w : World} : ∀ {l : List Nat} {ρ : Rho} {obs : Obs} {n : Nat} {K : Obs → Nat → Prop}, Cls B ρ obs n w → mvsK l obs n K → ∃ ρ' obs' n', Ext ρ ρ' ∧ Cls B ρ' obs' n' w ∧ K obs' n'
  | [], ρ, obs, n, K, hC, h => ⟨ρ, obs, n, fun _ _ q => q, hC, h⟩
  | i :: r, ρ, obs, n, K, hC, h => by
    obtain ⟨o, ho, h⟩ := fndK_spec h
    cases o with
    | row t s m g =>
      obtain ⟨ρ1, hx1, hC1⟩ := hC.mv i ho
      obtain ⟨ρ2, obs2, n2, hx2, hC2, hK⟩ := mvsK_spec (l := r) hC1 (mvK_eq (K := fun obs' => mvsK r ((n, .row t s m g) :: obs') (n + 1) K) h)
      exact ⟨ρ2, obs2, n2, fun i y q => hx2 _ _ (hx1 _ _ q), hC2, hK⟩
    | _ => exact h.elim
/-- the statement: the iterator in place -/
theorem NRange.inl {P : Program} {T : TT} (hT : TTok P T) (hm : P.follows .mixedOrders = true) {g : FuncId} {gfn : Func} {c : Code} (hf : P.funcs[g]? = some gfn) (hb : gfn.body = some c) {gsz : Nat} (hs : gfn.ntmps = gsz) (hB : hasBody P g = true)
    {sz : Nat} {fo : Operand} {ps : Array Tmp} {assign body : Code} {env : Env} {obs : Obs} {nx : Nat} {K : Kon} (sl ml : List Nat)
    (h0 : evK env fo fun v => match v with
      | .one (.clo g' caps) => NIs g' g (keepK env sl fun env0 => capE [.one (.ref nx)] caps fun args => match Nat.ble args.length gsz with
        | true => ∀ L : Lc, L = ⟨sz, ps.toList, assign, body⟩ → mvsK ml ((nx, .lp L env0 .ready) :: obs) (nx + 1) fun obs0 nx0 => vc P T gsz (nx + 1) c (argEnv 0 args) obs0 nx0 (fnK T gfn.results.toList fun _ obs1 nx1 => endK nx env K obs1 nx1)
        | false => False)
      | _ => False) : NRange P sz fo ps assign body env obs nx K := by
  refine ⟨fun B s ρ a w n hE hC hW => ?_⟩
  obtain ⟨v, hv, h⟩ := evK_spec hE h0
  clear h0
  split at h
  rotate_left
  · exact h.elim
  rename_i g' caps
  obtain ⟨rfl, h⟩ := h
  obtain ⟨cs, hcs, hg⟩ := hv
  obtain ⟨env0, hle, h⟩ := keepE_spec h
  have hE0 : EnvR sz ρ env0 { tmps := a.tmps, defers := [] } := ⟨hE.size, fun t v ht => by
    obtain ⟨u, hu, hl⟩ := hle.get t v ht
    obtain ⟨x, e, hx⟩ := hE.env t u hu
    have := hl.is_ hx
    rw [renS_nil] at this
    exact ⟨x, e, this⟩⟩
  refine wpIn_rangeFunc ?_
  intro fn hfn
  have hro : Fence.wide.round = none := rfl
  rw [hro]
  obtain ⟨W1, hW1⟩ : ∃ W1, (w.alloc (.deferred (some []))).alloc (.loop { state := .ready, pending := none, fn := fn, tmps := a.tmps, params := ps, assign := assign, body := body, defers := w.heap.size }) = W1 := ⟨_, rfl⟩
  have hsz1 : W1.heap.size = w.heap.size + 2 := by rw [← hW1]; simp
  have hL1 : W1.heap[w.heap.size + 1]? = some (.loop { state := .ready, pending := none, fn := fn, tmps := a.tmps, params := ps, assign := assign, body := body, defers := w.heap.size }) := by
    rw [← hW1]
    have := World.alloc_heap_new (w.alloc (.deferred (some []))) (.loop { state := .ready, pending := none, fn := fn, tmps := a.tmps, params := ps, assign := assign, body := body, defers := w.heap.size })
    rwa [World.size_alloc] at this
  have hK1 : W1.heap[w.heap.size]? = some (.deferred (some [])) := by
    rw [← hW1]; exact (Below.heap_alloc _ _ _ (by simp)).trans (World.alloc_heap_new w _)
  have hb1 : Below w.heap.size w W1 := by
    rw [← hW1]; exact (((Below.refl _ w).alloc (Nat.le_refl _) _).alloc (by simp) _)
  have hx1 : Ext ρ (upd ρ nx (.func (.yield (w.heap.size + 1)) #[] #[])) := ext_upd (hC.new nx (Nat.le_refl _))
  have hone : Svs (upd ρ nx (.func (.yield (w.heap.size + 1)) #[] #[])) [.one (.ref nx)] [.func (.yield (w.heap.size + 1)) #[] #[]] := ⟨_, [], rfl, ⟨upd_same _ _ _, rfl⟩, rfl⟩
  have hcs1 : CapsAre (upd ρ nx (.func (.yield (w.heap.size + 1)) #[] #[])) caps cs := hcs.ext hx1
  obtain ⟨args, h, hsv⟩ := capE_spec hone hcs1 h
  cases hlen : Nat.ble args.length gsz <;> rw [hlen] at h
  · exact h.elim
  have hC1 := hC.more (v := .func (.yield (w.heap.size + 1)) #[] #[]) (o := .lp ⟨sz, ps.toList, assign, body⟩ env0 .ready) hb1 ⟨w.heap.size + 1, fn, a.tmps, w.heap.size, upd_same _ _ _, by have := hC.le; omega, by simpa [Lst.state, Lst.pend] using hL1, hE0.ext hx1⟩
    (fun b hf => by simp only [foot, upd_same] at hf; injection hf with hf; omega)
  have h1 := h _ rfl
  obtain ⟨ρ2, obs2, n2, hx2, hC2, h2⟩ := mvsK_spec hC1 h1
  have hcall := fn_sound_pin (xs := #[.func (.yield (w.heap.size + 1)) #[] #[]] ++ cs.toArray) hT hm hf hb hs hlen h2 hC2 (by simpa using hsv.ext hx2)
  refine ⟨w.heap.size + 1, [{ target := .collected w.heap.size, args := #[] }], W1, { target := .fn (.func g') cs.toArray, args := #[.func (.yield (w.heap.size + 1)) #[] #[]] }, W1, g', #[.func (.yield (w.heap.size + 1)) #[] #[]] ++ cs.toArray, W1, ?_, ?_, fun _ _ => trivial, ?_, fun q => (by cases q), ?_⟩
  · rw [← hW1]; exact run_enterLoop_outer _ _ _ _ _
  · simp only [resolve, hg]
    simp [go_sem]
  · simp [invoke, go_sem, run_enter hB]
  refine callsIn_wide.2 (hcall.mono ?_)
  rintro e w' ⟨ρ', v, obs', nx', x, hR, rfl, _, hC', hb', hx3, ho'⟩
  have hx' : Ext (upd ρ nx (.func (.yield (w.heap.size + 1)) #[] #[])) ρ' := fun i y hi => by
    by_cases q : i < nx + 1
    · exact hx3 i y q (hx2 _ _ hi)
    · rw [upd_ne _ (by omega), hC.new i (by omega)] at hi; cases hi
  obtain ⟨L2, e2, st, hol, hR⟩ := lpK_spec hR
  have hl2 : ρ' nx = some (.func (.yield (w.heap.size + 1)) #[] #[]) := hx' _ _ (upd_same _ _ _)
  obtain ⟨fn2, tmps2, D2, hBl, hh2, _⟩ := hC'.lpset hol hl2
  have hnb : st.state ≠ .busy := by
    intro q
    cases st with
    | ready => cases q
    | busy => exact hR
    | done c => cases q
  refine ⟨st.pend, _, run_endLoop hh2 hnb, ?_⟩
  have hf2 : foot ρ' nx (.lp L2 e2 st) = some (w.heap.size + 1) := by simp [foot, hl2]
  have hC4 := hC'.kill (w' := w'.putObj (w.heap.size + 1) (.loop { state := .exhausted, pending := st.pend, fn := fn2, tmps := tmps2, params := L2.ps.toArray, assign := L2.assign, body := L2.body, defers := D2 })) hol rfl hf2 World.putObj_size (fun k hk => World.putObj_heap_other hk)
  have hB1 : B ≤ w.heap.size := hC.le
  have hW4 : Wy B s ρ' ({ target := .collected w.heap.size, args := #[] } :: a.defers) (w'.putObj (w.heap.size + 1) (.loop { state := .exhausted, pending := st.pend, fn := fn2, tmps := tmps2, params := L2.ps.toArray, assign := L2.assign, body := L2.body, defers := D2 })) := by
    have o1 : Oth W1 (w'.putObj (w.heap.size + 1) (.loop { state := .exhausted, pending := st.pend, fn := fn2, tmps := tmps2, params := L2.ps.toArray, assign := L2.assign, body := L2.body, defers := D2 })) := ho'.trans (put_oth hh2 _)
    have o2 := (oth_of hb1).trans o1
    refine ⟨((hW.b.trans (hb1.mono hB1)).trans hb').trans (put_below (by omega) _), hW.o.trans o2, fun i y hi hy => hx' _ _ (hx1 _ _ (hW.e i y hi hy)), ?_⟩
    obtain ⟨Ds, hd, hn, hD⟩ := hW.m
    refine ⟨w.heap.size :: Ds, by rw [hd]; rfl, List.nodup_cons.2 ⟨fun q => ?_, hn⟩, fun D q => ?_⟩
    · have := (Array.getElem?_eq_some_iff.1 (hD _ q).2.2).1; omega
    · rcases List.mem_cons.1 q with rfl | q
      · exact ⟨hB1, hW.b.size, o1 _ _ hK1⟩
      · exact ⟨(hD _ q).1, (hD _ q).2.1, o2 _ _ (hD _ q).2.2⟩
  have hE4 : EnvR sz ρ' env { a with defers := [{ target := .collected w.heap.size, args := #[] }] ++ a.defers } := ⟨hE.size, ((hE.ext hx1).ext hx').env⟩
  split at hR
  · exact ⟨ρ', env, _, nx', hR, hE4, hC4, hW4⟩
  · exact wpIn_exit ⟨ρ', env, _, nx', hR, hE4, hC4, hW4⟩
  · exact wpIn_ret ⟨ρ', env, _, nx', hR, hE4, hC4, hW4⟩
  · exact hR.elim

end Go.Proofs.Ytcdlhfbpmpjfkaa.V

/- Plain facts on what comes back of a loan. -/
namespace Go.Proofs.Ytcdlhfbpmpjfkaa
set_option linter.unusedVariables false
set_option linter.unusedSimpArgs false
namespace O
/-- what is wanted back yet, behind all places from j on -/
def bt (a : List Int) (m : Int) (j : Nat) : Int := if m - Sh.sm (a.drop j) < 0 then 0 else m - Sh.sm (a.drop j)
def bk (a : List Int) (m : Int) (i : Nat) : Int := a.getD i default - (if a.getD i default < bt a m (i + 1) then a.getD i default else bt a m (i + 1))
def bkL (a : List Int) (m : Int) : List Int := (List.range a.length).map (bk a m)
def bkS (a : List Int) (m : Int) (j : Nat) : List Int := a.take j ++ (bkL a m).drop j
theorem bkL_len (a : List Int) (m : Int) : (bkL a m).length = a.length := by simp [bkL]
theorem bkL_at {a : List Int} {m : Int} {i : Nat} (h : i < a.length) : (bkL a m).getD i default = bk a m i := by rw [getD_at (by rw [bkL_len]; exact h)]; simp [bkL]
theorem bkS_len {a : List Int} {m : Int} {j : Nat} (h : j ≤ a.length) : (bkS a m j).length = a.length := by simp [bkS, bkL_len]; omega
theorem bkS_n (a : List Int) (m : Int) : bkS a m a.length = a := by
  unfold bkS
  rw [List.take_length, List.drop_of_length_le (by rw [bkL_len]; exact Nat.le_refl _), List.append_nil]
theorem bkS_0 (a : List Int) (m : Int) : bkS a m 0 = bkL a m := by simp [bkS]
theorem bkS_set {a : List Int} {m : Int} {j : Nat} (h : j < a.length) : (bkS a m (j + 1)).set j (bk a m j) = bkS a m j := by
  refine List.ext_getElem (by rw [List.length_set, bkS_len (by omega), bkS_len (by omega)]) fun i h1 h2 => ?_
  rw [bkS_len (by omega)] at h2
  rw [List.getElem_set]
  simp only [bkS, List.getElem_append, List.length_take, List.getElem_take, List.getElem_drop]
  by_cases e : j = i
  · subst e
    rw [if_pos rfl, dif_neg (by omega), ← getD_at, bkL_at (by omega)]
    congr 1; omega
  · rw [if_neg e]
    by_cases q : i < j
    · rw [dif_pos (by omega), dif_pos (by omega)]
    · rw [dif_neg (by omega), dif_neg (by omega)]
      congr 1; omega
theorem drop_sum {a : List Int} {j : Nat} (h : j < a.length) : Sh.sm (a.drop j) = a.getD j default + Sh.sm (a.drop (j + 1)) := by
  rw [List.drop_eq_getElem_cons h, getD_at h]; rfl
theorem bt_n {a : List Int} {m : Int} (h : 0 ≤ m) : bt a m a.length = m := by
  unfold bt
  rw [List.drop_length]; simp [Sh.sm]; omega
theorem bt_nn (a : List Int) (m : Int) (j : Nat) : 0 ≤ bt a m j := by unfold bt; split <;> omega
theorem bt_step {a : List Int} {m : Int} {j : Nat} (h : j < a.length) (h0 : 0 ≤ a.getD j default) : bt a m j = bt a m (j + 1) - (if a.getD j default < bt a m (j + 1) then a.getD j default else bt a m (j + 1)) := by
  unfold bt
  rw [drop_sum h]
  generalize a.getD j default = x at *
  generalize Sh.sm (a.drop (j + 1)) = s at *
  (repeat' split) <;> omega
theorem bkS_at {a : List Int} {m : Int} {j : Nat} (h : j < a.length) : (bkS a m (j + 1)).getD j default = a.getD j default ∧ (bkS a m j).getD j default = bk a m j := by
  constructor
  · rw [getD_at (by rw [bkS_len (by omega)]; exact h), getD_at h]
    simp only [bkS, List.getElem_append, List.length_take, List.getElem_take]
    rw [dif_pos (by omega)]
  · rw [getD_at (by rw [bkS_len (by omega)]; exact h), ← bkL_at h, getD_at (by rw [bkL_len]; exact h)]
    simp only [bkS, List.getElem_append, List.length_take, List.getElem_drop]
    rw [dif_neg (by omega)]
    congr 1; omega
theorem bk_cases {a : List Int} {m : Int} {j : Nat} (h : j < a.length) (h0 : 0 ≤ a.getD j default) : ((a.getD j default = 0 ∨ bt a m (j + 1) = 0) ∧ bk a m j = a.getD j default ∧ bt a m j = bt a m (j + 1)) ∨ (0 < a.getD j default ∧ 0 < bt a m (j + 1) ∧ a.getD j default ≤ bt a m (j + 1) ∧ bk a m j = 0 ∧ bt a m j = bt a m (j + 1) - a.getD j default) ∨ (0 < a.getD j default ∧ 0 < bt a m (j + 1) ∧ bt a m (j + 1) < a.getD j default ∧ bk a m j = a.getD j default - bt a m (j + 1) ∧ bt a m j = 0) := by
  have s := bt_step (m := m) h h0
  have n := bt_nn a m (j + 1)
  unfold bk
  by_cases q : a.getD j default < bt a m (j + 1)
  · rw [if_pos q] at s ⊢
    omega
  · rw [if_neg q] at s ⊢
    omega
theorem bkS_same {a : List Int} {m : Int} {j : Nat} (h : j < a.length) (e : bk a m j = a.getD j default) : bkS a m j = bkS a m (j + 1) := by
  rw [← bkS_set h, e, ← (bkS_at (m := m) h).1]
  rw [getD_at (by rw [bkS_len (by omega)]; exact h)]
  exact List.set_getElem_self _
theorem drop_nn {a : List Int} (h : ∀ x ∈ a, 0 ≤ x) (j : Nat) : 0 ≤ Sh.sm (a.drop j) := Sh.sm_nonneg fun x hx => h x (List.drop_subset _ _ hx)
theorem bt_le {a : List Int} {m : Int} {j : Nat} (h : ∀ x ∈ a, 0 ≤ x) (hm : 0 ≤ m) : bt a m j ≤ m := by
  have := drop_nn h j
  unfold bt; split <;> omega
def bad (l : List Of) (a : List Int) (i : Nat) : Bool := decide (a.getD i default < 0 ∨ U l i < a.getD i default)
def bads (l : List Of) (a : List Int) : Bool := (List.range l.length).any (bad l a)
def bE (l : List Of) (a : List Int) (m : Int) : Int := if chk l ≠ 0 then chk l else if a.length ≠ l.length then 1 else if bads l a = true then 3 else if m < 0 ∨ 1073741824 < m then 3 else if Sh.sm a < m then 8 else 0
def bB (l : List Of) (a : List Int) (m : Int) : List Int := if bE l a m = 0 then bkL a m else []
theorem bads_yes {l : List Of} {a : List Int} {i : Nat} (hi : i < l.length) (h : bad l a i = true) : bads l a = true := List.any_eq_true.2 ⟨i, List.mem_range.2 hi, h⟩
theorem bads_no {l : List Of} {a : List Int} (h : ∀ i, i < l.length → bad l a i = false) : bads l a = false := by
  cases q : bads l a
  · rfl
  · obtain ⟨i, hi, e⟩ := List.any_eq_true.1 q
    rw [h i (List.mem_range.1 hi)] at e; cases e
theorem no_bads {l : List Of} {a : List Int} (h : bads l a = false) (i : Nat) (hi : i < l.length) : bad l a i = false := by
  cases q : bad l a i
  · rfl
  · rw [bads_yes hi q] at h; cases h
/-- what may be lent -/
structure Lent (l : List Of) (a : List Int) : Prop where
  n : a.length = l.length
  b : ∀ i, i < l.length → 0 ≤ a.getD i default ∧ a.getD i default ≤ U l i
theorem Lent.nn {l : List Of} {a : List Int} (h : Lent l a) : ∀ x ∈ a, 0 ≤ x := fun x hx => by
  obtain ⟨i, hi, rfl⟩ := List.getElem_of_mem hx
  rw [← getD_at hi]
  exact (h.b i (by rw [← h.n]; exact hi)).1
theorem Lent.sum {l : List Of} {a : List Int} (h : Lent l a) (ok : Oks l) (k : Nat) : 0 ≤ Sh.sm (a.take k) ∧ Sh.sm (a.take k) ≤ 42949672960 := by
  have p := Sh.sm_take_le h.nn k
  have q := Sh.sm_bd (l := a) (B := 1073741824) fun x hx => by
    obtain ⟨i, hi, rfl⟩ := List.getElem_of_mem hx
    rw [← getD_at hi]
    have := h.b i (by rw [← h.n]; exact hi)
    have := U_bd ok (k := i) (by rw [← h.n]; exact hi)
    omega
  have := ok.le
  rw [h.n] at q
  have c : 1073741824 * (l.length : Int) ≤ 1073741824 * 40 := Int.mul_le_mul_of_nonneg_left (by omega) (by omega)
  omega
theorem lent_of {l : List Of} {a : List Int} (h1 : a.length = l.length) (h : bads l a = false) : Lent l a := ⟨h1, fun i hi => by
  have := no_bads h i hi
  unfold bad at this
  simp at this
  simp only [← List.getD_eq_getElem?_getD] at this
  exact ⟨this.1, this.2⟩⟩
theorem bE_cases (l : List Of) (a : List Int) (m : Int) : (¬ chk l = 0 ∧ bE l a m = chk l) ∨ (chk l = 0 ∧ a.length ≠ l.length ∧ bE l a m = 1) ∨ (chk l = 0 ∧ a.length = l.length ∧ bads l a = true ∧ bE l a m = 3) ∨
    (chk l = 0 ∧ Lent l a ∧ bads l a = false ∧ (m < 0 ∨ 1073741824 < m) ∧ bE l a m = 3) ∨ (chk l = 0 ∧ Lent l a ∧ bads l a = false ∧ (0 ≤ m ∧ m ≤ 1073741824) ∧ Sh.sm a < m ∧ bE l a m = 8) ∨ (chk l = 0 ∧ Lent l a ∧ bads l a = false ∧ (0 ≤ m ∧ m ≤ 1073741824) ∧ m ≤ Sh.sm a ∧ bE l a m = 0) := by
  unfold bE
  by_cases h1 : chk l = 0
  · rw [if_neg (fun z => z h1)]
    by_cases h2 : a.length = l.length
    · rw [if_neg (fun z => z h2)]
      cases h3 : bads l a
      · rw [if_neg (by decide)]
        have le := lent_of h2 h3
        by_cases h4 : m < 0 ∨ 1073741824 < m
        · rw [if_pos h4]; exact .inr (.inr (.inr (.inl ⟨h1, le, rfl, h4, rfl⟩)))
        · rw [if_neg h4]
          by_cases h5 : Sh.sm a < m
          · rw [if_pos h5]; exact .inr (.inr (.inr (.inr (.inl ⟨h1, le, rfl, by omega, h5, rfl⟩))))
          · rw [if_neg h5]; exact .inr (.inr (.inr (.inr (.inr ⟨h1, le, rfl, by omega, by omega, rfl⟩))))
      · rw [if_pos rfl]; exact .inr (.inr (.inl ⟨h1, h2, rfl, rfl⟩))
    · rw [if_pos h2]; exact .inr (.inl ⟨h1, h2, rfl⟩)
  · rw [if_pos h1]; exact .inl ⟨h1, rfl⟩
/-! what stands ahead, offer by offer -/
def aht (l : List Of) (k i : Nat) : Int := Sh.sm (((List.range k).filter fun q => bf l q i).map (U l))
theorem aht_0 (l : List Of) (i : Nat) : aht l 0 i = 0 := by simp [aht, Sh.sm]
theorem aht_succ (l : List Of) (k i : Nat) : aht l (k + 1) i = aht l k i + (if bf l k i = true then U l k else 0) := by
  unfold aht
  rw [List.range_succ, List.filter_append, List.map_append, Sh.sm_app]
  congr 1
  by_cases h : bf l k i = true
  · rw [if_pos h]; simp [h, Sh.sm]
  · rw [if_neg h]; simp [h, Sh.sm]
theorem aht_end (l : List Of) (i : Nat) : aht l l.length i = Gr.ahd (U l) (bf l) l.length i := rfl
theorem aht_bd {l : List Of} (ok : Oks l) (i : Nat) : ∀ k, k ≤ l.length → 0 ≤ aht l k i ∧ aht l k i ≤ 1073741824 * k
  | 0, _ => by rw [aht_0]; omega
  | k + 1, h => by
    have ih := aht_bd ok i k (by omega)
    have u := U_bd ok (k := k) (by omega)
    rw [aht_succ]
    split <;> omega
theorem tk_of (l : List Of) (m : Int) (i : Nat) : Gr.tk (U l) (bf l) l.length m i = if m - aht l l.length i < 0 then 0 else if U l i < m - aht l l.length i then U l i else m - aht l l.length i := rfl
theorem bst_len (l : List Of) (m : Int) : (bst l m).length = l.length := Gr.all_len
theorem bst_at {l : List Of} {m : Int} {i : Nat} (h : i < l.length) : (bst l m).getD i default = Gr.tk (U l) (bf l) l.length m i := Gr.all_at h
theorem bst_snoc {l : List Of} {m : Int} {i : Nat} (h : i < l.length) : (bst l m).take (i + 1) = (bst l m).take i ++ [Gr.tk (U l) (bf l) l.length m i] := by
  rw [List.take_succ_eq_append_getElem (by rw [bst_len]; exact h), ← getD_at (by rw [bst_len]; exact h), bst_at h]
def csL (l : List Of) (m : Int) : List Int := (List.range l.length).map (cs l m)
theorem csL_len (l : List Of) (m : Int) : (csL l m).length = l.length := by simp [csL]
theorem csL_at {l : List Of} {m : Int} {i : Nat} (h : i < l.length) : (csL l m).getD i default = cs l m i := by rw [getD_at (by rw [csL_len]; exact h)]; simp [csL]
theorem csL_sum {l : List Of} (ok : Oks l) (m : Int) (k : Nat) : 0 ≤ Sh.sm ((csL l m).take k) ∧ Sh.sm ((csL l m).take k) ≤ 4722366482869645200 := by
  have b : ∀ x ∈ csL l m, 0 ≤ x ∧ x ≤ 118059162071741130 := fun x hx => by
    obtain ⟨q, hq, rfl⟩ := List.mem_map.1 hx
    exact cs_bd ok (List.mem_range.1 hq)
  have p := Sh.sm_take_le (fun x hx => (b x hx).1) k
  have q := Sh.sm_bd b
  rw [csL_len] at q
  have := ok.le
  have c : 118059162071741130 * (l.length : Int) ≤ 118059162071741130 * 40 := Int.mul_le_mul_of_nonneg_left (by omega) (by omega)
  omega
end O
end Go.Proofs.Ytcdlhfbpmpjfkaa

/- What the functions on offers answer: what comes back. -/
namespace Go.Proofs.Ytcdlhfbpmpjfkaa
open Go Go.RowKit V
set_option maxRecDepth 100000
set_option linter.unusedVariables false
set_option linter.unusedSimpArgs false
set_option maxHeartbeats 4000000
theorem O.pre_sum {l : List Of} {a : List Int} (ok : O.Oks l) (e : a.length = l.length) : ∀ k, k ≤ l.length → (∀ j, j < k → O.bad l a j = false) → 0 ≤ Sh.sm (a.take k) ∧ Sh.sm (a.take k) ≤ 1073741824 * k
  | 0, _, _ => by simp [Sh.sm]
  | k + 1, h, q => by
    have ih := O.pre_sum ok e k (by omega) fun j hj => q j (by omega)
    have b := q k (by omega)
    have u := O.U_bd ok (k := k) (by omega)
    rw [Sh.sm_take (by omega)]
    unfold O.bad at b
    simp only [decide_eq_false_iff_not] at b
    omega
theorem v_lnBack (l : List Of) (a : List Int) (m : Int) (hn : l.length ≤ 9223372036854775807) : V.FnR Try.prog 41 [.arr 3 l.length (ga encO l), .arr 1 a.length (ga e1 a)] [.one (.ref 0), .one (.ref 1), .one (.val (.int .i64 m))] (.tup [.one (.ref 2), .one (.val (.int .i64 (O.bE l a m)))]) [.row 3 1 (O.bB l a m).length (ga e1 (O.bB l a m))] := by
  have ck := v_lnCheck l hn
  have no : ∀ e, O.bE l a m = e → e ≠ 0 → O.bB l a m = [] := fun e h1 h2 => if_neg (by rw [h1]; exact h2)
  rcases O.bE_cases l a m with ⟨h1, e⟩ | ⟨h1, h2, e⟩ | h
  · rw [no _ e h1, e]
    generalize O.chk l = C at *
    refine V.FnR.mk_ V.Tok V.mixed Try.func41 rfl Try.ntmps41 (by kernel_rfl) rfl rfl rfl rfl ?_
    repeat' ((conv => whnf); first | (refine V.NIf.yes ?_ ?_; · (decide; done)) | (refine V.NIf.no ?_ ?_; · (decide; done)) | refine V.NCond.mk ?_ | refine V.NIf.not_ ?_ | refine V.NIf.dec_ ?_ | refine V.NIf.no (by omega) ?_ | refine V.NIf.yes (by omega) ?_ | refine V.NIf.mk (fun _ => ?_) (fun _ => ?_) | refine V.NWrap.ok (by omega) (by omega) ?_ | refine V.NWrap.u64 (by omega) (by omega) ?_ | refine V.NLt.mk (by omega) ?_ | refine V.NBoth.mk ?_ ?_ | refine V.NTF.yes (by omega) ?_ | refine V.NTF.no (by omega) ?_ | refine V.NTF.dec ?_ | refine V.NDraw.q (by exact rfl) (by kernel_rfl) ?_ | refine V.NApp.one (by first | omega | (simp; omega)) (by first | omega | (simp; omega)) ?_ | ((first | refine V.Fn.k (ck) [0] rfl ?_ ?_ | refine V.Fn.q (ck) [0] rfl ?_ ?_ | refine V.Fn.a (ck) [0] rfl ?_ ?_); · ((repeat' (first | exact rfl | exact Iff.rfl | exact trivial | exact (fun _ _ => rfl) | exact (fun _ h => absurd h (Nat.not_lt_zero _)) | refine ⟨?_, ?_⟩ | exact Iff.rfl | exact congrArg (fun z => V.SV.one (V.At.val (Value.int .i64 z))) (by omega))); done)) | (refine V.NDraw.any (by kernel_rfl) ?_) | fail)
    all_goals (conv => whnf)
    all_goals exact NRet.mk_ [some 3] rfl ⟨rfl, rfl, trivial⟩ ⟨⟨rfl, rfl, rfl, fun k hk => absurd hk (Nat.not_lt_zero _)⟩, trivial⟩
  · rw [no _ e (by decide), e]
    rw [h1] at ck
    refine V.FnR.mk_ V.Tok V.mixed Try.func41 rfl Try.ntmps41 (by kernel_rfl) rfl rfl rfl rfl ?_
    repeat' ((conv => whnf); first | (refine V.NIf.yes ?_ ?_; · (decide; done)) | (refine V.NIf.no ?_ ?_; · (decide; done)) | refine V.NCond.mk ?_ | refine V.NIf.not_ ?_ | refine V.NIf.dec_ ?_ | refine V.NIf.no (by omega) ?_ | refine V.NIf.yes (by omega) ?_ | refine V.NIf.mk (fun _ => ?_) (fun _ => ?_) | refine V.NWrap.ok (by omega) (by omega) ?_ | refine V.NWrap.u64 (by omega) (by omega) ?_ | refine V.NLt.mk (by omega) ?_ | refine V.NBoth.mk ?_ ?_ | refine V.NTF.yes (by omega) ?_ | refine V.NTF.no (by omega) ?_ | refine V.NTF.dec ?_ | refine V.NDraw.q (by exact rfl) (by kernel_rfl) ?_ | refine V.NApp.one (by first | omega | (simp; omega)) (by first | omega | (simp; omega)) ?_ | ((first | refine V.Fn.k (ck) [0] rfl ?_ ?_ | refine V.Fn.q (ck) [0] rfl ?_ ?_ | refine V.Fn.a (ck) [0] rfl ?_ ?_); · ((repeat' (first | exact rfl | exact Iff.rfl | exact trivial | exact (fun _ _ => rfl) | exact (fun _ h => absurd h (Nat.not_lt_zero _)) | refine ⟨?_, ?_⟩ | exact Iff.rfl | exact congrArg (fun z => V.SV.one (V.At.val (Value.int .i64 z))) (by omega))); done)) | (refine V.NDraw.any (by kernel_rfl) ?_) | fail)
    all_goals (conv => whnf)
    all_goals exact NRet.mk_ [some 3] rfl ⟨rfl, rfl, trivial⟩ ⟨⟨rfl, rfl, rfl, fun k hk => absurd hk (Nat.not_lt_zero _)⟩, trivial⟩
  have h1 : O.chk l = 0 := by rcases h with h | h | h | h <;> exact h.1
  have ln : a.length = l.length := by rcases h with h | h | h | h <;> first | exact h.2.1 | exact h.2.1.n
  have ok := O.chk_ok h1
  have le := ok.le
  have ps := O.pre_sum ok ln
  have bd : ∀ i, O.bad l a i = decide (a.getD i default < 0 ∨ (l.getD i default).un < a.getD i default) := fun i => rfl
  rw [h1] at ck
  have hb : (O.bads l a = true ∧ O.bE l a m = 3) ∨ (O.bads l a = false ∧ O.Lent l a ∧ (m < 0 ∨ 1073741824 < m) ∧ O.bE l a m = 3) ∨ (O.bads l a = false ∧ O.Lent l a ∧ (0 ≤ m ∧ m ≤ 1073741824) ∧ Sh.sm a < m ∧ O.bE l a m = 8) ∨ (O.bads l a = false ∧ O.Lent l a ∧ (0 ≤ m ∧ m ≤ 1073741824) ∧ m ≤ Sh.sm a ∧ O.bE l a m = 0) := by
    rcases h with ⟨_, _, x, y⟩ | ⟨_, x, y, z, w⟩ | ⟨_, x, y, z, w, v⟩ | ⟨_, x, y, z, w, v⟩
    · exact .inl ⟨x, y⟩
    · exact .inr (.inl ⟨y, x, z, w⟩)
    · exact .inr (.inr (.inl ⟨y, x, z, w, v⟩))
    · exact .inr (.inr (.inr ⟨y, x, z, w, v⟩))
  clear h
  have yes := fun i hi => @O.bads_yes l a i hi
  have none := fun h => @O.bads_no l a h
  refine V.FnR.mk_ V.Tok V.mixed Try.func41 rfl Try.ntmps41 (by kernel_rfl) rfl rfl rfl rfl ?_
  repeat' ((conv => whnf); first | (refine V.NIf.yes ?_ ?_; · (decide; done)) | (refine V.NIf.no ?_ ?_; · (decide; done)) | refine V.NCond.mk ?_ | refine V.NIf.not_ ?_ | refine V.NIf.dec_ ?_ | refine V.NIf.no (by omega) ?_ | refine V.NIf.yes (by omega) ?_ | refine V.NIf.mk (fun _ => ?_) (fun _ => ?_) | refine V.NWrap.ok (by omega) (by omega) ?_ | refine V.NWrap.u64 (by omega) (by omega) ?_ | refine V.NLt.mk (by omega) ?_ | refine V.NBoth.mk ?_ ?_ | refine V.NTF.yes (by omega) ?_ | refine V.NTF.no (by omega) ?_ | refine V.NTF.dec ?_ | refine V.NDraw.q (by exact rfl) (by kernel_rfl) ?_ | refine V.NApp.one (by first | omega | (simp; omega)) (by first | omega | (simp; omega)) ?_ | ((first | refine V.Fn.k (ck) [0] rfl ?_ ?_ | refine V.Fn.q (ck) [0] rfl ?_ ?_ | refine V.Fn.a (ck) [0] rfl ?_ ?_); · ((repeat' (first | exact rfl | exact Iff.rfl | exact trivial | exact (fun _ _ => rfl) | exact (fun _ h => absurd h (Nat.not_lt_zero _)) | refine ⟨?_, ?_⟩ | exact Iff.rfl | exact congrArg (fun z => V.SV.one (V.At.val (Value.int .i64 z))) (by omega))); done)) | (refine V.NDraw.any (by kernel_rfl) ?_) | fail)
  all_goals (conv => whnf)
  refine V.NLoop.auto (fun (k : Nat) => [(28, .one (.val (.int .i64 k))), (9, .one (.val (.int .i64 (Sh.sm (a.take k)))))]) (fun (k : Nat) => []) [] [] (fun (k : Nat) => l.length - k) (fun (k : Nat) => k ≤ l.length ∧ ∀ j, j < k → O.bad l a j = false) 0 ⟨Nat.zero_le _, fun j h => absurd h (Nat.not_lt_zero _)⟩ (by repeat' (first | exact rfl | exact Iff.rfl | exact trivial | exact (fun _ _ => rfl) | exact (fun _ h => absurd h (Nat.not_lt_zero _)) | refine ⟨?_, ?_⟩ | exact Iff.rfl | exact congrArg (fun z => V.SV.one (V.At.val (Value.int .i64 z))) (by omega))) (by repeat' (first | exact rfl | exact Iff.rfl | exact trivial | exact (fun _ _ => rfl) | exact (fun _ h => absurd h (Nat.not_lt_zero _)) | refine ⟨?_, ?_⟩ | exact Iff.rfl | exact congrArg (fun z => V.SV.one (V.At.val (Value.int .i64 z))) (by omega))) (fun _ => ⟨rfl, rfl⟩) ?_; (conv => whnf); refine ⟨⟨rfl, rfl⟩, ?_⟩
  rintro k ⟨hk, hJ⟩
  have sb := ps k hk hJ
  by_cases hlt : k < l.length
  · have bk := bd k
    have st := Sh.sm_take (l := a) (k := k) (by omega)
    have on : O.bad l a k = false → ∀ j, j < k + 1 → O.bad l a j = false := fun q j hj => by
      by_cases z : j = k
      · subst z; exact q
      · exact hJ j (by omega)
    have u := ok.all _ (getD_mem hlt)
    have u2 := u.2.1
    by_cases q : a.getD k default < 0 ∨ (l.getD k default).un < a.getD k default
    · have r := yes k hlt (bk.trans (decide_eq_true q))
      have e : O.bE l a m = 3 := by
        rcases hb with h | h | h | h
        · exact h.2
        all_goals (rw [h.1] at r; cases r)
      rw [no _ e (by decide), e]
      clear hb none yes on hJ ps sb st no bd
      repeat' ((conv => whnf); first | refine V.NCond.mk ?_ | refine V.NIf.not_ ?_ | refine V.NIf.dec_ ?_ | refine V.NIf.no (by omega) ?_ | refine V.NIf.yes (by omega) ?_ | refine V.NIf.mk (fun _ => ?_) (fun _ => ?_) | refine V.NWrap.ok (by omega) (by omega) ?_ | refine V.NWrap.u64 (by omega) (by omega) ?_ | refine V.NLt.mk (by omega) ?_ | refine V.NBoth.mk ?_ ?_ | refine V.NTF.yes (by omega) ?_ | refine V.NTF.no (by omega) ?_ | refine V.NTF.dec ?_ | refine V.NDraw.q (by exact rfl) (by kernel_rfl) ?_ | refine V.NApp.one (by first | omega | (simp; omega)) (by first | omega | (simp; omega)) ?_ | (refine NIdx.mk ⟨k, rfl, by omega, ?_⟩) | (refine V.NDraw.any (by kernel_rfl) ?_) | fail)
      all_goals (conv => whnf)
      all_goals first
        | (exfalso; omega)
        | exact NRet.mk_ [some 3] rfl ⟨rfl, rfl, trivial⟩ ⟨⟨rfl, rfl, rfl, fun k hk => absurd hk (Nat.not_lt_zero _)⟩, trivial⟩
    · have on := on (bk.trans (decide_eq_false q))
      clear hb none yes hJ ps no bd
      repeat' ((conv => whnf); first | refine V.NCond.mk ?_ | refine V.NIf.not_ ?_ | refine V.NIf.dec_ ?_ | refine V.NIf.no (by omega) ?_ | refine V.NIf.yes (by omega) ?_ | refine V.NIf.mk (fun _ => ?_) (fun _ => ?_) | refine V.NWrap.ok (by omega) (by omega) ?_ | refine V.NWrap.u64 (by omega) (by omega) ?_ | refine V.NLt.mk (by omega) ?_ | refine V.NBoth.mk ?_ ?_ | refine V.NTF.yes (by omega) ?_ | refine V.NTF.no (by omega) ?_ | refine V.NTF.dec ?_ | refine V.NDraw.q (by exact rfl) (by kernel_rfl) ?_ | refine V.NApp.one (by first | omega | (simp; omega)) (by first | omega | (simp; omega)) ?_ | (refine NIdx.mk ⟨k, rfl, by omega, ?_⟩) | (refine V.NDraw.any (by kernel_rfl) ?_) | fail)
      all_goals (conv => whnf)
      all_goals first
        | (exfalso; omega)
        | exact V.NBack.at_ (k + 1) [] ⟨by omega, on⟩ (by omega) (by repeat' (first | exact rfl | exact Iff.rfl | exact trivial | exact (fun _ _ => rfl) | exact (fun _ h => absurd h (Nat.not_lt_zero _)) | refine ⟨?_, ?_⟩ | exact Iff.rfl | exact congrArg (fun z => V.SV.one (V.At.val (Value.int .i64 z))) (by omega))) rfl (by repeat' (first | exact rfl | exact Iff.rfl | exact trivial | exact (fun _ _ => rfl) | exact (fun _ h => absurd h (Nat.not_lt_zero _)) | refine ⟨?_, ?_⟩ | exact Iff.rfl | exact congrArg (fun z => V.SV.one (V.At.val (Value.int .i64 z))) (by omega))) (by repeat' (first | exact rfl | exact Iff.rfl | exact trivial | exact (fun _ _ => rfl) | exact (fun _ h => absurd h (Nat.not_lt_zero _)) | refine ⟨?_, ?_⟩ | exact Iff.rfl | exact congrArg (fun z => V.SV.one (V.At.val (Value.int .i64 z))) (by omega))) (by repeat' (first | exact rfl | exact Iff.rfl | exact trivial | exact (fun _ _ => rfl) | exact (fun _ h => absurd h (Nat.not_lt_zero _)) | refine ⟨?_, ?_⟩ | exact Iff.rfl | exact congrArg (fun z => V.SV.one (V.At.val (Value.int .i64 z))) (by omega)))
  · obtain rfl : k = l.length := by omega
    have nb := none hJ
    have hb : O.Lent l a ∧ (((m < 0 ∨ 1073741824 < m) ∧ O.bE l a m = 3) ∨ ((0 ≤ m ∧ m ≤ 1073741824) ∧ Sh.sm a < m ∧ O.bE l a m = 8) ∨ ((0 ≤ m ∧ m ≤ 1073741824) ∧ m ≤ Sh.sm a ∧ O.bE l a m = 0)) := by
      rcases hb with h | h | h | h
      · rw [nb] at h; cases h.1
      · exact ⟨h.2.1, .inl h.2.2⟩
      · exact ⟨h.2.1, .inr (.inl h.2.2)⟩
      · exact ⟨h.2.1, .inr (.inr h.2.2)⟩
    obtain ⟨lt, hb⟩ := hb
    have et : a.take l.length = a := by rw [← ln, List.take_length]
    rw [et] at sb ⊢
    clear nb none yes hJ ps bd
    rcases hb with ⟨c, e⟩ | ⟨c, d, e⟩ | ⟨c, d, e⟩
    · rw [no _ e (by decide), e]
      clear no
      repeat' ((conv => whnf); first | refine V.NCond.mk ?_ | refine V.NIf.not_ ?_ | refine V.NIf.dec_ ?_ | refine V.NIf.no (by omega) ?_ | refine V.NIf.yes (by omega) ?_ | refine V.NIf.mk (fun _ => ?_) (fun _ => ?_) | refine V.NWrap.ok (by omega) (by omega) ?_ | refine V.NWrap.u64 (by omega) (by omega) ?_ | refine V.NLt.mk (by omega) ?_ | refine V.NBoth.mk ?_ ?_ | refine V.NTF.yes (by omega) ?_ | refine V.NTF.no (by omega) ?_ | refine V.NTF.dec ?_ | refine V.NDraw.q (by exact rfl) (by kernel_rfl) ?_ | refine V.NApp.one (by first | omega | (simp; omega)) (by first | omega | (simp; omega)) ?_ | (refine V.NDraw.any (by kernel_rfl) ?_) | fail)
      all_goals (conv => whnf)
      all_goals first
        | (exfalso; omega)
        | exact NRet.mk_ [some 3] rfl ⟨rfl, rfl, trivial⟩ ⟨⟨rfl, rfl, rfl, fun k hk => absurd hk (Nat.not_lt_zero _)⟩, trivial⟩
    · rw [no _ e (by decide), e]
      clear no
      repeat' ((conv => whnf); first | refine V.NCond.mk ?_ | refine V.NIf.not_ ?_ | refine V.NIf.dec_ ?_ | refine V.NIf.no (by omega) ?_ | refine V.NIf.yes (by omega) ?_ | refine V.NIf.mk (fun _ => ?_) (fun _ => ?_) | refine V.NWrap.ok (by omega) (by omega) ?_ | refine V.NWrap.u64 (by omega) (by omega) ?_ | refine V.NLt.mk (by omega) ?_ | refine V.NBoth.mk ?_ ?_ | refine V.NTF.yes (by omega) ?_ | refine V.NTF.no (by omega) ?_ | refine V.NTF.dec ?_ | refine V.NDraw.q (by exact rfl) (by kernel_rfl) ?_ | refine V.NApp.one (by first | omega | (simp; omega)) (by first | omega | (simp; omega)) ?_ | (refine V.NDraw.any (by kernel_rfl) ?_) | fail)
      all_goals (conv => whnf)
      all_goals first
        | (exfalso; omega)
        | exact NRet.mk_ [some 3] rfl ⟨rfl, rfl, trivial⟩ ⟨⟨rfl, rfl, rfl, fun k hk => absurd hk (Nat.not_lt_zero _)⟩, trivial⟩
    · rw [show O.bB l a m = O.bkL a m from if_pos e, e]
      clear no
      repeat' ((conv => whnf); first | refine V.NCond.mk ?_ | refine V.NIf.not_ ?_ | refine V.NIf.dec_ ?_ | refine V.NIf.no (by omega) ?_ | refine V.NIf.yes (by omega) ?_ | refine V.NIf.mk (fun _ => ?_) (fun _ => ?_) | refine V.NWrap.ok (by omega) (by omega) ?_ | refine V.NWrap.u64 (by omega) (by omega) ?_ | refine V.NLt.mk (by omega) ?_ | refine V.NBoth.mk ?_ ?_ | refine V.NTF.yes (by omega) ?_ | refine V.NTF.no (by omega) ?_ | refine V.NTF.dec ?_ | refine V.NDraw.q (by exact rfl) (by kernel_rfl) ?_ | refine V.NApp.one (by first | omega | (simp; omega)) (by first | omega | (simp; omega)) ?_ | ((first | refine V.FnR.k_ (v_cloneI a (by omega)) [1] rfl ?_ ?_ | refine V.FnR.a_ (v_cloneI a (by omega)) [1] rfl ?_ ?_); · ((repeat' (first | exact rfl | exact Iff.rfl | exact trivial | exact (fun _ _ => rfl) | exact (fun _ h => absurd h (Nat.not_lt_zero _)) | refine ⟨?_, ?_⟩ | exact Iff.rfl | exact congrArg (fun z => V.SV.one (V.At.val (Value.int .i64 z))) (by omega))); done)) | (refine V.NCall.inl (f := 39) V.Tok V.mixed Try.func39 rfl Try.ntmps39 (by kernel_rfl) rfl ?_) | (refine V.NCall.inl (f := 52) V.Tok V.mixed Try.func52 rfl Try.ntmps52 (by kernel_rfl) rfl ?_) | (refine V.NRange.inl V.Tok V.mixed Try.func61 rfl Try.ntmps61 (by kernel_rfl) [12, 13] [] ?_; (conv => whnf); refine V.NIs.mk rfl ?_; (conv => whnf); intro L hL) | (refine V.NDraw.any (by kernel_rfl) ?_) | fail)
      all_goals (conv => whnf)
      have bn := O.bt_n (a := a) c.1
      have sn := O.bkS_n a m
      refine V.NLoop.auto (fun (j : Nat) => [(3, .one (.val (.int .i64 ((j : Int) - 1))))]) (fun (j : Nat) => [(3, .row 3 1 a.length (ga e1 (O.bkS a m j))), (6, .box 3 [.val (.int .i64 (O.bt a m j))])]) [] [] (fun (j : Nat) => j) (fun (j : Nat) => j ≤ a.length) a.length (Nat.le_refl _) (by repeat' (first | exact rfl | exact Iff.rfl | exact trivial | exact (fun _ _ => rfl) | exact (fun _ h => absurd h (Nat.not_lt_zero _)) | refine ⟨?_, ?_⟩ | exact Iff.rfl | exact congrArg (fun z => V.SV.one (V.At.val (Value.int .i64 z))) (by omega))) (by (conv => whnf); exact ⟨⟨rfl, rfl, rfl, fun _ _ => (by rw [sn])⟩, congrArg (fun z => V.Ob.box 3 [V.At.val (Value.int .i64 z)]) bn.symm, trivial⟩) (fun _ => ⟨rfl, rfl⟩) ?_; (conv => whnf); refine ⟨⟨rfl, rfl⟩, ?_⟩
      rintro j hj
      have bl := O.bkS_len (a := a) (m := m) hj
      by_cases hz : 0 < j
      · obtain ⟨i, rfl⟩ : ∃ i, j = i + 1 := ⟨j - 1, by omega⟩
        have li := lt.b i (by omega)
        have ui := O.U_bd ok (k := i) (by omega)
        have st := O.bt_step (a := a) (m := m) (j := i) (by omega) li.1
        have bst := O.bkS_set (a := a) (m := m) (j := i) (by omega)
        have eb : O.bk a m i = a.getD i default - (if a.getD i default < O.bt a m (i + 1) then a.getD i default else O.bt a m (i + 1)) := rfl
        have t0 := O.bt_nn a m (i + 1)
        have t1 := O.bt_le (a := a) (m := m) (j := i + 1) lt.nn c.1
        generalize hF : O.bt a m (i + 1) = F at *
        generalize O.bkS a m (i + 1) = W at *
        repeat' ((conv => whnf); first | (refine NPut.is_ (en := e1) (l := W) (O.bk a m i) (O.bkS a m i) bst (by omega) (congrArg (fun z => [Value.int .i64 z]) eb.symm) ?_) | refine V.NCond.mk ?_ | refine V.NIf.not_ ?_ | refine V.NIf.dec_ ?_ | refine V.NIf.no (by omega) ?_ | refine V.NIf.yes (by omega) ?_ | refine V.NIf.mk (fun _ => ?_) (fun _ => ?_) | refine V.NWrap.ok (by omega) (by omega) ?_ | refine V.NWrap.u64 (by omega) (by omega) ?_ | refine V.NLt.mk (by omega) ?_ | refine V.NBoth.mk ?_ ?_ | refine V.NTF.yes (by omega) ?_ | refine V.NTF.no (by omega) ?_ | refine V.NTF.dec ?_ | refine V.NDraw.q (by exact rfl) (by kernel_rfl) ?_ | refine V.NApp.one (by first | omega | (simp; omega)) (by first | omega | (simp; omega)) ?_ | (refine NIdx.mk ⟨i, by omega, by omega, ?_⟩) | (refine V.NYield.mk_ V.Tok V.mixed hL rfl rfl ?_) | (refine V.NCall.inl (f := 49) V.Tok V.mixed Try.func49 rfl Try.ntmps49 (by kernel_rfl) rfl ?_) | (refine V.NDraw.each (by kernel_rfl) ?_) | (refine V.NDraw.any (by kernel_rfl) ?_) | fail)
        all_goals (conv => whnf)
        all_goals exact V.NBack.at_ i [] (by omega) (by omega) (by repeat' (first | exact rfl | exact Iff.rfl | exact trivial | exact (fun _ _ => rfl) | exact (fun _ h => absurd h (Nat.not_lt_zero _)) | refine ⟨?_, ?_⟩ | exact Iff.rfl | exact congrArg (fun z => V.SV.one (V.At.val (Value.int .i64 z))) (by omega))) rfl ⟨⟨rfl, rfl, rfl, fun _ _ => rfl⟩, congrArg (fun z => V.Ob.box 3 [V.At.val (Value.int .i64 z)]) st.symm, trivial⟩ (by repeat' (first | exact rfl | exact Iff.rfl | exact trivial | exact (fun _ _ => rfl) | exact (fun _ h => absurd h (Nat.not_lt_zero _)) | refine ⟨?_, ?_⟩ | exact Iff.rfl | exact congrArg (fun z => V.SV.one (V.At.val (Value.int .i64 z))) (by omega))) (by repeat' (first | exact rfl | exact Iff.rfl | exact trivial | exact (fun _ _ => rfl) | exact (fun _ h => absurd h (Nat.not_lt_zero _)) | refine ⟨?_, ?_⟩ | exact Iff.rfl | exact congrArg (fun z => V.SV.one (V.At.val (Value.int .i64 z))) (by omega)))
      · obtain rfl : j = 0 := by omega
        have b0 := O.bkS_0 a m
        have bln := O.bkL_len a m
        rw [b0]
        repeat' ((conv => whnf); first | refine V.NCond.mk ?_ | refine V.NIf.not_ ?_ | refine V.NIf.dec_ ?_ | refine V.NIf.no (by omega) ?_ | refine V.NIf.yes (by omega) ?_ | refine V.NIf.mk (fun _ => ?_) (fun _ => ?_) | refine V.NWrap.ok (by omega) (by omega) ?_ | refine V.NWrap.u64 (by omega) (by omega) ?_ | refine V.NLt.mk (by omega) ?_ | refine V.NBoth.mk ?_ ?_ | refine V.NTF.yes (by omega) ?_ | refine V.NTF.no (by omega) ?_ | refine V.NTF.dec ?_ | refine V.NDraw.q (by exact rfl) (by kernel_rfl) ?_ | refine V.NApp.one (by first | omega | (simp; omega)) (by first | omega | (simp; omega)) ?_ | (refine V.NDraw.any (by kernel_rfl) ?_) | fail)
        all_goals (conv => whnf)
        all_goals exact NRet.mk_ [some 3] rfl ⟨rfl, rfl, trivial⟩ ⟨⟨rfl, rfl, bln.symm, fun k hk => rfl⟩, trivial⟩
end Go.Proofs.Ytcdlhfbpmpjfkaa

/- Are two lists of numbers one? -/
namespace Go.Proofs.Ytcdlhfbpmpjfkaa
open Go Go.RowKit V
set_option maxRecDepth 100000
set_option linter.unusedVariables false
theorem v_sameints (a b : List Int) (ha : a.length ≤ 9223372036854775807) : V.Fn Try.prog 21 [.arr 1 a.length (ga e1 a), .arr 1 b.length (ga e1 b)] [.one (.ref 0), .one (.ref 1)] (.bool (decide (a = b))) := by
  refine V.Fn.mk_ V.Tok V.mixed Try.func21 rfl Try.ntmps21 (by kernel_rfl) rfl rfl ?_
  repeat' ((conv => whnf); first | refine V.NCond.mk ?_ | refine V.NIf.not_ ?_ | refine V.NIf.dec_ ?_ | refine V.NIf.no (by omega) ?_ | refine V.NIf.yes (by omega) ?_ | refine V.NIf.mk (fun _ => ?_) (fun _ => ?_) | refine V.NWrap.ok (by omega) (by omega) ?_ | refine V.NWrap.u64 (by omega) (by omega) ?_ | refine V.NLt.mk (by omega) ?_ | refine V.NBoth.mk ?_ ?_ | refine V.NTF.yes (by omega) ?_ | refine V.NTF.no (by omega) ?_ | refine V.NTF.dec ?_ | refine V.NDraw.q (by exact rfl) (by kernel_rfl) ?_ | refine V.NApp.one (by first | omega | (simp; omega)) (by first | omega | (simp; omega)) ?_ | (refine V.NDraw.any (by kernel_rfl) ?_) | fail)
  rotate_left
  · exact congrArg Value.bool (decide_eq_false (by rintro rfl; omega)).symm
  (conv => whnf)
  rename_i hl
  have hl : a.length = b.length := by omega
  refine V.NLoop.auto (fun (k : Nat) => [(5, .one (.val (.int .i64 k)))]) (fun (k : Nat) => []) [] [] (fun (k : Nat) => a.length - k) (fun (k : Nat) => k ≤ a.length ∧ a.take k = b.take k) 0 ⟨by omega, by simp⟩ (by repeat' (first | exact rfl | exact Iff.rfl | exact trivial | exact (fun _ _ => rfl) | exact (fun _ h => absurd h (Nat.not_lt_zero _)) | refine ⟨?_, ?_⟩ | exact Iff.rfl | exact congrArg (fun z => V.SV.one (V.At.val (Value.int .i64 z))) (by omega))) (by repeat' (first | exact rfl | exact Iff.rfl | exact trivial | exact (fun _ _ => rfl) | exact (fun _ h => absurd h (Nat.not_lt_zero _)) | refine ⟨?_, ?_⟩ | exact Iff.rfl | exact congrArg (fun z => V.SV.one (V.At.val (Value.int .i64 z))) (by omega))) (fun _ => ⟨rfl, rfl⟩) ?_; (conv => whnf); refine ⟨⟨rfl, rfl⟩, ?_⟩
  rintro k ⟨hk, hJ⟩
  by_cases hlt : k < a.length
  · have e1 := getD_at (l := a) (by omega)
    have e2 := getD_at (l := b) (k := k) (by omega)
    repeat' ((conv => whnf); first | refine V.NCond.mk ?_ | refine V.NIf.not_ ?_ | refine V.NIf.dec_ ?_ | refine V.NIf.no (by omega) ?_ | refine V.NIf.yes (by omega) ?_ | refine V.NIf.mk (fun _ => ?_) (fun _ => ?_) | refine V.NWrap.ok (by omega) (by omega) ?_ | refine V.NWrap.u64 (by omega) (by omega) ?_ | refine V.NLt.mk (by omega) ?_ | refine V.NBoth.mk ?_ ?_ | refine V.NTF.yes (by omega) ?_ | refine V.NTF.no (by omega) ?_ | refine V.NTF.dec ?_ | refine V.NDraw.q (by exact rfl) (by kernel_rfl) ?_ | refine V.NApp.one (by first | omega | (simp; omega)) (by first | omega | (simp; omega)) ?_ | (refine NIdx.mk ⟨k, rfl, by omega, ?_⟩) | (refine V.NDraw.any (by kernel_rfl) ?_) | fail)
    all_goals (conv => whnf)
    · rename_i q
      exact V.NBack.at_ (k + 1) [] ⟨by omega, by rw [List.take_succ_eq_append_getElem hlt, List.take_succ_eq_append_getElem (by omega), hJ, ← e1, ← e2, q]⟩ (by omega) (by repeat' (first | exact rfl | exact Iff.rfl | exact trivial | exact (fun _ _ => rfl) | exact (fun _ h => absurd h (Nat.not_lt_zero _)) | refine ⟨?_, ?_⟩ | exact Iff.rfl | exact congrArg (fun z => V.SV.one (V.At.val (Value.int .i64 z))) (by omega))) rfl (by repeat' (first | exact rfl | exact Iff.rfl | exact trivial | exact (fun _ _ => rfl) | exact (fun _ h => absurd h (Nat.not_lt_zero _)) | refine ⟨?_, ?_⟩ | exact Iff.rfl | exact congrArg (fun z => V.SV.one (V.At.val (Value.int .i64 z))) (by omega))) (by repeat' (first | exact rfl | exact Iff.rfl | exact trivial | exact (fun _ _ => rfl) | exact (fun _ h => absurd h (Nat.not_lt_zero _)) | refine ⟨?_, ?_⟩ | exact Iff.rfl | exact congrArg (fun z => V.SV.one (V.At.val (Value.int .i64 z))) (by omega))) (by repeat' (first | exact rfl | exact Iff.rfl | exact trivial | exact (fun _ _ => rfl) | exact (fun _ h => absurd h (Nat.not_lt_zero _)) | refine ⟨?_, ?_⟩ | exact Iff.rfl | exact congrArg (fun z => V.SV.one (V.At.val (Value.int .i64 z))) (by omega)))
    · rename_i q
      exact congrArg Value.bool (decide_eq_false (by rintro rfl; exact q rfl)).symm
  · obtain rfl : k = a.length := by omega
    repeat' ((conv => whnf); first | refine V.NCond.mk ?_ | refine V.NIf.not_ ?_ | refine V.NIf.dec_ ?_ | refine V.NIf.no (by omega) ?_ | refine V.NIf.yes (by omega) ?_ | refine V.NIf.mk (fun _ => ?_) (fun _ => ?_) | refine V.NWrap.ok (by omega) (by omega) ?_ | refine V.NWrap.u64 (by omega) (by omega) ?_ | refine V.NLt.mk (by omega) ?_ | refine V.NBoth.mk ?_ ?_ | refine V.NTF.yes (by omega) ?_ | refine V.NTF.no (by omega) ?_ | refine V.NTF.dec ?_ | refine V.NDraw.q (by exact rfl) (by kernel_rfl) ?_ | refine V.NApp.one (by first | omega | (simp; omega)) (by first | omega | (simp; omega)) ?_ | (refine V.NDraw.any (by kernel_rfl) ?_) | fail)
    (conv => whnf)
    refine congrArg Value.bool (decide_eq_true ?_).symm
    rw [List.take_length, List.take_of_length_le (by omega)] at hJ
    exact hJ
end Go.Proofs.Ytcdlhfbpmpjfkaa

/- What the document's functions on shares answer. -/
namespace Go.Proofs.Ytcdlhfbpmpjfkaa
open Go Go.RowKit V
set_option maxRecDepth 100000
set_option linter.unusedVariables false
set_option linter.unusedSimpArgs false
set_option maxHeartbeats 4000000
theorem v_partOfW (a b c : Int) (ha : 0 ≤ a ∧ a ≤ 1152921504606846976) (hb : 0 ≤ b ∧ b ≤ 1099511627776) (hc : 1 ≤ c ∧ c ≤ 43980465111040) : V.Fn Try.prog 33 [] [.one (.val (.int .i64 a)), .one (.val (.int .i64 b)), .one (.val (.int .i64 c))] (.tuple #[.int .i64 (M.poQ a b c), .int .i64 (M.poR a b c)]) := by
  refine V.Fn.mk_ V.Tok V.mixed Try.func33 rfl Try.ntmps33 (by kernel_rfl) rfl rfl ?_
  (conv => whnf)
  refine V.NLoop.auto (fun (⟨n, q, r⟩ : Nat × Int × Int) => [(8, .one (.val (.int .i64 q))), (9, .one (.val (.int .i64 r))), (10, .one (.val (.int .i64 ((n : Int) - 1))))]) (fun (⟨n, q, r⟩ : Nat × Int × Int) => []) [] [] (fun (⟨n, q, r⟩ : Nat × Int × Int) => n) (fun (⟨n, q, r⟩ : Nat × Int × Int) => n ≤ 41 ∧ q * c + r = a * (b / 2 ^ n) ∧ (0 ≤ r ∧ r < c) ∧ 0 ≤ q ∧ q ≤ 2305843009213693952) (41, 0, 0) ⟨by omega, (by rw [Int.ediv_eq_zero_of_lt (by omega) (by omega)]; omega), by omega, by omega⟩ (by repeat' (first | exact rfl | exact Iff.rfl | exact trivial | exact (fun _ _ => rfl) | exact (fun _ h => absurd h (Nat.not_lt_zero _)) | refine ⟨?_, ?_⟩ | exact Iff.rfl | exact congrArg (fun z => V.SV.one (V.At.val (Value.int .i64 z))) (by omega))) (by repeat' (first | exact rfl | exact Iff.rfl | exact trivial | exact (fun _ _ => rfl) | exact (fun _ h => absurd h (Nat.not_lt_zero _)) | refine ⟨?_, ?_⟩ | exact Iff.rfl | exact congrArg (fun z => V.SV.one (V.At.val (Value.int .i64 z))) (by omega))) (fun _ => ⟨rfl, rfl⟩) ?_; (conv => whnf); refine ⟨⟨rfl, rfl⟩, ?_⟩
  rintro ⟨n, q, r⟩ ⟨hn, hJ, hr, hq⟩
  cases n with
  | zero =>
    repeat' ((conv => whnf); first | refine V.NCond.mk ?_ | refine V.NIf.not_ ?_ | refine V.NIf.dec_ ?_ | refine V.NIf.no (by omega) ?_ | refine V.NIf.yes (by omega) ?_ | refine V.NIf.mk (fun _ => ?_) (fun _ => ?_) | refine V.NWrap.ok (by omega) (by omega) ?_ | refine V.NWrap.u64 (by omega) (by omega) ?_ | refine V.NLt.mk (by omega) ?_ | refine V.NBoth.mk ?_ ?_ | refine V.NTF.yes (by omega) ?_ | refine V.NTF.no (by omega) ?_ | refine V.NTF.dec ?_ | refine V.NDraw.q (by exact rfl) (by kernel_rfl) ?_ | refine V.NApp.one (by first | omega | (simp; omega)) (by first | omega | (simp; omega)) ?_ | (refine V.NDraw.any (by kernel_rfl) ?_) | fail)
    exact V.nif2 (M.po_end hc.1 hJ hr hq.2)
  | succ m =>
    repeat' ((conv => whnf); first | (refine NRem.pos (y := 2) (by omega) (by omega) ?_; intro t ht ht0 ht1) | refine V.NCond.mk ?_ | refine V.NIf.not_ ?_ | refine V.NIf.dec_ ?_ | refine V.NIf.no (by omega) ?_ | refine V.NIf.yes (by omega) ?_ | refine V.NIf.mk (fun _ => ?_) (fun _ => ?_) | refine V.NWrap.ok (by omega) (by omega) ?_ | refine V.NWrap.u64 (by omega) (by omega) ?_ | refine V.NLt.mk (by omega) ?_ | refine V.NBoth.mk ?_ ?_ | refine V.NTF.yes (by omega) ?_ | refine V.NTF.no (by omega) ?_ | refine V.NTF.dec ?_ | refine V.NDraw.q (by exact rfl) (by kernel_rfl) ?_ | refine V.NApp.one (by first | omega | (simp; omega)) (by first | omega | (simp; omega)) ?_ | (refine NShr.i64 m (by omega) (by omega) (by omega) ?_; intro x hx hx0 hx1) | (refine NRem.pos (by omega) (by omega) ?_; intro z hz hz0 hz1) | (refine NQuo.pos (by omega) (by omega) (by omega) ?_; intro z hz hz0 hz1) | (refine V.NDraw.any (by kernel_rfl) ?_) | fail)
    all_goals (conv => whnf)
    all_goals rename_i hz hz0 hz1 _
    all_goals subst_vars
    · exact V.nif2 (M.po_big ha.1 hb.1 hc.1 (M.po1 hJ rfl (by omega)) (by assumption) (by assumption))
    · refine V.NBack.at_ (m, _, _) [] ⟨by omega, M.po1 hJ rfl (by omega), ⟨by assumption, by assumption⟩, ?_, ?_⟩ (by show m < m + 1; omega) (by repeat' (first | exact rfl | exact Iff.rfl | exact trivial | exact (fun _ _ => rfl) | exact (fun _ h => absurd h (Nat.not_lt_zero _)) | refine ⟨?_, ?_⟩ | exact Iff.rfl | exact congrArg (fun z => V.SV.one (V.At.val (Value.int .i64 z))) (by omega))) rfl (by repeat' (first | exact rfl | exact Iff.rfl | exact trivial | exact (fun _ _ => rfl) | exact (fun _ h => absurd h (Nat.not_lt_zero _)) | refine ⟨?_, ?_⟩ | exact Iff.rfl | exact congrArg (fun z => V.SV.one (V.At.val (Value.int .i64 z))) (by omega))) (by repeat' (first | exact rfl | exact Iff.rfl | exact trivial | exact (fun _ _ => rfl) | exact (fun _ h => absurd h (Nat.not_lt_zero _)) | refine ⟨?_, ?_⟩ | exact Iff.rfl | exact congrArg (fun z => V.SV.one (V.At.val (Value.int .i64 z))) (by omega))) (by repeat' (first | exact rfl | exact Iff.rfl | exact trivial | exact (fun _ _ => rfl) | exact (fun _ h => absurd h (Nat.not_lt_zero _)) | refine ⟨?_, ?_⟩ | exact Iff.rfl | exact congrArg (fun z => V.SV.one (V.At.val (Value.int .i64 z))) (by omega))) <;> omega
    · exact V.nif2 (M.po_big ha.1 hb.1 hc.1 (M.po0 hJ rfl (by omega) (by omega) (by omega)) (by assumption) (by assumption))
    · refine V.NBack.at_ (m, _, _) [] ⟨by omega, M.po0 hJ rfl (by omega) (by omega) (by omega), ⟨by assumption, by assumption⟩, ?_, ?_⟩ (by show m < m + 1; omega) (by repeat' (first | exact rfl | exact Iff.rfl | exact trivial | exact (fun _ _ => rfl) | exact (fun _ h => absurd h (Nat.not_lt_zero _)) | refine ⟨?_, ?_⟩ | exact Iff.rfl | exact congrArg (fun z => V.SV.one (V.At.val (Value.int .i64 z))) (by omega))) rfl (by repeat' (first | exact rfl | exact Iff.rfl | exact trivial | exact (fun _ _ => rfl) | exact (fun _ h => absurd h (Nat.not_lt_zero _)) | refine ⟨?_, ?_⟩ | exact Iff.rfl | exact congrArg (fun z => V.SV.one (V.At.val (Value.int .i64 z))) (by omega))) (by repeat' (first | exact rfl | exact Iff.rfl | exact trivial | exact (fun _ _ => rfl) | exact (fun _ h => absurd h (Nat.not_lt_zero _)) | refine ⟨?_, ?_⟩ | exact Iff.rfl | exact congrArg (fun z => V.SV.one (V.At.val (Value.int .i64 z))) (by omega))) (by repeat' (first | exact rfl | exact Iff.rfl | exact trivial | exact (fun _ _ => rfl) | exact (fun _ h => absurd h (Nat.not_lt_zero _)) | refine ⟨?_, ?_⟩ | exact Iff.rfl | exact congrArg (fun z => V.SV.one (V.At.val (Value.int .i64 z))) (by omega))) <;> omega
theorem v_rwide (a b c : Int) (ha : 0 ≤ a ∧ a ≤ 1152921504606846976) (hb : 0 ≤ b ∧ b ≤ 1099511627776) (hbc : b ≤ c) (hc : 1 ≤ c ∧ c ≤ 43980465111040) : V.Fn Try.prog 33 [] [.one (.val (.int .i64 a)), .one (.val (.int .i64 b)), .one (.val (.int .i64 c))] (.tuple #[.int .i64 (a * b / c), .int .i64 (a * b % c)]) := by
  have s := v_partOfW a b c ha hb hc
  have h2 : a * b ≤ a * c := Int.mul_le_mul_of_nonneg_left hbc ha.1
  have q1 : a * b / c ≤ a := by
    have := Int.ediv_le_ediv (c := c) (by omega) h2
    rwa [Int.mul_ediv_cancel _ (by omega)] at this
  rcases M.po_at (a := a) (b := b) (c := c) ha.1 hb.1 hc.1 with ⟨_, k⟩ | ⟨e1, e2, _⟩
  · omega
  · rwa [e1, e2] at s
theorem v_shTog (l : List Int) (hl : l.length ≤ 9223372036854775807) (hs : ∀ k, -9223372036854775808 ≤ Sh.sm (l.take k) ∧ Sh.sm (l.take k) ≤ 9223372036854775807) : V.Fn Try.prog 22 [.arr 1 l.length (ga e1 l)] [.one (.ref 0)] (.int .i64 (Sh.sm l)) := by
  refine V.Fn.mk_ V.Tok V.mixed Try.func22 rfl Try.ntmps22 (by kernel_rfl) rfl rfl ?_
  repeat' ((conv => whnf); first | refine V.NCond.mk ?_ | refine V.NIf.not_ ?_ | refine V.NIf.dec_ ?_ | refine V.NIf.no (by omega) ?_ | refine V.NIf.yes (by omega) ?_ | refine V.NIf.mk (fun _ => ?_) (fun _ => ?_) | refine V.NWrap.ok (by omega) (by omega) ?_ | refine V.NWrap.u64 (by omega) (by omega) ?_ | refine V.NLt.mk (by omega) ?_ | refine V.NBoth.mk ?_ ?_ | refine V.NTF.yes (by omega) ?_ | refine V.NTF.no (by omega) ?_ | refine V.NTF.dec ?_ | refine V.NDraw.q (by exact rfl) (by kernel_rfl) ?_ | refine V.NApp.one (by first | omega | (simp; omega)) (by first | omega | (simp; omega)) ?_ | (refine V.NDraw.any (by kernel_rfl) ?_) | fail)
  (conv => whnf)
  refine V.NLoop.auto (fun (k : Nat) => [(4, .one (.val (.int .i64 k))), (3, .one (.val (.int .i64 (Sh.sm (l.take k)))))]) (fun (k : Nat) => []) [] [] (fun (k : Nat) => l.length - k) (fun (k : Nat) => k ≤ l.length) 0 (Nat.zero_le _) (by repeat' (first | exact rfl | exact Iff.rfl | exact trivial | exact (fun _ _ => rfl) | exact (fun _ h => absurd h (Nat.not_lt_zero _)) | refine ⟨?_, ?_⟩ | exact Iff.rfl | exact congrArg (fun z => V.SV.one (V.At.val (Value.int .i64 z))) (by omega))) (by repeat' (first | exact rfl | exact Iff.rfl | exact trivial | exact (fun _ _ => rfl) | exact (fun _ h => absurd h (Nat.not_lt_zero _)) | refine ⟨?_, ?_⟩ | exact Iff.rfl | exact congrArg (fun z => V.SV.one (V.At.val (Value.int .i64 z))) (by omega))) (fun _ => ⟨rfl, rfl⟩) ?_; (conv => whnf); refine ⟨⟨rfl, rfl⟩, ?_⟩
  rintro k hk
  have h1 := hs k
  have h2 := hs (k + 1)
  by_cases hlt : k < l.length
  · have e := Sh.sm_take hlt
    repeat' ((conv => whnf); first | refine V.NCond.mk ?_ | refine V.NIf.not_ ?_ | refine V.NIf.dec_ ?_ | refine V.NIf.no (by omega) ?_ | refine V.NIf.yes (by omega) ?_ | refine V.NIf.mk (fun _ => ?_) (fun _ => ?_) | refine V.NWrap.ok (by omega) (by omega) ?_ | refine V.NWrap.u64 (by omega) (by omega) ?_ | refine V.NLt.mk (by omega) ?_ | refine V.NBoth.mk ?_ ?_ | refine V.NTF.yes (by omega) ?_ | refine V.NTF.no (by omega) ?_ | refine V.NTF.dec ?_ | refine V.NDraw.q (by exact rfl) (by kernel_rfl) ?_ | refine V.NApp.one (by first | omega | (simp; omega)) (by first | omega | (simp; omega)) ?_ | (refine NIdx.mk ⟨k, rfl, by omega, ?_⟩) | (refine V.NDraw.any (by kernel_rfl) ?_) | fail)
    all_goals (conv => whnf)
    exact V.NBack.at_ (k + 1) [] (by omega) (by omega) (by repeat' (first | exact rfl | exact Iff.rfl | exact trivial | exact (fun _ _ => rfl) | exact (fun _ h => absurd h (Nat.not_lt_zero _)) | refine ⟨?_, ?_⟩ | exact Iff.rfl | exact congrArg (fun z => V.SV.one (V.At.val (Value.int .i64 z))) (by omega))) rfl (by repeat' (first | exact rfl | exact Iff.rfl | exact trivial | exact (fun _ _ => rfl) | exact (fun _ h => absurd h (Nat.not_lt_zero _)) | refine ⟨?_, ?_⟩ | exact Iff.rfl | exact congrArg (fun z => V.SV.one (V.At.val (Value.int .i64 z))) (by omega))) (by repeat' (first | exact rfl | exact Iff.rfl | exact trivial | exact (fun _ _ => rfl) | exact (fun _ h => absurd h (Nat.not_lt_zero _)) | refine ⟨?_, ?_⟩ | exact Iff.rfl | exact congrArg (fun z => V.SV.one (V.At.val (Value.int .i64 z))) (by omega))) (by repeat' (first | exact rfl | exact Iff.rfl | exact trivial | exact (fun _ _ => rfl) | exact (fun _ h => absurd h (Nat.not_lt_zero _)) | refine ⟨?_, ?_⟩ | exact Iff.rfl | exact congrArg (fun z => V.SV.one (V.At.val (Value.int .i64 z))) (by omega)))
  · obtain rfl : k = l.length := by omega
    repeat' ((conv => whnf); first | refine V.NCond.mk ?_ | refine V.NIf.not_ ?_ | refine V.NIf.dec_ ?_ | refine V.NIf.no (by omega) ?_ | refine V.NIf.yes (by omega) ?_ | refine V.NIf.mk (fun _ => ?_) (fun _ => ?_) | refine V.NWrap.ok (by omega) (by omega) ?_ | refine V.NWrap.u64 (by omega) (by omega) ?_ | refine V.NLt.mk (by omega) ?_ | refine V.NBoth.mk ?_ ?_ | refine V.NTF.yes (by omega) ?_ | refine V.NTF.no (by omega) ?_ | refine V.NTF.dec ?_ | refine V.NDraw.q (by exact rfl) (by kernel_rfl) ?_ | refine V.NApp.one (by first | omega | (simp; omega)) (by first | omega | (simp; omega)) ?_ | (refine V.NDraw.any (by kernel_rfl) ?_) | fail)
    exact congrArg (Value.int .i64) (by rw [List.take_length])
end Go.Proofs.Ytcdlhfbpmpjfkaa

/- What the document's functions on offers answer. -/
namespace Go.Proofs.Ytcdlhfbpmpjfkaa
open Go Go.RowKit V
set_option maxRecDepth 100000
set_option linter.unusedVariables false
set_option linter.unusedSimpArgs false
set_option maxHeartbeats 4000000
theorem v_rofCheck (l : List Of) (hn : l.length ≤ 9223372036854775807) : V.Fn Try.prog 13 [.arr 3 l.length (ga encO l)] [.one (.ref 0)] (.int .i64 (O.chk l)) := by
  have c1 := @O.chk_1 l
  have c2 := @O.chk_2 l
  refine V.Fn.mk_ V.Tok V.mixed Try.func13 rfl Try.ntmps13 (by kernel_rfl) rfl rfl ?_
  repeat' ((conv => whnf); first | refine V.NCond.mk ?_ | refine V.NIf.not_ ?_ | refine V.NIf.dec_ ?_ | refine V.NIf.no (by omega) ?_ | refine V.NIf.yes (by omega) ?_ | refine V.NIf.mk (fun _ => ?_) (fun _ => ?_) | refine V.NWrap.ok (by omega) (by omega) ?_ | refine V.NWrap.u64 (by omega) (by omega) ?_ | refine V.NLt.mk (by omega) ?_ | refine V.NBoth.mk ?_ ?_ | refine V.NTF.yes (by omega) ?_ | refine V.NTF.no (by omega) ?_ | refine V.NTF.dec ?_ | refine V.NDraw.q (by exact rfl) (by kernel_rfl) ?_ | refine V.NApp.one (by first | omega | (simp; omega)) (by first | omega | (simp; omega)) ?_ | (refine V.NDraw.any (by kernel_rfl) ?_) | fail)
  all_goals (conv => whnf)
  · exact V.fin1 (c1 (by omega))
  have e := c2 (by omega)
  refine V.NLoop.auto (fun (i : Nat) => [(3, .one (.val (.int .i64 i)))]) (fun (i : Nat) => []) [] [] (fun (i : Nat) => l.length - i) (fun (i : Nat) => i ≤ l.length ∧ ∀ j, j < i → O.eAt l j = 0) 0 ⟨Nat.zero_le _, fun j h => absurd h (Nat.not_lt_zero _)⟩ (by repeat' (first | exact rfl | exact Iff.rfl | exact trivial | exact (fun _ _ => rfl) | exact (fun _ h => absurd h (Nat.not_lt_zero _)) | refine ⟨?_, ?_⟩ | exact Iff.rfl | exact congrArg (fun z => V.SV.one (V.At.val (Value.int .i64 z))) (by omega))) (by repeat' (first | exact rfl | exact Iff.rfl | exact trivial | exact (fun _ _ => rfl) | exact (fun _ h => absurd h (Nat.not_lt_zero _)) | refine ⟨?_, ?_⟩ | exact Iff.rfl | exact congrArg (fun z => V.SV.one (V.At.val (Value.int .i64 z))) (by omega))) (fun _ => ⟨rfl, rfl⟩) ?_; (conv => whnf); refine ⟨⟨rfl, rfl⟩, ?_⟩
  rintro i ⟨hi, hJ⟩
  have ge : ∀ v, v ≠ 0 → i < l.length → O.eAt l i = v → O.chk l = v := fun v h1 h2 h3 => e.trans ((Ca.fe_get h2 hJ (by omega)).trans h3)
  by_cases hlt : i < l.length
  · have oo : O.Ok (l.getD i default) ↔ ((0 ≤ (l.getD i default).pt ∧ (l.getD i default).pt ≤ 30) ∧ (1 ≤ (l.getD i default).un ∧ (l.getD i default).un ≤ 1073741824) ∧ P.Ok (l.getD i default).pr) := Iff.rfl
    have e1 : ¬ O.Ok (l.getD i default) → O.eAt l i = 3 := fun q => if_pos q
    have e2 : O.Ok (l.getD i default) → O.seen l i (l.getD i default).pt = true → O.eAt l i = 6 := fun q r => (if_neg (fun z => z q)).trans (if_pos r)
    have e3 : O.Ok (l.getD i default) → ¬ O.seen l i (l.getD i default).pt = true → O.eAt l i = 0 := fun q r => (if_neg (fun z => z q)).trans (if_neg r)
    have on : O.eAt l i = 0 → ∀ j, j < i + 1 → O.eAt l j = 0 := fun q j hj => by
      by_cases z : j = i
      · subst z; exact q
      · exact hJ j (by omega)
    have sn := O.seen_iff (l := l) (k := i) hi (l.getD i default).pt
    have hy := @P.chk_yes (l.getD i default).pr
    have hz := @P.chk_no (l.getD i default).pr
    have pc := v_rpcheck (l.getD i default).pr
    by_cases ok : O.Ok (l.getD i default)
    · have ok' := oo.1 ok
      rw [hy ok'.2.2] at pc
      have f2 := e2 ok
      have f3 := e3 ok
      clear hy hz c1 c2 e e1 e2 e3 oo hJ
      generalize O.eAt l i = E at *
      generalize O.seen l i (l.getD i default).pt = B at *
      repeat' ((conv => whnf); first | (refine V.NIf.yes ?_ ?_; · (decide; done)) | (refine V.NIf.no ?_ ?_; · (decide; done)) | refine V.NCond.mk ?_ | refine V.NIf.not_ ?_ | refine V.NIf.dec_ ?_ | refine V.NIf.no (by omega) ?_ | refine V.NIf.yes (by omega) ?_ | refine V.NIf.mk (fun _ => ?_) (fun _ => ?_) | refine V.NWrap.ok (by omega) (by omega) ?_ | refine V.NWrap.u64 (by omega) (by omega) ?_ | refine V.NLt.mk (by omega) ?_ | refine V.NBoth.mk ?_ ?_ | refine V.NTF.yes (by omega) ?_ | refine V.NTF.no (by omega) ?_ | refine V.NTF.dec ?_ | refine V.NDraw.q (by exact rfl) (by kernel_rfl) ?_ | refine V.NApp.one (by first | omega | (simp; omega)) (by first | omega | (simp; omega)) ?_ | (refine NIdx.mk ⟨i, rfl, by omega, ?_⟩) | (first | refine V.Fn.k0 (v_rbetween _ _ _) rfl ?_ | refine V.Fn.q0 (v_rbetween _ _ _) rfl ?_ | refine V.Fn.a0 (v_rbetween _ _ _) rfl ?_) | (first | refine V.Fn.k0 (pc) rfl ?_ | refine V.Fn.q0 (pc) rfl ?_ | refine V.Fn.a0 (pc) rfl ?_) | (refine V.NDraw.any (by kernel_rfl) ?_) | fail)
      all_goals (conv => whnf)
      all_goals first
        | (exfalso; omega)
        | skip
      refine V.NLoop.auto (fun (k : Nat) => [(4, .one (.val (.int .i64 k)))]) (fun (k : Nat) => []) [] [] (fun (k : Nat) => i - k) (fun (k : Nat) => k ≤ i ∧ ∀ j, j < k → ¬ (l.getD j default).pt = (l.getD i default).pt) 0 ⟨Nat.zero_le _, fun j h => absurd h (Nat.not_lt_zero _)⟩ (by repeat' (first | exact rfl | exact Iff.rfl | exact trivial | exact (fun _ _ => rfl) | exact (fun _ h => absurd h (Nat.not_lt_zero _)) | refine ⟨?_, ?_⟩ | exact Iff.rfl | exact congrArg (fun z => V.SV.one (V.At.val (Value.int .i64 z))) (by omega))) (by repeat' (first | exact rfl | exact Iff.rfl | exact trivial | exact (fun _ _ => rfl) | exact (fun _ h => absurd h (Nat.not_lt_zero _)) | refine ⟨?_, ?_⟩ | exact Iff.rfl | exact congrArg (fun z => V.SV.one (V.At.val (Value.int .i64 z))) (by omega))) (fun _ => ⟨rfl, rfl⟩) ?_; (conv => whnf); refine ⟨⟨rfl, rfl⟩, ?_⟩
      rintro k ⟨hk, hN⟩
      by_cases hkl : k < i
      · repeat' ((conv => whnf); first | refine V.NCond.mk ?_ | refine V.NIf.not_ ?_ | refine V.NIf.dec_ ?_ | refine V.NIf.no (by omega) ?_ | refine V.NIf.yes (by omega) ?_ | refine V.NIf.mk (fun _ => ?_) (fun _ => ?_) | refine V.NWrap.ok (by omega) (by omega) ?_ | refine V.NWrap.u64 (by omega) (by omega) ?_ | refine V.NLt.mk (by omega) ?_ | refine V.NBoth.mk ?_ ?_ | refine V.NTF.yes (by omega) ?_ | refine V.NTF.no (by omega) ?_ | refine V.NTF.dec ?_ | refine V.NDraw.q (by exact rfl) (by kernel_rfl) ?_ | refine V.NApp.one (by first | omega | (simp; omega)) (by first | omega | (simp; omega)) ?_ | (refine NIdx.mk ⟨k, rfl, by omega, ?_⟩) | (refine NIdx.mk ⟨i, rfl, by omega, ?_⟩) | (refine V.NDraw.any (by kernel_rfl) ?_) | fail)
        all_goals (conv => whnf)
        · exact V.fin1 (ge 6 (by decide) hlt (f2 (sn.2 ⟨k, hkl, by assumption⟩)))
        · rename_i q
          exact V.NBack.at_ (k + 1) [] ⟨by omega, fun j hj => by
            by_cases z : j = k
            · subst z; exact q
            · exact hN j (by omega)⟩ (by omega) (by repeat' (first | exact rfl | exact Iff.rfl | exact trivial | exact (fun _ _ => rfl) | exact (fun _ h => absurd h (Nat.not_lt_zero _)) | refine ⟨?_, ?_⟩ | exact Iff.rfl | exact congrArg (fun z => V.SV.one (V.At.val (Value.int .i64 z))) (by omega))) rfl (by repeat' (first | exact rfl | exact Iff.rfl | exact trivial | exact (fun _ _ => rfl) | exact (fun _ h => absurd h (Nat.not_lt_zero _)) | refine ⟨?_, ?_⟩ | exact Iff.rfl | exact congrArg (fun z => V.SV.one (V.At.val (Value.int .i64 z))) (by omega))) (by repeat' (first | exact rfl | exact Iff.rfl | exact trivial | exact (fun _ _ => rfl) | exact (fun _ h => absurd h (Nat.not_lt_zero _)) | refine ⟨?_, ?_⟩ | exact Iff.rfl | exact congrArg (fun z => V.SV.one (V.At.val (Value.int .i64 z))) (by omega))) (by repeat' (first | exact rfl | exact Iff.rfl | exact trivial | exact (fun _ _ => rfl) | exact (fun _ h => absurd h (Nat.not_lt_zero _)) | refine ⟨?_, ?_⟩ | exact Iff.rfl | exact congrArg (fun z => V.SV.one (V.At.val (Value.int .i64 z))) (by omega)))
      · obtain rfl : k = i := by omega
        repeat' ((conv => whnf); first | refine V.NCond.mk ?_ | refine V.NIf.not_ ?_ | refine V.NIf.dec_ ?_ | refine V.NIf.no (by omega) ?_ | refine V.NIf.yes (by omega) ?_ | refine V.NIf.mk (fun _ => ?_) (fun _ => ?_) | refine V.NWrap.ok (by omega) (by omega) ?_ | refine V.NWrap.u64 (by omega) (by omega) ?_ | refine V.NLt.mk (by omega) ?_ | refine V.NBoth.mk ?_ ?_ | refine V.NTF.yes (by omega) ?_ | refine V.NTF.no (by omega) ?_ | refine V.NTF.dec ?_ | refine V.NDraw.q (by exact rfl) (by kernel_rfl) ?_ | refine V.NApp.one (by first | omega | (simp; omega)) (by first | omega | (simp; omega)) ?_ | (refine V.NDraw.any (by kernel_rfl) ?_) | fail)
        all_goals (conv => whnf)
        exact V.NBack.at_ (k + 1) [] ⟨by omega, on (f3 (fun q => by obtain ⟨j, h1, h2⟩ := sn.1 q; exact hN j h1 h2))⟩ (by omega) (by repeat' (first | exact rfl | exact Iff.rfl | exact trivial | exact (fun _ _ => rfl) | exact (fun _ h => absurd h (Nat.not_lt_zero _)) | refine ⟨?_, ?_⟩ | exact Iff.rfl | exact congrArg (fun z => V.SV.one (V.At.val (Value.int .i64 z))) (by omega))) rfl (by repeat' (first | exact rfl | exact Iff.rfl | exact trivial | exact (fun _ _ => rfl) | exact (fun _ h => absurd h (Nat.not_lt_zero _)) | refine ⟨?_, ?_⟩ | exact Iff.rfl | exact congrArg (fun z => V.SV.one (V.At.val (Value.int .i64 z))) (by omega))) (by repeat' (first | exact rfl | exact Iff.rfl | exact trivial | exact (fun _ _ => rfl) | exact (fun _ h => absurd h (Nat.not_lt_zero _)) | refine ⟨?_, ?_⟩ | exact Iff.rfl | exact congrArg (fun z => V.SV.one (V.At.val (Value.int .i64 z))) (by omega))) (by repeat' (first | exact rfl | exact Iff.rfl | exact trivial | exact (fun _ _ => rfl) | exact (fun _ h => absurd h (Nat.not_lt_zero _)) | refine ⟨?_, ?_⟩ | exact Iff.rfl | exact congrArg (fun z => V.SV.one (V.At.val (Value.int .i64 z))) (by omega)))
    · have e1 := e1 ok
      by_cases po : P.Ok (l.getD i default).pr
      · rw [hy po] at pc
        have no : ¬ ((0 ≤ (l.getD i default).pt ∧ (l.getD i default).pt ≤ 30) ∧ (1 ≤ (l.getD i default).un ∧ (l.getD i default).un ≤ 1073741824)) := fun q => ok (oo.2 ⟨q.1, q.2, po⟩)
        clear hy hz c1 c2 e e2 e3 oo ok on sn
        repeat' ((conv => whnf); first | (refine V.NIf.yes ?_ ?_; · (decide; done)) | (refine V.NIf.no ?_ ?_; · (decide; done)) | refine V.NCond.mk ?_ | refine V.NIf.not_ ?_ | refine V.NIf.dec_ ?_ | refine V.NIf.no (by omega) ?_ | refine V.NIf.yes (by omega) ?_ | refine V.NIf.mk (fun _ => ?_) (fun _ => ?_) | refine V.NWrap.ok (by omega) (by omega) ?_ | refine V.NWrap.u64 (by omega) (by omega) ?_ | refine V.NLt.mk (by omega) ?_ | refine V.NBoth.mk ?_ ?_ | refine V.NTF.yes (by omega) ?_ | refine V.NTF.no (by omega) ?_ | refine V.NTF.dec ?_ | refine V.NDraw.q (by exact rfl) (by kernel_rfl) ?_ | refine V.NApp.one (by first | omega | (simp; omega)) (by first | omega | (simp; omega)) ?_ | (refine NIdx.mk ⟨i, rfl, by omega, ?_⟩) | (first | refine V.Fn.k0 (v_rbetween _ _ _) rfl ?_ | refine V.Fn.q0 (v_rbetween _ _ _) rfl ?_ | refine V.Fn.a0 (v_rbetween _ _ _) rfl ?_) | (first | refine V.Fn.k0 (pc) rfl ?_ | refine V.Fn.q0 (pc) rfl ?_ | refine V.Fn.a0 (pc) rfl ?_) | (refine V.NDraw.any (by kernel_rfl) ?_) | fail)
        all_goals (conv => whnf)
        all_goals first
          | exact V.fin1 (ge 3 (by decide) hlt e1)
          | (exfalso; omega)
      · rw [hz po] at pc
        clear hy hz c1 c2 e e2 e3 oo ok on sn
        repeat' ((conv => whnf); first | (refine V.NIf.yes ?_ ?_; · (decide; done)) | (refine V.NIf.no ?_ ?_; · (decide; done)) | refine V.NCond.mk ?_ | refine V.NIf.not_ ?_ | refine V.NIf.dec_ ?_ | refine V.NIf.no (by omega) ?_ | refine V.NIf.yes (by omega) ?_ | refine V.NIf.mk (fun _ => ?_) (fun _ => ?_) | refine V.NWrap.ok (by omega) (by omega) ?_ | refine V.NWrap.u64 (by omega) (by omega) ?_ | refine V.NLt.mk (by omega) ?_ | refine V.NBoth.mk ?_ ?_ | refine V.NTF.yes (by omega) ?_ | refine V.NTF.no (by omega) ?_ | refine V.NTF.dec ?_ | refine V.NDraw.q (by exact rfl) (by kernel_rfl) ?_ | refine V.NApp.one (by first | omega | (simp; omega)) (by first | omega | (simp; omega)) ?_ | (refine NIdx.mk ⟨i, rfl, by omega, ?_⟩) | (first | refine V.Fn.k0 (v_rbetween _ _ _) rfl ?_ | refine V.Fn.q0 (v_rbetween _ _ _) rfl ?_ | refine V.Fn.a0 (v_rbetween _ _ _) rfl ?_) | (first | refine V.Fn.k0 (pc) rfl ?_ | refine V.Fn.q0 (pc) rfl ?_ | refine V.Fn.a0 (pc) rfl ?_) | (refine V.NDraw.any (by kernel_rfl) ?_) | fail)
        all_goals (conv => whnf)
        all_goals first
          | exact V.fin1 (ge 3 (by decide) hlt e1)
          | (exfalso; omega)
  · obtain rfl : i = l.length := by omega
    repeat' ((conv => whnf); first | refine V.NCond.mk ?_ | refine V.NIf.not_ ?_ | refine V.NIf.dec_ ?_ | refine V.NIf.no (by omega) ?_ | refine V.NIf.yes (by omega) ?_ | refine V.NIf.mk (fun _ => ?_) (fun _ => ?_) | refine V.NWrap.ok (by omega) (by omega) ?_ | refine V.NWrap.u64 (by omega) (by omega) ?_ | refine V.NLt.mk (by omega) ?_ | refine V.NBoth.mk ?_ ?_ | refine V.NTF.yes (by omega) ?_ | refine V.NTF.no (by omega) ?_ | refine V.NTF.dec ?_ | refine V.NDraw.q (by exact rfl) (by kernel_rfl) ?_ | refine V.NApp.one (by first | omega | (simp; omega)) (by first | omega | (simp; omega)) ?_ | (refine V.NDraw.any (by kernel_rfl) ?_) | fail)
    all_goals (conv => whnf)
    exact V.fin1 (e.trans (Ca.fe_end hJ))
end Go.Proofs.Ytcdlhfbpmpjfkaa

/- slices.SortStableFunc, of places, by a closure over one variable that compares their keys: by key; of equal ones the first one first. -/
namespace Go.Proofs.Ytcdlhfbpmpjfkaa
open Go Go.Sort Go.RowKit V
set_option maxRecDepth 100000
set_option linter.unusedVariables false
set_option linter.unusedSimpArgs false
set_option maxHeartbeats 4000000
def ints (n : Nat) : List Int := (List.range n).map fun (i : Nat) => (i : Int)
theorem ints_len (n : Nat) : (ints n).length = n := by simp [ints]
theorem ints_at {n k : Nat} (h : k < n) : (ints n).getD k default = k := by rw [getD_at (by rw [ints_len]; exact h)]; simp [ints]
def nats (l : List Nat) : List Int := l.map fun (i : Nat) => (i : Int)
theorem nats_len (l : List Nat) : (nats l).length = l.length := by simp [nats]
theorem nats_at {l : List Nat} {k : Nat} (h : k < l.length) : (nats l).getD k default = (l.getD k default : Nat) := by
  rw [getD_at (by rw [nats_len]; exact h), getD_at h]; simp [nats]
variable {Z : Nat}
def ltI (kb : Nat → Nat → Bool) (x y : It Z) : Bool := kb x.q.toNat y.q.toNat || (!kb y.q.toNat x.q.toNat && decide (x.tg < y.tg))
theorem swoI {kb : Nat → Nat → Bool} (h1 : ∀ i, kb i i = false) (h2 : ∀ i j k, kb i j = true → kb j k = true → kb i k = true) (h3 : ∀ i j k, kb i j = false → kb j k = false → kb i k = false) : SWO (ltI (Z := Z) kb) where
  irrefl x := by unfold ltI; simp [h1]
  trans x y z := by
    unfold ltI
    simp only [Bool.or_eq_true, Bool.and_eq_true, Bool.not_eq_true', decide_eq_true_eq]
    rintro (a | ⟨a, b⟩) (c | ⟨c, d⟩)
    · exact .inl (h2 _ _ _ a c)
    · cases q : kb x.q.toNat z.q.toNat
      · have := h3 _ _ _ q c; rw [this] at a; cases a
      · exact .inl rfl
    · cases q : kb x.q.toNat z.q.toNat
      · have := h3 _ _ _ a q; rw [this] at c; cases c
      · exact .inl rfl
    · exact .inr ⟨h3 _ _ _ c a, by omega⟩
  ntrans x y z := by
    unfold ltI
    simp only [Bool.or_eq_false_iff, Bool.and_eq_false_iff, Bool.not_eq_false', decide_eq_false_iff_not]
    rintro ⟨a, b⟩ ⟨c, d⟩
    refine ⟨h3 _ _ _ a c, ?_⟩
    rcases b with b | b
    · cases q : kb z.q.toNat x.q.toNat
      · exfalso
        have := h3 _ _ _ c q; rw [this] at b; cases b
      · exact .inl rfl
    · rcases d with d | d
      · cases q : kb z.q.toNat x.q.toNat
        · exfalso
          have := h3 _ _ _ q a; rw [this] at d; cases d
        · exact .inl rfl
      · exact .inr (by omega)
def dI (Z : Nat) : Array (It Z) := Array.ofFn fun (i : Fin (Z + 1)) => ⟨(i : Nat), (i : Nat), by omega⟩
theorem dI_sz : (dI Z).size = Z + 1 := by simp [dI]
theorem dI_at {i : Nat} (h : i < Z + 1) : (dI Z)[i]! = ⟨(i : Nat), i, by omega⟩ := by
  rw [getElem!_pos _ i (by rw [dI_sz]; exact h)]
  simp [dI]
theorem ga_dI : ga encTI (dI Z).toList = ga e1 (ints (Z + 1)) := by
  funext k
  unfold ga
  by_cases h : k < Z + 1
  · rw [arr_getI, dI_at h, ints_at h]; rfl
  · rw [List.getD_eq_getElem?_getD, List.getD_eq_getElem?_getD, List.getElem?_eq_none (by rw [Array.length_toList, dI_sz]; omega), List.getElem?_eq_none (by rw [ints_len]; omega)]
    rfl
theorem sortI_end {kb : Nat → Nat → Bool} (S : Od.Sto (Od.tie kb)) {d : Array (It Z)} (P : PermIn 0 (Z + 1) (dI Z) d) (s : SortedIn (ltI kb) 0 (Z + 1) d) : ∀ k, k < Z + 1 → ga encTI d.toList k = ga e1 (nats (Od.srt (Od.tie kb) (Z + 1))) k := by
  have s1 : d.size = Z + 1 := by rw [P.1, dI_sz]
  have p : d.toList.Perm (dI Z).toList := by
    have := P.2.2
    rwa [show d.extract 0 (Z + 1) = d by rw [← s1]; simp, show (dI Z).extract 0 (Z + 1) = dI Z by rw [← dI_sz (Z := Z)]; simp] at this
  have tp : ∀ x ∈ d.toList, x.q = x.tg := fun x hx => by
    have hx := p.mem_iff.1 hx
    obtain ⟨i, hi, e⟩ := List.getElem_of_mem hx
    rw [Array.length_toList, dI_sz] at hi
    have := dI_at hi
    rw [← arr_getI, getD_at (by rw [Array.length_toList, dI_sz]; exact hi), e] at this
    rw [this]
  have e : d.toList.map (fun x => x.q.toNat) = Od.srt (Od.tie kb) (Z + 1) := by
    refine Od.srt_uniq S ?_ ?_
    · have q := p.map (fun x => x.q.toNat)
      rw [show (dI Z).toList.map (fun x => x.q.toNat) = List.range (Z + 1) by
        refine List.ext_getElem (by simp [dI_sz]) fun i h1 h2 => ?_
        have hi : i < Z + 1 := by simpa using h2
        rw [List.getElem_map, List.getElem_range]
        have := dI_at hi
        rw [← arr_getI, getD_at (by rw [Array.length_toList, dI_sz]; exact hi)] at this
        rw [this]; simp] at q
      exact q
    · have nd : (d.toList.map (fun x => x.q.toNat)).Nodup := by
        have q := p.map (fun x => x.q.toNat)
        refine q.nodup_iff.2 ?_
        rw [show (dI Z).toList.map (fun x => x.q.toNat) = List.range (Z + 1) by
          refine List.ext_getElem (by simp [dI_sz]) fun i h1 h2 => ?_
          have hi : i < Z + 1 := by simpa using h2
          rw [List.getElem_map, List.getElem_range]
          have := dI_at hi
          rw [← arr_getI, getD_at (by rw [Array.length_toList, dI_sz]; exact hi)] at this
          rw [this]; simp]
        exact List.nodup_range
      refine List.pairwise_iff_getElem.2 fun i j hi hj hij => ?_
      have ne := List.pairwise_iff_getElem.1 nd i j hi hj hij
      rw [List.length_map] at hi hj
      rw [List.getElem_map, List.getElem_map] at ne ⊢
      have q := s i j (Nat.zero_le _) hij (by simpa [s1] using hj)
      rw [← arr_getI, ← arr_getI, getD_at hi, getD_at hj] at q
      have t1 := tp _ (List.getElem_mem hi)
      have t2 := tp _ (List.getElem_mem hj)
      rcases S.tot _ _ ne with z | z
      · exact z
      · exfalso
        unfold Od.tie at z
        unfold ltI at q
        rw [show decide (d.toList[j].q.toNat < d.toList[i].q.toNat) = decide (d.toList[j].tg < d.toList[i].tg) from decide_eq_decide.2 (by omega)] at z
        rw [z] at q; cases q
  intro k hk
  unfold ga
  have h1 : k < d.toList.length := by rw [Array.length_toList, s1]; exact hk
  have h2 : k < (Od.srt (Od.tie kb) (Z + 1)).length := by rw [Od.srt_len]; exact hk
  rw [nats_at h2, getD_at h1, getD_at h2]
  have : (Od.srt (Od.tie kb) (Z + 1))[k] = d.toList[k].q.toNat := by
    have := congrArg (fun l => l[k]?) e
    simp only [List.getElem?_map, List.getElem?_eq_getElem h1, List.getElem?_eq_getElem h2, Option.map_some, Option.some.injEq] at this
    exact this.symm
  rw [this]
  have := d.toList[k].ok
  show [Value.int .i64 d.toList[k].q] = [Value.int .i64 ((d.toList[k].q.toNat : Nat) : Int)]
  rw [show ((d.toList[k].q.toNat : Nat) : Int) = d.toList[k].q by omega]
theorem v_sortI (nx : Nat) (O : Obs) (hT : Tail (nx + 1) O) (g : FuncId) (cp : Nat) (hcl : Nat.blt cp (nx + 1) = true) (cf : It Z → It Z → Int) (hc : CmpI nx O g cp cf) (kb : Nat → Nat → Bool) (h1 : ∀ i, kb i i = false) (h2 : ∀ i j k, kb i j = true → kb j k = true → kb i k = true) (h3 : ∀ i j k, kb i j = false → kb j k = false → kb i k = false)
    (hk : ∀ x y : It Z, lessI cf x y = kb x.q.toNat y.q.toNat) (hn : Z + 1 ≤ 1152921504606846975) :
    Fam Try.prog 36 [.one (.ref 0), .one (.clo g [cp])] 3 1 (Z + 1) (ga e1 (ints (Z + 1))) nx O (fun r => ∀ k, k < Z + 1 → r k = ga e1 (nats (Od.srt (Od.tie kb) (Z + 1))) k) := by
  have c := v_stabI nx O hT g cp hcl cf hc (ltI kb) (swoI h1 h2 h3) (fun x y h => by
    rw [hk]
    unfold ltI
    rw [show decide (y.tg < x.tg) = false by simp; omega, Bool.and_false, Bool.or_false]) (dI Z) (by rw [dI_sz]; exact hn) (fun i hi => by rw [dI_sz] at hi; rw [dI_at hi])
  rw [dI_sz, ga_dI] at c
  have done := fun d' => @sortI_end Z kb (Od.sto_tie h1 h2 h3) d'
  refine Fam.mk hT ?_
  refine V.NCall.inl (f := 36) V.Tok V.mixed Try.func36 rfl Try.ntmps36 (by kernel_rfl) rfl ?_
  repeat' ((conv => whnf); first | refine V.NCond.mk ?_ | refine V.NIf.not_ ?_ | refine V.NIf.dec_ ?_ | refine V.NIf.no (by omega) ?_ | refine V.NIf.yes (by omega) ?_ | refine V.NIf.mk (fun _ => ?_) (fun _ => ?_) | refine V.NWrap.ok (by omega) (by omega) ?_ | refine V.NWrap.u64 (by omega) (by omega) ?_ | refine V.NLt.mk (by omega) ?_ | refine V.NBoth.mk ?_ ?_ | refine V.NTF.yes (by omega) ?_ | refine V.NTF.no (by omega) ?_ | refine V.NTF.dec ?_ | refine V.NDraw.q (by exact rfl) (by kernel_rfl) ?_ | refine V.NApp.one (by first | omega | (simp; omega)) (by first | omega | (simp; omega)) ?_ | (refine Fam.use c hT [(0, _)] rfl rfl rfl (fun k hk => rfl) ?_; rintro g1 ⟨d', P, S, rfl⟩) | (refine V.NDraw.any (by kernel_rfl) ?_) | fail)
  all_goals (conv => whnf)
  exact ⟨rfl, rfl, [(0, _)], _, rfl, rfl, rfl, done d' P S⟩
end Go.Proofs.Ytcdlhfbpmpjfkaa

/- Plain laws of loans. -/
namespace Go.Proofs.Ytcdlhfbpmpjfkaa
set_option linter.unusedVariables false
set_option linter.unusedSimpArgs false
namespace O
def Sg (n : Nat) (f : Nat → Int) : Int := Sh.sm ((List.range n).map f)
theorem Sg_0 (f : Nat → Int) : Sg 0 f = 0 := rfl
theorem Sg_succ (n : Nat) (f : Nat → Int) : Sg (n + 1) f = Sg n f + f n := by
  unfold Sg
  rw [List.range_succ, List.map_append, Sh.sm_app]; simp [Sh.sm]
theorem Sg_nn {f : Nat → Int} : ∀ {n : Nat}, (∀ i, i < n → 0 ≤ f i) → 0 ≤ Sg n f
  | 0, _ => by rw [Sg_0]; omega
  | n + 1, h => by
    have := Sg_nn (n := n) fun i hi => h i (by omega)
    have := h n (by omega)
    rw [Sg_succ]; omega
theorem Sg_le {f g : Nat → Int} : ∀ {n : Nat}, (∀ i, i < n → f i ≤ g i) → Sg n f ≤ Sg n g
  | 0, _ => by rw [Sg_0, Sg_0]; omega
  | n + 1, h => by
    have := Sg_le (n := n) fun i hi => h i (by omega)
    have := h n (by omega)
    rw [Sg_succ, Sg_succ]; omega
theorem Sg_eq {f g : Nat → Int} : ∀ {n : Nat}, (∀ i, i < n → f i = g i) → Sg n f = Sg n g
  | 0, _ => by rw [Sg_0, Sg_0]
  | n + 1, h => by rw [Sg_succ, Sg_succ, Sg_eq (n := n) fun i hi => h i (by omega), h n (by omega)]
theorem Sg_sub (f g : Nat → Int) : ∀ n : Nat, Sg n (fun i => f i - g i) = Sg n f - Sg n g
  | 0 => by rw [Sg_0, Sg_0, Sg_0]; omega
  | n + 1 => by rw [Sg_succ, Sg_succ, Sg_succ, Sg_sub f g n]; omega
theorem Sg_mul (f : Nat → Int) (c : Int) : ∀ n : Nat, Sg n (fun i => f i * c) = Sg n f * c
  | 0 => by rw [Sg_0, Sg_0, Int.zero_mul]
  | n + 1 => by rw [Sg_succ, Sg_succ, Sg_mul f c n, Int.add_mul]
theorem Sg_list (a : List Int) : Sg a.length (fun i => a.getD i default) = Sh.sm a := by
  unfold Sg
  congr 1
  refine List.ext_getElem (by simp) fun i h1 h2 => ?_
  rw [List.getElem_map, List.getElem_range, getD_at h2]
theorem Sg_take (a : List Int) {k : Nat} (h : k ≤ a.length) : Sg k (fun i => a.getD i default) = Sh.sm (a.take k) := by
  unfold Sg
  congr 1
  refine List.ext_getElem (by simp; omega) fun i h1 h2 => ?_
  have : i < k := by simpa using h1
  rw [List.getElem_map, List.getElem_range, getD_at (by omega), List.getElem_take]
def tk (l : List Of) (m : Int) (i : Nat) : Int := Gr.tk (U l) (bf l) l.length m i
def pr (l : List Of) (i : Nat) : Int := (l.getD i default).pr
def mine (l : List Of) (m : Int) : Int := Sg l.length fun i => tk l m i * pr l i
theorem un_nn {l : List Of} (ok : Oks l) : ∀ i, i < l.length → 0 ≤ U l i := fun i hi => by have := U_bd ok hi; omega
theorem tk_bd {l : List Of} (ok : Oks l) {m : Int} {i : Nat} (h : i < l.length) : 0 ≤ tk l m i ∧ tk l m i ≤ U l i := Gr.tk_bd (un_nn ok) h
theorem tk_sum {l : List Of} {m : Int} (ok : Oks l) (hm : 0 ≤ m) (hs : m ≤ Sh.sm (us l)) : Sg l.length (tk l m) = m := by
  have a := Gr.all_sum (m := m) (sto l) hm (un_nn ok)
  have e := Gr.lf_end (u := U l) (m := m) (n := l.length) (sto l)
  rw [us_range] at e
  have e0 : Gr.lf (U l) (bf l) l.length m l.length = 0 := by
    rw [e]; split <;> omega
  rw [e0] at a
  have a' : Sg l.length (tk l m) = m - 0 := a
  omega
theorem bst_sum {l : List Of} {m : Int} (ok : Oks l) (hm : 0 ≤ m) (hs : m ≤ Sh.sm (us l)) : Sh.sm (bst l m) = m := tk_sum ok hm hs
theorem tk_order {l : List Of} (ok : Oks l) {m : Int} {i k : Nat} (hi : i < l.length) (hk : k < l.length) (h : pr l i < pr l k) (q : tk l m i < U l i) : tk l m k = 0 :=
  Gr.tk_order (sto l) (un_nn ok) hi hk ((bf_iff l i k).2 (.inl h)) q
/-- a greatest price at which something is taken -/
theorem top {f : Nat → Int} {t : Nat → Int} : ∀ n : Nat, (∃ i, i < n ∧ 0 < f i) → ∃ i, i < n ∧ 0 < f i ∧ ∀ k, k < n → 0 < f k → t k ≤ t i
  | 0, h => by obtain ⟨i, hi, _⟩ := h; omega
  | n + 1, h => by
    by_cases q : ∃ i, i < n ∧ 0 < f i
    · obtain ⟨i, hi, hp, hm⟩ := top (t := t) n q
      by_cases r : 0 < f n ∧ t i < t n
      · refine ⟨n, by omega, r.1, fun k hk hkp => ?_⟩
        by_cases e : k = n
        · subst e; exact Int.le_refl _
        · have := hm k (by omega) hkp; omega
      · refine ⟨i, by omega, hp, fun k hk hkp => ?_⟩
        by_cases e : k = n
        · subst e
          exact Int.not_lt.1 fun z => r ⟨hkp, z⟩
        · exact hm k (by omega) hkp
    · obtain ⟨i, hi, hp⟩ := h
      have e : i = n := by
        by_cases z : i < n
        · exact absurd ⟨i, z, hp⟩ q
        · omega
      subst e
      refine ⟨i, by omega, hp, fun k hk hkp => ?_⟩
      by_cases e : k = i
      · subst e; exact Int.le_refl _
      · exact absurd ⟨k, by omega, hkp⟩ q
/-- no other way costs less -/
theorem best {l : List Of} {m : Int} (ok : Oks l) (hm : 1 ≤ m) (hs : m ≤ Sh.sm (us l)) {o : Nat → Int} (ho : ∀ i, i < l.length → 0 ≤ o i ∧ o i ≤ U l i) (hsum : Sg l.length o = m) : mine l m ≤ Sg l.length fun i => o i * pr l i := by
  have ts := tk_sum ok (by omega) hs
  have ex : ∃ i, i < l.length ∧ 0 < tk l m i := by
    refine Classical.byContradiction fun q => ?_
    have z : Sg l.length (tk l m) = Sg l.length fun _ => 0 := Sg_eq fun i hi => by
      have := (tk_bd ok (m := m) hi).1
      have : ¬ 0 < tk l m i := fun r => q ⟨i, hi, r⟩
      show tk l m i = 0
      omega
    have z2 : Sg l.length (fun _ => (0 : Int)) = 0 := by
      have := Sg_mul (fun _ => (0 : Int)) 0 l.length
      rw [Int.mul_zero] at this
      simpa using this
    omega
  obtain ⟨j, hj, jp, jm⟩ := top (t := pr l) l.length ex
  have h1 : 0 ≤ Sg l.length fun i => (o i - tk l m i) * (pr l i - pr l j) := Sg_nn fun i hi => by
    have b := tk_bd ok (m := m) hi
    have c := ho i hi
    by_cases q : pr l i < pr l j
    · have : ¬ tk l m i < U l i := fun r => by have := tk_order ok hi hj q r; omega
      exact Int.mul_nonneg_of_nonpos_of_nonpos (by omega) (by omega)
    · by_cases r : pr l j < pr l i
      · have : ¬ 0 < tk l m i := fun z => by have := jm i hi z; omega
        exact Int.mul_nonneg (by omega) (by omega)
      · rw [show pr l i - pr l j = 0 by omega, Int.mul_zero]; exact Int.le_refl _
  have h2 : Sg l.length (fun i => (o i - tk l m i) * (pr l i - pr l j)) = (Sg l.length (fun i => o i * pr l i) - mine l m) - (Sg l.length o - Sg l.length (tk l m)) * pr l j := by
    unfold mine
    rw [← Sg_sub, ← Sg_sub, ← Sg_mul, ← Sg_sub]
    refine Sg_eq fun i hi => ?_
    rw [Int.mul_sub, Int.sub_mul]
  rw [h2, hsum, ts, show m - m = 0 by omega, Int.zero_mul] at h1
  omega
def pts (l : List Of) (m : Int) (n : Nat) : Int := Sg n fun i => if 0 < tk l m i then 1 else 0
theorem pts_bd (l : List Of) (m : Int) : ∀ n : Nat, 0 ≤ pts l m n ∧ pts l m n ≤ n
  | 0 => by unfold pts; rw [Sg_0]; omega
  | n + 1 => by
    have ih := pts_bd l m n
    unfold pts at *
    rw [Sg_succ]
    split <;> omega
/-- what it costs, and what is lost -/
theorem cost_mine {l : List Of} (ok : Oks l) (m : Int) : cost l m * 10000 ≤ mine l m ∧ mine l m ≤ cost l m * 10000 + 9999 * pts l m l.length := by
  have e : cost l m = Sg l.length (cs l m) := rfl
  have b : ∀ i, i < l.length → cs l m i * 10000 ≤ tk l m i * pr l i ∧ tk l m i * pr l i ≤ cs l m i * 10000 + (if 0 < tk l m i then 1 else 0) * 9999 := fun i hi => by
    have c : cs l m i = tk l m i * pr l i / 10000 := rfl
    have d := tk_bd ok (m := m) hi
    by_cases q : 0 < tk l m i
    · rw [if_pos q]; omega
    · rw [if_neg q]
      have : tk l m i = 0 := by omega
      rw [this, Int.zero_mul] at c ⊢
      omega
  rw [e]
  constructor
  · rw [← Sg_mul]
    exact Sg_le fun i hi => (b i hi).1
  · have h2 : mine l m ≤ Sg l.length fun i => cs l m i * 10000 + (if 0 < tk l m i then 1 else 0) * 9999 := Sg_le fun i hi => (b i hi).2
    have h3 : (Sg l.length fun i => cs l m i * 10000 + (if 0 < tk l m i then 1 else 0) * 9999) = Sg l.length (cs l m) * 10000 + pts l m l.length * 9999 := by
      unfold pts
      rw [← Sg_mul, ← Sg_mul]
      have s := Sg_sub (fun i => cs l m i * 10000 + (if 0 < tk l m i then 1 else 0) * 9999) (fun i => (if 0 < tk l m i then (1 : Int) else 0) * 9999) l.length
      have s2 : (Sg l.length fun i => (cs l m i * 10000 + (if 0 < tk l m i then 1 else 0) * 9999) - (if 0 < tk l m i then (1 : Int) else 0) * 9999) = Sg l.length fun i => cs l m i * 10000 := Sg_eq fun i hi => by omega
      omega
    omega
/-- of more none costs less -/
theorem tk_more {l : List Of} {m n : Int} (h : m ≤ n) (ok : Oks l) {i : Nat} (hi : i < l.length) : tk l m i ≤ tk l n i := by
  have := un_nn ok i hi
  unfold tk Gr.tk
  generalize Gr.ahd (U l) (bf l) l.length i = x
  (repeat' split) <;> omega
theorem cost_more {l : List Of} {m n : Int} (h : m ≤ n) (ok : Oks l) : cost l m ≤ cost l n := Sg_le fun i hi => P.cost_mono (tk_more h ok hi) (pr_bd ok hi)
theorem cost_bd {l : List Of} (ok : Oks l) (m : Int) : 0 ≤ cost l m ∧ cost l m ≤ 4722366482869645200 := by
  have := csL_sum ok m l.length
  rw [List.take_of_length_le (by rw [csL_len]; exact Nat.le_refl _)] at this
  exact this
theorem U_app {l : List Of} {o : Of} {i : Nat} (h : i < l.length) : (l ++ [o]).getD i default = l.getD i default := by
  rw [getD_at (by simp; omega), getD_at h, List.getElem_append_left h]
/-- with an offer more it costs no more, but for what is lost -/
theorem cost_app {l : List Of} {o : Of} {m : Int} (ok : Oks l) (ok' : Oks (l ++ [o])) (hm : 1 ≤ m) (hs : m ≤ Sh.sm (us l)) : cost (l ++ [o]) m ≤ cost l m + l.length := by
  have len : (l ++ [o]).length = l.length + 1 := by simp
  have hs' : m ≤ Sh.sm (us (l ++ [o])) := by
    have : us (l ++ [o]) = us l ++ [o.un] := by simp [us]
    rw [this, Sh.sm_app]
    have := (ok'.all o (by simp)).2.1
    simp [Sh.sm]; omega
  have e1 : Sg (l ++ [o]).length (fun i => if i < l.length then tk l m i else 0) = m := by
    rw [len, Sg_succ, if_neg (by omega)]
    rw [Sg_eq (g := tk l m) fun i hi => if_pos hi, tk_sum ok (by omega) hs]
    omega
  have b := best ok' hm hs' (o := fun i => if i < l.length then tk l m i else 0) (fun i hi => by
    by_cases q : i < l.length
    · have t := tk_bd ok (m := m) q
      have e : U (l ++ [o]) i = U l i := by unfold U; rw [U_app q]
      simp only [if_pos q, e]; exact t
    · have := U_bd ok' hi
      simp only [if_neg q]; omega) e1
  have e2 : Sg (l ++ [o]).length (fun i => (if i < l.length then tk l m i else 0) * pr (l ++ [o]) i) = mine l m := by
    rw [len, Sg_succ, if_neg (by omega), Int.zero_mul]
    rw [Sg_eq (g := fun i => tk l m i * pr l i) fun i hi => by rw [if_pos hi]; unfold pr; rw [U_app hi]]
    unfold mine
    omega
  rw [e2] at b
  have c1 := cost_mine ok m
  have c2 := cost_mine ok' m
  have p := pts_bd l m l.length
  omega
/-! what comes back -/
def rem (a : List Int) (m : Int) (j : Nat) : Int := if Sh.sm (a.drop j) - m < 0 then 0 else Sh.sm (a.drop j) - m
theorem bk_rem {a : List Int} {m : Int} {i : Nat} (h : i < a.length) (h0 : 0 ≤ a.getD i default) : bk a m i = rem a m i - rem a m (i + 1) := by
  unfold bk bt rem
  rw [drop_sum h]
  generalize a.getD i default = x at *
  generalize Sh.sm (a.drop (i + 1)) = s at *
  (repeat' split) <;> omega
theorem rem_end {a : List Int} {m : Int} (hm : 0 ≤ m) : rem a m a.length = 0 := by
  unfold rem
  rw [List.drop_length]
  show (if (0 : Int) - m < 0 then (0 : Int) else 0 - m) = 0
  by_cases q : (0 : Int) - m < 0
  · rw [if_pos q]
  · rw [if_neg q]; omega
theorem bk_drop {a : List Int} {m : Int} (hm : 0 ≤ m) (h : ∀ x ∈ a, 0 ≤ x) : ∀ n j, j + n = a.length → Sh.sm ((bkL a m).drop j) = rem a m j
  | 0, j, e => by
    rw [List.drop_of_length_le (by rw [bkL_len]; omega), show j = a.length by omega, rem_end hm]; rfl
  | n + 1, j, e => by
    have ih := bk_drop hm h n (j + 1) (by omega)
    rw [drop_sum (by rw [bkL_len]; omega), ih, bkL_at (by omega), bk_rem (by omega) (h _ (getD_mem (by omega)))]
    omega
theorem bk_sum {a : List Int} {m : Int} (hm : 0 ≤ m) (hs : m ≤ Sh.sm a) (h : ∀ x ∈ a, 0 ≤ x) : Sh.sm (bkL a m) = Sh.sm a - m := by
  have := bk_drop hm h a.length 0 (by omega)
  rw [List.drop_zero] at this
  rw [this]
  unfold rem
  rw [List.drop_zero]
  split <;> omega
theorem bk_bd {a : List Int} {m : Int} {i : Nat} (h : i < a.length) (h0 : 0 ≤ a.getD i default) : 0 ≤ bk a m i ∧ bk a m i ≤ a.getD i default := by
  have := bt_nn a m (i + 1)
  unfold bk
  split <;> omega
theorem bk_nn {a : List Int} {m : Int} (h : ∀ x ∈ a, 0 ≤ x) : ∀ x ∈ bkL a m, 0 ≤ x := fun x hx => by
  obtain ⟨i, hi, rfl⟩ := List.getElem_of_mem hx
  rw [bkL_len] at hi
  rw [← getD_at, bkL_at hi]
  exact (bk_bd hi (h _ (getD_mem hi))).1
/-- some, and then some more, is all of it -/
theorem bk_twice {a : List Int} {m n : Int} (hm : 0 ≤ m) (hn : 0 ≤ n) (h : ∀ x ∈ a, 0 ≤ x) : bkL (bkL a m) n = bkL a (m + n) := by
  have rr : ∀ j, j ≤ a.length → rem (bkL a m) n j = rem a (m + n) j := fun j hj => by
    have e := bk_drop hm h (a.length - j) j (by omega)
    unfold rem
    rw [e]
    unfold rem
    (repeat' split) <;> omega
  refine List.ext_getElem (by rw [bkL_len, bkL_len, bkL_len]) fun i h1 h2 => ?_
  rw [bkL_len, bkL_len] at h1
  rw [← getD_at, ← getD_at, bkL_at (by rw [bkL_len]; exact h1), bkL_at h1, bk_rem (by rw [bkL_len]; exact h1) (bk_nn h _ (getD_mem (by rw [bkL_len]; exact h1))), bk_rem h1 (h _ (getD_mem h1)), rr i (by omega), rr (i + 1) (by omega)]
/-- the first ones lend longest -/
theorem bk_first {a : List Int} {m : Int} (h : ∀ x ∈ a, 0 ≤ x) {k i : Nat} (hki : k < i) (hi : i < a.length) (q : bk a m k < a.getD k default) : bk a m i = 0 := by
  have b1 : 0 < bt a m (k + 1) := by
    rcases bk_cases (m := m) (j := k) (by omega) (h _ (getD_mem (by omega))) with ⟨_, e, _⟩ | ⟨_, b, _⟩ | ⟨_, b, _⟩
    · omega
    · exact b
    · exact b
  have st : ∀ j, k < j → j ≤ a.length → 0 < bt a m j := by
    intro j
    induction j with
    | zero => intro z; omega
    | succ j ih =>
      intro z1 z2
      by_cases e : k = j
      · subst e; exact b1
      · have := ih (by omega) (by omega)
        have p := h _ (getD_mem (l := a) (k := j) (by omega))
        have s := bt_step (m := m) (j := j) (by omega) p
        split at s <;> omega
  have := st i hki (by omega)
  rcases bk_cases (m := m) (j := i) hi (h _ (getD_mem hi)) with ⟨c, e, f⟩ | ⟨_, _, _, e, _⟩ | ⟨_, _, _, _, e⟩
  · rcases c with c | c
    · omega
    · omega
  · exact e
  · omega
/-! shares -/
theorem raw_le {ws : List Int} {m : Int} (ok : Sh.Oks ws) (hm : 0 ≤ m) (hs : m ≤ Sh.sm ws) {j : Nat} (hj : j < ws.length) : (Sh.raw m ws).getD j default ≤ ws.getD j default := by
  have w := ok.all _ (getD_mem hj)
  have A := ok.sum
  have wh := Sh.whs_at (t := m) (ws := ws) hj
  have lf := Sh.lfs_at (t := m) (ws := ws) hj
  have mu : m * ws.getD j default ≤ Sh.sm ws * ws.getD j default := Int.mul_le_mul_of_nonneg_right hs w.1
  have dm := Int.mul_ediv_add_emod (m * ws.getD j default) (Sh.sm ws)
  have le : m * ws.getD j default / Sh.sm ws ≤ ws.getD j default := by
    have := Int.ediv_le_ediv (c := Sh.sm ws) (by omega) mu
    rwa [Int.mul_ediv_cancel_left _ (by omega)] at this
  by_cases g : Sh.got m ws j
  · rw [Sh.raw_in ok g, wh]
    have p := Sh.got_pos ok g
    rw [lf] at p
    generalize m * ws.getD j default / Sh.sm ws = q at *
    generalize m * ws.getD j default % Sh.sm ws = r at *
    have ne : q ≠ ws.getD j default := fun e => by
      subst e
      omega
    omega
  · rw [Sh.raw_out ok g, wh]; exact le
end O
end Go.Proofs.Ytcdlhfbpmpjfkaa

/- Plain facts on what is bought in: the order of offers, what is taken up to a limit. -/
namespace Go.Proofs.Ytcdlhfbpmpjfkaa
set_option linter.unusedVariables false
set_option linter.unusedSimpArgs false
namespace B
open O
def kb (l : List Of) (i k : Nat) : Bool := decide (pr l i < pr l k ∨ (pr l i = pr l k ∧ U l k < U l i))
theorem kb1 (l : List Of) (i : Nat) : kb l i i = false := by unfold kb; simp
theorem kb2 (l : List Of) (i j k : Nat) : kb l i j = true → kb l j k = true → kb l i k = true := by unfold kb; simp only [decide_eq_true_eq]; omega
theorem kb3 (l : List Of) (i j k : Nat) : kb l i j = false → kb l j k = false → kb l i k = false := by unfold kb; simp only [decide_eq_false_iff_not]; omega
def bf (l : List Of) : Nat → Nat → Bool := Od.tie (kb l)
theorem bf_iff (l : List Of) (i k : Nat) : bf l i k = true ↔ pr l i < pr l k ∨ (pr l i = pr l k ∧ (U l k < U l i ∨ (U l k = U l i ∧ i < k))) := by
  unfold bf Od.tie kb
  simp only [Bool.or_eq_true, Bool.and_eq_true, Bool.not_eq_true', decide_eq_true_eq, decide_eq_false_iff_not]
  omega
theorem sto (l : List Of) : Od.Sto (bf l) := Od.sto_tie (kb1 l) (kb2 l) (kb3 l)
def ord (l : List Of) : List Nat := Od.srt (bf l) l.length
/-- an order by prices -/
def ByPr (l : List Of) (b : Nat → Nat → Bool) : Prop := ∀ i k, b i k = true → pr l i ≤ pr l k
theorem byB (l : List Of) : ByPr l (bf l) := fun i k h => by have := (bf_iff l i k).1 h; omega
theorem byO (l : List Of) : ByPr l (O.bf l) := fun i k h => by have := (O.bf_iff l i k).1 h; unfold pr; omega
/-- units of those that cost no more than a limit -/
def V (l : List Of) (p : Int) (i : Nat) : Int := if pr l i ≤ p then U l i else 0
theorem V_bd {l : List Of} (ok : Oks l) (p : Int) : ∀ i, i < l.length → 0 ≤ V l p i := fun i hi => by
  have := U_bd ok hi
  unfold V; split <;> omega
theorem V_le {l : List Of} (ok : Oks l) (p : Int) {i : Nat} (hi : i < l.length) : V l p i ≤ U l i := by
  have := U_bd ok hi
  unfold V; split <;> omega
theorem ahd_V {l : List Of} {b : Nat → Nat → Bool} (h : ByPr l b) {p : Int} {i : Nat} (hi : pr l i ≤ p) : Gr.ahd (V l p) b l.length i = Gr.ahd (U l) b l.length i := by
  unfold Gr.ahd
  congr 1
  refine List.map_congr_left fun q hq => ?_
  have := h q i (List.mem_filter.1 hq).2
  unfold V
  rw [if_pos (by omega)]
theorem tk_V {l : List Of} {b : Nat → Nat → Bool} (h : ByPr l b) {p m : Int} {i : Nat} (hi : pr l i ≤ p) : Gr.tk (V l p) b l.length m i = Gr.tk (U l) b l.length m i := by
  unfold Gr.tk
  rw [ahd_V h hi, show V l p i = U l i from if_pos hi]
theorem tk_V0 {l : List Of} (ok : Oks l) {b : Nat → Nat → Bool} {p m : Int} {i : Nat} (hl : i < l.length) (hi : ¬ pr l i ≤ p) : Gr.tk (V l p) b l.length m i = 0 := by
  have t := Gr.tk_bd (u := V l p) (bf := b) (n := l.length) (m := m) (V_bd ok p) hl
  rw [show V l p i = 0 from if_neg hi] at t
  omega
/-- all units up to a limit -/
def tot (l : List Of) (p : Int) : Int := Sg l.length (V l p)
theorem tot_bd {l : List Of} (ok : Oks l) (p : Int) : 0 ≤ tot l p ∧ tot l p ≤ 42949672960 := by
  refine ⟨Sg_nn (V_bd ok p), ?_⟩
  have h1 : tot l p ≤ Sg l.length (U l) := Sg_le fun i hi => V_le ok p hi
  have h2 : Sg l.length (U l) = Sh.sm (us l) := by unfold Sg; rw [us_range]
  have h3 := us_sum ok l.length
  rw [List.take_of_length_le (by rw [us_len]; exact Nat.le_refl _)] at h3
  omega
theorem tot_mono {l : List Of} (ok : Oks l) {p q : Int} (h : p ≤ q) : tot l p ≤ tot l q := Sg_le fun i hi => by
  have := U_bd ok hi
  unfold V
  (repeat' split) <;> omega
theorem tot_all {l : List Of} (ok : Oks l) {p : Int} (h : 1099511627776 ≤ p) : tot l p = Sh.sm (us l) := by
  have h2 : Sg l.length (U l) = Sh.sm (us l) := by unfold Sg; rw [us_range]
  rw [← h2]
  exact Sg_eq fun i hi => if_pos (by have := (pr_bd ok hi).2; unfold pr; omega)
/-- what is taken, and what is not there -/
def tak (l : List Of) (m p : Int) : List Int := Gr.all (V l p) (bf l) l.length m
def lef (l : List Of) (m p : Int) : Int := if m - tot l p < 0 then 0 else m - tot l p
theorem lef_end (l : List Of) (m p : Int) : Gr.lf (V l p) (bf l) l.length m l.length = lef l m p := Gr.lf_end (sto l)
theorem tak_len (l : List Of) (m p : Int) : (tak l m p).length = l.length := Gr.all_len
theorem tak_at {l : List Of} {m p : Int} {i : Nat} (h : i < l.length) : (tak l m p).getD i default = Gr.tk (V l p) (bf l) l.length m i := Gr.all_at h
theorem tak_sum {l : List Of} {m p : Int} (ok : Oks l) (hm : 0 ≤ m) : Sh.sm (tak l m p) = m - lef l m p := by
  rw [← lef_end]
  exact Gr.all_sum (sto l) hm (V_bd ok p)
/-- nothing more comes behind k places -/
theorem stop {u : Nat → Int} {b : Nat → Nat → Bool} {n : Nat} {m : Int} (S : Od.Sto b) (hu : ∀ i, i < n → 0 ≤ u i) {k : Nat} (hk : k ≤ n) (h : ∀ j, k ≤ j → j < n → u ((Od.srt b n).getD j default) = 0 ∨ Gr.lf u b n m k = 0) : Gr.lf u b n m k = Gr.lf u b n m n ∧ Gr.outs u b n m k = Gr.all u b n m := by
  have st : ∀ j, k ≤ j → j ≤ n → Gr.lf u b n m j = Gr.lf u b n m k := by
    intro j
    induction j with
    | zero => intro h1 _; rw [show k = 0 by omega]
    | succ j ih =>
      intro h1 h2
      by_cases e : k = j + 1
      · rw [e]
      · have i1 := ih (by omega) (by omega)
        have i2 := Gr.lf_succ (m := m) S (show j < n by omega) hu
        have i3 := Gr.tk_at (m := m) S (show j < n by omega) hu
        have i4 := hu _ (Od.srt_at (bf := b) (show j < n by omega))
        have i5 := Gr.lf_nn (u := u) (bf := b) (n := n) (m := m) j
        rcases h j (by omega) (by omega) with q | q
        · rw [q] at i3
          split at i3 <;> omega
        · rw [i1, q] at i3
          split at i3 <;> omega
  refine ⟨(st n hk (Nat.le_refl _)).symm, ?_⟩
  unfold Gr.outs Gr.all
  refine List.map_congr_left fun q hq => ?_
  obtain ⟨j, hj, rfl⟩ := Od.srt_ix (bf := b) (List.mem_range.1 hq)
  by_cases e : (Od.srt b n).getD j default ∈ (Od.srt b n).take k
  · rw [if_pos e]
  · rw [if_neg e]
    have hkj : k ≤ j := by
      rcases Nat.lt_or_ge j k with z | z
      · exact absurd ((Od.mem_take hk hj).2 z) e
      · exact z
    have i2 := Gr.lf_succ (m := m) S hj hu
    rw [st j hkj (by omega), st (j + 1) (by omega) (by omega)] at i2
    omega
/-! the one price -/
/-- the place that makes it enough -/
theorem enough {l : List Of} {m : Int} (ok : Oks l) (hm : 1 ≤ m) (hs : m ≤ Sh.sm (us l)) : ∃ k, k < l.length ∧ Gr.lf (U l) (bf l) l.length m (k + 1) = 0 ∧ 0 < Gr.lf (U l) (bf l) l.length m k := by
  have e0 : Gr.lf (U l) (bf l) l.length m 0 = m := Gr.lf_0 (by omega)
  have en : Gr.lf (U l) (bf l) l.length m l.length = 0 := by
    rw [Gr.lf_end (sto l), us_range]; split <;> omega
  have go : ∀ n, n ≤ l.length → Gr.lf (U l) (bf l) l.length m n = 0 → ∃ k, k < n ∧ Gr.lf (U l) (bf l) l.length m (k + 1) = 0 ∧ 0 < Gr.lf (U l) (bf l) l.length m k := by
    intro n
    induction n with
    | zero => intro _ h; omega
    | succ n ih =>
      intro h1 h2
      by_cases z : Gr.lf (U l) (bf l) l.length m n = 0
      · obtain ⟨k, hk, r⟩ := ih (by omega) z
        exact ⟨k, by omega, r⟩
      · have := Gr.lf_nn (u := U l) (bf := bf l) (n := l.length) (m := m) n
        exact ⟨n, by omega, h2, by omega⟩
  exact go l.length (Nat.le_refl _) en
/-- how many there are below a price, above which k places stand -/
theorem tot_below {l : List Of} (ok : Oks l) {k : Nat} (hk : k < l.length) {p : Int} (hp : p < pr l ((ord l).getD k default)) : tot l p ≤ Sh.sm (((ord l).take k).map (U l)) := by
  have e : tot l p = Sh.sm ((ord l).map (V l p)) := by
    unfold tot Sg
    exact Sh.sm_perm ((Od.srt_perm (bf l) l.length).symm.map _)
  have sp : Sh.sm ((ord l).map (V l p)) = Sh.sm (((ord l).take k).map (V l p)) + Sh.sm (((ord l).drop k).map (V l p)) := by
    rw [← Sh.sm_app, ← List.map_append, List.take_append_drop]
  have z : Sh.sm (((ord l).drop k).map (V l p)) = 0 := by
    have : ∀ x ∈ ((ord l).drop k).map (V l p), x = 0 := fun x hx => by
      obtain ⟨q, hq, rfl⟩ := List.mem_map.1 hx
      obtain ⟨i, hi, rfl⟩ := List.getElem_of_mem hq
      rw [List.getElem_drop]
      have hki : k + i < l.length := by rw [List.length_drop, show (ord l).length = l.length from Od.srt_len _ _] at hi; omega
      refine if_neg ?_
      rw [← getD_at (l := ord l) (by rw [show (ord l).length = l.length from Od.srt_len _ _]; exact hki)]
      by_cases w : i = 0
      · subst w; show ¬ pr l ((ord l).getD k default) ≤ p; omega
      · have := byB l _ _ (Od.bf_of (sto l) (show k < k + i by omega) hki)
        have h2 : pr l ((ord l).getD k default) ≤ pr l ((ord l).getD (k + i) default) := this
        omega
    have sz : ∀ t : List Int, (∀ x ∈ t, x = 0) → Sh.sm t = 0 := fun t => by
      induction t with
      | nil => intro _; rfl
      | cons x r ih => intro h; have := ih fun y hy => h y (by simp [hy]); have := h x (by simp); simp only [Sh.sm]; omega
    exact sz _ this
  have le : ∀ t : List Nat, (∀ x ∈ t, x < l.length) → Sh.sm (t.map (V l p)) ≤ Sh.sm (t.map (U l)) := fun t => by
    induction t with
    | nil => intro _; exact Int.le_refl _
    | cons x r ih =>
      intro h
      have a := ih fun y hy => h y (by simp [hy])
      have b := V_le ok p (h x (by simp))
      simp only [List.map_cons, Sh.sm]; omega
  have := le ((ord l).take k) fun x hx => Od.srt_lt (List.take_subset _ _ hx)
  omega
/-- how many there are up to the price of a place -/
theorem tot_upto {l : List Of} (ok : Oks l) {k : Nat} (hk : k < l.length) : Sh.sm (((ord l).take (k + 1)).map (U l)) ≤ tot l (pr l ((ord l).getD k default)) := by
  have e : tot l (pr l ((ord l).getD k default)) = Sh.sm ((ord l).map (V l (pr l ((ord l).getD k default)))) := by
    unfold tot Sg
    exact Sh.sm_perm ((Od.srt_perm (bf l) l.length).symm.map _)
  have sp : Sh.sm ((ord l).map (V l (pr l ((ord l).getD k default)))) = Sh.sm (((ord l).take (k + 1)).map (V l (pr l ((ord l).getD k default)))) + Sh.sm (((ord l).drop (k + 1)).map (V l (pr l ((ord l).getD k default)))) := by
    rw [← Sh.sm_app, ← List.map_append, List.take_append_drop]
  have nn : 0 ≤ Sh.sm (((ord l).drop (k + 1)).map (V l (pr l ((ord l).getD k default)))) := Sh.sm_nonneg fun x hx => by
    obtain ⟨q, hq, rfl⟩ := List.mem_map.1 hx
    exact V_bd ok _ q (Od.srt_lt (List.drop_subset _ _ hq))
  have eq : ((ord l).take (k + 1)).map (V l (pr l ((ord l).getD k default))) = ((ord l).take (k + 1)).map (U l) := List.map_congr_left fun x hx => by
    obtain ⟨i, hi, rfl⟩ := List.getElem_of_mem hx
    rw [List.length_take, show (ord l).length = l.length from Od.srt_len _ _] at hi
    rw [List.getElem_take, ← getD_at (l := ord l) (by rw [show (ord l).length = l.length from Od.srt_len _ _]; omega)]
    refine if_pos ?_
    by_cases w : i = k
    · subst w; exact Int.le_refl _
    · exact byB l _ _ (Od.bf_of (sto l) (show i < k by omega) hk)
  rw [eq] at sp
  omega
end B
end Go.Proofs.Ytcdlhfbpmpjfkaa

/- What the functions of buying in answer: the order of offers. -/
namespace Go.Proofs.Ytcdlhfbpmpjfkaa
open Go Go.Sort Go.RowKit V
set_option maxRecDepth 100000
set_option linter.unusedVariables false
set_option linter.unusedSimpArgs false
set_option maxHeartbeats 4000000
def orI (u v : Int) : Int := if u = 0 then v else u
theorem v_or (u v : Int) : V.Fn Try.prog 43 [.arr 1 2 (ga e1 [u, v])] [.one (.ref 0)] (.int .i64 (orI u v)) := by
  have o1 : ¬ u = 0 → orI u v = u := fun h => if_neg h
  have o2 : u = 0 → orI u v = v := fun h => if_pos h
  refine V.Fn.mk_ V.Tok V.mixed Try.func43 rfl Try.ntmps43 (by kernel_rfl) rfl rfl ?_
  repeat' ((conv => whnf); first | refine V.NCond.mk ?_ | refine V.NIf.not_ ?_ | refine V.NIf.dec_ ?_ | refine V.NIf.no (by omega) ?_ | refine V.NIf.yes (by omega) ?_ | refine V.NIf.mk (fun _ => ?_) (fun _ => ?_) | refine V.NWrap.ok (by omega) (by omega) ?_ | refine V.NWrap.u64 (by omega) (by omega) ?_ | refine V.NLt.mk (by omega) ?_ | refine V.NBoth.mk ?_ ?_ | refine V.NTF.yes (by omega) ?_ | refine V.NTF.no (by omega) ?_ | refine V.NTF.dec ?_ | refine V.NDraw.q (by exact rfl) (by kernel_rfl) ?_ | refine V.NApp.one (by first | omega | (simp; omega)) (by first | omega | (simp; omega)) ?_ | (refine V.NDraw.any (by kernel_rfl) ?_) | fail)
  all_goals (conv => whnf)
  refine V.NLoop.auto (fun (k : Nat) => [(8, .one (.val (.int .i64 k)))]) (fun (k : Nat) => []) [] [] (fun (k : Nat) => 2 - k) (fun (k : Nat) => k ≤ 2 ∧ (0 < k → u = 0) ∧ (1 < k → v = 0)) 0 ⟨Nat.zero_le _, fun h => absurd h (by decide), fun h => absurd h (by decide)⟩ (by repeat' (first | exact rfl | exact Iff.rfl | exact trivial | exact (fun _ _ => rfl) | exact (fun _ h => absurd h (Nat.not_lt_zero _)) | refine ⟨?_, ?_⟩ | exact Iff.rfl | exact congrArg (fun z => V.SV.one (V.At.val (Value.int .i64 z))) (by omega))) (by repeat' (first | exact rfl | exact Iff.rfl | exact trivial | exact (fun _ _ => rfl) | exact (fun _ h => absurd h (Nat.not_lt_zero _)) | refine ⟨?_, ?_⟩ | exact Iff.rfl | exact congrArg (fun z => V.SV.one (V.At.val (Value.int .i64 z))) (by omega))) (fun _ => ⟨rfl, rfl⟩) ?_; (conv => whnf); refine ⟨⟨rfl, rfl⟩, ?_⟩
  rintro k ⟨hk, h1, h2⟩
  match k, hk with
  | 0, _ =>
    repeat' ((conv => whnf); first | refine V.NCond.mk ?_ | refine V.NIf.not_ ?_ | refine V.NIf.dec_ ?_ | refine V.NIf.no (by omega) ?_ | refine V.NIf.yes (by omega) ?_ | refine V.NIf.mk (fun _ => ?_) (fun _ => ?_) | refine V.NWrap.ok (by omega) (by omega) ?_ | refine V.NWrap.u64 (by omega) (by omega) ?_ | refine V.NLt.mk (by omega) ?_ | refine V.NBoth.mk ?_ ?_ | refine V.NTF.yes (by omega) ?_ | refine V.NTF.no (by omega) ?_ | refine V.NTF.dec ?_ | refine V.NDraw.q (by exact rfl) (by kernel_rfl) ?_ | refine V.NApp.one (by first | omega | (simp; omega)) (by first | omega | (simp; omega)) ?_ | (refine NIdx.mk ⟨0, rfl, by omega, ?_⟩) | (refine V.NDraw.any (by kernel_rfl) ?_) | fail)
    all_goals (conv => whnf)
    all_goals first
      | exact V.fin1 (o1 (by assumption))
      | (rename_i q; exact V.NBack.at_ 1 [] ⟨by omega, fun _ => q, fun h => absurd h (by decide)⟩ (by omega) (by repeat' (first | exact rfl | exact Iff.rfl | exact trivial | exact (fun _ _ => rfl) | exact (fun _ h => absurd h (Nat.not_lt_zero _)) | refine ⟨?_, ?_⟩ | exact Iff.rfl | exact congrArg (fun z => V.SV.one (V.At.val (Value.int .i64 z))) (by omega))) rfl (by repeat' (first | exact rfl | exact Iff.rfl | exact trivial | exact (fun _ _ => rfl) | exact (fun _ h => absurd h (Nat.not_lt_zero _)) | refine ⟨?_, ?_⟩ | exact Iff.rfl | exact congrArg (fun z => V.SV.one (V.At.val (Value.int .i64 z))) (by omega))) (by repeat' (first | exact rfl | exact Iff.rfl | exact trivial | exact (fun _ _ => rfl) | exact (fun _ h => absurd h (Nat.not_lt_zero _)) | refine ⟨?_, ?_⟩ | exact Iff.rfl | exact congrArg (fun z => V.SV.one (V.At.val (Value.int .i64 z))) (by omega))) (by repeat' (first | exact rfl | exact Iff.rfl | exact trivial | exact (fun _ _ => rfl) | exact (fun _ h => absurd h (Nat.not_lt_zero _)) | refine ⟨?_, ?_⟩ | exact Iff.rfl | exact congrArg (fun z => V.SV.one (V.At.val (Value.int .i64 z))) (by omega))))
  | 1, _ =>
    have := h1 (by decide)
    repeat' ((conv => whnf); first | refine V.NCond.mk ?_ | refine V.NIf.not_ ?_ | refine V.NIf.dec_ ?_ | refine V.NIf.no (by omega) ?_ | refine V.NIf.yes (by omega) ?_ | refine V.NIf.mk (fun _ => ?_) (fun _ => ?_) | refine V.NWrap.ok (by omega) (by omega) ?_ | refine V.NWrap.u64 (by omega) (by omega) ?_ | refine V.NLt.mk (by omega) ?_ | refine V.NBoth.mk ?_ ?_ | refine V.NTF.yes (by omega) ?_ | refine V.NTF.no (by omega) ?_ | refine V.NTF.dec ?_ | refine V.NDraw.q (by exact rfl) (by kernel_rfl) ?_ | refine V.NApp.one (by first | omega | (simp; omega)) (by first | omega | (simp; omega)) ?_ | (refine NIdx.mk ⟨1, rfl, by omega, ?_⟩) | (refine V.NDraw.any (by kernel_rfl) ?_) | fail)
    all_goals (conv => whnf)
    all_goals first
      | exact V.fin1 (o2 this)
      | (rename_i q; exact V.NBack.at_ 2 [] ⟨by omega, fun _ => this, fun _ => q⟩ (by omega) (by repeat' (first | exact rfl | exact Iff.rfl | exact trivial | exact (fun _ _ => rfl) | exact (fun _ h => absurd h (Nat.not_lt_zero _)) | refine ⟨?_, ?_⟩ | exact Iff.rfl | exact congrArg (fun z => V.SV.one (V.At.val (Value.int .i64 z))) (by omega))) rfl (by repeat' (first | exact rfl | exact Iff.rfl | exact trivial | exact (fun _ _ => rfl) | exact (fun _ h => absurd h (Nat.not_lt_zero _)) | refine ⟨?_, ?_⟩ | exact Iff.rfl | exact congrArg (fun z => V.SV.one (V.At.val (Value.int .i64 z))) (by omega))) (by repeat' (first | exact rfl | exact Iff.rfl | exact trivial | exact (fun _ _ => rfl) | exact (fun _ h => absurd h (Nat.not_lt_zero _)) | refine ⟨?_, ?_⟩ | exact Iff.rfl | exact congrArg (fun z => V.SV.one (V.At.val (Value.int .i64 z))) (by omega))) (by repeat' (first | exact rfl | exact Iff.rfl | exact trivial | exact (fun _ _ => rfl) | exact (fun _ h => absurd h (Nat.not_lt_zero _)) | refine ⟨?_, ?_⟩ | exact Iff.rfl | exact congrArg (fun z => V.SV.one (V.At.val (Value.int .i64 z))) (by omega))))
  | 2, _ =>
    have a := h1 (by decide)
    have b := h2 (by decide)
    repeat' ((conv => whnf); first | refine V.NCond.mk ?_ | refine V.NIf.not_ ?_ | refine V.NIf.dec_ ?_ | refine V.NIf.no (by omega) ?_ | refine V.NIf.yes (by omega) ?_ | refine V.NIf.mk (fun _ => ?_) (fun _ => ?_) | refine V.NWrap.ok (by omega) (by omega) ?_ | refine V.NWrap.u64 (by omega) (by omega) ?_ | refine V.NLt.mk (by omega) ?_ | refine V.NBoth.mk ?_ ?_ | refine V.NTF.yes (by omega) ?_ | refine V.NTF.no (by omega) ?_ | refine V.NTF.dec ?_ | refine V.NDraw.q (by exact rfl) (by kernel_rfl) ?_ | refine V.NApp.one (by first | omega | (simp; omega)) (by first | omega | (simp; omega)) ?_ | (refine V.NDraw.any (by kernel_rfl) ?_) | fail)
    all_goals (conv => whnf)
    exact V.fin1 ((o2 a).trans b)
theorem v_ordCmp (l : List Of) (i k : Nat) (hi : i < l.length) (hk : k < l.length) : V.Fn Try.prog 42 [.cel [.ref 1], .arr 3 l.length (ga encO l)] [.one (.val (.int .i64 ((i : Int)))), .one (.val (.int .i64 ((k : Int)))), .one (.ptr 0 0 0 0)] (.int .i64 (orI (cmpI (l.getD i default).pr (l.getD k default).pr) (cmpI (l.getD k default).un (l.getD i default).un))) := by
  have c1 := v_compare (l.getD i default).pr (l.getD k default).pr
  have c2 := v_compare (l.getD k default).un (l.getD i default).un
  have c3 := v_or (cmpI (l.getD i default).pr (l.getD k default).pr) (cmpI (l.getD k default).un (l.getD i default).un)
  generalize cmpI (l.getD i default).pr (l.getD k default).pr = C1 at *
  generalize cmpI (l.getD k default).un (l.getD i default).un = C2 at *
  refine V.Fn.mk_ V.Tok V.mixed Try.func42 rfl Try.ntmps42 (by kernel_rfl) rfl rfl ?_
  repeat' ((conv => whnf); first | refine V.NCond.mk ?_ | refine V.NIf.not_ ?_ | refine V.NIf.dec_ ?_ | refine V.NIf.no (by omega) ?_ | refine V.NIf.yes (by omega) ?_ | refine V.NIf.mk (fun _ => ?_) (fun _ => ?_) | refine V.NWrap.ok (by omega) (by omega) ?_ | refine V.NWrap.u64 (by omega) (by omega) ?_ | refine V.NLt.mk (by omega) ?_ | refine V.NBoth.mk ?_ ?_ | refine V.NTF.yes (by omega) ?_ | refine V.NTF.no (by omega) ?_ | refine V.NTF.dec ?_ | refine V.NDraw.q (by exact rfl) (by kernel_rfl) ?_ | refine V.NApp.one (by first | omega | (simp; omega)) (by first | omega | (simp; omega)) ?_ | (refine NIdx.mk ⟨i, rfl, by omega, ?_⟩) | (refine NIdx.mk ⟨k, rfl, by omega, ?_⟩) | (first | refine V.Fn.k0 (c1) rfl ?_ | refine V.Fn.q0 (c1) rfl ?_ | refine V.Fn.a0 (c1) rfl ?_) | (first | refine V.Fn.k0 (c2) rfl ?_ | refine V.Fn.q0 (c2) rfl ?_ | refine V.Fn.a0 (c2) rfl ?_) | ((first | (first | refine V.Fn.k (c3) [2] rfl ?_ ?_ | refine V.Fn.q (c3) [2] rfl ?_ ?_ | refine V.Fn.a (c3) [2] rfl ?_ ?_); · ((repeat' (first | exact rfl | exact Iff.rfl | exact trivial | exact (fun _ _ => rfl) | exact (fun _ h => absurd h (Nat.not_lt_zero _)) | refine ⟨?_, ?_⟩ | exact Iff.rfl | exact congrArg (fun z => V.SV.one (V.At.val (Value.int .i64 z))) (by omega))); done) | (first | refine V.Fn.k (c3) [3] rfl ?_ ?_ | refine V.Fn.q (c3) [3] rfl ?_ ?_ | refine V.Fn.a (c3) [3] rfl ?_ ?_); · ((repeat' (first | exact rfl | exact Iff.rfl | exact trivial | exact (fun _ _ => rfl) | exact (fun _ h => absurd h (Nat.not_lt_zero _)) | refine ⟨?_, ?_⟩ | exact Iff.rfl | exact congrArg (fun z => V.SV.one (V.At.val (Value.int .i64 z))) (by omega))); done))) | (refine V.NDraw.any (by kernel_rfl) ?_) | fail)
  all_goals (conv => whnf)
  all_goals exact V.fin1 rfl
theorem cmpI_lt' (u v : Int) : decide (cmpI u v < 0) = decide (u < v) := by
  unfold cmpI
  by_cases q : u < v
  · rw [if_pos q]; simp [q]
  · rw [if_neg q]
    by_cases q2 : v < u
    · rw [if_pos q2]; simp; omega
    · rw [if_neg q2]; simp; omega
theorem orI_lt (a b c d : Int) : decide (orI (cmpI a b) (cmpI c d) < 0) = decide (a < b ∨ (a = b ∧ c < d)) := by
  have h1 := cmpI_lt' a b
  have h2 := cmpI_lt' c d
  rw [decide_eq_decide] at h1 h2 ⊢
  have z : cmpI a b = 0 ↔ a = b := by
    unfold cmpI
    by_cases q : a < b
    · rw [if_pos q]; omega
    · rw [if_neg q]
      by_cases q2 : b < a
      · rw [if_pos q2]; omega
      · rw [if_neg q2]; omega
  unfold orI
  by_cases q : cmpI a b = 0
  · rw [if_pos q]
    have := z.1 q
    omega
  · rw [if_neg q]
    have : ¬ a = b := fun e => q (z.2 e)
    omega
/-! nothing to sort -/
theorem v_insI0 (nx : Nat) (O : Obs) (hT : Tail (nx + 1) O) (g : FuncId) (cp : Nat) (hcl : Nat.blt cp (nx + 1) = true) (get : Nat → List Go.Value) :
    Fam Try.prog 56 [.one (.ref 0), .one (.val (.int .i64 0)), .one (.val (.int .i64 0)), .one (.clo g [cp])] 3 1 0 get nx O (fun r => True) := by
  refine Fam.mk hT ?_
  refine V.NCall.inl (f := 56) V.Tok V.mixed Try.func56 rfl Try.ntmps56 (by kernel_rfl) rfl ?_
  repeat' ((conv => whnf); first | refine V.NCond.mk ?_ | refine V.NIf.not_ ?_ | refine V.NIf.dec_ ?_ | refine V.NIf.no (by omega) ?_ | refine V.NIf.yes (by omega) ?_ | refine V.NIf.mk (fun _ => ?_) (fun _ => ?_) | refine V.NWrap.ok (by omega) (by omega) ?_ | refine V.NWrap.u64 (by omega) (by omega) ?_ | refine V.NLt.mk (by omega) ?_ | refine V.NBoth.mk ?_ ?_ | refine V.NTF.yes (by omega) ?_ | refine V.NTF.no (by omega) ?_ | refine V.NTF.dec ?_ | refine V.NDraw.q (by exact rfl) (by kernel_rfl) ?_ | refine V.NApp.one (by first | omega | (simp; omega)) (by first | omega | (simp; omega)) ?_ | (refine V.NDraw.any (by kernel_rfl) ?_) | fail)
  all_goals (conv => whnf)
  refine NLoop.fam hT (fun (s : Nat) => [(8, .one (.val (.int .i64 1)))]) [(0, .one (.ref 0)), (1, .one (.val (.int .i64 0))), (2, .one (.val (.int .i64 0))), (3, .one (.clo g [cp]))] 3 1 0 (fun s => get) (fun s => 0) (fun s => True) 0 trivial [(0, _)] rfl rfl rfl (fun k hk => rfl) (by repeat' (first | exact rfl | exact Iff.rfl | exact trivial | exact (fun _ _ => rfl) | exact (fun _ h => absurd h (Nat.not_lt_zero _)) | refine ⟨?_, ?_⟩ | exact Iff.rfl | exact congrArg (fun z => V.SV.one (V.At.val (Value.int .i64 z))) (by omega))) (fun _ => rfl) (by first | rfl | simpa [envB, svB, atB] using hcl) ?_
  rintro s _
  repeat' ((conv => whnf); first | refine V.NCond.mk ?_ | refine V.NIf.not_ ?_ | refine V.NIf.dec_ ?_ | refine V.NIf.no (by omega) ?_ | refine V.NIf.yes (by omega) ?_ | refine V.NIf.mk (fun _ => ?_) (fun _ => ?_) | refine V.NWrap.ok (by omega) (by omega) ?_ | refine V.NWrap.u64 (by omega) (by omega) ?_ | refine V.NLt.mk (by omega) ?_ | refine V.NBoth.mk ?_ ?_ | refine V.NTF.yes (by omega) ?_ | refine V.NTF.no (by omega) ?_ | refine V.NTF.dec ?_ | refine V.NDraw.q (by exact rfl) (by kernel_rfl) ?_ | refine V.NApp.one (by first | omega | (simp; omega)) (by first | omega | (simp; omega)) ?_ | (refine V.NDraw.any (by kernel_rfl) ?_) | fail)
  all_goals (conv => whnf)
  exact ⟨rfl, rfl, [(0, _)], _, rfl, rfl, rfl, trivial⟩
theorem v_stabI0 (nx : Nat) (O : Obs) (hT : Tail (nx + 1) O) (g : FuncId) (cp : Nat) (hcl : Nat.blt cp (nx + 1) = true) (get : Nat → List Go.Value) :
    Fam Try.prog 47 [.one (.ref 0), .one (.val (.int .i64 0)), .one (.clo g [cp])] 3 1 0 get nx O (fun r => True) := by
  have c := v_insI0 nx O hT g cp hcl get
  refine Fam.mk hT ?_
  refine V.NCall.inl (f := 47) V.Tok V.mixed Try.func47 rfl Try.ntmps47 (by kernel_rfl) rfl ?_
  repeat' ((conv => whnf); first | refine V.NCond.mk ?_ | refine V.NIf.not_ ?_ | refine V.NIf.dec_ ?_ | refine V.NIf.no (by omega) ?_ | refine V.NIf.yes (by omega) ?_ | refine V.NIf.mk (fun _ => ?_) (fun _ => ?_) | refine V.NWrap.ok (by omega) (by omega) ?_ | refine V.NWrap.u64 (by omega) (by omega) ?_ | refine V.NLt.mk (by omega) ?_ | refine V.NBoth.mk ?_ ?_ | refine V.NTF.yes (by omega) ?_ | refine V.NTF.no (by omega) ?_ | refine V.NTF.dec ?_ | refine V.NDraw.q (by exact rfl) (by kernel_rfl) ?_ | refine V.NApp.one (by first | omega | (simp; omega)) (by first | omega | (simp; omega)) ?_ | (refine V.NDraw.any (by kernel_rfl) ?_) | fail)
  all_goals (conv => whnf)
  refine NLoop.fam hT (fun (s : Nat) => [(7, .one (.val (.int .i64 0))), (8, .one (.val (.int .i64 20)))]) [(0, .one (.ref 0)), (1, .one (.val (.int .i64 0))), (2, .one (.clo g [cp])), (6, .one (.val (.int .i64 20)))] 3 1 0 (fun s => get) (fun s => 0) (fun s => True) 0 trivial [(0, _)] rfl rfl rfl (fun k hk => rfl) (by repeat' (first | exact rfl | exact Iff.rfl | exact trivial | exact (fun _ _ => rfl) | exact (fun _ h => absurd h (Nat.not_lt_zero _)) | refine ⟨?_, ?_⟩ | exact Iff.rfl | exact congrArg (fun z => V.SV.one (V.At.val (Value.int .i64 z))) (by omega))) (fun _ => rfl) (by first | rfl | simpa [envB, svB, atB] using hcl) ?_
  rintro s _
  repeat' ((conv => whnf); first | refine V.NCond.mk ?_ | refine V.NIf.not_ ?_ | refine V.NIf.dec_ ?_ | refine V.NIf.no (by omega) ?_ | refine V.NIf.yes (by omega) ?_ | refine V.NIf.mk (fun _ => ?_) (fun _ => ?_) | refine V.NWrap.ok (by omega) (by omega) ?_ | refine V.NWrap.u64 (by omega) (by omega) ?_ | refine V.NLt.mk (by omega) ?_ | refine V.NBoth.mk ?_ ?_ | refine V.NTF.yes (by omega) ?_ | refine V.NTF.no (by omega) ?_ | refine V.NTF.dec ?_ | refine V.NDraw.q (by exact rfl) (by kernel_rfl) ?_ | refine V.NApp.one (by first | omega | (simp; omega)) (by first | omega | (simp; omega)) ?_ | (refine Fam.use c hT [(0, _)] rfl rfl rfl (fun k hk => rfl) ?_; rintro g1 _) | (refine V.NDraw.any (by kernel_rfl) ?_) | fail)
  all_goals (conv => whnf)
  refine NLoop.fam hT (fun (s : Nat) => [(6, .one (.val (.int .i64 20)))]) [(0, .one (.ref 0)), (1, .one (.val (.int .i64 0))), (2, .one (.clo g [cp]))] 3 1 0 (fun s => g1) (fun s => 0) (fun s => True) 0 trivial [(0, _)] rfl rfl rfl (fun k hk => rfl) (by repeat' (first | exact rfl | exact Iff.rfl | exact trivial | exact (fun _ _ => rfl) | exact (fun _ h => absurd h (Nat.not_lt_zero _)) | refine ⟨?_, ?_⟩ | exact Iff.rfl | exact congrArg (fun z => V.SV.one (V.At.val (Value.int .i64 z))) (by omega))) (fun _ => rfl) (by first | rfl | simpa [envB, svB, atB] using hcl) ?_
  rintro s _
  repeat' ((conv => whnf); first | refine V.NCond.mk ?_ | refine V.NIf.not_ ?_ | refine V.NIf.dec_ ?_ | refine V.NIf.no (by omega) ?_ | refine V.NIf.yes (by omega) ?_ | refine V.NIf.mk (fun _ => ?_) (fun _ => ?_) | refine V.NWrap.ok (by omega) (by omega) ?_ | refine V.NWrap.u64 (by omega) (by omega) ?_ | refine V.NLt.mk (by omega) ?_ | refine V.NBoth.mk ?_ ?_ | refine V.NTF.yes (by omega) ?_ | refine V.NTF.no (by omega) ?_ | refine V.NTF.dec ?_ | refine V.NDraw.q (by exact rfl) (by kernel_rfl) ?_ | refine V.NApp.one (by first | omega | (simp; omega)) (by first | omega | (simp; omega)) ?_ | (refine V.NDraw.any (by kernel_rfl) ?_) | fail)
  all_goals (conv => whnf)
  exact ⟨rfl, rfl, [(0, _)], _, rfl, rfl, rfl, trivial⟩
theorem v_sortI0 (nx : Nat) (O : Obs) (hT : Tail (nx + 1) O) (g : FuncId) (cp : Nat) (hcl : Nat.blt cp (nx + 1) = true) (get : Nat → List Go.Value) :
    Fam Try.prog 36 [.one (.ref 0), .one (.clo g [cp])] 3 1 0 get nx O (fun r => True) := by
  have c := v_stabI0 nx O hT g cp hcl get
  refine Fam.mk hT ?_
  refine V.NCall.inl (f := 36) V.Tok V.mixed Try.func36 rfl Try.ntmps36 (by kernel_rfl) rfl ?_
  repeat' ((conv => whnf); first | refine V.NCond.mk ?_ | refine V.NIf.not_ ?_ | refine V.NIf.dec_ ?_ | refine V.NIf.no (by omega) ?_ | refine V.NIf.yes (by omega) ?_ | refine V.NIf.mk (fun _ => ?_) (fun _ => ?_) | refine V.NWrap.ok (by omega) (by omega) ?_ | refine V.NWrap.u64 (by omega) (by omega) ?_ | refine V.NLt.mk (by omega) ?_ | refine V.NBoth.mk ?_ ?_ | refine V.NTF.yes (by omega) ?_ | refine V.NTF.no (by omega) ?_ | refine V.NTF.dec ?_ | refine V.NDraw.q (by exact rfl) (by kernel_rfl) ?_ | refine V.NApp.one (by first | omega | (simp; omega)) (by first | omega | (simp; omega)) ?_ | (refine Fam.use c hT [(0, _)] rfl rfl rfl (fun k hk => rfl) ?_; rintro g1 _) | (refine V.NDraw.any (by kernel_rfl) ?_) | fail)
  all_goals (conv => whnf)
  exact ⟨rfl, rfl, [(0, _)], _, rfl, rfl, rfl, trivial⟩
theorem v_ordered (l : List Of) (le : l.length ≤ 40) : V.FnR Try.prog 26 [.arr 3 l.length (ga encO l)] [.one (.ref 0)] (.one (.ref 1)) [.row 3 1 (nats (B.ord l)).length (ga e1 (nats (B.ord l)))] := by
  have lD : (nats (B.ord l)).length = l.length := by rw [nats_len]; exact Od.srt_len _ _
  have li := ints_len l.length
  have ia := fun k => @ints_at l.length k
  rw [lD]
  refine V.FnR.mk_ V.Tok V.mixed Try.func26 rfl Try.ntmps26 (by kernel_rfl) rfl rfl rfl rfl ?_
  repeat' ((conv => whnf); first | refine V.NCond.mk ?_ | refine V.NIf.not_ ?_ | refine V.NIf.dec_ ?_ | refine V.NIf.no (by omega) ?_ | refine V.NIf.yes (by omega) ?_ | refine V.NIf.mk (fun _ => ?_) (fun _ => ?_) | refine V.NWrap.ok (by omega) (by omega) ?_ | refine V.NWrap.u64 (by omega) (by omega) ?_ | refine V.NLt.mk (by omega) ?_ | refine V.NBoth.mk ?_ ?_ | refine V.NTF.yes (by omega) ?_ | refine V.NTF.no (by omega) ?_ | refine V.NTF.dec ?_ | refine V.NDraw.q (by exact rfl) (by kernel_rfl) ?_ | refine V.NApp.one (by first | omega | (simp; omega)) (by first | omega | (simp; omega)) ?_ | (refine NMake.mk ⟨l.length, l.length, rfl, rfl, by omega, by omega, by first | omega | decide | (simp; done) | (simp; omega), ?_⟩) | (refine V.NDraw.any (by kernel_rfl) ?_) | fail)
  all_goals (conv => whnf)
  refine V.NLoop.auto (fun (k : Nat) => [(10, .one (.val (.int .i64 k))), (3, .one (.ref 3))]) (fun (k : Nat) => [(3, .row 3 1 l.length (ga e1 (Sh.ow (ints l.length) l.length k)))]) [] [] (fun (k : Nat) => l.length - k) (fun (k : Nat) => k ≤ l.length) 0 (Nat.zero_le _) (by repeat' (first | exact rfl | exact Iff.rfl | exact trivial | exact (fun _ _ => rfl) | exact (fun _ h => absurd h (Nat.not_lt_zero _)) | refine ⟨?_, ?_⟩ | exact Iff.rfl | exact congrArg (fun z => V.SV.one (V.At.val (Value.int .i64 z))) (by omega))) (by (conv => whnf); exact ⟨⟨rfl, rfl, rfl, fun k hk => (by rw [Sh.ow_0, ga_at (by simpa using hk)]; simp; rfl)⟩, trivial⟩) (fun _ => ⟨rfl, rfl⟩) ?_; (conv => whnf); refine ⟨⟨rfl, rfl⟩, ?_⟩
  rintro k hk
  have lo := Sh.ow_len li hk
  by_cases hlt : k < l.length
  · have os := Sh.ow_set li hlt
    rw [ia k hlt] at os
    generalize Sh.ow (ints l.length) l.length k = W at *
    repeat' ((conv => whnf); first | (refine NPut.is_ (en := e1) (l := W) (k : Int) (Sh.ow (ints l.length) l.length (k + 1)) os (by omega) rfl ?_) | refine V.NCond.mk ?_ | refine V.NIf.not_ ?_ | refine V.NIf.dec_ ?_ | refine V.NIf.no (by omega) ?_ | refine V.NIf.yes (by omega) ?_ | refine V.NIf.mk (fun _ => ?_) (fun _ => ?_) | refine V.NWrap.ok (by omega) (by omega) ?_ | refine V.NWrap.u64 (by omega) (by omega) ?_ | refine V.NLt.mk (by omega) ?_ | refine V.NBoth.mk ?_ ?_ | refine V.NTF.yes (by omega) ?_ | refine V.NTF.no (by omega) ?_ | refine V.NTF.dec ?_ | refine V.NDraw.q (by exact rfl) (by kernel_rfl) ?_ | refine V.NApp.one (by first | omega | (simp; omega)) (by first | omega | (simp; omega)) ?_ | (refine NIdx.mk ⟨k, rfl, by omega, ?_⟩) | (refine V.NDraw.any (by kernel_rfl) ?_) | fail)
    all_goals (conv => whnf)
    exact V.NBack.at_ (k + 1) [] (by omega) (by omega) (by repeat' (first | exact rfl | exact Iff.rfl | exact trivial | exact (fun _ _ => rfl) | exact (fun _ h => absurd h (Nat.not_lt_zero _)) | refine ⟨?_, ?_⟩ | exact Iff.rfl | exact congrArg (fun z => V.SV.one (V.At.val (Value.int .i64 z))) (by omega))) rfl (by repeat' (first | exact rfl | exact Iff.rfl | exact trivial | exact (fun _ _ => rfl) | exact (fun _ h => absurd h (Nat.not_lt_zero _)) | refine ⟨?_, ?_⟩ | exact Iff.rfl | exact congrArg (fun z => V.SV.one (V.At.val (Value.int .i64 z))) (by omega))) (by repeat' (first | exact rfl | exact Iff.rfl | exact trivial | exact (fun _ _ => rfl) | exact (fun _ h => absurd h (Nat.not_lt_zero _)) | refine ⟨?_, ?_⟩ | exact Iff.rfl | exact congrArg (fun z => V.SV.one (V.At.val (Value.int .i64 z))) (by omega))) (by repeat' (first | exact rfl | exact Iff.rfl | exact trivial | exact (fun _ _ => rfl) | exact (fun _ h => absurd h (Nat.not_lt_zero _)) | refine ⟨?_, ?_⟩ | exact Iff.rfl | exact congrArg (fun z => V.SV.one (V.At.val (Value.int .i64 z))) (by omega)))
  · obtain rfl : k = l.length := by omega
    rw [Sh.ow_n li]
    by_cases hz : l.length = 0
    · rw [hz]
      have sq := v_sortI0 3 [(3, .arr 3 0 (ga encO l)), (2, .row 3 1 0 (fun _ => [])), (1, .box 22 [.ref 3])] (Tail.of rfl rfl) 42 1 rfl (ga e1 (ints 0))
      repeat' ((conv => whnf); first | refine V.NCond.mk ?_ | refine V.NIf.not_ ?_ | refine V.NIf.dec_ ?_ | refine V.NIf.no (by omega) ?_ | refine V.NIf.yes (by omega) ?_ | refine V.NIf.mk (fun _ => ?_) (fun _ => ?_) | refine V.NWrap.ok (by omega) (by omega) ?_ | refine V.NWrap.u64 (by omega) (by omega) ?_ | refine V.NLt.mk (by omega) ?_ | refine V.NBoth.mk ?_ ?_ | refine V.NTF.yes (by omega) ?_ | refine V.NTF.no (by omega) ?_ | refine V.NTF.dec ?_ | refine V.NDraw.q (by exact rfl) (by kernel_rfl) ?_ | refine V.NApp.one (by first | omega | (simp; omega)) (by first | omega | (simp; omega)) ?_ | (refine Fam.callQ sq (Tail.of rfl rfl) [(3, 0), (0, 3)] [(3, .row 3 1 0 (ga e1 [])), (0, .arr 3 0 (ga encO l)), (1, .box 22 [.ref 0]), (2, .row 3 1 0 (fun _ => []))] rfl rfl rfl (by decide) ⟨⟨rfl, rfl, rfl, fun _ _ => rfl⟩, ⟨rfl, rfl, fun _ _ => rfl⟩, ⟨rfl, rfl, rfl, fun _ _ => rfl⟩, rfl, trivial⟩ rfl (fun g hg => ⟨⟨rfl, rfl, rfl, fun k hk => absurd hk (Nat.not_lt_zero _)⟩, ⟨rfl, rfl, fun _ _ => rfl⟩, rfl, ⟨rfl, rfl, rfl, fun _ _ => rfl⟩, trivial⟩) ?_) | (refine V.NDraw.any (by kernel_rfl) ?_) | fail)
      all_goals (conv => whnf)
      all_goals exact NRet.mk_ [some 3] rfl rfl ⟨⟨rfl, rfl, rfl, fun k hk => absurd hk (Nat.not_lt_zero _)⟩, trivial⟩
    · obtain ⟨Z, hZ⟩ : ∃ Z, l.length = Z + 1 := ⟨l.length - 1, by omega⟩
      have hcm : CmpI (Z := Z) 3 [(3, .arr 3 l.length (ga encO l)), (2, .row 3 1 0 (fun _ => [])), (1, .box 22 [.ref 3])] 42 1 (fun x y => orI (cmpI (l.getD x.q.toNat default).pr (l.getD y.q.toNat default).pr) (cmpI (l.getD y.q.toNat default).un (l.getD x.q.toNat default).un)) := fun x y n get K hK => by
        have x1 := x.ok
        have y1 := y.ok
        have c := v_ordCmp l x.q.toNat y.q.toNat (by omega) (by omega)
        rw [show ((x.q.toNat : Nat) : Int) = x.q by omega, show ((y.q.toNat : Nat) : Int) = y.q by omega] at c
        exact Fn.use c [1, 3] (by repeat' (first | exact rfl | exact Iff.rfl | exact trivial | exact (fun _ _ => rfl) | exact (fun _ h => absurd h (Nat.not_lt_zero _)) | refine ⟨?_, ?_⟩ | exact Iff.rfl | exact congrArg (fun z => V.SV.one (V.At.val (Value.int .i64 z))) (by omega))) (by repeat' (first | exact rfl | exact Iff.rfl | exact trivial | exact (fun _ _ => rfl) | exact (fun _ h => absurd h (Nat.not_lt_zero _)) | refine ⟨?_, ?_⟩ | exact Iff.rfl | exact congrArg (fun z => V.SV.one (V.At.val (Value.int .i64 z))) (by omega))) hK
      have sq := v_sortI 3 [(3, .arr 3 l.length (ga encO l)), (2, .row 3 1 0 (fun _ => [])), (1, .box 22 [.ref 3])] (Tail.of rfl rfl) 42 1 rfl _ hcm (B.kb l) (B.kb1 l) (B.kb2 l) (B.kb3 l) (fun x y => orI_lt _ _ _ _) (by omega)
      rw [← hZ] at sq
      have eD : Od.srt (Od.tie (B.kb l)) l.length = B.ord l := rfl
      rw [eD] at sq
      repeat' ((conv => whnf); first | refine V.NCond.mk ?_ | refine V.NIf.not_ ?_ | refine V.NIf.dec_ ?_ | refine V.NIf.no (by omega) ?_ | refine V.NIf.yes (by omega) ?_ | refine V.NIf.mk (fun _ => ?_) (fun _ => ?_) | refine V.NWrap.ok (by omega) (by omega) ?_ | refine V.NWrap.u64 (by omega) (by omega) ?_ | refine V.NLt.mk (by omega) ?_ | refine V.NBoth.mk ?_ ?_ | refine V.NTF.yes (by omega) ?_ | refine V.NTF.no (by omega) ?_ | refine V.NTF.dec ?_ | refine V.NDraw.q (by exact rfl) (by kernel_rfl) ?_ | refine V.NApp.one (by first | omega | (simp; omega)) (by first | omega | (simp; omega)) ?_ | (refine Fam.callQ sq (Tail.of rfl rfl) [(3, 0), (0, 3)] [(3, .row 3 1 l.length (ga e1 (nats (B.ord l)))), (0, .arr 3 l.length (ga encO l)), (1, .box 22 [.ref 0]), (2, .row 3 1 0 (fun _ => []))] rfl rfl rfl (by decide) ⟨⟨rfl, rfl, rfl, fun _ _ => rfl⟩, ⟨rfl, rfl, fun _ _ => rfl⟩, ⟨rfl, rfl, rfl, fun _ _ => rfl⟩, rfl, trivial⟩ rfl (fun g hg => ⟨⟨rfl, rfl, rfl, hg⟩, ⟨rfl, rfl, fun _ _ => rfl⟩, rfl, ⟨rfl, rfl, rfl, fun _ _ => rfl⟩, trivial⟩) ?_) | (refine V.NDraw.any (by kernel_rfl) ?_) | fail)
      all_goals (conv => whnf)
      all_goals exact NRet.mk_ [some 3] rfl rfl ⟨⟨rfl, rfl, rfl, fun k hk => rfl⟩, trivial⟩
end Go.Proofs.Ytcdlhfbpmpjfkaa

/- Plain facts on what is bought in: where it stops, the one price. -/
namespace Go.Proofs.Ytcdlhfbpmpjfkaa
set_option linter.unusedVariables false
set_option linter.unusedSimpArgs false
namespace B
open O
def err (l : List Of) (m : Int) : Int := if chk l ≠ 0 then chk l else if m < 1 ∨ 1073741824 < m then 3 else 0
theorem err_cases (l : List Of) (m : Int) : (¬ chk l = 0 ∧ err l m = chk l) ∨ (chk l = 0 ∧ (m < 1 ∨ 1073741824 < m) ∧ err l m = 3) ∨ (chk l = 0 ∧ (1 ≤ m ∧ m ≤ 1073741824) ∧ err l m = 0) := by
  by_cases a : chk l = 0
  · by_cases b : m < 1 ∨ 1073741824 < m
    · exact .inr (.inl ⟨a, b, (if_neg (fun z => z a)).trans (if_pos b)⟩)
    · exact .inr (.inr ⟨a, by omega, (if_neg (fun z => z a)).trans (if_neg b)⟩)
  · exact .inl ⟨a, if_pos a⟩
theorem err_0 {l : List Of} {m : Int} (h : err l m = 0) : chk l = 0 ∧ Oks l ∧ (1 ≤ m ∧ m ≤ 1073741824) := by
  rcases err_cases l m with ⟨a, e⟩ | ⟨a, b, e⟩ | ⟨a, b, e⟩
  · rw [h] at e; exact absurd e.symm a
  · omega
  · exact ⟨a, chk_ok a, b⟩
def F (l : List Of) (m p : Int) (k : Nat) : Int := Gr.lf (V l p) (bf l) l.length m k
def at_ (l : List Of) (k : Nat) : Nat := (ord l).getD k default
theorem ord_len (l : List Of) : (ord l).length = l.length := Od.srt_len _ _
theorem at_lt {l : List Of} {k : Nat} (h : k < l.length) : at_ l k < l.length := Od.srt_at h
def stp (l : List Of) (m p : Int) (k : Nat) : Bool := decide (p < pr l (at_ l k) ∨ F l m p k = 0)
def np (l : List Of) (m p : Int) : Nat := if ixf (stp l m p) (List.range l.length) < 0 then l.length else (ixf (stp l m p) (List.range l.length)).toNat
theorem np_is {l : List Of} {m p : Int} {k : Nat} (hk : k ≤ l.length) (h1 : ∀ j, j < k → stp l m p j = false) (h2 : k = l.length ∨ stp l m p k = true) : np l m p = k := by
  unfold np
  by_cases e : k = l.length
  · rw [ixf_no fun d hd => h1 d (by have := List.mem_range.1 hd; omega), if_pos (by decide), e]
  · have h2 := h2.resolve_left e
    have hl : k < (List.range l.length).length := by rw [List.length_range]; omega
    have ek : (List.range l.length)[k] = k := by simp
    rw [ixf_at hl (fun d hd => h1 d (by rw [List.take_range] at hd; have := List.mem_range.1 hd; omega)) (by rw [ek]; exact h2), if_neg (by omega)]
    omega
def lst (l : List Of) (m p : Int) : Int := if np l m p = 0 then 0 else pr l (at_ l (np l m p - 1))
def lsK (l : List Of) (k : Nat) : Int := if k = 0 then 0 else pr l (at_ l (k - 1))
theorem F_succ {l : List Of} (ok : Oks l) {m p : Int} {k : Nat} (h : k < l.length) : F l m p (k + 1) = F l m p k - Gr.tk (V l p) (bf l) l.length m (at_ l k) := Gr.lf_succ (sto l) h (V_bd ok p)
theorem F_0 {l : List Of} {m p : Int} (h : 0 ≤ m) : F l m p 0 = m := Gr.lf_0 h
theorem F_bd {l : List Of} (ok : Oks l) {m p : Int} (h : 0 ≤ m) {k : Nat} (hk : k ≤ l.length) : 0 ≤ F l m p k ∧ F l m p k ≤ m := ⟨Gr.lf_nn k, Gr.lf_le h (V_bd ok p) hk⟩
theorem tk_in {l : List Of} (ok : Oks l) {m p : Int} {k : Nat} (h : k < l.length) (hp : pr l (at_ l k) ≤ p) : Gr.tk (V l p) (bf l) l.length m (at_ l k) = if U l (at_ l k) < F l m p k then U l (at_ l k) else F l m p k := by
  have e := Gr.tk_at (m := m) (sto l) h (V_bd ok p)
  have e2 : V l p (at_ l k) = U l (at_ l k) := if_pos hp
  unfold at_ ord at *
  rw [e2] at e
  exact e
/-- where it stops nothing more comes -/
theorem stop_at {l : List Of} (ok : Oks l) {m p : Int} {k : Nat} (hk : k ≤ l.length) (h : k = l.length ∨ stp l m p k = true) : F l m p k = lef l m p ∧ Gr.outs (V l p) (bf l) l.length m k = tak l m p := by
  have s := stop (m := m) (sto l) (V_bd ok p) hk (fun j h1 h2 => by
    rcases h with h | h
    · omega
    · unfold stp at h
      rw [decide_eq_true_eq] at h
      rcases h with h | h
      · refine .inl (if_neg ?_)
        by_cases e : k = j
        · subst e
          show ¬ pr l (at_ l k) ≤ p
          omega
        · have a : pr l (at_ l k) ≤ pr l (at_ l j) := byB l _ _ (Od.bf_of (sto l) (show k < j by omega) h2)
          show ¬ pr l (at_ l j) ≤ p
          omega
      · exact .inr h)
  rw [lef_end] at s
  exact s
theorem F_all {l : List Of} {m p : Int} (ok : Oks l) (h : 1099511627776 ≤ p) (k : Nat) : F l m p k = Gr.lf (U l) (bf l) l.length m k := by
  unfold F Gr.lf
  have e : ((Od.srt (bf l) l.length).take k).map (V l p) = ((Od.srt (bf l) l.length).take k).map (U l) := List.map_congr_left fun q hq => if_pos (by
    have := (pr_bd ok (Od.srt_lt (List.take_subset _ _ hq))).2
    unfold pr; omega)
  rw [e]
/-- the one price: that of the place that makes it enough -/
theorem one_at {l : List Of} {m : Int} (ok : Oks l) (hm : 1 ≤ m) (hs : m ≤ Sh.sm (us l)) : ∃ k, k < l.length ∧ lst l m 1099511627776 = pr l (at_ l k) ∧ F l m 1099511627776 (k + 1) = 0 ∧ 0 < F l m 1099511627776 k := by
  obtain ⟨k, hk, h1, h2⟩ := enough ok hm hs
  have pos : ∀ j, j ≤ k → 0 < F l m 1099511627776 j := fun j hj => by
    rw [F_all ok (Int.le_refl _)]
    have dec : ∀ d, j + d ≤ l.length → Gr.lf (U l) (bf l) l.length m (j + d) ≤ Gr.lf (U l) (bf l) l.length m j := by
      intro d
      induction d with
      | zero => intro _; exact Int.le_refl _
      | succ d ih =>
        intro h
        have a := ih (by omega)
        have b := Gr.lf_succ (m := m) (sto l) (show j + d < l.length by omega) (un_nn ok)
        have c := Gr.tk_bd (bf := bf l) (m := m) (un_nn ok) (Od.srt_at (bf := bf l) (show j + d < l.length by omega))
        rw [← Nat.add_assoc]
        omega
    have := dec (k - j) (by omega)
    rw [show j + (k - j) = k by omega] at this
    omega
  have ns : ∀ j, j < k + 1 → stp l m 1099511627776 j = false := fun j hj => by
    have a := pos j (by omega)
    have b := (pr_bd ok (at_lt (l := l) (k := j) (by omega))).2
    unfold stp
    simp only [decide_eq_false_iff_not]
    unfold pr
    omega
  have e : np l m 1099511627776 = k + 1 := np_is (by omega) ns (.inr (by
    unfold stp
    rw [F_all ok (Int.le_refl _), h1]; simp))
  refine ⟨k, hk, ?_, by rw [F_all ok (Int.le_refl _)]; exact h1, pos k (Nat.le_refl _)⟩
  unfold lst
  rw [e, if_neg (by omega)]
  rfl
theorem F_sum {l : List Of} {m p : Int} (k : Nat) : F l m p k = if m - Sh.sm (((ord l).take k).map (V l p)) < 0 then 0 else m - Sh.sm (((ord l).take k).map (V l p)) := rfl
/-- up to the one price there is enough, below it there is not -/
theorem one_is {l : List Of} {m : Int} (ok : Oks l) (hm : 1 ≤ m) (hs : m ≤ Sh.sm (us l)) : m ≤ tot l (lst l m 1099511627776) ∧ (∀ p, p < lst l m 1099511627776 → tot l p < m) ∧ ∃ i, i < l.length ∧ pr l i = lst l m 1099511627776 ∧ 0 < Gr.tk (U l) (bf l) l.length m i := by
  obtain ⟨k, hk, e, h1, h2⟩ := one_at ok hm hs
  have a := tot_upto ok hk
  rw [F_all ok (Int.le_refl _)] at h1 h2
  unfold Gr.lf at h1 h2
  rw [e]
  refine ⟨?_, fun p hp => ?_, at_ l k, at_lt hk, rfl, ?_⟩
  · have a' : Sh.sm (((Od.srt (bf l) l.length).take (k + 1)).map (U l)) ≤ tot l (pr l (at_ l k)) := a
    split at h1 <;> omega
  · have b := tot_below ok hk hp
    have b' : tot l p ≤ Sh.sm (((Od.srt (bf l) l.length).take k).map (U l)) := b
    split at h2 <;> omega
  · have t := Gr.tk_at (m := m) (sto l) hk (un_nn ok)
    have u := U_bd ok (at_lt hk)
    show 0 < Gr.tk (U l) (bf l) l.length m ((Od.srt (bf l) l.length).getD k default)
    rw [t]
    have h2' : 0 < Gr.lf (U l) (bf l) l.length m k := by unfold Gr.lf; exact h2
    have u' : 1 ≤ U l ((Od.srt (bf l) l.length).getD k default) := u.1
    split <;> omega
end B
end Go.Proofs.Ytcdlhfbpmpjfkaa
