/- Shared texts, one behind the other: StQ5, StQ6, StQ7, ShPl2, VFam2, VSh4, ShPl3, VSameI, VSh5, VSh6, VSh7, VSh8, ShPl4, VOpenI -/
import Derived.Test.YtfmejgohpokiaaaZ1
import Derived.Test.YtfmejgohpokiaaaZ2
import Derived.Test.YtfmejgohpokiaaaZ3

/- Sorting that keeps the order of equals, of quotas: what two sorted runs become, the general case. -/
namespace Go.Proofs.Ytfmejgohpokiaaa
open Go Go.Sort Go.RowKit V
set_option maxRecDepth 100000
set_option linter.unusedVariables false
set_option linter.unusedSimpArgs false
set_option maxHeartbeats 4000000
theorem v_symC0 (nx : Nat) (O : Obs) (hT : Tail (nx + 1) O) (g : FuncId) (cf : Qt → Qt → Int) (hc : Cmp g cf) (lt : Qt → Qt → Bool) (S : SWO lt) (d : Array Qt) (a m b : Nat) (h0 : a + 1 < m) (h1 : m + 1 < b) (h2 : b ≤ d.size) (h3 : d.size ≤ 2305843009213693951) (H1 : SortedIn lt a m d) (H2 : SortedIn lt m b d)
    (HT : ∀ i j, a ≤ i → i < m → m ≤ j → j < b → less cf d[j]! d[i]! = lt d[j]! d[i]!) (hm : m ≤ (a + b) / 2)
    (ih : ∀ (e : Array Qt) (x y z : Nat), z - x < b - a → a ≤ x → x < y → y < z → z ≤ b → e.size = d.size → SortedIn lt x y e → SortedIn lt y z e → (∀ i j, x ≤ i → i < y → y ≤ j → j < z → less cf e[j]! e[i]! = lt e[j]! e[i]!) →
      Fam Try.prog 41 [.one (.ref 0), .one (.val (.int .i64 ((x : Int)))), .one (.val (.int .i64 ((y : Int)))), .one (.val (.int .i64 ((z : Int)))), .one (.clo g [])] 46 2 d.size (ga encT e.toList) nx O (fun r => ∃ d', PermIn x z e d' ∧ SortedIn lt x z d' ∧ r = ga encT d'.toList)) :
    Fam Try.prog 41 [.one (.ref 0), .one (.val (.int .i64 ((a : Int)))), .one (.val (.int .i64 ((m : Int)))), .one (.val (.int .i64 ((b : Int)))), .one (.clo g [])] 46 2 d.size (ga encT d.toList) nx O (fun r => ∃ d', PermIn a b d d' ∧ SortedIn lt a b d' ∧ r = ga encT d'.toList) := by
  refine Fam.mk hT ?_
  refine V.NCall.inl (f := 41) V.Tok V.mixed Try.func41 rfl Try.ntmps41 (by kernel_rfl) rfl ?_
  obtain ⟨mid, em⟩ : ∃ mid, mid = (a + b) / 2 := ⟨_, rfl⟩
  have bm : a < mid ∧ mid < b := by omega
  have bm2 : 2 * mid ≤ a + b ∧ a + b ≤ 2 * mid + 1 := by omega
  repeat' ((conv => whnf); first | refine V.NCond.mk ?_ | refine V.NIf.not_ ?_ | refine V.NIf.dec_ ?_ | refine V.NIf.no (by omega) ?_ | refine V.NIf.yes (by omega) ?_ | refine V.NIf.mk (fun _ => ?_) (fun _ => ?_) | refine V.NWrap.ok (by omega) (by omega) ?_ | refine V.NWrap.u64 (by omega) (by omega) ?_ | refine V.NLt.mk (by omega) ?_ | refine V.NBoth.mk ?_ ?_ | refine V.NTF.yes (by omega) ?_ | refine V.NTF.no (by omega) ?_ | refine V.NTF.dec ?_ | refine V.NDraw.q (by exact rfl) (by kernel_rfl) ?_ | refine V.NApp.one (by first | omega | (simp; omega)) (by first | omega | (simp; omega)) ?_ | (refine NShr.mid ?_; rw [← em]) | (refine V.NDraw.any (by kernel_rfl) ?_) | fail)
  all_goals (conv => whnf)
  refine NLoop.fam hT (fun (s : Nat × Nat) => [(20, .one (.val (.int .i64 s.1))), (21, .one (.val (.int .i64 s.2)))]) [(0, .one (.ref 0)), (1, .one (.val (.int .i64 a))), (2, .one (.val (.int .i64 m))), (3, .one (.val (.int .i64 b))), (4, .one (.clo g [])), (18, .one (.val (.int .i64 mid))), (19, .one (.val (.int .i64 ((mid : Int) + m)))), (22, .one (.val (.int .i64 ((mid : Int) + m - 1))))] 46 2 d.size (fun s => ga encT d.toList) (fun s => s.2 - s.1) (fun s => a ≤ s.1 ∧ s.1 ≤ s.2 ∧ s.2 ≤ m ∧ (s.1 = a ∨ lt d[mid + m - s.1]! d[s.1 - 1]! = false) ∧ (s.2 = m ∨ lt d[mid + m - 1 - s.2]! d[s.2]! = true)) (a, m) ⟨Nat.le_refl _, by dsimp only; omega, Nat.le_refl _, .inl rfl, .inl rfl⟩ [(0, _)] rfl rfl rfl (fun k hk => rfl) (by repeat' (first | exact rfl | exact Iff.rfl | exact trivial | exact (fun _ _ => rfl) | exact (fun _ h => absurd h (Nat.not_lt_zero _)) | refine ⟨?_, ?_⟩ | exact Iff.rfl | exact congrArg (fun z => V.SV.one (V.At.val (Value.int .i64 z))) (by omega))) (fun _ => rfl) rfl ?_
  rintro ⟨i, j⟩ ⟨hi, hij, hj, C1, C2⟩
  dsimp only at hi hij hj C1 C2 ⊢
  by_cases hlt : i < j
  · obtain ⟨h, eh⟩ : ∃ h, h = (i + j) / 2 := ⟨_, rfl⟩
    have h5 : i ≤ h ∧ h < j := by omega
    obtain ⟨k, ek⟩ : ∃ k, k = mid + m - 1 - h := ⟨_, rfl⟩
    have h6 : m ≤ k ∧ k < b := by omega
    have h7 : a ≤ h ∧ h < m := by omega
    have e1 := arr_get (d := d) (k := k)
    have e2 := arr_get (d := d) (k := h)
    have hcc := hc (d.toList.getD k default) (d.toList.getD h default)
    have ht := HT h k h7.1 h7.2 h6.1 h6.2
    rw [← e1, ← e2] at ht
    unfold less at ht
    generalize cf (d.toList.getD k default) (d.toList.getD h default) = c at *
    rw [e1, e2] at ht
    repeat' ((conv => whnf); first | refine V.NCond.mk ?_ | refine V.NIf.not_ ?_ | refine V.NIf.dec_ ?_ | refine V.NIf.no (by omega) ?_ | refine V.NIf.yes (by omega) ?_ | refine V.NIf.mk (fun _ => ?_) (fun _ => ?_) | refine V.NWrap.ok (by omega) (by omega) ?_ | refine V.NWrap.u64 (by omega) (by omega) ?_ | refine V.NLt.mk (by omega) ?_ | refine V.NBoth.mk ?_ ?_ | refine V.NTF.yes (by omega) ?_ | refine V.NTF.no (by omega) ?_ | refine V.NTF.dec ?_ | refine V.NDraw.q (by exact rfl) (by kernel_rfl) ?_ | refine V.NApp.one (by first | omega | (simp; omega)) (by first | omega | (simp; omega)) ?_ | (refine NShr.mid ?_; rw [← eh]) | (refine NIdx.mk ⟨k, by omega, by omega, ?_⟩) | (refine NIdx.mk ⟨h, by omega, by omega, ?_⟩) | (first | refine V.Fn.k0 (hcc) rfl ?_ | refine V.Fn.q0 (hcc) rfl ?_ | refine V.Fn.a0 (hcc) rfl ?_) | (refine V.NDraw.any (by kernel_rfl) ?_) | fail)
    all_goals (conv => whnf)
    · have hl : c < 0 := by assumption
      exact FBack.at_ hT (i, h) [(0, _)] ⟨hi, by dsimp only; omega, by dsimp only; omega, C1, .inr (by dsimp only; rw [← ek, ← ht]; exact decide_eq_true hl)⟩ (by dsimp only; omega) (by repeat' (first | exact rfl | exact Iff.rfl | exact trivial | exact (fun _ _ => rfl) | exact (fun _ h => absurd h (Nat.not_lt_zero _)) | refine ⟨?_, ?_⟩ | exact Iff.rfl | exact congrArg (fun z => V.SV.one (V.At.val (Value.int .i64 z))) (by omega))) rfl rfl rfl (fun k hk => rfl)
    · have hl : ¬ c < 0 := by assumption
      exact FBack.at_ hT (h + 1, j) [(0, _)] ⟨by dsimp only; omega, by dsimp only; omega, hj, .inr (by dsimp only; rw [Nat.add_sub_cancel, show mid + m - (h + 1) = k by omega, ← ht]; exact decide_eq_false hl), C2⟩ (by dsimp only; omega) (by repeat' (first | exact rfl | exact Iff.rfl | exact trivial | exact (fun _ _ => rfl) | exact (fun _ h => absurd h (Nat.not_lt_zero _)) | refine ⟨?_, ?_⟩ | exact Iff.rfl | exact congrArg (fun z => V.SV.one (V.At.val (Value.int .i64 z))) (by omega))) rfl rfl rfl (fun k hk => rfl)
  · obtain rfl : i = j := by omega
    clear hlt hij
    obtain ⟨e, ee⟩ : ∃ e, e = mid + m - i := ⟨_, rfl⟩
    have hai : a ≤ i := by omega
    have sm : i ≤ m := by omega
    have me : m ≤ e := by omega
    have eb : e ≤ b := by omega
    have ec : i + (e - m) = mid := by omega
    have ei : (mid : Int) + m - i = (e : Int) := by omega
    have D1 : a < i → e < b → lt d[e]! d[i - 1]! = false := fun q1 q2 => by
      rcases C1 with z | z
      · omega
      · rwa [← ee] at z
    have D2 : m < e → i < m → lt d[e - 1]! d[i]! = true := fun q1 q2 => by
      rcases C2 with z | z
      · omega
      · rwa [show mid + m - 1 - i = e - 1 by omega] at z
    clear C1 C2 hi hj
    have fin : ∀ d1 d2 d3 : Array Qt, St.Rot i m e d d1 → PermIn a mid d1 d2 → SortedIn lt a mid d2 → PermIn mid b d2 d3 → SortedIn lt mid b d3 → PermIn a b d d3 ∧ SortedIn lt a b d3 := fun d1 d2 d3 r P2 S2 P3 S3 => by
      have X := St.cross S r hai sm me eb H1 H2 D1 D2
      rw [ec] at X
      have hv := St.halves (lt := lt) (by omega) (by omega) (by rw [r.1]; exact h2) X P2 S2 P3 S3
      exact ⟨permIn_trans _ _ _ _ _ (permIn_mono _ _ _ _ a b hai eb h2 (r.perm sm me (by omega))) hv.1, hv.2⟩
    have parts : ∀ d1 : Array Qt, St.Rot i m e d d1 → (SortedIn lt a i d1 ∧ SortedIn lt i mid d1 ∧ SortedIn lt mid e d1 ∧ SortedIn lt e b d1) ∧ (∀ p q, a ≤ p → p < i → i ≤ q → q < mid → less cf d1[q]! d1[p]! = lt d1[q]! d1[p]!) ∧ (∀ p q, mid ≤ p → p < e → e ≤ q → q < b → less cf d1[q]! d1[p]! = lt d1[q]! d1[p]!) := fun d1 r => by
      have A := St.runs r hai sm me eb H1 H2
      have B := St.tests (p := fun x y => less cf x y = lt x y) r hai sm me eb HT
      rw [ec] at A B
      exact ⟨A, B⟩
    clear D1 D2
    -- the rotation, if there is one
    by_cases q1 : i < m ∧ m < e
    · have c1 := v_rotQ nx O hT g d i m e sm me (by omega) q1.1 q1.2 (by omega)
      rw [← ei] at c1
      by_cases q2 : a < i ∧ i < mid
      · by_cases q3 : mid < e ∧ e < b
        · first
            | (exfalso; omega)
            | (repeat' ((conv => whnf); first | (refine V.NIf.yes ?_ ?_; · (decide; done)) | (refine V.NIf.no ?_ ?_; · (decide; done)) | refine V.NCond.mk ?_ | refine V.NIf.not_ ?_ | refine V.NIf.dec_ ?_ | refine V.NIf.no (by omega) ?_ | refine V.NIf.yes (by omega) ?_ | refine V.NIf.mk (fun _ => ?_) (fun _ => ?_) | refine V.NWrap.ok (by omega) (by omega) ?_ | refine V.NWrap.u64 (by omega) (by omega) ?_ | refine V.NLt.mk (by omega) ?_ | refine V.NBoth.mk ?_ ?_ | refine V.NTF.yes (by omega) ?_ | refine V.NTF.no (by omega) ?_ | refine V.NTF.dec ?_ | refine V.NDraw.q (by exact rfl) (by kernel_rfl) ?_ | refine V.NApp.one (by first | omega | (simp; omega)) (by first | omega | (simp; omega)) ?_ | (refine Fam.use c1 hT [(0, _)] rfl rfl rfl (fun k hk => rfl) ?_; rintro g1 ⟨d1, r0, rfl⟩; obtain ⟨⟨A1, A2, A3, A4⟩, B1, B2⟩ := parts d1 r0; have z1 : d1.size = d.size := r0.1) | (have c2 := ih d1 a i mid (by omega) (Nat.le_refl _) q2.1 q2.2 (by omega) z1 A1 A2 B1; refine Fam.use c2 hT [(0, _)] rfl rfl rfl (fun k hk => rfl) ?_; rintro g2 ⟨d2, P2, S2, rfl⟩; have A3' := St.sorted_perm A3 P2 (.inr (Nat.le_refl _)); have A4' := St.sorted_perm A4 P2 (.inr (by omega)); have z2 : d2.size = d.size := P2.1.trans z1; have B2' : ∀ p q, mid ≤ p → p < e → e ≤ q → q < b → less cf d2[q]! d2[p]! = lt d2[q]! d2[p]! := fun p q h1 h2 h3 h4 => (by rw [P2.2.1 p (by omega), P2.2.1 q (by omega)]; exact B2 p q h1 h2 h3 h4)) | (have c3 := ih d2 mid e b (by omega) (by omega) q3.1 q3.2 (Nat.le_refl _) z2 A3' A4' B2'; rw [← ei] at c3; refine Fam.use c3 hT [(0, _)] rfl rfl rfl (fun k hk => rfl) ?_; rintro g3 ⟨d3, P3, S3, rfl⟩) | (refine V.NDraw.any (by kernel_rfl) ?_) | fail)
               all_goals (conv => whnf)
               have F := fin d1 d2 d3 r0 P2 S2 P3 S3
               exact ⟨rfl, rfl, [(0, _)], _, rfl, rfl, rfl, d3, F.1, F.2, rfl⟩)
        · first
            | (exfalso; omega)
            | (repeat' ((conv => whnf); first | (refine V.NIf.yes ?_ ?_; · (decide; done)) | (refine V.NIf.no ?_ ?_; · (decide; done)) | refine V.NCond.mk ?_ | refine V.NIf.not_ ?_ | refine V.NIf.dec_ ?_ | refine V.NIf.no (by omega) ?_ | refine V.NIf.yes (by omega) ?_ | refine V.NIf.mk (fun _ => ?_) (fun _ => ?_) | refine V.NWrap.ok (by omega) (by omega) ?_ | refine V.NWrap.u64 (by omega) (by omega) ?_ | refine V.NLt.mk (by omega) ?_ | refine V.NBoth.mk ?_ ?_ | refine V.NTF.yes (by omega) ?_ | refine V.NTF.no (by omega) ?_ | refine V.NTF.dec ?_ | refine V.NDraw.q (by exact rfl) (by kernel_rfl) ?_ | refine V.NApp.one (by first | omega | (simp; omega)) (by first | omega | (simp; omega)) ?_ | (refine Fam.use c1 hT [(0, _)] rfl rfl rfl (fun k hk => rfl) ?_; rintro g1 ⟨d1, r0, rfl⟩; obtain ⟨⟨A1, A2, A3, A4⟩, B1, B2⟩ := parts d1 r0; have z1 : d1.size = d.size := r0.1) | (have c2 := ih d1 a i mid (by omega) (Nat.le_refl _) q2.1 q2.2 (by omega) z1 A1 A2 B1; refine Fam.use c2 hT [(0, _)] rfl rfl rfl (fun k hk => rfl) ?_; rintro g2 ⟨d2, P2, S2, rfl⟩; have A3' := St.sorted_perm A3 P2 (.inr (Nat.le_refl _)); have A4' := St.sorted_perm A4 P2 (.inr (by omega)); have z2 : d2.size = d.size := P2.1.trans z1; have B2' : ∀ p q, mid ≤ p → p < e → e ≤ q → q < b → less cf d2[q]! d2[p]! = lt d2[q]! d2[p]! := fun p q h1 h2 h3 h4 => (by rw [P2.2.1 p (by omega), P2.2.1 q (by omega)]; exact B2 p q h1 h2 h3 h4)) | (refine V.NDraw.any (by kernel_rfl) ?_) | fail)
               all_goals (conv => whnf)
               have F := fin d1 d2 d2 r0 P2 S2 (permIn_refl _ _ _) (St.sorted_one A3' A4' (by omega) eb q3)
               exact ⟨rfl, rfl, [(0, _)], _, rfl, rfl, rfl, d2, F.1, F.2, rfl⟩)
      · by_cases q3 : mid < e ∧ e < b
        · first
            | (exfalso; omega)
            | (repeat' ((conv => whnf); first | (refine V.NIf.yes ?_ ?_; · (decide; done)) | (refine V.NIf.no ?_ ?_; · (decide; done)) | refine V.NCond.mk ?_ | refine V.NIf.not_ ?_ | refine V.NIf.dec_ ?_ | refine V.NIf.no (by omega) ?_ | refine V.NIf.yes (by omega) ?_ | refine V.NIf.mk (fun _ => ?_) (fun _ => ?_) | refine V.NWrap.ok (by omega) (by omega) ?_ | refine V.NWrap.u64 (by omega) (by omega) ?_ | refine V.NLt.mk (by omega) ?_ | refine V.NBoth.mk ?_ ?_ | refine V.NTF.yes (by omega) ?_ | refine V.NTF.no (by omega) ?_ | refine V.NTF.dec ?_ | refine V.NDraw.q (by exact rfl) (by kernel_rfl) ?_ | refine V.NApp.one (by first | omega | (simp; omega)) (by first | omega | (simp; omega)) ?_ | (refine Fam.use c1 hT [(0, _)] rfl rfl rfl (fun k hk => rfl) ?_; rintro g1 ⟨d1, r0, rfl⟩; obtain ⟨⟨A1, A2, A3, A4⟩, B1, B2⟩ := parts d1 r0; have z1 : d1.size = d.size := r0.1) | (have c3 := ih d1 mid e b (by omega) (by omega) q3.1 q3.2 (Nat.le_refl _) z1 A3 A4 B2; rw [← ei] at c3; refine Fam.use c3 hT [(0, _)] rfl rfl rfl (fun k hk => rfl) ?_; rintro g3 ⟨d3, P3, S3, rfl⟩) | (refine V.NDraw.any (by kernel_rfl) ?_) | fail)
               all_goals (conv => whnf)
               have F := fin d1 d1 d3 r0 (permIn_refl _ _ _) (St.sorted_one A1 A2 hai (by omega) q2) P3 S3
               exact ⟨rfl, rfl, [(0, _)], _, rfl, rfl, rfl, d3, F.1, F.2, rfl⟩)
        · first
            | (exfalso; omega)
            | (repeat' ((conv => whnf); first | (refine V.NIf.yes ?_ ?_; · (decide; done)) | (refine V.NIf.no ?_ ?_; · (decide; done)) | refine V.NCond.mk ?_ | refine V.NIf.not_ ?_ | refine V.NIf.dec_ ?_ | refine V.NIf.no (by omega) ?_ | refine V.NIf.yes (by omega) ?_ | refine V.NIf.mk (fun _ => ?_) (fun _ => ?_) | refine V.NWrap.ok (by omega) (by omega) ?_ | refine V.NWrap.u64 (by omega) (by omega) ?_ | refine V.NLt.mk (by omega) ?_ | refine V.NBoth.mk ?_ ?_ | refine V.NTF.yes (by omega) ?_ | refine V.NTF.no (by omega) ?_ | refine V.NTF.dec ?_ | refine V.NDraw.q (by exact rfl) (by kernel_rfl) ?_ | refine V.NApp.one (by first | omega | (simp; omega)) (by first | omega | (simp; omega)) ?_ | (refine Fam.use c1 hT [(0, _)] rfl rfl rfl (fun k hk => rfl) ?_; rintro g1 ⟨d1, r0, rfl⟩; obtain ⟨⟨A1, A2, A3, A4⟩, B1, B2⟩ := parts d1 r0; have z1 : d1.size = d.size := r0.1) | (refine V.NDraw.any (by kernel_rfl) ?_) | fail)
               all_goals (conv => whnf)
               have F := fin d1 d1 d1 r0 (permIn_refl _ _ _) (St.sorted_one A1 A2 hai (by omega) q2) (permIn_refl _ _ _) (St.sorted_one A3 A4 (by omega) eb q3)
               exact ⟨rfl, rfl, [(0, _)], _, rfl, rfl, rfl, d1, F.1, F.2, rfl⟩)
    · have r0 : St.Rot i m e d d := by
        by_cases z : i = m
        · subst z; exact St.Rot.refl_l
        · obtain rfl : m = e := by omega
          exact St.Rot.refl_r
      by_cases q2 : a < i ∧ i < mid
      · by_cases q3 : mid < e ∧ e < b
        · first
            | (exfalso; omega)
            | (obtain ⟨⟨A1, A2, A3, A4⟩, B1, B2⟩ := parts d r0
               have z1 : d.size = d.size := rfl
               repeat' ((conv => whnf); first | (refine V.NIf.yes ?_ ?_; · (decide; done)) | (refine V.NIf.no ?_ ?_; · (decide; done)) | refine V.NCond.mk ?_ | refine V.NIf.not_ ?_ | refine V.NIf.dec_ ?_ | refine V.NIf.no (by omega) ?_ | refine V.NIf.yes (by omega) ?_ | refine V.NIf.mk (fun _ => ?_) (fun _ => ?_) | refine V.NWrap.ok (by omega) (by omega) ?_ | refine V.NWrap.u64 (by omega) (by omega) ?_ | refine V.NLt.mk (by omega) ?_ | refine V.NBoth.mk ?_ ?_ | refine V.NTF.yes (by omega) ?_ | refine V.NTF.no (by omega) ?_ | refine V.NTF.dec ?_ | refine V.NDraw.q (by exact rfl) (by kernel_rfl) ?_ | refine V.NApp.one (by first | omega | (simp; omega)) (by first | omega | (simp; omega)) ?_ | (have c2 := ih d a i mid (by omega) (Nat.le_refl _) q2.1 q2.2 (by omega) z1 A1 A2 B1; refine Fam.use c2 hT [(0, _)] rfl rfl rfl (fun k hk => rfl) ?_; rintro g2 ⟨d2, P2, S2, rfl⟩; have A3' := St.sorted_perm A3 P2 (.inr (Nat.le_refl _)); have A4' := St.sorted_perm A4 P2 (.inr (by omega)); have z2 : d2.size = d.size := P2.1.trans z1; have B2' : ∀ p q, mid ≤ p → p < e → e ≤ q → q < b → less cf d2[q]! d2[p]! = lt d2[q]! d2[p]! := fun p q h1 h2 h3 h4 => (by rw [P2.2.1 p (by omega), P2.2.1 q (by omega)]; exact B2 p q h1 h2 h3 h4)) | (have c3 := ih d2 mid e b (by omega) (by omega) q3.1 q3.2 (Nat.le_refl _) z2 A3' A4' B2'; rw [← ei] at c3; refine Fam.use c3 hT [(0, _)] rfl rfl rfl (fun k hk => rfl) ?_; rintro g3 ⟨d3, P3, S3, rfl⟩) | (refine V.NDraw.any (by kernel_rfl) ?_) | fail)
               all_goals (conv => whnf)
               have F := fin d d2 d3 r0 P2 S2 P3 S3
               exact ⟨rfl, rfl, [(0, _)], _, rfl, rfl, rfl, d3, F.1, F.2, rfl⟩)
        · first
            | (exfalso; omega)
            | (obtain ⟨⟨A1, A2, A3, A4⟩, B1, B2⟩ := parts d r0
               have z1 : d.size = d.size := rfl
               repeat' ((conv => whnf); first | (refine V.NIf.yes ?_ ?_; · (decide; done)) | (refine V.NIf.no ?_ ?_; · (decide; done)) | refine V.NCond.mk ?_ | refine V.NIf.not_ ?_ | refine V.NIf.dec_ ?_ | refine V.NIf.no (by omega) ?_ | refine V.NIf.yes (by omega) ?_ | refine V.NIf.mk (fun _ => ?_) (fun _ => ?_) | refine V.NWrap.ok (by omega) (by omega) ?_ | refine V.NWrap.u64 (by omega) (by omega) ?_ | refine V.NLt.mk (by omega) ?_ | refine V.NBoth.mk ?_ ?_ | refine V.NTF.yes (by omega) ?_ | refine V.NTF.no (by omega) ?_ | refine V.NTF.dec ?_ | refine V.NDraw.q (by exact rfl) (by kernel_rfl) ?_ | refine V.NApp.one (by first | omega | (simp; omega)) (by first | omega | (simp; omega)) ?_ | (have c2 := ih d a i mid (by omega) (Nat.le_refl _) q2.1 q2.2 (by omega) z1 A1 A2 B1; refine Fam.use c2 hT [(0, _)] rfl rfl rfl (fun k hk => rfl) ?_; rintro g2 ⟨d2, P2, S2, rfl⟩; have A3' := St.sorted_perm A3 P2 (.inr (Nat.le_refl _)); have A4' := St.sorted_perm A4 P2 (.inr (by omega)); have z2 : d2.size = d.size := P2.1.trans z1; have B2' : ∀ p q, mid ≤ p → p < e → e ≤ q → q < b → less cf d2[q]! d2[p]! = lt d2[q]! d2[p]! := fun p q h1 h2 h3 h4 => (by rw [P2.2.1 p (by omega), P2.2.1 q (by omega)]; exact B2 p q h1 h2 h3 h4)) | (refine V.NDraw.any (by kernel_rfl) ?_) | fail)
               all_goals (conv => whnf)
               have F := fin d d2 d2 r0 P2 S2 (permIn_refl _ _ _) (St.sorted_one A3' A4' (by omega) eb q3)
               exact ⟨rfl, rfl, [(0, _)], _, rfl, rfl, rfl, d2, F.1, F.2, rfl⟩)
      · by_cases q3 : mid < e ∧ e < b
        · first
            | (exfalso; omega)
            | (obtain ⟨⟨A1, A2, A3, A4⟩, B1, B2⟩ := parts d r0
               have z1 : d.size = d.size := rfl
               repeat' ((conv => whnf); first | (refine V.NIf.yes ?_ ?_; · (decide; done)) | (refine V.NIf.no ?_ ?_; · (decide; done)) | refine V.NCond.mk ?_ | refine V.NIf.not_ ?_ | refine V.NIf.dec_ ?_ | refine V.NIf.no (by omega) ?_ | refine V.NIf.yes (by omega) ?_ | refine V.NIf.mk (fun _ => ?_) (fun _ => ?_) | refine V.NWrap.ok (by omega) (by omega) ?_ | refine V.NWrap.u64 (by omega) (by omega) ?_ | refine V.NLt.mk (by omega) ?_ | refine V.NBoth.mk ?_ ?_ | refine V.NTF.yes (by omega) ?_ | refine V.NTF.no (by omega) ?_ | refine V.NTF.dec ?_ | refine V.NDraw.q (by exact rfl) (by kernel_rfl) ?_ | refine V.NApp.one (by first | omega | (simp; omega)) (by first | omega | (simp; omega)) ?_ | (have c3 := ih d mid e b (by omega) (by omega) q3.1 q3.2 (Nat.le_refl _) z1 A3 A4 B2; rw [← ei] at c3; refine Fam.use c3 hT [(0, _)] rfl rfl rfl (fun k hk => rfl) ?_; rintro g3 ⟨d3, P3, S3, rfl⟩) | (refine V.NDraw.any (by kernel_rfl) ?_) | fail)
               all_goals (conv => whnf)
               have F := fin d d d3 r0 (permIn_refl _ _ _) (St.sorted_one A1 A2 hai (by omega) q2) P3 S3
               exact ⟨rfl, rfl, [(0, _)], _, rfl, rfl, rfl, d3, F.1, F.2, rfl⟩)
        · first
            | (exfalso; omega)
            | (obtain ⟨⟨A1, A2, A3, A4⟩, B1, B2⟩ := parts d r0
               have z1 : d.size = d.size := rfl
               repeat' ((conv => whnf); first | (refine V.NIf.yes ?_ ?_; · (decide; done)) | (refine V.NIf.no ?_ ?_; · (decide; done)) | refine V.NCond.mk ?_ | refine V.NIf.not_ ?_ | refine V.NIf.dec_ ?_ | refine V.NIf.no (by omega) ?_ | refine V.NIf.yes (by omega) ?_ | refine V.NIf.mk (fun _ => ?_) (fun _ => ?_) | refine V.NWrap.ok (by omega) (by omega) ?_ | refine V.NWrap.u64 (by omega) (by omega) ?_ | refine V.NLt.mk (by omega) ?_ | refine V.NBoth.mk ?_ ?_ | refine V.NTF.yes (by omega) ?_ | refine V.NTF.no (by omega) ?_ | refine V.NTF.dec ?_ | refine V.NDraw.q (by exact rfl) (by kernel_rfl) ?_ | refine V.NApp.one (by first | omega | (simp; omega)) (by first | omega | (simp; omega)) ?_ | (refine V.NDraw.any (by kernel_rfl) ?_) | fail)
               all_goals (conv => whnf)
               have F := fin d d d r0 (permIn_refl _ _ _) (St.sorted_one A1 A2 hai (by omega) q2) (permIn_refl _ _ _) (St.sorted_one A3 A4 (by omega) eb q3)
               exact ⟨rfl, rfl, [(0, _)], _, rfl, rfl, rfl, d, F.1, F.2, rfl⟩)
end Go.Proofs.Ytfmejgohpokiaaa

/- Sorting that keeps the order of equals, of quotas: the whole. -/
namespace Go.Proofs.Ytfmejgohpokiaaa
open Go Go.Sort Go.RowKit V
set_option maxRecDepth 100000
set_option linter.unusedVariables false
set_option linter.unusedSimpArgs false
set_option maxHeartbeats 4000000
theorem v_symQ (nx : Nat) (O : Obs) (hT : Tail (nx + 1) O) (g : FuncId) (cf : Qt → Qt → Int) (hc : Cmp g cf) (lt : Qt → Qt → Bool) (S : SWO lt) (sz : Nat) (h3 : sz ≤ 2305843009213693951) : ∀ (N : Nat) (d : Array Qt) (a m b : Nat), b - a ≤ N → a < m → m < b → b ≤ d.size → d.size = sz → SortedIn lt a m d → SortedIn lt m b d →
    (∀ i j, a ≤ i → i < m → m ≤ j → j < b → less cf d[j]! d[i]! = lt d[j]! d[i]!) →
    Fam Try.prog 41 [.one (.ref 0), .one (.val (.int .i64 ((a : Int)))), .one (.val (.int .i64 ((m : Int)))), .one (.val (.int .i64 ((b : Int)))), .one (.clo g [])] 46 2 sz (ga encT d.toList) nx O (fun r => ∃ d', PermIn a b d d' ∧ SortedIn lt a b d' ∧ r = ga encT d'.toList)
  | 0, d, a, m, b, hN, h0, h1, _, _, _, _, _ => absurd hN (by omega)
  | N + 1, d, a, m, b, hN, h0, h1, h2, hs, H1, H2, HT => by
    subst hs
    have ih := fun (e : Array Qt) (x y z : Nat) (q1 : z - x < b - a) (q2 : a ≤ x) (q3 : x < y) (q4 : y < z) (q5 : z ≤ b) (q6 : e.size = d.size) r1 r2 r3 => v_symQ nx O hT g cf hc lt S d.size h3 N e x y z (by omega) q3 q4 (by omega) q6 r1 r2 r3
    by_cases hA : m = a + 1
    · subst hA
      exact v_symA nx O hT g cf hc lt S d a b (by omega) h2 (by omega) H2 (fun j j1 j2 => HT a j (Nat.le_refl _) (by omega) j1 j2)
    by_cases hB : b = m + 1
    · subst hB
      exact v_symB nx O hT g cf hc lt S d a m (by omega) h2 (by omega) H1 (fun i i1 i2 => HT i m i1 i2 (Nat.le_refl _) (by omega))
    by_cases hm : (a + b) / 2 < m
    · exact v_symC1 nx O hT g cf hc lt S d a m b (by omega) (by omega) h2 h3 H1 H2 HT hm ih
    · exact v_symC0 nx O hT g cf hc lt S d a m b (by omega) (by omega) h2 h3 H1 H2 HT (by omega) ih
theorem v_stabQ (nx : Nat) (O : Obs) (hT : Tail (nx + 1) O) (g : FuncId) (cf : Qt → Qt → Int) (hc : Cmp g cf) (lt : Qt → Qt → Bool) (S : SWO lt) (HL : ∀ x y : Qt, x.tg < y.tg → less cf y x = lt y x) (d : Array Qt) (h3 : d.size ≤ 1152921504606846975) (ht : ∀ i, i < d.size → d[i]!.tg = i) :
    Fam Try.prog 36 [.one (.ref 0), .one (.val (.int .i64 ((d.size : Int)))), .one (.clo g [])] 46 2 d.size (ga encT d.toList) nx O (fun r => ∃ d', PermIn 0 d.size d d' ∧ SortedIn lt 0 d.size d' ∧ r = ga encT d'.toList) := by
  refine Fam.mk hT ?_
  obtain ⟨n, en⟩ : ∃ n, d.size = n := ⟨_, rfl⟩
  rw [en] at h3 ht ⊢
  refine V.NCall.inl (f := 36) V.Tok V.mixed Try.func36 rfl Try.ntmps36 (by kernel_rfl) rfl ?_
  repeat' ((conv => whnf); first | refine V.NCond.mk ?_ | refine V.NIf.not_ ?_ | refine V.NIf.dec_ ?_ | refine V.NIf.no (by omega) ?_ | refine V.NIf.yes (by omega) ?_ | refine V.NIf.mk (fun _ => ?_) (fun _ => ?_) | refine V.NWrap.ok (by omega) (by omega) ?_ | refine V.NWrap.u64 (by omega) (by omega) ?_ | refine V.NLt.mk (by omega) ?_ | refine V.NBoth.mk ?_ ?_ | refine V.NTF.yes (by omega) ?_ | refine V.NTF.no (by omega) ?_ | refine V.NTF.dec ?_ | refine V.NDraw.q (by exact rfl) (by kernel_rfl) ?_ | refine V.NApp.one (by first | omega | (simp; omega)) (by first | omega | (simp; omega)) ?_ | (refine V.NDraw.any (by kernel_rfl) ?_) | fail)
  all_goals (conv => whnf)
  have ins : ∀ (d1 : Array Qt) (a b : Nat), d1.size = n → a ≤ b → b ≤ n → (∀ i, a ≤ i → i < n → d1[i]! = d[i]!) → PermIn a b d1 (insertionSort (less cf) d1 a b) ∧ St.Good Qt.tg lt a b (insertionSort (less cf) d1 a b) := fun d1 a b s1 ab bn same => by
    have tg1 : ∀ i, a ≤ i → i < b → d1[i]!.tg = i := fun i q1 q2 => by rw [same i q1 (by omega)]; exact ht i (by omega)
    rw [St.ins_eq (l1 := lt) (by omega) (fun p q q1 q2 q3 => HL _ _ (by rw [tg1 p (by omega) q1, tg1 q q2 (by omega)]; exact q3))]
    have h := insertionSort_holds S d1 a b ab (by omega)
    exact ⟨h.1, St.Good.of_perm (by omega) (fun i q1 q2 => by rw [tg1 i q1 q2]; omega) h.1 h.2⟩
  refine NLoop.fam hT (fun (s : Nat × Array Qt) => [(7, .one (.val (.int .i64 ((s.1 * 20 : Nat) : Int)))), (8, .one (.val (.int .i64 ((s.1 * 20 + 20 : Nat) : Int))))]) [(0, .one (.ref 0)), (1, .one (.val (.int .i64 n))), (2, .one (.clo g [])), (6, .one (.val (.int .i64 20)))] 46 2 n (fun s => ga encT s.2.toList) (fun s => n - s.1 * 20) (fun s => s.1 * 20 ≤ n ∧ PermIn 0 n d s.2 ∧ St.To Qt.tg lt 20 (s.1 * 20) s.2 ∧ ∀ i, s.1 * 20 ≤ i → i < n → s.2[i]! = d[i]!) (0, d) ⟨Nat.zero_le _, permIn_refl _ _ _, St.To.zero 20 d, fun _ _ _ => rfl⟩ [(0, _)] rfl rfl rfl (fun k hk => rfl) (by repeat' (first | exact rfl | exact Iff.rfl | exact trivial | exact (fun _ _ => rfl) | exact (fun _ h => absurd h (Nat.not_lt_zero _)) | refine ⟨?_, ?_⟩ | exact Iff.rfl | exact congrArg (fun z => V.SV.one (V.At.val (Value.int .i64 z))) (by omega))) (fun _ => rfl) rfl ?_
  rintro ⟨K, d1⟩ ⟨hK, P, TO, same⟩
  dsimp only at hK P TO same ⊢
  have s1 : d1.size = n := by rw [P.1, en]
  obtain ⟨a, ea⟩ : ∃ a, a = K * 20 := ⟨_, rfl⟩
  rw [← ea] at hK TO same ⊢
  by_cases hlt : a + 20 ≤ n
  · obtain ⟨I1, I2⟩ := ins d1 a (a + 20) s1 (by omega) hlt same
    have c := v_insQ nx O hT g cf hc d1 a (a + 20) (by omega) (by omega) (by omega)
    rw [s1] at c
    generalize insertionSort (less cf) d1 a (a + 20) = d2 at *
    have ek : (K + 1) * 20 = a + 20 := by omega
    have TO2 := (TO.same (fun i q => I1.2.1 i (.inl q))).push ea (by omega) I2
    have P2 : PermIn 0 n d d2 := permIn_trans _ _ _ _ _ P (permIn_mono _ _ _ _ 0 n (Nat.zero_le _) hlt (by omega) I1)
    have same2 : ∀ i, a + 20 ≤ i → i < n → d2[i]! = d[i]! := fun i q1 q2 => by rw [I1.2.1 i (.inr q1)]; exact same i (by omega) q2
    repeat' ((conv => whnf); first | refine V.NCond.mk ?_ | refine V.NIf.not_ ?_ | refine V.NIf.dec_ ?_ | refine V.NIf.no (by omega) ?_ | refine V.NIf.yes (by omega) ?_ | refine V.NIf.mk (fun _ => ?_) (fun _ => ?_) | refine V.NWrap.ok (by omega) (by omega) ?_ | refine V.NWrap.u64 (by omega) (by omega) ?_ | refine V.NLt.mk (by omega) ?_ | refine V.NBoth.mk ?_ ?_ | refine V.NTF.yes (by omega) ?_ | refine V.NTF.no (by omega) ?_ | refine V.NTF.dec ?_ | refine V.NDraw.q (by exact rfl) (by kernel_rfl) ?_ | refine V.NApp.one (by first | omega | (simp; omega)) (by first | omega | (simp; omega)) ?_ | (refine Fam.use c hT [(0, _)] rfl rfl rfl (fun k hk => rfl) ?_; rintro g1 rfl) | (refine V.NDraw.any (by kernel_rfl) ?_) | fail)
    all_goals (conv => whnf)
    exact FBack.at_ hT (K + 1, d2) [(0, _)] (by dsimp only; rw [ek]; exact ⟨hlt, P2, TO2, same2⟩) (by dsimp only; omega) ⟨congrArg (fun z : Int => SV.one (At.val (Value.int .i64 z))) (show ((a + 20 : Nat) : Int) = (((K + 1) * 20 : Nat) : Int) by omega), congrArg (fun z : Int => SV.one (At.val (Value.int .i64 z))) (show ((a + 20 : Nat) : Int) + 20 = (((K + 1) * 20 + 20 : Nat) : Int) by omega), rfl, rfl, rfl, rfl, trivial⟩ rfl rfl rfl (fun k hk => rfl)
  · obtain ⟨I1, I2⟩ := ins d1 a n s1 hK (Nat.le_refl _) same
    have c := v_insQ nx O hT g cf hc d1 a n hK (by omega) (by omega)
    rw [s1] at c
    generalize insertionSort (less cf) d1 a n = d2 at *
    have P2 : PermIn 0 n d d2 := permIn_trans _ _ _ _ _ P (permIn_mono _ _ _ _ 0 n (Nat.zero_le _) (Nat.le_refl _) (by omega) I1)
    have TO2 : St.To Qt.tg lt 20 n d2 := by
      have t0 := TO.same (fun i q => I1.2.1 i (.inl q))
      by_cases z : a < n
      · exact t0.last ea (by omega) I2 z (by omega)
      · obtain rfl : a = n := by omega
        exact t0
    clear ins I1 I2 TO same P
    repeat' ((conv => whnf); first | refine V.NCond.mk ?_ | refine V.NIf.not_ ?_ | refine V.NIf.dec_ ?_ | refine V.NIf.no (by omega) ?_ | refine V.NIf.yes (by omega) ?_ | refine V.NIf.mk (fun _ => ?_) (fun _ => ?_) | refine V.NWrap.ok (by omega) (by omega) ?_ | refine V.NWrap.u64 (by omega) (by omega) ?_ | refine V.NLt.mk (by omega) ?_ | refine V.NBoth.mk ?_ ?_ | refine V.NTF.yes (by omega) ?_ | refine V.NTF.no (by omega) ?_ | refine V.NTF.dec ?_ | refine V.NDraw.q (by exact rfl) (by kernel_rfl) ?_ | refine V.NApp.one (by first | omega | (simp; omega)) (by first | omega | (simp; omega)) ?_ | (refine Fam.use c hT [(0, _)] rfl rfl rfl (fun k hk => rfl) ?_; rintro g1 rfl) | (refine V.NDraw.any (by kernel_rfl) ?_) | fail)
    all_goals (conv => whnf)
    refine NLoop.fam hT (fun (s : Nat × Array Qt) => [(6, .one (.val (.int .i64 s.1)))]) [(0, .one (.ref 0)), (1, .one (.val (.int .i64 n))), (2, .one (.clo g []))] 46 2 n (fun s => ga encT s.2.toList) (fun s => n - s.1) (fun s => 20 ≤ s.1 ∧ s.1 ≤ 2 * n + 20 ∧ PermIn 0 n d s.2 ∧ St.To Qt.tg lt s.1 n s.2) (20, d2) ⟨Nat.le_refl _, by dsimp only; omega, P2, TO2⟩ [(0, _)] rfl rfl rfl (fun k hk => rfl) (by repeat' (first | exact rfl | exact Iff.rfl | exact trivial | exact (fun _ _ => rfl) | exact (fun _ h => absurd h (Nat.not_lt_zero _)) | refine ⟨?_, ?_⟩ | exact Iff.rfl | exact congrArg (fun z => V.SV.one (V.At.val (Value.int .i64 z))) (by omega))) (fun _ => rfl) rfl ?_
    clear P2 TO2 c d2 s1 hlt ea hK a K d1
    rintro ⟨bs, d1⟩ ⟨hb, hb2, P, TO⟩
    dsimp only at hb hb2 P TO ⊢
    have s1 : d1.size = n := by rw [P.1, en]
    by_cases hlt : bs < n
    · repeat' ((conv => whnf); first | refine V.NCond.mk ?_ | refine V.NIf.not_ ?_ | refine V.NIf.dec_ ?_ | refine V.NIf.no (by omega) ?_ | refine V.NIf.yes (by omega) ?_ | refine V.NIf.mk (fun _ => ?_) (fun _ => ?_) | refine V.NWrap.ok (by omega) (by omega) ?_ | refine V.NWrap.u64 (by omega) (by omega) ?_ | refine V.NLt.mk (by omega) ?_ | refine V.NBoth.mk ?_ ?_ | refine V.NTF.yes (by omega) ?_ | refine V.NTF.no (by omega) ?_ | refine V.NTF.dec ?_ | refine V.NDraw.q (by exact rfl) (by kernel_rfl) ?_ | refine V.NApp.one (by first | omega | (simp; omega)) (by first | omega | (simp; omega)) ?_ | (refine V.NDraw.any (by kernel_rfl) ?_) | fail)
      all_goals (conv => whnf)
      refine NLoop.fam hT (fun (s : Nat × Array Qt) => [(7, .one (.val (.int .i64 ((s.1 * (2 * bs) : Nat) : Int)))), (8, .one (.val (.int .i64 ((s.1 * (2 * bs) + 2 * bs : Nat) : Int))))]) [(0, .one (.ref 0)), (1, .one (.val (.int .i64 n))), (2, .one (.clo g [])), (6, .one (.val (.int .i64 bs)))] 46 2 n (fun s => ga encT s.2.toList) (fun s => n - s.1 * (2 * bs)) (fun s => s.1 * (2 * bs) ≤ n ∧ PermIn 0 n d s.2 ∧ St.To Qt.tg lt (2 * bs) (s.1 * (2 * bs)) s.2 ∧ St.Fr Qt.tg lt bs (s.1 * (2 * bs)) n s.2) (0, d1) ⟨by dsimp only; rw [Nat.zero_mul]; exact Nat.zero_le _, P, by dsimp only; rw [Nat.zero_mul]; exact St.To.zero _ _, by dsimp only; rw [Nat.zero_mul]; exact St.Fr.of_to TO⟩ [(0, _)] rfl rfl rfl (fun k hk => rfl) ⟨congrArg (fun z : Int => SV.one (At.val (Value.int .i64 z))) (show (0 : Int) = ((0 * (2 * bs) : Nat) : Int) by rw [Nat.zero_mul]; rfl), congrArg (fun z : Int => SV.one (At.val (Value.int .i64 z))) (show (2 : Int) * bs = ((0 * (2 * bs) + 2 * bs : Nat) : Int) by rw [Nat.zero_mul]; omega), rfl, rfl, rfl, rfl, trivial⟩ (fun _ => rfl) rfl ?_
      clear P TO s1 d1
      rintro ⟨K, d1⟩ ⟨hK, P, TO, FR⟩
      dsimp only at hK P TO FR ⊢
      have s1 : d1.size = n := by rw [P.1, en]
      obtain ⟨a, ea⟩ : ∃ a, a = K * (2 * bs) := ⟨_, rfl⟩
      rw [← ea] at hK TO FR ⊢
      by_cases hle : a + 2 * bs ≤ n
      · have G1 := FR.head (by omega)
        rw [show min (a + bs) n = a + bs by omega] at G1
        have G2 := FR.tail.head (by omega)
        rw [show min (a + bs + bs) n = a + 2 * bs by omega] at G2
        have c := v_symQ nx O hT g cf hc lt S n (by omega) (a + 2 * bs - a) d1 a (a + bs) (a + 2 * bs) (Nat.le_refl _) (by omega) (by omega) (by omega) s1 G1.s G2.s (fun i j i1 i2 j1 j2 => HL _ _ (by have := G1.t i i1 i2; have := G2.t j j1 j2; omega))
        have ek : (K + 1) * (2 * bs) = a + 2 * bs := by rw [Nat.succ_mul, ← ea]
        repeat' ((conv => whnf); first | refine V.NCond.mk ?_ | refine V.NIf.not_ ?_ | refine V.NIf.dec_ ?_ | refine V.NIf.no (by omega) ?_ | refine V.NIf.yes (by omega) ?_ | refine V.NIf.mk (fun _ => ?_) (fun _ => ?_) | refine V.NWrap.ok (by omega) (by omega) ?_ | refine V.NWrap.u64 (by omega) (by omega) ?_ | refine V.NLt.mk (by omega) ?_ | refine V.NBoth.mk ?_ ?_ | refine V.NTF.yes (by omega) ?_ | refine V.NTF.no (by omega) ?_ | refine V.NTF.dec ?_ | refine V.NDraw.q (by exact rfl) (by kernel_rfl) ?_ | refine V.NApp.one (by first | omega | (simp; omega)) (by first | omega | (simp; omega)) ?_ | (refine Fam.use c hT [(0, _)] rfl rfl rfl (fun k hk => rfl) ?_; rintro g1 ⟨d2, P2, S2, rfl⟩) | (refine V.NDraw.any (by kernel_rfl) ?_) | fail)
        all_goals (conv => whnf)
        have G := St.Good.merge (by omega) (by omega) (by omega) G1 G2 P2 S2
        have TO2 := (TO.same (fun i q => P2.2.1 i (.inl q))).push ea (by omega) G
        have FR2 : St.Fr Qt.tg lt bs (a + 2 * bs) n d2 := by
          have q := FR.tail.tail
          rw [show a + bs + bs = a + 2 * bs by omega] at q
          exact q.same fun i q => P2.2.1 i (.inr q)
        exact FBack.at_ hT (K + 1, d2) [(0, _)] (by dsimp only; rw [ek]; exact ⟨hle, permIn_trans _ _ _ _ _ P (permIn_mono _ _ _ _ 0 n (Nat.zero_le _) hle (by omega) P2), TO2, FR2⟩) (by dsimp only; rw [ek]; omega) ⟨congrArg (fun z : Int => SV.one (At.val (Value.int .i64 z))) (show ((a + 2 * bs : Nat) : Int) = (((K + 1) * (2 * bs) : Nat) : Int) by rw [ek]), congrArg (fun z : Int => SV.one (At.val (Value.int .i64 z))) (show ((a + 2 * bs : Nat) : Int) + 2 * (bs : Int) = (((K + 1) * (2 * bs) + 2 * bs : Nat) : Int) by rw [ek]; omega), rfl, rfl, rfl, rfl, trivial⟩ rfl rfl rfl (fun k hk => rfl)
      · by_cases hm : a + bs < n
        · have G1 := FR.head (by omega)
          rw [show min (a + bs) n = a + bs by omega] at G1
          have G2 := FR.tail.head hm
          rw [show min (a + bs + bs) n = n by omega] at G2
          have c := v_symQ nx O hT g cf hc lt S n (by omega) (n - a) d1 a (a + bs) n (Nat.le_refl _) (by omega) hm (by omega) s1 G1.s G2.s (fun i j i1 i2 j1 j2 => HL _ _ (by have := G1.t i i1 i2; have := G2.t j j1 j2; omega))
          rw [show ((a + bs : Nat) : Int) = (a : Int) + bs by omega] at c
          repeat' ((conv => whnf); first | refine V.NCond.mk ?_ | refine V.NIf.not_ ?_ | refine V.NIf.dec_ ?_ | refine V.NIf.no (by omega) ?_ | refine V.NIf.yes (by omega) ?_ | refine V.NIf.mk (fun _ => ?_) (fun _ => ?_) | refine V.NWrap.ok (by omega) (by omega) ?_ | refine V.NWrap.u64 (by omega) (by omega) ?_ | refine V.NLt.mk (by omega) ?_ | refine V.NBoth.mk ?_ ?_ | refine V.NTF.yes (by omega) ?_ | refine V.NTF.no (by omega) ?_ | refine V.NTF.dec ?_ | refine V.NDraw.q (by exact rfl) (by kernel_rfl) ?_ | refine V.NApp.one (by first | omega | (simp; omega)) (by first | omega | (simp; omega)) ?_ | (refine Fam.use c hT [(0, _)] rfl rfl rfl (fun k hk => rfl) ?_; rintro g1 ⟨d2, P2, S2, rfl⟩) | (refine V.NDraw.any (by kernel_rfl) ?_) | fail)
          all_goals (conv => whnf)
          have G := St.Good.merge (by omega) (by omega) (by omega) G1 G2 P2 S2
          have TO2 := (TO.same (fun i q => P2.2.1 i (.inl q))).last ea (by omega) G (by omega) (by omega)
          exact FBack.at_ hT (2 * bs, d2) [(0, _)] ⟨by dsimp only; omega, by dsimp only; omega, permIn_trans _ _ _ _ _ P (permIn_mono _ _ _ _ 0 n (Nat.zero_le _) (Nat.le_refl _) (by omega) P2), TO2⟩ (by dsimp only; omega) ⟨congrArg (fun z : Int => SV.one (At.val (Value.int .i64 z))) (show (bs : Int) * 2 = ((2 * bs : Nat) : Int) by omega), rfl, rfl, rfl, trivial⟩ rfl rfl rfl (fun k hk => rfl)
        · have TO2 : St.To Qt.tg lt (2 * bs) n d1 := by
            by_cases z : a < n
            · have G1 := FR.head z
              rw [show min (a + bs) n = n by omega] at G1
              exact TO.last ea (by omega) G1 z (by omega)
            · obtain rfl : a = n := by omega
              exact TO
          repeat' ((conv => whnf); first | refine V.NCond.mk ?_ | refine V.NIf.not_ ?_ | refine V.NIf.dec_ ?_ | refine V.NIf.no (by omega) ?_ | refine V.NIf.yes (by omega) ?_ | refine V.NIf.mk (fun _ => ?_) (fun _ => ?_) | refine V.NWrap.ok (by omega) (by omega) ?_ | refine V.NWrap.u64 (by omega) (by omega) ?_ | refine V.NLt.mk (by omega) ?_ | refine V.NBoth.mk ?_ ?_ | refine V.NTF.yes (by omega) ?_ | refine V.NTF.no (by omega) ?_ | refine V.NTF.dec ?_ | refine V.NDraw.q (by exact rfl) (by kernel_rfl) ?_ | refine V.NApp.one (by first | omega | (simp; omega)) (by first | omega | (simp; omega)) ?_ | (refine V.NDraw.any (by kernel_rfl) ?_) | fail)
          all_goals (conv => whnf)
          exact FBack.at_ hT (2 * bs, d1) [(0, _)] ⟨by dsimp only; omega, by dsimp only; omega, P, TO2⟩ (by dsimp only; omega) ⟨congrArg (fun z : Int => SV.one (At.val (Value.int .i64 z))) (show (bs : Int) * 2 = ((2 * bs : Nat) : Int) by omega), rfl, rfl, rfl, trivial⟩ rfl rfl rfl (fun k hk => rfl)
    · repeat' ((conv => whnf); first | refine V.NCond.mk ?_ | refine V.NIf.not_ ?_ | refine V.NIf.dec_ ?_ | refine V.NIf.no (by omega) ?_ | refine V.NIf.yes (by omega) ?_ | refine V.NIf.mk (fun _ => ?_) (fun _ => ?_) | refine V.NWrap.ok (by omega) (by omega) ?_ | refine V.NWrap.u64 (by omega) (by omega) ?_ | refine V.NLt.mk (by omega) ?_ | refine V.NBoth.mk ?_ ?_ | refine V.NTF.yes (by omega) ?_ | refine V.NTF.no (by omega) ?_ | refine V.NTF.dec ?_ | refine V.NDraw.q (by exact rfl) (by kernel_rfl) ?_ | refine V.NApp.one (by first | omega | (simp; omega)) (by first | omega | (simp; omega)) ?_ | (refine V.NDraw.any (by kernel_rfl) ?_) | fail)
      all_goals (conv => whnf)
      exact ⟨rfl, rfl, [(0, _)], _, rfl, rfl, rfl, d1, P, TO.all (by omega), rfl⟩
end Go.Proofs.Ytfmejgohpokiaaa

/- slices.SortStableFunc, of quotas, that stand each at its place: by what is left, the most first; of as much in the order of their places. -/
namespace Go.Proofs.Ytfmejgohpokiaaa
open Go Go.Sort Go.RowKit V
set_option maxRecDepth 100000
set_option linter.unusedVariables false
set_option linter.unusedSimpArgs false
set_option maxHeartbeats 4000000
def cmpI (u v : Int) : Int := if u < v then -1 else if v < u then 1 else 0
theorem v_isNaN (x : Int) : V.Fn Try.prog 37 [] [.one (.val (.int .i64 x))] (.bool false) := by
  refine V.Fn.mk_ V.Tok V.mixed Try.func37 rfl Try.ntmps37 (by kernel_rfl) rfl rfl ?_
  repeat' ((conv => whnf); first | refine V.NCond.mk ?_ | refine V.NIf.not_ ?_ | refine V.NIf.dec_ ?_ | refine V.NIf.no (by omega) ?_ | refine V.NIf.yes (by omega) ?_ | refine V.NIf.mk (fun _ => ?_) (fun _ => ?_) | refine V.NWrap.ok (by omega) (by omega) ?_ | refine V.NWrap.u64 (by omega) (by omega) ?_ | refine V.NLt.mk (by omega) ?_ | refine V.NBoth.mk ?_ ?_ | refine V.NTF.yes (by omega) ?_ | refine V.NTF.no (by omega) ?_ | refine V.NTF.dec ?_ | refine V.NDraw.q (by exact rfl) (by kernel_rfl) ?_ | refine V.NApp.one (by first | omega | (simp; omega)) (by first | omega | (simp; omega)) ?_ | (refine V.NDraw.any (by kernel_rfl) ?_) | fail)
  all_goals (conv => whnf)
  all_goals first
    | rfl
    | exact ⟨false, rfl, iff_of_false (by omega) (by decide)⟩
    | trace_state
theorem v_compare (u v : Int) : V.Fn Try.prog 31 [] [.one (.val (.int .i64 u)), .one (.val (.int .i64 v))] (.int .i64 (cmpI u v)) := by
  have c1 : u < v → cmpI u v = -1 := fun h => if_pos h
  have c2 : ¬ u < v → v < u → cmpI u v = 1 := fun h k => (if_neg h).trans (if_pos k)
  have c3 : ¬ u < v → ¬ v < u → cmpI u v = 0 := fun h k => (if_neg h).trans (if_neg k)
  refine V.Fn.mk_ V.Tok V.mixed Try.func31 rfl Try.ntmps31 (by kernel_rfl) rfl rfl ?_
  repeat' ((conv => whnf); first | (refine V.NIf.yes ?_ ?_; · (decide; done)) | (refine V.NIf.no ?_ ?_; · (decide; done)) | refine V.NCond.mk ?_ | refine V.NIf.not_ ?_ | refine V.NIf.dec_ ?_ | refine V.NIf.no (by omega) ?_ | refine V.NIf.yes (by omega) ?_ | refine V.NIf.mk (fun _ => ?_) (fun _ => ?_) | refine V.NWrap.ok (by omega) (by omega) ?_ | refine V.NWrap.u64 (by omega) (by omega) ?_ | refine V.NLt.mk (by omega) ?_ | refine V.NBoth.mk ?_ ?_ | refine V.NTF.yes (by omega) ?_ | refine V.NTF.no (by omega) ?_ | refine V.NTF.dec ?_ | refine V.NDraw.q (by exact rfl) (by kernel_rfl) ?_ | refine V.NApp.one (by first | omega | (simp; omega)) (by first | omega | (simp; omega)) ?_ | (first | refine V.Fn.k0 (v_isNaN _) rfl ?_ | refine V.Fn.q0 (v_isNaN _) rfl ?_ | refine V.Fn.a0 (v_isNaN _) rfl ?_) | (refine V.NDraw.any (by kernel_rfl) ?_) | fail)
  all_goals (conv => whnf)
  · rw [c1 (by assumption)]
  · rw [c2 (by assumption) (by assumption)]
  · rw [c3 (by assumption) (by assumption)]
theorem v_rawCmp (x y : Qt) : V.Fn Try.prog 30 [] [.agg [.val (.int .i64 x.q.pl), .val (.int .i64 x.q.le)], .agg [.val (.int .i64 y.q.pl), .val (.int .i64 y.q.le)]] (.int .i64 (cmpI y.q.le x.q.le)) := by
  have c := v_compare y.q.le x.q.le
  refine V.Fn.mk_ V.Tok V.mixed Try.func30 rfl Try.ntmps30 (by kernel_rfl) rfl rfl ?_
  repeat' ((conv => whnf); first | refine V.NCond.mk ?_ | refine V.NIf.not_ ?_ | refine V.NIf.dec_ ?_ | refine V.NIf.no (by omega) ?_ | refine V.NIf.yes (by omega) ?_ | refine V.NIf.mk (fun _ => ?_) (fun _ => ?_) | refine V.NWrap.ok (by omega) (by omega) ?_ | refine V.NWrap.u64 (by omega) (by omega) ?_ | refine V.NLt.mk (by omega) ?_ | refine V.NBoth.mk ?_ ?_ | refine V.NTF.yes (by omega) ?_ | refine V.NTF.no (by omega) ?_ | refine V.NTF.dec ?_ | refine V.NDraw.q (by exact rfl) (by kernel_rfl) ?_ | refine V.NApp.one (by first | omega | (simp; omega)) (by first | omega | (simp; omega)) ?_ | (first | refine V.Fn.k0 (c) rfl ?_ | refine V.Fn.q0 (c) rfl ?_ | refine V.Fn.a0 (c) rfl ?_) | (refine V.NDraw.any (by kernel_rfl) ?_) | fail)
  all_goals (conv => whnf)
  all_goals rfl
def encQ (x : Qu) : List Go.Value := [.int .i64 x.pl, .int .i64 x.le]
def bf (x y : Qu) : Bool := decide (y.le < x.le ∨ (y.le = x.le ∧ x.pl ≤ y.pl))
def srtQ (l : List Qu) : List Qu := l.mergeSort bf
def tagQ (q : Qu) : Qt := ⟨q, q.pl.toNat⟩
theorem tag_ga (l : List Qu) : ga encT ((l.map tagQ).toArray).toList = ga encQ l := by
  funext k
  unfold ga
  simp only
  have : (l.map tagQ).getD k default = tagQ (l.getD k default) := by
    rw [List.getD_eq_getElem?_getD, List.getD_eq_getElem?_getD, List.getElem?_map]
    cases l[k]? <;> rfl
  rw [this]
  rfl
def ltQ (x y : Qt) : Bool := decide (y.q.le < x.q.le ∨ (y.q.le = x.q.le ∧ x.tg < y.tg))
theorem swoQ : SWO ltQ where
  irrefl x := by unfold ltQ; simp
  trans x y z := by unfold ltQ; simp only [decide_eq_true_eq]; omega
  ntrans x y z := by unfold ltQ; simp only [decide_eq_false_iff_not]; omega
theorem bf_trans : ∀ (a b c : Qu), bf a b = true → bf b c = true → bf a c = true := by
  intro a b c; unfold bf; simp only [decide_eq_true_eq]; omega
theorem bf_total : ∀ (a b : Qu), (bf a b || bf b a) = true := by
  intro a b; unfold bf; simp only [Bool.or_eq_true, decide_eq_true_eq]; omega
theorem srtQ_uniq {l l' : List Qu} (p : l'.Perm l) (s : l'.Pairwise (fun x y => bf x y = true)) : l' = srtQ l := by
  have s2 : (srtQ l).Pairwise (fun x y => bf x y = true) := List.pairwise_mergeSort bf_trans bf_total l
  refine List.Perm.eq_of_pairwise (le := fun x y => bf x y = true) (fun a b _ _ h1 h2 => ?_) s s2 (p.trans (List.mergeSort_perm l bf).symm)
  unfold bf at h1 h2
  simp only [decide_eq_true_eq] at h1 h2
  cases a; cases b
  simp only [Qu.mk.injEq] at *
  omega
theorem v_sortQ (nx : Nat) (O : Obs) (hT : Tail (nx + 1) O) (l : List Qu) (hn : l.length ≤ 1152921504606846975) (hl : ∀ i, i < l.length → (l.getD i default).pl = i) :
    Fam Try.prog 29 [.one (.ref 0), .one (.clo 30 [])] 46 2 l.length (ga encQ l) nx O (fun r => ∀ k, k < l.length → r k = ga encQ (srtQ l) k) := by
  have sz : ((l.map tagQ).toArray).size = l.length := by simp
  have gt : ∀ i, i < l.length → ((l.map tagQ).toArray)[i]! = tagQ (l.getD i default) := fun i hi => by
    rw [getElem!_pos _ i (by simpa using hi)]
    simp [List.getD_eq_getElem?_getD, hi]
  have c := v_stabQ nx O hT 30 (fun x y => cmpI y.q.le x.q.le) v_rawCmp ltQ swoQ (fun x y h => by
    show decide (cmpI x.q.le y.q.le < 0) = ltQ y x
    unfold ltQ cmpI
    by_cases q : x.q.le < y.q.le
    · rw [if_pos q]; simp; omega
    · rw [if_neg q]
      by_cases q2 : y.q.le < x.q.le
      · rw [if_pos q2]; simp; omega
      · rw [if_neg q2]; simp; omega) ((l.map tagQ).toArray) (by rw [sz]; exact hn) (fun i hi => by
    rw [sz] at hi
    rw [gt i hi]
    unfold tagQ
    simp only [hl i hi]
    omega)
  rw [sz, tag_ga] at c
  have done : ∀ d' : Array Qt, PermIn 0 l.length ((l.map tagQ).toArray) d' → SortedIn ltQ 0 l.length d' → ∀ k, k < l.length → ga encT d'.toList k = ga encQ (srtQ l) k := fun d' P s k hk => by
    have s1 : d'.size = l.length := by rw [P.1, sz]
    have p : d'.toList.Perm ((l.map tagQ).toArray).toList := by
      have := P.2.2
      rwa [show d'.extract 0 l.length = d' by rw [← s1]; simp, show ((l.map tagQ).toArray).extract 0 l.length = (l.map tagQ).toArray by simp [List.take_of_length_le]] at this
    have e : d'.toList.map Qt.q = srtQ l := by
      refine srtQ_uniq ?_ ?_
      · have := p.map Qt.q
        rw [show (((l.map tagQ).toArray).toList).map Qt.q = l by
          rw [show ((l.map tagQ).toArray).toList = l.map tagQ from rfl, List.map_map, show Qt.q ∘ tagQ = id from rfl, List.map_id]] at this
        exact this
      · refine List.pairwise_map.2 (List.pairwise_iff_getElem.2 fun i j hi hj hij => ?_)
        have tp : ∀ x ∈ d'.toList, x.q.pl = x.tg := fun x hx => by
          have hx := p.mem_iff.1 hx
          rw [show ((l.map tagQ).toArray).toList = l.map tagQ from rfl] at hx
          obtain ⟨q, hq, rfl⟩ := List.mem_map.1 hx
          obtain ⟨i, hi, rfl⟩ := List.getElem_of_mem hq
          have := hl i hi
          rw [List.getD_eq_getElem?_getD, List.getElem?_eq_getElem hi] at this
          simp only [Option.getD_some] at this
          unfold tagQ
          simp only [this]
          omega
        have q := s i j (Nat.zero_le _) hij (by simpa [s1] using hj)
        rw [← arr_get, ← arr_get, List.getD_eq_getElem?_getD, List.getD_eq_getElem?_getD, List.getElem?_eq_getElem hi, List.getElem?_eq_getElem hj] at q
        simp only [Option.getD_some] at q
        have t1 := tp _ (List.getElem_mem hi)
        have t2 := tp _ (List.getElem_mem hj)
        unfold ltQ at q
        unfold bf
        simp only [decide_eq_false_iff_not] at q
        simp only [decide_eq_true_eq]
        omega
    rw [← e]
    unfold ga
    have : (d'.toList.map Qt.q).getD k default = (d'.toList.getD k default).q := by
      rw [List.getD_eq_getElem?_getD, List.getD_eq_getElem?_getD, List.getElem?_map]
      cases d'.toList[k]? <;> rfl
    rw [this]
    rfl
  refine Fam.mk hT ?_
  refine V.NCall.inl (f := 29) V.Tok V.mixed Try.func29 rfl Try.ntmps29 (by kernel_rfl) rfl ?_
  repeat' ((conv => whnf); first | refine V.NCond.mk ?_ | refine V.NIf.not_ ?_ | refine V.NIf.dec_ ?_ | refine V.NIf.no (by omega) ?_ | refine V.NIf.yes (by omega) ?_ | refine V.NIf.mk (fun _ => ?_) (fun _ => ?_) | refine V.NWrap.ok (by omega) (by omega) ?_ | refine V.NWrap.u64 (by omega) (by omega) ?_ | refine V.NLt.mk (by omega) ?_ | refine V.NBoth.mk ?_ ?_ | refine V.NTF.yes (by omega) ?_ | refine V.NTF.no (by omega) ?_ | refine V.NTF.dec ?_ | refine V.NDraw.q (by exact rfl) (by kernel_rfl) ?_ | refine V.NApp.one (by first | omega | (simp; omega)) (by first | omega | (simp; omega)) ?_ | (refine Fam.use c hT [(0, _)] rfl rfl rfl (fun k hk => rfl) ?_; rintro g1 ⟨d', P, S, rfl⟩) | (refine V.NDraw.any (by kernel_rfl) ?_) | fail)
  all_goals (conv => whnf)
  exact ⟨rfl, rfl, [(0, _)], _, rfl, rfl, rfl, done d' P S⟩
end Go.Proofs.Ytfmejgohpokiaaa

/- Plain facts on the parts of a total: wholes, what is left, who gets one more. -/
namespace Go.Proofs.Ytfmejgohpokiaaa
set_option linter.unusedVariables false
namespace Sh
def whs (t : Int) (ws : List Int) : List Int := ws.map fun w => t * w / sm ws
def lfs (t : Int) (ws : List Int) : List Int := ws.map fun w => t * w % sm ws
def rst (t : Int) (ws : List Int) : Int := t - sm (whs t ws)
def qus (ls : List Int) : List Qu := (List.range ls.length).map fun (i : Nat) => ⟨(i : Int), ls.getD i default⟩
def inc1 (l : List Int) (k : Nat) : List Int := l.set k (l.getD k default + 1)
def ord (t : Int) (ws : List Int) : List Qu := srtQ (qus (lfs t ws))
def raws (t : Int) (ws : List Int) (k : Nat) : List Int := ((ord t ws).take k).foldl (fun l q => inc1 l q.pl.toNat) (whs t ws)
def raw (t : Int) (ws : List Int) : List Int := raws t ws (rst t ws).toNat
def ow (l : List Int) (n k : Nat) : List Int := l.take k ++ List.replicate (n - k) 0
theorem whs_len (t : Int) (ws : List Int) : (whs t ws).length = ws.length := by simp [whs]
theorem lfs_len (t : Int) (ws : List Int) : (lfs t ws).length = ws.length := by simp [lfs]
theorem getD_map {α β : Type} [Inhabited α] [Inhabited β] {f : α → β} {l : List α} {k : Nat} (h : k < l.length) : (l.map f).getD k default = f (l.getD k default) := by
  rw [getD_at (by simpa using h), getD_at h, List.getElem_map]
theorem whs_at {t : Int} {ws : List Int} {k : Nat} (h : k < ws.length) : (whs t ws).getD k default = t * ws.getD k default / sm ws := getD_map h
theorem lfs_at {t : Int} {ws : List Int} {k : Nat} (h : k < ws.length) : (lfs t ws).getD k default = t * ws.getD k default % sm ws := getD_map h
theorem qus_len (l : List Int) : (qus l).length = l.length := by simp [qus]
theorem qus_at {l : List Int} {k : Nat} (h : k < l.length) : (qus l).getD k default = ⟨(k : Int), l.getD k default⟩ := by
  rw [getD_at (by rw [qus_len]; exact h)]
  simp [qus]
theorem ord_len (t : Int) (ws : List Int) : (ord t ws).length = ws.length := by
  unfold ord srtQ
  rw [List.length_mergeSort, qus_len, lfs_len]
theorem ord_perm (t : Int) (ws : List Int) : (ord t ws).Perm (qus (lfs t ws)) := List.mergeSort_perm _ _
theorem mem_qus {l : List Int} {q : Qu} (h : q ∈ qus l) : ∃ k : Nat, k < l.length ∧ q = ⟨(k : Int), l.getD k default⟩ := by
  unfold qus at h
  obtain ⟨k, hk, rfl⟩ := List.mem_map.1 h
  exact ⟨k, List.mem_range.1 hk, rfl⟩
theorem ord_pl {t : Int} {ws : List Int} {q : Qu} (h : q ∈ ord t ws) : 0 ≤ q.pl ∧ q.pl < ws.length ∧ q.le = t * ws.getD q.pl.toNat default % sm ws := by
  obtain ⟨k, hk, rfl⟩ := mem_qus ((ord_perm t ws).mem_iff.1 h)
  rw [lfs_len] at hk
  refine ⟨by simp only; omega, by simp only; omega, ?_⟩
  simp only
  rw [lfs_at hk, show ((k : Int).toNat) = k by omega]
theorem raws_succ {t : Int} {ws : List Int} {k : Nat} (h : k < ws.length) : raws t ws (k + 1) = inc1 (raws t ws k) ((ord t ws).getD k default).pl.toNat := by
  unfold raws
  have h2 : k < (ord t ws).length := by rw [ord_len]; exact h
  rw [List.take_succ_eq_append_getElem h2, List.foldl_append, ← getD_at h2]
  rfl
theorem raws_len (t : Int) (ws : List Int) : ∀ k, k ≤ ws.length → (raws t ws k).length = ws.length
  | 0, _ => by simp [raws, whs_len]
  | k + 1, h => by rw [raws_succ (by omega)]; simp [inc1, raws_len t ws k (by omega)]
theorem ow_len {l : List Int} {n k : Nat} (h : l.length = n) (hk : k ≤ n) : (ow l n k).length = n := by simp [ow]; omega
theorem ow_set {l : List Int} {n k : Nat} (h : l.length = n) (hk : k < n) : (ow l n k).set k (l.getD k default) = ow l n (k + 1) := by
  refine List.ext_getElem (by simp [ow]; omega) fun i h1 h2 => ?_
  rw [List.getElem_set]
  simp only [ow, List.length_set] at h1 h2 ⊢
  simp only [List.getElem_append, List.length_take, List.getElem_take, List.getElem_replicate]
  by_cases e : k = i
  · subst e
    rw [if_pos rfl, dif_pos (by omega), getD_at (by omega)]
  · rw [if_neg e]
    by_cases q : i < k
    · rw [dif_pos (by omega), dif_pos (by omega)]
    · rw [dif_neg (by omega), dif_neg (by omega)]
theorem ow_0 (l : List Int) (n : Nat) : ow l n 0 = List.replicate n 0 := by simp [ow]
theorem ow_n {l : List Int} {n : Nat} (h : l.length = n) : ow l n n = l := by
  unfold ow
  rw [List.take_of_length_le (by omega)]
  simp
/-! the sum of the wholes -/
theorem parts_sum (t : Int) (A : Int) (hA : 0 < A) (l : List Int) : sm (l.map fun w => t * w / A) * A + sm (l.map fun w => t * w % A) = t * sm l := by
  induction l with
  | nil => simp [sm]
  | cons w r ih =>
    simp only [List.map_cons, sm]
    have e := Int.mul_ediv_add_emod (t * w) A
    rw [Int.add_mul, Int.mul_add]
    rw [Int.mul_comm A] at e
    omega
theorem sm_nonneg {l : List Int} (h : ∀ x ∈ l, 0 ≤ x) : 0 ≤ sm l := by
  induction l with
  | nil => exact Int.le_refl _
  | cons z s ih =>
    have := ih fun w hw => h w (by simp [hw])
    have := h z (by simp)
    simp only [sm]; omega
theorem sm_take_le {l : List Int} (h : ∀ x ∈ l, 0 ≤ x) (k : Nat) : 0 ≤ sm (l.take k) ∧ sm (l.take k) ≤ sm l := by
  have e : sm l = sm (l.take k) + sm (l.drop k) := by rw [← sm_app, List.take_append_drop]
  have := sm_nonneg (l := l.drop k) fun x hx => h x (List.drop_subset _ _ hx)
  have := sm_nonneg (l := l.take k) fun x hx => h x (List.take_subset _ _ hx)
  omega
theorem rest_eq {t : Int} {ws : List Int} (ok : Oks ws) : rst t ws * sm ws = sm (lfs t ws) := by
  have := parts_sum t (sm ws) (by have := ok.sum; omega) ws
  unfold rst
  rw [Int.sub_mul]
  unfold whs lfs
  omega
theorem lf_bd {t : Int} {ws : List Int} (ok : Oks ws) : ∀ x ∈ lfs t ws, 0 ≤ x ∧ x ≤ sm ws - 1 := by
  intro x hx
  unfold lfs at hx
  obtain ⟨w, _, rfl⟩ := List.mem_map.1 hx
  have p : 0 < sm ws := by have := ok.sum; omega
  exact ⟨Int.emod_nonneg _ (by omega), by have := Int.emod_lt_of_pos (t * w) p; omega⟩
theorem wh_bd {t : Int} {ws : List Int} (ok : Oks ws) (ht : 0 ≤ t) : ∀ x ∈ whs t ws, 0 ≤ x ∧ x ≤ t := by
  intro x hx
  unfold whs at hx
  obtain ⟨w, hw, rfl⟩ := List.mem_map.1 hx
  have p := ok.sum
  have q := ok.all w hw
  refine ⟨Int.ediv_nonneg (Int.mul_nonneg ht q.1) (by omega), ?_⟩
  have := Int.ediv_le_ediv (c := sm ws) (by omega) (Int.mul_le_mul_of_nonneg_left (p.2.2 w hw) ht)
  rwa [Int.mul_ediv_cancel _ (by omega)] at this
theorem rst_bd {t : Int} {ws : List Int} (ok : Oks ws) : 0 ≤ rst t ws ∧ rst t ws < ws.length := by
  have e := rest_eq (t := t) ok
  have p := ok.sum
  have b := sm_bd (lf_bd (t := t) ok)
  rw [lfs_len] at b
  have n := ok.pos
  generalize rst t ws = r at *
  generalize sm ws = A at *
  constructor
  · refine Int.not_lt.1 fun h => ?_
    have : r * A ≤ -1 * A := Int.mul_le_mul_of_nonneg_right (by omega) (by omega)
    omega
  · refine Int.not_le.1 fun h => ?_
    have h1 : (ws.length : Int) * A ≤ r * A := Int.mul_le_mul_of_nonneg_right h (by omega)
    have h2 : (A - 1) * (ws.length : Int) = (ws.length : Int) * A - ws.length := by rw [Int.sub_mul, Int.mul_comm A]; omega
    omega
theorem rest_bd {t : Int} {ws : List Int} (ok : Oks ws) (ht : 0 ≤ t) (k : Nat) : 0 ≤ t - sm ((whs t ws).take k) ∧ t - sm ((whs t ws).take k) ≤ t := by
  have a := sm_take_le (fun x hx => (wh_bd (t := t) ok ht x hx).1) k
  have b := rst_bd (t := t) ok
  unfold rst at b
  omega
theorem raws_bd {t : Int} {ws : List Int} (ok : Oks ws) (ht : 0 ≤ t) : ∀ k, k ≤ ws.length → ∀ x ∈ raws t ws k, 0 ≤ x ∧ x ≤ t + k
  | 0, _ => by
    intro x hx
    have := wh_bd ok ht x (by simpa [raws] using hx)
    omega
  | k + 1, h => by
    intro x hx
    have ih := raws_bd ok ht k (by omega)
    rw [raws_succ (by omega)] at hx
    have hk : k < (ord t ws).length := by rw [ord_len]; omega
    have pl := ord_pl (getD_mem hk)
    have ln := raws_len t ws k (by omega)
    have hg := ih _ (getD_mem (l := raws t ws k) (k := ((ord t ws).getD k default).pl.toNat) (by omega))
    unfold inc1 at hx
    rcases List.mem_or_eq_of_mem_set hx with q | q
    · have := ih x q; omega
    · omega
end Sh
end Go.Proofs.Ytfmejgohpokiaaa

/- A function that writes a row: a call of it, of which the outcome is known by what it promises. -/
namespace Go.Proofs.Ytfmejgohpokiaaa.V
open Go Go.RowKit
set_option linter.unusedVariables false
/-- as Fam.call, but the objects behind the call are given outright, by what the contract promises -/
theorem Fam.callQ {P : Program} {f : FuncId} {args : List SV} {t s n nx : Nat} {get : Nat → List Value} {O : Obs} {Q : (Nat → List Value) → Prop} (h : Fam P f args t s n get nx O Q) (hT : Tail (nx + 1) O) {obs : Obs} {args' : List SV} {K : SV → Obs → Nat → Prop} (l : List (Nat × Nat)) (obs2 : Obs)
    (ha : args' = args.map (renS (sgm l))) (hab : argB (nx + 1) args = true) (hi : injB (sgm l) (nx + 1) = true) (hinv : ∀ i, i < nx + 1 → sgm l i < nx + 1 ∧ sgm l (sgm l i) = i) (ho : ObsLe (sgm l) obs ((0, .row t s n get) :: O)) (hb2 : obsB (nx + 1) obs2 = true)
    (ho2 : ∀ g', Q g' → ObsLe (sgm l) ((0, .row t s n g') :: O) obs2) (hK : K (.tup []) obs2 (nx + 1)) : NCall P f args' obs (nx + 1) K := by
  subst ha
  refine ⟨h.b, fun B ρ w xs hC hxs => ?_⟩
  have c := hC.head ho (hT.bz t s n get) hi
  refine (h.h B _ w xs c (Svs.ren_ hab hxs)).mono ?_
  rintro e' w' ⟨v, o, m, ρ', x, hK', hx, he, hv, hC', hb, hoth⟩
  obtain ⟨rfl, rfl, g', rfl, hQ⟩ := hK'.h
  have c2 := hC'.head (ho2 g' hQ) hb2 hi
  refine ⟨_, _, _, _, x, hK, fun i y hy => ?_, he, ?_, c2, hb, hoth⟩
  · have hi' : i < nx + 1 := by
      rcases Nat.lt_or_ge i (nx + 1) with q | q
      · exact q
      · rw [hC.new i q] at hy; cases hy
    obtain ⟨q1, q2⟩ := hinv i hi'
    rw [cut_lt hi']
    refine hx _ _ ?_
    rw [cut_lt q1]
    unfold via
    rw [q2]
    exact hy
  · exact hv
end Go.Proofs.Ytfmejgohpokiaaa.V

/- What share.Raw and share.Parts answer. -/
namespace Go.Proofs.Ytfmejgohpokiaaa
open Go Go.RowKit V
set_option maxRecDepth 100000
set_option linter.unusedVariables false
set_option linter.unusedSimpArgs false
set_option maxHeartbeats 4000000
theorem v_shRaw (t : Int) (ws : List Int) (ok : Sh.Oks ws) (ht : 0 ≤ t ∧ t ≤ 1152921504606846976) : V.FnR Try.prog 20 [.arr 1 ws.length (ga e1 ws)] [.one (.val (.int .i64 t)), .one (.ref 0)] (.one (.ref 1)) [.row 3 1 (Sh.raw t ws).length (ga e1 (Sh.raw t ws))] := by
  have le := ok.le
  have ps := ok.pos
  have sb := ok.sum
  refine V.FnR.mk_ V.Tok V.mixed Try.func20 rfl Try.ntmps20 (by kernel_rfl) rfl rfl rfl rfl ?_
  repeat' ((conv => whnf); first | refine V.NCond.mk ?_ | refine V.NIf.not_ ?_ | refine V.NIf.dec_ ?_ | refine V.NIf.no (by omega) ?_ | refine V.NIf.yes (by omega) ?_ | refine V.NIf.mk (fun _ => ?_) (fun _ => ?_) | refine V.NWrap.ok (by omega) (by omega) ?_ | refine V.NWrap.u64 (by omega) (by omega) ?_ | refine V.NLt.mk (by omega) ?_ | refine V.NBoth.mk ?_ ?_ | refine V.NTF.yes (by omega) ?_ | refine V.NTF.no (by omega) ?_ | refine V.NTF.dec ?_ | refine V.NDraw.q (by exact rfl) (by kernel_rfl) ?_ | refine V.NApp.one (by first | omega | (simp; omega)) (by first | omega | (simp; omega)) ?_ | (refine V.NDraw.any (by kernel_rfl) ?_) | fail)
  all_goals (conv => whnf)
  refine V.NLoop.auto (fun (k : Nat) => [(19, .one (.val (.int .i64 k))), (5, .one (.val (.int .i64 (Sh.sm (ws.take k)))))]) (fun (k : Nat) => []) [] [] (fun (k : Nat) => ws.length - k) (fun (k : Nat) => k ≤ ws.length) 0 (Nat.zero_le _) (by repeat' (first | exact rfl | exact Iff.rfl | exact trivial | exact (fun _ _ => rfl) | exact (fun _ h => absurd h (Nat.not_lt_zero _)) | refine ⟨?_, ?_⟩ | exact Iff.rfl | exact congrArg (fun z => V.SV.one (V.At.val (Value.int .i64 z))) (by omega))) (by repeat' (first | exact rfl | exact Iff.rfl | exact trivial | exact (fun _ _ => rfl) | exact (fun _ h => absurd h (Nat.not_lt_zero _)) | refine ⟨?_, ?_⟩ | exact Iff.rfl | exact congrArg (fun z => V.SV.one (V.At.val (Value.int .i64 z))) (by omega))) (fun _ => ⟨rfl, rfl⟩) ?_; (conv => whnf); refine ⟨⟨rfl, rfl⟩, ?_⟩
  rintro k hk
  have tk := Sh.sm_take_le (fun x hx => (ok.all x hx).1) k
  by_cases hlt : k < ws.length
  · have e := Sh.sm_take hlt
    have w1 := ok.all _ (getD_mem hlt)
    repeat' ((conv => whnf); first | refine V.NCond.mk ?_ | refine V.NIf.not_ ?_ | refine V.NIf.dec_ ?_ | refine V.NIf.no (by omega) ?_ | refine V.NIf.yes (by omega) ?_ | refine V.NIf.mk (fun _ => ?_) (fun _ => ?_) | refine V.NWrap.ok (by omega) (by omega) ?_ | refine V.NWrap.u64 (by omega) (by omega) ?_ | refine V.NLt.mk (by omega) ?_ | refine V.NBoth.mk ?_ ?_ | refine V.NTF.yes (by omega) ?_ | refine V.NTF.no (by omega) ?_ | refine V.NTF.dec ?_ | refine V.NDraw.q (by exact rfl) (by kernel_rfl) ?_ | refine V.NApp.one (by first | omega | (simp; omega)) (by first | omega | (simp; omega)) ?_ | (refine NIdx.mk ⟨k, rfl, by omega, ?_⟩) | (refine V.NDraw.any (by kernel_rfl) ?_) | fail)
    all_goals (conv => whnf)
    exact V.NBack.at_ (k + 1) [] (by omega) (by omega) (by repeat' (first | exact rfl | exact Iff.rfl | exact trivial | exact (fun _ _ => rfl) | exact (fun _ h => absurd h (Nat.not_lt_zero _)) | refine ⟨?_, ?_⟩ | exact Iff.rfl | exact congrArg (fun z => V.SV.one (V.At.val (Value.int .i64 z))) (by omega))) rfl (by repeat' (first | exact rfl | exact Iff.rfl | exact trivial | exact (fun _ _ => rfl) | exact (fun _ h => absurd h (Nat.not_lt_zero _)) | refine ⟨?_, ?_⟩ | exact Iff.rfl | exact congrArg (fun z => V.SV.one (V.At.val (Value.int .i64 z))) (by omega))) (by repeat' (first | exact rfl | exact Iff.rfl | exact trivial | exact (fun _ _ => rfl) | exact (fun _ h => absurd h (Nat.not_lt_zero _)) | refine ⟨?_, ?_⟩ | exact Iff.rfl | exact congrArg (fun z => V.SV.one (V.At.val (Value.int .i64 z))) (by omega))) (by repeat' (first | exact rfl | exact Iff.rfl | exact trivial | exact (fun _ _ => rfl) | exact (fun _ h => absurd h (Nat.not_lt_zero _)) | refine ⟨?_, ?_⟩ | exact Iff.rfl | exact congrArg (fun z => V.SV.one (V.At.val (Value.int .i64 z))) (by omega)))
  · obtain rfl : k = ws.length := by omega
    rw [List.take_length]
    repeat' ((conv => whnf); first | refine V.NCond.mk ?_ | refine V.NIf.not_ ?_ | refine V.NIf.dec_ ?_ | refine V.NIf.no (by omega) ?_ | refine V.NIf.yes (by omega) ?_ | refine V.NIf.mk (fun _ => ?_) (fun _ => ?_) | refine V.NWrap.ok (by omega) (by omega) ?_ | refine V.NWrap.u64 (by omega) (by omega) ?_ | refine V.NLt.mk (by omega) ?_ | refine V.NBoth.mk ?_ ?_ | refine V.NTF.yes (by omega) ?_ | refine V.NTF.no (by omega) ?_ | refine V.NTF.dec ?_ | refine V.NDraw.q (by exact rfl) (by kernel_rfl) ?_ | refine V.NApp.one (by first | omega | (simp; omega)) (by first | omega | (simp; omega)) ?_ | (refine NMake.mk ⟨ws.length, ws.length, rfl, rfl, by omega, by omega, by first | omega | decide | (simp; done) | (simp; omega), ?_⟩) | (refine V.NDraw.any (by kernel_rfl) ?_) | fail)
    all_goals (conv => whnf)
    have eW := fun k => @Sh.whs_at t ws k
    have eL := fun k => @Sh.lfs_at t ws k
    have lW := Sh.whs_len t ws
    have lL := Sh.lfs_len t ws
    have rb := Sh.rest_bd ok ht.1
    have wb := Sh.wh_bd ok ht.1
    have rr := Sh.rst_bd (t := t) ok
    have er : Sh.rst t ws = t - Sh.sm (Sh.whs t ws) := rfl
    refine V.NLoop.auto (fun (k : Nat) => [(33, .one (.val (.int .i64 k))), (10, .one (.val (.int .i64 (t - Sh.sm ((Sh.whs t ws).take k))))), (8, .one (.ref 2)), (9, .one (.ref 3))]) (fun (k : Nat) => [(2, .row 3 1 ws.length (ga e1 (Sh.ow (Sh.whs t ws) ws.length k))), (3, .row 46 2 ((Sh.qus (Sh.lfs t ws)).take k).length (ga encQ ((Sh.qus (Sh.lfs t ws)).take k)))]) [] [] (fun (k : Nat) => ws.length - k) (fun (k : Nat) => k ≤ ws.length) 0 (Nat.zero_le _) (by (conv => whnf); exact ⟨rfl, congrArg (fun z => V.SV.one (V.At.val (Value.int .i64 z))) (Int.sub_zero t).symm, rfl, rfl, trivial⟩) (by (conv => whnf); exact ⟨⟨rfl, rfl, rfl, fun k hk => (by rw [Sh.ow_0, ga_at (by simpa using hk)]; simp; rfl)⟩, ⟨rfl, rfl, rfl, fun k hk => absurd hk (Nat.not_lt_zero _)⟩, trivial⟩) (fun _ => ⟨rfl, rfl⟩) ?_; (conv => whnf); refine ⟨⟨rfl, rfl⟩, ?_⟩
    rintro k hk
    have lq : (Sh.qus (Sh.lfs t ws)).length = ws.length := by rw [Sh.qus_len, lL]
    have lo := Sh.ow_len lW hk
    have rbk := rb k
    by_cases hlt : k < ws.length
    · have w1 := ok.all _ (getD_mem hlt)
      have wd := v_wide t (ws.getD k default) (Sh.sm ws) ht ⟨w1.1, sb.2.2 _ (getD_mem hlt)⟩ ⟨sb.1, sb.2.1⟩
      rw [← eW k hlt, ← eL k hlt] at wd
      have wk := wb _ (getD_mem (l := Sh.whs t ws) (k := k) (by omega))
      have os := Sh.ow_set lW hlt
      have qs : (Sh.qus (Sh.lfs t ws)).take (k + 1) = (Sh.qus (Sh.lfs t ws)).take k ++ [⟨(k : Int), (Sh.lfs t ws).getD k default⟩] := by
        rw [List.take_succ_eq_append_getElem (by omega), ← getD_at (by omega), Sh.qus_at (by omega)]
      have st := Sh.sm_take (l := Sh.whs t ws) (k := k) (by omega)
      have rb1 := rb (k + 1)
      have lqk : ((Sh.qus (Sh.lfs t ws)).take k).length = k := by simp; omega
      generalize (Sh.qus (Sh.lfs t ws)).take k = Q at *
      generalize (Sh.whs t ws).getD k default = W at *
      generalize (Sh.lfs t ws).getD k default = L at *
      generalize Sh.ow (Sh.whs t ws) ws.length k = O at *
      repeat' ((conv => whnf); first | (refine NPut.is_ (en := e1) (l := O) W (Sh.ow (Sh.whs t ws) ws.length (k + 1)) os (by omega) rfl ?_) | (refine NApp.one (en := encQ) (l := Q) (x := ⟨(k : Int), L⟩) (by first | omega | (simp; omega)) (by first | omega | (simp; omega)) ?_) | refine V.NCond.mk ?_ | refine V.NIf.not_ ?_ | refine V.NIf.dec_ ?_ | refine V.NIf.no (by omega) ?_ | refine V.NIf.yes (by omega) ?_ | refine V.NIf.mk (fun _ => ?_) (fun _ => ?_) | refine V.NWrap.ok (by omega) (by omega) ?_ | refine V.NWrap.u64 (by omega) (by omega) ?_ | refine V.NLt.mk (by omega) ?_ | refine V.NBoth.mk ?_ ?_ | refine V.NTF.yes (by omega) ?_ | refine V.NTF.no (by omega) ?_ | refine V.NTF.dec ?_ | refine V.NDraw.q (by exact rfl) (by kernel_rfl) ?_ | refine V.NApp.one (by first | omega | (simp; omega)) (by first | omega | (simp; omega)) ?_ | (refine NIdx.mk ⟨k, rfl, by omega, ?_⟩) | (first | refine V.Fn.k0 (wd) rfl ?_ | refine V.Fn.q0 (wd) rfl ?_ | refine V.Fn.a0 (wd) rfl ?_) | (refine V.NDraw.any (by kernel_rfl) ?_) | fail)
      all_goals (conv => whnf)
      exact V.NBack.at_ (k + 1) [(3, 5)] (by omega) (by omega) (by repeat' (first | exact rfl | exact Iff.rfl | exact trivial | exact (fun _ _ => rfl) | exact (fun _ h => absurd h (Nat.not_lt_zero _)) | refine ⟨?_, ?_⟩ | exact Iff.rfl | exact congrArg (fun z => V.SV.one (V.At.val (Value.int .i64 z))) (by omega))) rfl ⟨⟨rfl, rfl, rfl, fun _ _ => rfl⟩, ObLe.as_ qs, trivial⟩ (by repeat' (first | exact rfl | exact Iff.rfl | exact trivial | exact (fun _ _ => rfl) | exact (fun _ h => absurd h (Nat.not_lt_zero _)) | refine ⟨?_, ?_⟩ | exact Iff.rfl | exact congrArg (fun z => V.SV.one (V.At.val (Value.int .i64 z))) (by omega))) (by repeat' (first | exact rfl | exact Iff.rfl | exact trivial | exact (fun _ _ => rfl) | exact (fun _ h => absurd h (Nat.not_lt_zero _)) | refine ⟨?_, ?_⟩ | exact Iff.rfl | exact congrArg (fun z => V.SV.one (V.At.val (Value.int .i64 z))) (by omega)))
    · obtain rfl : k = ws.length := by omega
      rw [Sh.ow_n lW, List.take_of_length_le (Nat.le_of_eq lW), List.take_of_length_le (Nat.le_of_eq lq), ← er]
      have sq := v_sortQ 3 [(3, .arr 1 ws.length (ga e1 ws)), (1, .row 3 1 0 (fun _ => [])), (2, .row 3 1 ws.length (ga e1 (Sh.whs t ws)))] (Tail.of rfl rfl) (Sh.qus (Sh.lfs t ws)) (by omega) (fun i hi => by rw [Sh.qus_at (by omega)])
      have om := fun q => @Sh.ord_pl t ws q
      have ol := Sh.ord_len t ws
      have es : srtQ (Sh.qus (Sh.lfs t ws)) = Sh.ord t ws := rfl
      rw [es, lq] at sq
      rw [lq]
      have rs := fun k => @Sh.raws_succ t ws k
      have rl := Sh.raws_len t ws
      have rd := Sh.raws_bd (t := t) ok ht.1
      have r0 : Sh.raws t ws 0 = Sh.whs t ws := rfl
      have rw_ : Sh.raw t ws = Sh.raws t ws (Sh.rst t ws).toNat := rfl
      obtain ⟨r, hr⟩ : ∃ r : Nat, Sh.rst t ws = r := ⟨(Sh.rst t ws).toNat, by omega⟩
      rw [hr, Int.toNat_natCast] at rw_
      rw [hr] at rr ⊢
      rw [rw_]
      generalize Sh.ord t ws = D at *
      repeat' ((conv => whnf); first | refine V.NCond.mk ?_ | refine V.NIf.not_ ?_ | refine V.NIf.dec_ ?_ | refine V.NIf.no (by omega) ?_ | refine V.NIf.yes (by omega) ?_ | refine V.NIf.mk (fun _ => ?_) (fun _ => ?_) | refine V.NWrap.ok (by omega) (by omega) ?_ | refine V.NWrap.u64 (by omega) (by omega) ?_ | refine V.NLt.mk (by omega) ?_ | refine V.NBoth.mk ?_ ?_ | refine V.NTF.yes (by omega) ?_ | refine V.NTF.no (by omega) ?_ | refine V.NTF.dec ?_ | refine V.NDraw.q (by exact rfl) (by kernel_rfl) ?_ | refine V.NApp.one (by first | omega | (simp; omega)) (by first | omega | (simp; omega)) ?_ | (refine Fam.callQ sq (Tail.of rfl rfl) [(3, 0), (0, 3)] [(3, .row 46 2 ws.length (ga encQ D)), (0, .arr 1 ws.length (ga e1 ws)), (1, .row 3 1 0 (fun _ => [])), (2, .row 3 1 ws.length (ga e1 (Sh.whs t ws)))] rfl rfl rfl (by decide) ⟨⟨rfl, rfl, rfl, fun _ _ => rfl⟩, ⟨rfl, rfl, fun _ _ => rfl⟩, ⟨rfl, rfl, rfl, fun _ _ => rfl⟩, ⟨rfl, rfl, rfl, fun _ _ => rfl⟩, trivial⟩ rfl (fun g hg => ⟨⟨rfl, rfl, rfl, hg⟩, ⟨rfl, rfl, fun _ _ => rfl⟩, ⟨rfl, rfl, rfl, fun _ _ => rfl⟩, ⟨rfl, rfl, rfl, fun _ _ => rfl⟩, trivial⟩) ?_) | (refine NCut.mk ⟨0, r, rfl, rfl, by omega, by omega, ?_⟩) | (refine V.NDraw.any (by kernel_rfl) ?_) | fail)
      all_goals (conv => whnf)
      refine V.NLoop.auto (fun (k : Nat) => [(65, .one (.val (.int .i64 k))), (8, .one (.ref 2))]) (fun (k : Nat) => [(2, .row 3 1 ws.length (ga e1 (Sh.raws t ws k)))]) [] [] (fun (k : Nat) => r - k) (fun (k : Nat) => k ≤ r) 0 (Nat.zero_le _) (by repeat' (first | exact rfl | exact Iff.rfl | exact trivial | exact (fun _ _ => rfl) | exact (fun _ h => absurd h (Nat.not_lt_zero _)) | refine ⟨?_, ?_⟩ | exact Iff.rfl | exact congrArg (fun z => V.SV.one (V.At.val (Value.int .i64 z))) (by omega))) (by repeat' (first | exact rfl | exact Iff.rfl | exact trivial | exact (fun _ _ => rfl) | exact (fun _ h => absurd h (Nat.not_lt_zero _)) | refine ⟨?_, ?_⟩ | exact Iff.rfl | exact congrArg (fun z => V.SV.one (V.At.val (Value.int .i64 z))) (by omega))) (fun _ => ⟨rfl, rfl⟩) ?_; (conv => whnf); refine ⟨⟨rfl, rfl⟩, ?_⟩
      rintro k hk
      by_cases hlt : k < r
      · have pq := om (D.getD (0 + k) default) (getD_mem (by omega))
        have ln := rl k (by omega)
        have bd := rd k (by omega) _ (getD_mem (l := Sh.raws t ws k) (k := (D.getD (0 + k) default).pl.toNat) (by omega))
        have nx := rs k (by omega)
        rw [show D.getD k default = D.getD (0 + k) default by rw [Nat.zero_add]] at nx
        unfold Sh.inc1 at nx
        repeat' ((conv => whnf); first | refine V.NCond.mk ?_ | refine V.NIf.not_ ?_ | refine V.NIf.dec_ ?_ | refine V.NIf.no (by omega) ?_ | refine V.NIf.yes (by omega) ?_ | refine V.NIf.mk (fun _ => ?_) (fun _ => ?_) | refine V.NWrap.ok (by omega) (by omega) ?_ | refine V.NWrap.u64 (by omega) (by omega) ?_ | refine V.NLt.mk (by omega) ?_ | refine V.NBoth.mk ?_ ?_ | refine V.NTF.yes (by omega) ?_ | refine V.NTF.no (by omega) ?_ | refine V.NTF.dec ?_ | refine V.NDraw.q (by exact rfl) (by kernel_rfl) ?_ | refine V.NApp.one (by first | omega | (simp; omega)) (by first | omega | (simp; omega)) ?_ | (refine NIdx.mk ⟨k, rfl, by omega, ?_⟩) | (refine NIdx.mk ⟨(D.getD (0 + k) default).pl.toNat, by omega, by omega, ?_⟩) | (refine NPut.is_ (en := e1) (l := Sh.raws t ws k) _ (Sh.raws t ws (k + 1)) nx.symm (by omega) rfl ?_) | (refine V.NDraw.any (by kernel_rfl) ?_) | fail)
        all_goals (conv => whnf)
        exact V.NBack.at_ (k + 1) [] (by omega) (by omega) (by repeat' (first | exact rfl | exact Iff.rfl | exact trivial | exact (fun _ _ => rfl) | exact (fun _ h => absurd h (Nat.not_lt_zero _)) | refine ⟨?_, ?_⟩ | exact Iff.rfl | exact congrArg (fun z => V.SV.one (V.At.val (Value.int .i64 z))) (by omega))) rfl (by repeat' (first | exact rfl | exact Iff.rfl | exact trivial | exact (fun _ _ => rfl) | exact (fun _ h => absurd h (Nat.not_lt_zero _)) | refine ⟨?_, ?_⟩ | exact Iff.rfl | exact congrArg (fun z => V.SV.one (V.At.val (Value.int .i64 z))) (by omega))) (by repeat' (first | exact rfl | exact Iff.rfl | exact trivial | exact (fun _ _ => rfl) | exact (fun _ h => absurd h (Nat.not_lt_zero _)) | refine ⟨?_, ?_⟩ | exact Iff.rfl | exact congrArg (fun z => V.SV.one (V.At.val (Value.int .i64 z))) (by omega))) (by repeat' (first | exact rfl | exact Iff.rfl | exact trivial | exact (fun _ _ => rfl) | exact (fun _ h => absurd h (Nat.not_lt_zero _)) | refine ⟨?_, ?_⟩ | exact Iff.rfl | exact congrArg (fun z => V.SV.one (V.At.val (Value.int .i64 z))) (by omega)))
      · obtain rfl : k = r := by omega
        repeat' ((conv => whnf); first | refine V.NCond.mk ?_ | refine V.NIf.not_ ?_ | refine V.NIf.dec_ ?_ | refine V.NIf.no (by omega) ?_ | refine V.NIf.yes (by omega) ?_ | refine V.NIf.mk (fun _ => ?_) (fun _ => ?_) | refine V.NWrap.ok (by omega) (by omega) ?_ | refine V.NWrap.u64 (by omega) (by omega) ?_ | refine V.NLt.mk (by omega) ?_ | refine V.NBoth.mk ?_ ?_ | refine V.NTF.yes (by omega) ?_ | refine V.NTF.no (by omega) ?_ | refine V.NTF.dec ?_ | refine V.NDraw.q (by exact rfl) (by kernel_rfl) ?_ | refine V.NApp.one (by first | omega | (simp; omega)) (by first | omega | (simp; omega)) ?_ | (refine V.NDraw.any (by kernel_rfl) ?_) | fail)
        all_goals (conv => whnf)
        exact NRet.mk_ [some 2] rfl rfl ⟨⟨rfl, rfl, (rl k (by omega)).symm, fun k hk => rfl⟩, trivial⟩
def _root_.Go.Proofs.Ytfmejgohpokiaaa.Sh.pE (t : Int) (ws : List Int) : Int := if Sh.chk ws ≠ 0 then Sh.chk ws else if t < 0 ∨ 1152921504606846976 < t then 3 else 0
def _root_.Go.Proofs.Ytfmejgohpokiaaa.Sh.pL (t : Int) (ws : List Int) : List Int := if Sh.pE t ws = 0 then Sh.raw t ws else []
theorem _root_.Go.Proofs.Ytfmejgohpokiaaa.Sh.pE_cases (t : Int) (ws : List Int) : (¬ Sh.chk ws = 0 ∧ Sh.pE t ws = Sh.chk ws ∧ Sh.pL t ws = []) ∨ (Sh.chk ws = 0 ∧ (t < 0 ∨ 1152921504606846976 < t) ∧ Sh.pE t ws = 3 ∧ Sh.pL t ws = []) ∨ (Sh.chk ws = 0 ∧ (0 ≤ t ∧ t ≤ 1152921504606846976) ∧ Sh.Oks ws ∧ Sh.pE t ws = 0 ∧ Sh.pL t ws = Sh.raw t ws) := by
  by_cases a : Sh.chk ws = 0
  · by_cases b : t < 0 ∨ 1152921504606846976 < t
    · have e : Sh.pE t ws = 3 := (if_neg (fun z => z a)).trans (if_pos b)
      exact .inr (.inl ⟨a, b, e, if_neg (by rw [e]; decide)⟩)
    · have e : Sh.pE t ws = 0 := (if_neg (fun z => z a)).trans (if_neg b)
      exact .inr (.inr ⟨a, by omega, Sh.chk_ok a, e, if_pos e⟩)
  · have e : Sh.pE t ws = Sh.chk ws := if_pos a
    exact .inl ⟨a, e, if_neg (by rw [e]; exact a)⟩
theorem v_shParts (t : Int) (ws : List Int) (hl : ws.length ≤ 9223372036854775807) : V.FnR Try.prog 11 [.arr 1 ws.length (ga e1 ws)] [.one (.val (.int .i64 t)), .one (.ref 0)] (.tup [.one (.ref 1), .one (.val (.int .i64 (Sh.pE t ws)))]) [.row 3 1 (Sh.pL t ws).length (ga e1 (Sh.pL t ws))] := by
  have ck := v_shCheck ws hl
  have cr := v_shRaw t ws
  have hc := Sh.pE_cases t ws
  generalize Sh.pE t ws = E at *
  generalize Sh.pL t ws = L at *
  generalize Sh.chk ws = C at *
  rcases hc with ⟨a, rfl, rfl⟩ | ⟨rfl, a, rfl, rfl⟩ | ⟨rfl, a, b, rfl, rfl⟩
  · refine V.FnR.mk_ V.Tok V.mixed Try.func11 rfl Try.ntmps11 (by kernel_rfl) rfl rfl rfl rfl ?_
    repeat' ((conv => whnf); first | (refine V.NIf.yes ?_ ?_; · (decide; done)) | (refine V.NIf.no ?_ ?_; · (decide; done)) | refine V.NCond.mk ?_ | refine V.NIf.not_ ?_ | refine V.NIf.dec_ ?_ | refine V.NIf.no (by omega) ?_ | refine V.NIf.yes (by omega) ?_ | refine V.NIf.mk (fun _ => ?_) (fun _ => ?_) | refine V.NWrap.ok (by omega) (by omega) ?_ | refine V.NWrap.u64 (by omega) (by omega) ?_ | refine V.NLt.mk (by omega) ?_ | refine V.NBoth.mk ?_ ?_ | refine V.NTF.yes (by omega) ?_ | refine V.NTF.no (by omega) ?_ | refine V.NTF.dec ?_ | refine V.NDraw.q (by exact rfl) (by kernel_rfl) ?_ | refine V.NApp.one (by first | omega | (simp; omega)) (by first | omega | (simp; omega)) ?_ | ((first | refine V.Fn.k (ck) [0] rfl ?_ ?_ | refine V.Fn.q (ck) [0] rfl ?_ ?_ | refine V.Fn.a (ck) [0] rfl ?_ ?_); · ((repeat' (first | exact rfl | exact Iff.rfl | exact trivial | exact (fun _ _ => rfl) | exact (fun _ h => absurd h (Nat.not_lt_zero _)) | refine ⟨?_, ?_⟩ | exact Iff.rfl | exact congrArg (fun z => V.SV.one (V.At.val (Value.int .i64 z))) (by omega))); done)) | (refine V.NDraw.any (by kernel_rfl) ?_) | fail)
    all_goals (conv => whnf)
    all_goals exact NRet.mk_ [some 2] rfl ⟨rfl, rfl, trivial⟩ ⟨⟨rfl, rfl, rfl, fun k hk => absurd hk (Nat.not_lt_zero _)⟩, trivial⟩
  · refine V.FnR.mk_ V.Tok V.mixed Try.func11 rfl Try.ntmps11 (by kernel_rfl) rfl rfl rfl rfl ?_
    repeat' ((conv => whnf); first | (refine V.NIf.yes ?_ ?_; · (decide; done)) | (refine V.NIf.no ?_ ?_; · (decide; done)) | refine V.NCond.mk ?_ | refine V.NIf.not_ ?_ | refine V.NIf.dec_ ?_ | refine V.NIf.no (by omega) ?_ | refine V.NIf.yes (by omega) ?_ | refine V.NIf.mk (fun _ => ?_) (fun _ => ?_) | refine V.NWrap.ok (by omega) (by omega) ?_ | refine V.NWrap.u64 (by omega) (by omega) ?_ | refine V.NLt.mk (by omega) ?_ | refine V.NBoth.mk ?_ ?_ | refine V.NTF.yes (by omega) ?_ | refine V.NTF.no (by omega) ?_ | refine V.NTF.dec ?_ | refine V.NDraw.q (by exact rfl) (by kernel_rfl) ?_ | refine V.NApp.one (by first | omega | (simp; omega)) (by first | omega | (simp; omega)) ?_ | ((first | refine V.Fn.k (ck) [0] rfl ?_ ?_ | refine V.Fn.q (ck) [0] rfl ?_ ?_ | refine V.Fn.a (ck) [0] rfl ?_ ?_); · ((repeat' (first | exact rfl | exact Iff.rfl | exact trivial | exact (fun _ _ => rfl) | exact (fun _ h => absurd h (Nat.not_lt_zero _)) | refine ⟨?_, ?_⟩ | exact Iff.rfl | exact congrArg (fun z => V.SV.one (V.At.val (Value.int .i64 z))) (by omega))); done)) | (refine V.NDraw.any (by kernel_rfl) ?_) | fail)
    all_goals (conv => whnf)
    all_goals exact NRet.mk_ [some 2] rfl ⟨rfl, rfl, trivial⟩ ⟨⟨rfl, rfl, rfl, fun k hk => absurd hk (Nat.not_lt_zero _)⟩, trivial⟩
  · refine V.FnR.mk_ V.Tok V.mixed Try.func11 rfl Try.ntmps11 (by kernel_rfl) rfl rfl rfl rfl ?_
    repeat' ((conv => whnf); first | (refine V.NIf.yes ?_ ?_; · (decide; done)) | (refine V.NIf.no ?_ ?_; · (decide; done)) | refine V.NCond.mk ?_ | refine V.NIf.not_ ?_ | refine V.NIf.dec_ ?_ | refine V.NIf.no (by omega) ?_ | refine V.NIf.yes (by omega) ?_ | refine V.NIf.mk (fun _ => ?_) (fun _ => ?_) | refine V.NWrap.ok (by omega) (by omega) ?_ | refine V.NWrap.u64 (by omega) (by omega) ?_ | refine V.NLt.mk (by omega) ?_ | refine V.NBoth.mk ?_ ?_ | refine V.NTF.yes (by omega) ?_ | refine V.NTF.no (by omega) ?_ | refine V.NTF.dec ?_ | refine V.NDraw.q (by exact rfl) (by kernel_rfl) ?_ | refine V.NApp.one (by first | omega | (simp; omega)) (by first | omega | (simp; omega)) ?_ | ((first | refine V.Fn.k (ck) [0] rfl ?_ ?_ | refine V.Fn.q (ck) [0] rfl ?_ ?_ | refine V.Fn.a (ck) [0] rfl ?_ ?_); · ((repeat' (first | exact rfl | exact Iff.rfl | exact trivial | exact (fun _ _ => rfl) | exact (fun _ h => absurd h (Nat.not_lt_zero _)) | refine ⟨?_, ?_⟩ | exact Iff.rfl | exact congrArg (fun z => V.SV.one (V.At.val (Value.int .i64 z))) (by omega))); done)) | ((first | refine V.FnR.k_ (cr b a) [0] rfl ?_ ?_ | refine V.FnR.a_ (cr b a) [0] rfl ?_ ?_); · ((repeat' (first | exact rfl | exact Iff.rfl | exact trivial | exact (fun _ _ => rfl) | exact (fun _ h => absurd h (Nat.not_lt_zero _)) | refine ⟨?_, ?_⟩ | exact Iff.rfl | exact congrArg (fun z => V.SV.one (V.At.val (Value.int .i64 z))) (by omega))); done)) | (refine V.NDraw.any (by kernel_rfl) ?_) | fail)
    all_goals (conv => whnf)
    all_goals exact NRet.mk_ [some 2] rfl ⟨rfl, rfl, trivial⟩ ⟨⟨rfl, rfl, rfl, fun k hk => rfl⟩, trivial⟩
end Go.Proofs.Ytfmejgohpokiaaa

/- Plain facts on the parts of a total: one by one to whom most is left; seats: whoever stands for most. -/
namespace Go.Proofs.Ytfmejgohpokiaaa
set_option linter.unusedVariables false
namespace Sh
/-- the first one of the greatest -/
def amx (l : List Int) : Nat → Nat
  | 0 => 0
  | k + 1 => if l.getD (amx l k) default < l.getD k default then k else amx l k
theorem amx_lt (l : List Int) : ∀ k, amx l k ≤ k - 1
  | 0 => Nat.le_refl _
  | k + 1 => by
    have := amx_lt l k
    simp only [amx]
    split <;> omega
theorem amx_spec (l : List Int) : ∀ k j, j < k → l.getD j default ≤ l.getD (amx l k) default ∧ (j < amx l k → l.getD j default < l.getD (amx l k) default)
  | 0, j, h => absurd h (by omega)
  | k + 1, j, h => by
    have b := amx_lt l k
    simp only [amx]
    by_cases q : j < k
    · have ih := amx_spec l k j q
      split
      · omega
      · exact ih
    · obtain rfl : j = k := by omega
      split
      · omega
      · omega
theorem amx_is {l : List Int} {n b : Nat} (hb : b < n) (h : ∀ j, j < n → l.getD j default ≤ l.getD b default ∧ (j < b → l.getD j default < l.getD b default)) : amx l n = b := by
  have s := amx_spec l n
  have a := amx_lt l n
  generalize amx l n = x at *
  have h1 := h x (by omega)
  have h2 := s b hb
  rcases Nat.lt_trichotomy x b with q | q | q
  · have := h1.2 q; omega
  · exact q
  · have := h2.2 q; omega
/-- the places, in their order -/
def pls (t : Int) (ws : List Int) : List Nat := (ord t ws).map fun q => q.pl.toNat
def lft (t : Int) (ws : List Int) (k : Nat) : List Int := ((pls t ws).take k).foldl (fun l p => l.set p (-1)) (lfs t ws)
theorem pls_len (t : Int) (ws : List Int) : (pls t ws).length = ws.length := by simp [pls, ord_len]
theorem pls_perm (t : Int) (ws : List Int) : (pls t ws).Perm (List.range ws.length) := by
  have := (ord_perm t ws).map fun q => q.pl.toNat
  refine this.trans (List.Perm.of_eq ?_)
  unfold qus
  rw [lfs_len, List.map_map]
  exact List.map_id _
theorem pls_nd (t : Int) (ws : List Int) : (pls t ws).Nodup := (pls_perm t ws).nodup_iff.2 List.nodup_range
theorem pls_lt {t : Int} {ws : List Int} {p : Nat} (h : p ∈ pls t ws) : p < ws.length := List.mem_range.1 ((pls_perm t ws).mem_iff.1 h)
theorem pls_all {t : Int} {ws : List Int} {p : Nat} (h : p < ws.length) : p ∈ pls t ws := (pls_perm t ws).mem_iff.2 (List.mem_range.2 h)
theorem ord_srt (t : Int) (ws : List Int) : (ord t ws).Pairwise fun x y => bf x y = true := List.pairwise_mergeSort bf_trans bf_total _
theorem pls_get {t : Int} {ws : List Int} {i : Nat} (h : i < ws.length) : (pls t ws).getD i 0 = ((ord t ws).getD i default).pl.toNat := getD_map (by rw [ord_len]; exact h)
/-- who stands ahead has more left, or as much and is first -/
theorem pls_ahead {t : Int} {ws : List Int} {i k : Nat} (h : i < k) (hk : k < ws.length) : (lfs t ws).getD ((pls t ws).getD k 0) default < (lfs t ws).getD ((pls t ws).getD i 0) default ∨ ((lfs t ws).getD ((pls t ws).getD k 0) default = (lfs t ws).getD ((pls t ws).getD i 0) default ∧ (pls t ws).getD i 0 < (pls t ws).getD k 0) := by
  have lo := ord_len t ws
  have s := List.pairwise_iff_getElem.1 (ord_srt t ws) i k (by omega) (by omega) h
  rw [← getD_at, ← getD_at] at s
  have p1 := ord_pl (getD_mem (l := ord t ws) (k := i) (by omega))
  have p2 := ord_pl (getD_mem (l := ord t ws) (k := k) (by omega))
  have e1 := pls_get (t := t) (ws := ws) (i := i) (by omega)
  have e2 := pls_get (t := t) (ws := ws) (i := k) (by omega)
  have ne : (pls t ws).getD i 0 ≠ (pls t ws).getD k 0 := by
    intro q
    have l := pls_len t ws
    have nd := List.pairwise_iff_getElem.1 (pls_nd t ws) i k (by omega) (by omega) h
    rw [List.getD_eq_getElem?_getD, List.getD_eq_getElem?_getD, List.getElem?_eq_getElem (by omega), List.getElem?_eq_getElem (by omega)] at q
    exact nd q
  rw [e1, e2] at *
  rw [lfs_at (by omega), lfs_at (by omega), ← p1.2.2, ← p2.2.2]
  unfold bf at s
  simp only [decide_eq_true_eq] at s
  omega
theorem take_mem {l : List Nat} {k i : Nat} (h : i < k) (hk : k ≤ l.length) : l.getD i 0 ∈ l.take k := by
  have e : (l.take k).getD i 0 = l.getD i 0 := by
    rw [List.getD_eq_getElem?_getD, List.getD_eq_getElem?_getD, List.getElem?_take, if_pos h]
  rw [← e]
  exact getD_mem (l := l.take k) (by rw [List.length_take]; omega)
theorem mem_take {l : List Nat} {k p : Nat} (h : p ∈ l.take k) : ∃ i, i < k ∧ i < l.length ∧ p = l.getD i 0 := by
  obtain ⟨i, hi, e⟩ := List.getElem_of_mem h
  rw [List.length_take] at hi
  refine ⟨i, by omega, by omega, ?_⟩
  rw [← e, List.getElem_take, List.getD_eq_getElem?_getD, List.getElem?_eq_getElem (by omega)]
  rfl
theorem take_snoc {l : List Nat} {k : Nat} (h : k < l.length) : l.take (k + 1) = l.take k ++ [l.getD k 0] := by
  rw [List.take_succ_eq_append_getElem h, List.getD_eq_getElem?_getD, List.getElem?_eq_getElem h]
  rfl
theorem not_take {l : List Nat} (nd : l.Nodup) {k i : Nat} (h : k ≤ i) (hi : i < l.length) : l.getD i 0 ∉ l.take k := by
  intro q
  obtain ⟨j, h1, h2, e⟩ := mem_take q
  have := List.pairwise_iff_getElem.1 nd j i h2 hi (by omega)
  rw [List.getD_eq_getElem?_getD, List.getD_eq_getElem?_getD, List.getElem?_eq_getElem hi, List.getElem?_eq_getElem h2] at e
  exact this e.symm
theorem lft_succ {t : Int} {ws : List Int} {k : Nat} (h : k < ws.length) : lft t ws (k + 1) = (lft t ws k).set ((pls t ws).getD k 0) (-1) := by
  unfold lft
  rw [take_snoc (by rw [pls_len]; exact h), List.foldl_append]
  rfl
theorem lft_len (t : Int) (ws : List Int) : ∀ k, k ≤ ws.length → (lft t ws k).length = ws.length
  | 0, _ => by simp [lft, lfs_len]
  | k + 1, h => by rw [lft_succ (by omega)]; simp [lft_len t ws k (by omega)]
theorem getD_set {l : List Int} {i j : Nat} {x : Int} (h : i < l.length) : (l.set i x).getD j default = if i = j then x else l.getD j default := by
  rw [List.getD_eq_getElem?_getD, List.getElem?_set]
  by_cases e : i = j
  · subst e; rw [if_pos rfl, if_pos rfl, if_pos h]; rfl
  · rw [if_neg e, if_neg e, List.getD_eq_getElem?_getD]
theorem lft_at {t : Int} {ws : List Int} {j : Nat} : ∀ k, k ≤ ws.length → (lft t ws k).getD j default = if j ∈ (pls t ws).take k then -1 else (lfs t ws).getD j default
  | 0, _ => by simp [lft]
  | k + 1, h => by
    have lp := pls_len t ws
    have hp := pls_lt (t := t) (ws := ws) (getD_mem (l := pls t ws) (k := k) (by omega))
    rw [lft_succ (by omega), getD_set (by rw [lft_len _ _ _ (by omega)]; exact hp), lft_at k (by omega), take_snoc (by omega)]
    simp only [List.mem_append, List.mem_singleton]
    by_cases e : (pls t ws).getD k 0 = j
    · rw [if_pos e, if_pos (.inr e.symm)]
    · rw [if_neg e]
      by_cases q : j ∈ (pls t ws).take k
      · rw [if_pos q, if_pos (.inl q)]
      · rw [if_neg q, if_neg (fun z => z.elim q fun y => e y.symm)]
theorem raws_at {t : Int} {ws : List Int} {j : Nat} : ∀ k, k ≤ ws.length → (raws t ws k).getD j default = (whs t ws).getD j default + if j ∈ (pls t ws).take k then 1 else 0
  | 0, _ => by simp [raws]
  | k + 1, h => by
    have lp := pls_len t ws
    have hp := pls_lt (t := t) (ws := ws) (getD_mem (l := pls t ws) (k := k) (by omega))
    have nt := not_take (pls_nd t ws) (Nat.le_refl k) (by omega)
    have ih := raws_at (t := t) (ws := ws) (j := j) k (by omega)
    rw [raws_succ (by omega), ← pls_get (by omega)]
    unfold inc1
    rw [getD_set (by rw [raws_len _ _ _ (by omega)]; exact hp), take_snoc (by omega)]
    simp only [List.mem_append, List.mem_singleton]
    by_cases e : (pls t ws).getD k 0 = j
    · rw [if_pos e, if_pos (.inr e.symm), e, ih, if_neg (by rw [← e]; exact nt)]
      omega
    · rw [if_neg e, ih]
      by_cases q : j ∈ (pls t ws).take k
      · rw [if_pos q, if_pos (.inl q)]
      · rw [if_neg q, if_neg (fun z => z.elim q fun y => e y.symm)]
/-- most is left to whom it goes next -/
theorem lft_next {t : Int} {ws : List Int} (ok : Oks ws) {k : Nat} (h : k < ws.length) : amx (lft t ws k) ws.length = (pls t ws).getD k 0 := by
  have lp := pls_len t ws
  have lb := lf_bd (t := t) ok
  have hp := pls_lt (t := t) (ws := ws) (getD_mem (l := pls t ws) (k := k) (by omega))
  refine amx_is hp fun j hj => ?_
  have nt := not_take (pls_nd t ws) (Nat.le_refl k) (by omega)
  have b0 := lb _ (getD_mem (l := lfs t ws) (k := (pls t ws).getD k 0) (by rw [lfs_len]; exact hp))
  rw [lft_at k (by omega), lft_at k (by omega), if_neg (c := (pls t ws).getD k 0 ∈ _) nt]
  by_cases q : j ∈ (pls t ws).take k
  · rw [if_pos q]; omega
  · rw [if_neg q]
    obtain ⟨i, hi, e⟩ := List.getElem_of_mem (pls_all (t := t) hj)
    have e : (pls t ws).getD i 0 = j := by rw [List.getD_eq_getElem?_getD, List.getElem?_eq_getElem hi]; exact e
    have hki : k ≤ i := Nat.not_lt.1 fun z => q (by rw [← e]; exact take_mem z (by omega))
    by_cases z : k = i
    · subst z; rw [e]; omega
    · have := pls_ahead (t := t) (ws := ws) (i := k) (k := i) (by omega) (by omega)
      rw [e] at this
      omega
theorem sm_set {l : List Int} {k : Nat} {x : Int} (h : k < l.length) : sm (l.set k x) = sm l - l.getD k default + x := by
  induction l generalizing k with
  | nil => simp at h
  | cons y r ih =>
    cases k with
    | zero => simp only [List.set_cons_zero, sm, List.getD_cons_zero]; omega
    | succ k =>
      simp only [List.set_cons_succ, sm, List.getD_cons_succ]
      rw [ih (by simpa using h)]; omega
theorem raws_sum {t : Int} {ws : List Int} : ∀ k, k ≤ ws.length → sm (raws t ws k) = sm (whs t ws) + k
  | 0, _ => by simp [raws]
  | k + 1, h => by
    have lp := pls_len t ws
    have hp := pls_lt (t := t) (ws := ws) (getD_mem (l := pls t ws) (k := k) (by omega))
    rw [raws_succ (by omega), ← pls_get (by omega)]
    unfold inc1
    rw [sm_set (by rw [raws_len _ _ _ (by omega)]; exact hp), raws_sum k (by omega)]
    omega
/-! seats -/
theorem frac {a b c x y z : Int} (hy : 0 < y) (hx : 0 < x) (hz : 0 < z) (h1 : a * y ≤ b * x) (h2 : b * z ≤ c * y) : a * z ≤ c * x := by
  refine Int.le_of_mul_le_mul_right (a := y) ?_ hy
  have e1 := Int.mul_le_mul_of_nonneg_right h1 (Int.le_of_lt hz)
  have e2 := Int.mul_le_mul_of_nonneg_right h2 (Int.le_of_lt hx)
  grind
theorem frac_lt {a b c x y z : Int} (hy : 0 < y) (hx : 0 < x) (hz : 0 < z) (h1 : a * y ≤ b * x) (h2 : b * z < c * y) : a * z < c * x := by
  refine Int.lt_of_mul_lt_mul_right (a := y) ?_ (Int.le_of_lt hy)
  have e1 := Int.mul_le_mul_of_nonneg_right h1 (Int.le_of_lt hz)
  have e2 := Int.mul_lt_mul_of_pos_right h2 hx
  grind
theorem bst_spec {kind : Int} {ws out : List Int} (hd : ∀ j, j < ws.length → 0 < dv kind (out.getD j default)) : ∀ k, k ≤ ws.length → ∀ j, j < k →
    ws.getD j default * dv kind (out.getD (bst kind ws out k) default) ≤ ws.getD (bst kind ws out k) default * dv kind (out.getD j default) ∧
    (j < bst kind ws out k → ws.getD j default * dv kind (out.getD (bst kind ws out k) default) < ws.getD (bst kind ws out k) default * dv kind (out.getD j default))
  | 0, _, j, h => absurd h (by omega)
  | k + 1, hk, j, h => by
    have b := bst_lt kind ws out k
    simp only [bst]
    by_cases q : j < k
    · have ih := bst_spec hd k (by omega) j q
      generalize bst kind ws out k = x at *
      have d1 := hd j (by omega)
      have d2 := hd k (by omega)
      have d3 := hd x (by omega)
      split
      · rename_i hlt
        have := frac_lt d3 d1 d2 ih.1 hlt
        exact ⟨Int.le_of_lt this, fun _ => this⟩
      · exact ih
    · obtain rfl : j = k := by omega
      split
      · exact ⟨Int.le_refl _, fun z => absurd z (by omega)⟩
      · exact ⟨by omega, fun z => absurd z (by omega)⟩
theorem best_spec {kind : Int} {ws out : List Int} (hd : ∀ j, j < ws.length → 0 < dv kind (out.getD j default)) {j : Nat} (h : j < ws.length) :
    ws.getD j default * dv kind (out.getD (best kind ws out) default) ≤ ws.getD (best kind ws out) default * dv kind (out.getD j default) ∧
    (j < best kind ws out → ws.getD j default * dv kind (out.getD (best kind ws out) default) < ws.getD (best kind ws out) default * dv kind (out.getD j default)) := bst_spec hd _ (Nat.le_refl _) j h
/-- whoever none stands for more than, nor for as much ahead of it -/
def win (kind : Int) (ws out : List Int) (i k : Nat) : Prop := ws.getD k default * dv kind (out.getD i default) < ws.getD i default * dv kind (out.getD k default) ∨ (ws.getD i default * dv kind (out.getD k default) = ws.getD k default * dv kind (out.getD i default) ∧ i ≤ k)
theorem win_iff {kind : Int} {ws out : List Int} (h0 : 0 < ws.length) (hd : ∀ j, j < ws.length → 0 < dv kind (out.getD j default)) {i : Nat} (hi : i < ws.length) : (∀ k, k < ws.length → win kind ws out i k) ↔ i = best kind ws out := by
  have bl := best_lt (kind := kind) (out := out) h0
  have s := fun j hj => best_spec hd (j := j) hj
  generalize best kind ws out = b at *
  unfold win
  constructor
  · intro h
    have h1 := h b bl
    have h2 := s i hi
    rcases Nat.lt_trichotomy i b with q | q | q
    · have := h2.2 q; omega
    · exact q
    · omega
  · rintro rfl k hk
    have h2 := s k hk
    by_cases q : k < i
    · have := h2.2 q; omega
    · omega
end Sh
end Go.Proofs.Ytfmejgohpokiaaa

/- Are two lists of numbers one? -/
namespace Go.Proofs.Ytfmejgohpokiaaa
open Go Go.RowKit V
set_option maxRecDepth 100000
set_option linter.unusedVariables false
theorem v_sameints (a b : List Int) (ha : a.length ≤ 9223372036854775807) : V.Fn Try.prog 18 [.arr 1 a.length (ga e1 a), .arr 1 b.length (ga e1 b)] [.one (.ref 0), .one (.ref 1)] (.bool (decide (a = b))) := by
  refine V.Fn.mk_ V.Tok V.mixed Try.func18 rfl Try.ntmps18 (by kernel_rfl) rfl rfl ?_
  repeat' ((conv => whnf); first | refine V.NCond.mk ?_ | refine V.NIf.not_ ?_ | refine V.NIf.dec_ ?_ | refine V.NIf.no (by omega) ?_ | refine V.NIf.yes (by omega) ?_ | refine V.NIf.mk (fun _ => ?_) (fun _ => ?_) | refine V.NWrap.ok (by omega) (by omega) ?_ | refine V.NWrap.u64 (by omega) (by omega) ?_ | refine V.NLt.mk (by omega) ?_ | refine V.NBoth.mk ?_ ?_ | refine V.NTF.yes (by omega) ?_ | refine V.NTF.no (by omega) ?_ | refine V.NTF.dec ?_ | refine V.NDraw.q (by exact rfl) (by kernel_rfl) ?_ | refine V.NApp.one (by first | omega | (simp; omega)) (by first | omega | (simp; omega)) ?_ | (refine V.NDraw.any (by kernel_rfl) ?_) | fail)
  rotate_left
  · exact congrArg Value.bool (decide_eq_false (by rintro rfl; omega)).symm
  (conv => whnf)
  rename_i hl
  have hl : a.length = b.length := by omega
  refine V.NLoop.auto (fun (k : Nat) => [(5, .one (.val (.int .i64 k)))]) (fun (k : Nat) => []) [] [] (fun (k : Nat) => a.length - k) (fun (k : Nat) => k ≤ a.length ∧ a.take k = b.take k) 0 ⟨by omega, by simp⟩ (by repeat' (first | exact rfl | exact Iff.rfl | exact trivial | exact (fun _ _ => rfl) | exact (fun _ h => absurd h (Nat.not_lt_zero _)) | refine ⟨?_, ?_⟩ | exact Iff.rfl | exact congrArg (fun z => V.SV.one (V.At.val (Value.int .i64 z))) (by omega))) (by repeat' (first | exact rfl | exact Iff.rfl | exact trivial | exact (fun _ _ => rfl) | exact (fun _ h => absurd h (Nat.not_lt_zero _)) | refine ⟨?_, ?_⟩ | exact Iff.rfl | exact congrArg (fun z => V.SV.one (V.At.val (Value.int .i64 z))) (by omega))) (fun _ => ⟨rfl, rfl⟩) ?_; (conv => whnf); refine ⟨⟨rfl, rfl⟩, ?_⟩
  rintro k ⟨hk, hJ⟩
  by_cases hlt : k < a.length
  · have e1 := getD_at (l := a) (by omega)
    have e2 := getD_at (l := b) (k := k) (by omega)
    repeat' ((conv => whnf); first | refine V.NCond.mk ?_ | refine V.NIf.not_ ?_ | refine V.NIf.dec_ ?_ | refine V.NIf.no (by omega) ?_ | refine V.NIf.yes (by omega) ?_ | refine V.NIf.mk (fun _ => ?_) (fun _ => ?_) | refine V.NWrap.ok (by omega) (by omega) ?_ | refine V.NWrap.u64 (by omega) (by omega) ?_ | refine V.NLt.mk (by omega) ?_ | refine V.NBoth.mk ?_ ?_ | refine V.NTF.yes (by omega) ?_ | refine V.NTF.no (by omega) ?_ | refine V.NTF.dec ?_ | refine V.NDraw.q (by exact rfl) (by kernel_rfl) ?_ | refine V.NApp.one (by first | omega | (simp; omega)) (by first | omega | (simp; omega)) ?_ | (refine NIdx.mk ⟨k, rfl, by omega, ?_⟩) | (refine V.NDraw.any (by kernel_rfl) ?_) | fail)
    all_goals (conv => whnf)
    · rename_i q
      exact V.NBack.at_ (k + 1) [] ⟨by omega, by rw [List.take_succ_eq_append_getElem hlt, List.take_succ_eq_append_getElem (by omega), hJ, ← e1, ← e2, q]⟩ (by omega) (by repeat' (first | exact rfl | exact Iff.rfl | exact trivial | exact (fun _ _ => rfl) | exact (fun _ h => absurd h (Nat.not_lt_zero _)) | refine ⟨?_, ?_⟩ | exact Iff.rfl | exact congrArg (fun z => V.SV.one (V.At.val (Value.int .i64 z))) (by omega))) rfl (by repeat' (first | exact rfl | exact Iff.rfl | exact trivial | exact (fun _ _ => rfl) | exact (fun _ h => absurd h (Nat.not_lt_zero _)) | refine ⟨?_, ?_⟩ | exact Iff.rfl | exact congrArg (fun z => V.SV.one (V.At.val (Value.int .i64 z))) (by omega))) (by repeat' (first | exact rfl | exact Iff.rfl | exact trivial | exact (fun _ _ => rfl) | exact (fun _ h => absurd h (Nat.not_lt_zero _)) | refine ⟨?_, ?_⟩ | exact Iff.rfl | exact congrArg (fun z => V.SV.one (V.At.val (Value.int .i64 z))) (by omega))) (by repeat' (first | exact rfl | exact Iff.rfl | exact trivial | exact (fun _ _ => rfl) | exact (fun _ h => absurd h (Nat.not_lt_zero _)) | refine ⟨?_, ?_⟩ | exact Iff.rfl | exact congrArg (fun z => V.SV.one (V.At.val (Value.int .i64 z))) (by omega)))
    · rename_i q
      exact congrArg Value.bool (decide_eq_false (by rintro rfl; exact q rfl)).symm
  · obtain rfl : k = a.length := by omega
    repeat' ((conv => whnf); first | refine V.NCond.mk ?_ | refine V.NIf.not_ ?_ | refine V.NIf.dec_ ?_ | refine V.NIf.no (by omega) ?_ | refine V.NIf.yes (by omega) ?_ | refine V.NIf.mk (fun _ => ?_) (fun _ => ?_) | refine V.NWrap.ok (by omega) (by omega) ?_ | refine V.NWrap.u64 (by omega) (by omega) ?_ | refine V.NLt.mk (by omega) ?_ | refine V.NBoth.mk ?_ ?_ | refine V.NTF.yes (by omega) ?_ | refine V.NTF.no (by omega) ?_ | refine V.NTF.dec ?_ | refine V.NDraw.q (by exact rfl) (by kernel_rfl) ?_ | refine V.NApp.one (by first | omega | (simp; omega)) (by first | omega | (simp; omega)) ?_ | (refine V.NDraw.any (by kernel_rfl) ?_) | fail)
    (conv => whnf)
    refine congrArg Value.bool (decide_eq_true ?_).symm
    rw [List.take_length, List.take_of_length_le (by omega)] at hJ
    exact hJ
end Go.Proofs.Ytfmejgohpokiaaa

/- What the document's functions on shares answer. -/
namespace Go.Proofs.Ytfmejgohpokiaaa
open Go Go.RowKit V
set_option maxRecDepth 100000
set_option linter.unusedVariables false
set_option linter.unusedSimpArgs false
set_option maxHeartbeats 4000000
theorem v_partOfW (a b c : Int) (ha : 0 ≤ a ∧ a ≤ 1152921504606846976) (hb : 0 ≤ b ∧ b ≤ 1099511627776) (hc : 1 ≤ c ∧ c ≤ 43980465111040) : V.Fn Try.prog 23 [] [.one (.val (.int .i64 a)), .one (.val (.int .i64 b)), .one (.val (.int .i64 c))] (.tuple #[.int .i64 (M.poQ a b c), .int .i64 (M.poR a b c)]) := by
  refine V.Fn.mk_ V.Tok V.mixed Try.func23 rfl Try.ntmps23 (by kernel_rfl) rfl rfl ?_
  (conv => whnf)
  refine V.NLoop.auto (fun (⟨n, q, r⟩ : Nat × Int × Int) => [(8, .one (.val (.int .i64 q))), (9, .one (.val (.int .i64 r))), (10, .one (.val (.int .i64 ((n : Int) - 1))))]) (fun (⟨n, q, r⟩ : Nat × Int × Int) => []) [] [] (fun (⟨n, q, r⟩ : Nat × Int × Int) => n) (fun (⟨n, q, r⟩ : Nat × Int × Int) => n ≤ 41 ∧ q * c + r = a * (b / 2 ^ n) ∧ (0 ≤ r ∧ r < c) ∧ 0 ≤ q ∧ q ≤ 2305843009213693952) (41, 0, 0) ⟨by omega, (by rw [Int.ediv_eq_zero_of_lt (by omega) (by omega)]; omega), by omega, by omega⟩ (by repeat' (first | exact rfl | exact Iff.rfl | exact trivial | exact (fun _ _ => rfl) | exact (fun _ h => absurd h (Nat.not_lt_zero _)) | refine ⟨?_, ?_⟩ | exact Iff.rfl | exact congrArg (fun z => V.SV.one (V.At.val (Value.int .i64 z))) (by omega))) (by repeat' (first | exact rfl | exact Iff.rfl | exact trivial | exact (fun _ _ => rfl) | exact (fun _ h => absurd h (Nat.not_lt_zero _)) | refine ⟨?_, ?_⟩ | exact Iff.rfl | exact congrArg (fun z => V.SV.one (V.At.val (Value.int .i64 z))) (by omega))) (fun _ => ⟨rfl, rfl⟩) ?_; (conv => whnf); refine ⟨⟨rfl, rfl⟩, ?_⟩
  rintro ⟨n, q, r⟩ ⟨hn, hJ, hr, hq⟩
  cases n with
  | zero =>
    repeat' ((conv => whnf); first | refine V.NCond.mk ?_ | refine V.NIf.not_ ?_ | refine V.NIf.dec_ ?_ | refine V.NIf.no (by omega) ?_ | refine V.NIf.yes (by omega) ?_ | refine V.NIf.mk (fun _ => ?_) (fun _ => ?_) | refine V.NWrap.ok (by omega) (by omega) ?_ | refine V.NWrap.u64 (by omega) (by omega) ?_ | refine V.NLt.mk (by omega) ?_ | refine V.NBoth.mk ?_ ?_ | refine V.NTF.yes (by omega) ?_ | refine V.NTF.no (by omega) ?_ | refine V.NTF.dec ?_ | refine V.NDraw.q (by exact rfl) (by kernel_rfl) ?_ | refine V.NApp.one (by first | omega | (simp; omega)) (by first | omega | (simp; omega)) ?_ | (refine V.NDraw.any (by kernel_rfl) ?_) | fail)
    exact V.nif2 (M.po_end hc.1 hJ hr hq.2)
  | succ m =>
    repeat' ((conv => whnf); first | (refine NRem.pos (y := 2) (by omega) (by omega) ?_; intro t ht ht0 ht1) | refine V.NCond.mk ?_ | refine V.NIf.not_ ?_ | refine V.NIf.dec_ ?_ | refine V.NIf.no (by omega) ?_ | refine V.NIf.yes (by omega) ?_ | refine V.NIf.mk (fun _ => ?_) (fun _ => ?_) | refine V.NWrap.ok (by omega) (by omega) ?_ | refine V.NWrap.u64 (by omega) (by omega) ?_ | refine V.NLt.mk (by omega) ?_ | refine V.NBoth.mk ?_ ?_ | refine V.NTF.yes (by omega) ?_ | refine V.NTF.no (by omega) ?_ | refine V.NTF.dec ?_ | refine V.NDraw.q (by exact rfl) (by kernel_rfl) ?_ | refine V.NApp.one (by first | omega | (simp; omega)) (by first | omega | (simp; omega)) ?_ | (refine NShr.i64 m (by omega) (by omega) (by omega) ?_; intro x hx hx0 hx1) | (refine NRem.pos (by omega) (by omega) ?_; intro z hz hz0 hz1) | (refine NQuo.pos (by omega) (by omega) (by omega) ?_; intro z hz hz0 hz1) | (refine V.NDraw.any (by kernel_rfl) ?_) | fail)
    all_goals (conv => whnf)
    all_goals rename_i hz hz0 hz1 _
    all_goals subst_vars
    · exact V.nif2 (M.po_big ha.1 hb.1 hc.1 (M.po1 hJ rfl (by omega)) (by assumption) (by assumption))
    · refine V.NBack.at_ (m, _, _) [] ⟨by omega, M.po1 hJ rfl (by omega), ⟨by assumption, by assumption⟩, ?_, ?_⟩ (by show m < m + 1; omega) (by repeat' (first | exact rfl | exact Iff.rfl | exact trivial | exact (fun _ _ => rfl) | exact (fun _ h => absurd h (Nat.not_lt_zero _)) | refine ⟨?_, ?_⟩ | exact Iff.rfl | exact congrArg (fun z => V.SV.one (V.At.val (Value.int .i64 z))) (by omega))) rfl (by repeat' (first | exact rfl | exact Iff.rfl | exact trivial | exact (fun _ _ => rfl) | exact (fun _ h => absurd h (Nat.not_lt_zero _)) | refine ⟨?_, ?_⟩ | exact Iff.rfl | exact congrArg (fun z => V.SV.one (V.At.val (Value.int .i64 z))) (by omega))) (by repeat' (first | exact rfl | exact Iff.rfl | exact trivial | exact (fun _ _ => rfl) | exact (fun _ h => absurd h (Nat.not_lt_zero _)) | refine ⟨?_, ?_⟩ | exact Iff.rfl | exact congrArg (fun z => V.SV.one (V.At.val (Value.int .i64 z))) (by omega))) (by repeat' (first | exact rfl | exact Iff.rfl | exact trivial | exact (fun _ _ => rfl) | exact (fun _ h => absurd h (Nat.not_lt_zero _)) | refine ⟨?_, ?_⟩ | exact Iff.rfl | exact congrArg (fun z => V.SV.one (V.At.val (Value.int .i64 z))) (by omega))) <;> omega
    · exact V.nif2 (M.po_big ha.1 hb.1 hc.1 (M.po0 hJ rfl (by omega) (by omega) (by omega)) (by assumption) (by assumption))
    · refine V.NBack.at_ (m, _, _) [] ⟨by omega, M.po0 hJ rfl (by omega) (by omega) (by omega), ⟨by assumption, by assumption⟩, ?_, ?_⟩ (by show m < m + 1; omega) (by repeat' (first | exact rfl | exact Iff.rfl | exact trivial | exact (fun _ _ => rfl) | exact (fun _ h => absurd h (Nat.not_lt_zero _)) | refine ⟨?_, ?_⟩ | exact Iff.rfl | exact congrArg (fun z => V.SV.one (V.At.val (Value.int .i64 z))) (by omega))) rfl (by repeat' (first | exact rfl | exact Iff.rfl | exact trivial | exact (fun _ _ => rfl) | exact (fun _ h => absurd h (Nat.not_lt_zero _)) | refine ⟨?_, ?_⟩ | exact Iff.rfl | exact congrArg (fun z => V.SV.one (V.At.val (Value.int .i64 z))) (by omega))) (by repeat' (first | exact rfl | exact Iff.rfl | exact trivial | exact (fun _ _ => rfl) | exact (fun _ h => absurd h (Nat.not_lt_zero _)) | refine ⟨?_, ?_⟩ | exact Iff.rfl | exact congrArg (fun z => V.SV.one (V.At.val (Value.int .i64 z))) (by omega))) (by repeat' (first | exact rfl | exact Iff.rfl | exact trivial | exact (fun _ _ => rfl) | exact (fun _ h => absurd h (Nat.not_lt_zero _)) | refine ⟨?_, ?_⟩ | exact Iff.rfl | exact congrArg (fun z => V.SV.one (V.At.val (Value.int .i64 z))) (by omega))) <;> omega
theorem v_rwide (a b c : Int) (ha : 0 ≤ a ∧ a ≤ 1152921504606846976) (hb : 0 ≤ b ∧ b ≤ 1099511627776) (hbc : b ≤ c) (hc : 1 ≤ c ∧ c ≤ 43980465111040) : V.Fn Try.prog 23 [] [.one (.val (.int .i64 a)), .one (.val (.int .i64 b)), .one (.val (.int .i64 c))] (.tuple #[.int .i64 (a * b / c), .int .i64 (a * b % c)]) := by
  have s := v_partOfW a b c ha hb hc
  have h2 : a * b ≤ a * c := Int.mul_le_mul_of_nonneg_left hbc ha.1
  have q1 : a * b / c ≤ a := by
    have := Int.ediv_le_ediv (c := c) (by omega) h2
    rwa [Int.mul_ediv_cancel _ (by omega)] at this
  rcases M.po_at (a := a) (b := b) (c := c) ha.1 hb.1 hc.1 with ⟨_, k⟩ | ⟨e1, e2, _⟩
  · omega
  · rwa [e1, e2] at s
theorem v_rshChk (l : List Int) (hn : l.length ≤ 9223372036854775807) : V.Fn Try.prog 17 [.arr 1 l.length (ga e1 l)] [.one (.ref 0)] (.int .i64 (Sh.chk l)) := by
  have c1 := @Sh.chk_1 l
  have c2 := @Sh.chk_2 l
  refine V.Fn.mk_ V.Tok V.mixed Try.func17 rfl Try.ntmps17 (by kernel_rfl) rfl rfl ?_
  repeat' ((conv => whnf); first | refine V.NCond.mk ?_ | refine V.NIf.not_ ?_ | refine V.NIf.dec_ ?_ | refine V.NIf.no (by omega) ?_ | refine V.NIf.yes (by omega) ?_ | refine V.NIf.mk (fun _ => ?_) (fun _ => ?_) | refine V.NWrap.ok (by omega) (by omega) ?_ | refine V.NWrap.u64 (by omega) (by omega) ?_ | refine V.NLt.mk (by omega) ?_ | refine V.NBoth.mk ?_ ?_ | refine V.NTF.yes (by omega) ?_ | refine V.NTF.no (by omega) ?_ | refine V.NTF.dec ?_ | refine V.NDraw.q (by exact rfl) (by kernel_rfl) ?_ | refine V.NApp.one (by first | omega | (simp; omega)) (by first | omega | (simp; omega)) ?_ | (refine V.NDraw.any (by kernel_rfl) ?_) | fail)
  all_goals (conv => whnf)
  · rw [c1 (by omega)]
  · rw [c2 (by omega) (by omega)]
  · refine V.NLoop.auto (fun (k : Nat) => [(4, .one (.val (.int .i64 k))), (3, .one (.prop (∃ x ∈ l.take k, 0 < x)))]) (fun (k : Nat) => []) [] [] (fun (k : Nat) => l.length - k) (fun (k : Nat) => k ≤ l.length ∧ ∀ x ∈ l.take k, Sh.bad x = false) 0 ⟨Nat.zero_le _, by simp⟩ (by (conv => whnf); exact ⟨rfl, iff_of_false (by decide) (by simp), trivial⟩) (by repeat' (first | exact rfl | exact Iff.rfl | exact trivial | exact (fun _ _ => rfl) | exact (fun _ h => absurd h (Nat.not_lt_zero _)) | refine ⟨?_, ?_⟩ | exact Iff.rfl | exact congrArg (fun z => V.SV.one (V.At.val (Value.int .i64 z))) (by omega))) (fun _ => ⟨rfl, rfl⟩) ?_; (conv => whnf); refine ⟨⟨rfl, rfl⟩, ?_⟩
    rintro k ⟨hk, hb⟩
    have ha : (∃ x ∈ l.take k, 0 < x) ∨ ¬ (∃ x ∈ l.take k, 0 < x) := Classical.em _
    by_cases hlt : k < l.length
    · have sn : (∃ x ∈ l.take (k + 1), 0 < x) ↔ ((∃ x ∈ l.take k, 0 < x) ∨ 0 < l.getD k default) := by
        rw [List.take_succ_eq_append_getElem hlt, ← getD_at hlt]
        simp only [List.mem_append, List.mem_singleton, or_and_right, exists_or, exists_eq_left]
      have a2 := fun q => all_snoc hlt hb q
      have bd : Sh.bad (l.getD k default) = decide (l.getD k default < 0 ∨ 1099511627776 < l.getD k default) := rfl
      repeat' ((conv => whnf); first | refine V.NCond.mk ?_ | refine V.NIf.not_ ?_ | refine V.NIf.dec_ ?_ | refine V.NIf.no (by omega) ?_ | refine V.NIf.yes (by omega) ?_ | refine V.NIf.mk (fun _ => ?_) (fun _ => ?_) | refine V.NWrap.ok (by omega) (by omega) ?_ | refine V.NWrap.u64 (by omega) (by omega) ?_ | refine V.NLt.mk (by omega) ?_ | refine V.NBoth.mk ?_ ?_ | refine V.NTF.yes (by omega) ?_ | refine V.NTF.no (by omega) ?_ | refine V.NTF.dec ?_ | refine V.NDraw.q (by exact rfl) (by kernel_rfl) ?_ | refine V.NApp.one (by first | omega | (simp; omega)) (by first | omega | (simp; omega)) ?_ | (refine NIdx.mk ⟨k, rfl, by omega, ?_⟩) | (first | refine V.Fn.k0 (v_rbetween _ _ _) rfl ?_ | refine V.Fn.q0 (v_rbetween _ _ _) rfl ?_ | refine V.Fn.a0 (v_rbetween _ _ _) rfl ?_) | (refine V.NDraw.any (by kernel_rfl) ?_) | fail)
      all_goals (conv => whnf)
      · exact V.NBack.at_ (k + 1) [] ⟨by omega, a2 (by rw [bd]; exact decide_eq_false (by omega))⟩ (by omega) ⟨(by repeat' (first | exact rfl | exact Iff.rfl | exact trivial | exact (fun _ _ => rfl) | exact (fun _ h => absurd h (Nat.not_lt_zero _)) | refine ⟨?_, ?_⟩ | exact Iff.rfl | exact congrArg (fun z => V.SV.one (V.At.val (Value.int .i64 z))) (by omega))), iff_of_true rfl (sn.2 (.inl (by assumption))), trivial⟩ rfl (by repeat' (first | exact rfl | exact Iff.rfl | exact trivial | exact (fun _ _ => rfl) | exact (fun _ h => absurd h (Nat.not_lt_zero _)) | refine ⟨?_, ?_⟩ | exact Iff.rfl | exact congrArg (fun z => V.SV.one (V.At.val (Value.int .i64 z))) (by omega))) (by repeat' (first | exact rfl | exact Iff.rfl | exact trivial | exact (fun _ _ => rfl) | exact (fun _ h => absurd h (Nat.not_lt_zero _)) | refine ⟨?_, ?_⟩ | exact Iff.rfl | exact congrArg (fun z => V.SV.one (V.At.val (Value.int .i64 z))) (by omega))) (by repeat' (first | exact rfl | exact Iff.rfl | exact trivial | exact (fun _ _ => rfl) | exact (fun _ h => absurd h (Nat.not_lt_zero _)) | refine ⟨?_, ?_⟩ | exact Iff.rfl | exact congrArg (fun z => V.SV.one (V.At.val (Value.int .i64 z))) (by omega)))
      · exact V.NBack.at_ (k + 1) [] ⟨by omega, a2 (by rw [bd]; exact decide_eq_false (by omega))⟩ (by omega) ⟨(by repeat' (first | exact rfl | exact Iff.rfl | exact trivial | exact (fun _ _ => rfl) | exact (fun _ h => absurd h (Nat.not_lt_zero _)) | refine ⟨?_, ?_⟩ | exact Iff.rfl | exact congrArg (fun z => V.SV.one (V.At.val (Value.int .i64 z))) (by omega))), ⟨fun h => sn.2 (.inr h), fun h => (sn.1 h).resolve_left (by assumption)⟩, trivial⟩ rfl (by repeat' (first | exact rfl | exact Iff.rfl | exact trivial | exact (fun _ _ => rfl) | exact (fun _ h => absurd h (Nat.not_lt_zero _)) | refine ⟨?_, ?_⟩ | exact Iff.rfl | exact congrArg (fun z => V.SV.one (V.At.val (Value.int .i64 z))) (by omega))) (by repeat' (first | exact rfl | exact Iff.rfl | exact trivial | exact (fun _ _ => rfl) | exact (fun _ h => absurd h (Nat.not_lt_zero _)) | refine ⟨?_, ?_⟩ | exact Iff.rfl | exact congrArg (fun z => V.SV.one (V.At.val (Value.int .i64 z))) (by omega))) (by repeat' (first | exact rfl | exact Iff.rfl | exact trivial | exact (fun _ _ => rfl) | exact (fun _ h => absurd h (Nat.not_lt_zero _)) | refine ⟨?_, ?_⟩ | exact Iff.rfl | exact congrArg (fun z => V.SV.one (V.At.val (Value.int .i64 z))) (by omega)))
      · rw [Sh.chk_3 (by omega) (by omega) ((Sh.ix_iff l).2 ⟨_, getD_mem hlt, by rw [bd]; exact decide_eq_true (by omega)⟩)]
    · obtain rfl : k = l.length := by omega
      rw [List.take_length] at *
      have ni : ¬ 0 ≤ ixf Sh.bad l := fun q => by
        obtain ⟨w, hw, h⟩ := (Sh.ix_iff l).1 q
        rw [hb w hw] at h; cases h
      repeat' ((conv => whnf); first | refine V.NCond.mk ?_ | refine V.NIf.not_ ?_ | refine V.NIf.dec_ ?_ | refine V.NIf.no (by omega) ?_ | refine V.NIf.yes (by omega) ?_ | refine V.NIf.mk (fun _ => ?_) (fun _ => ?_) | refine V.NWrap.ok (by omega) (by omega) ?_ | refine V.NWrap.u64 (by omega) (by omega) ?_ | refine V.NLt.mk (by omega) ?_ | refine V.NBoth.mk ?_ ?_ | refine V.NTF.yes (by omega) ?_ | refine V.NTF.no (by omega) ?_ | refine V.NTF.dec ?_ | refine V.NDraw.q (by exact rfl) (by kernel_rfl) ?_ | refine V.NApp.one (by first | omega | (simp; omega)) (by first | omega | (simp; omega)) ?_ | (refine V.NDraw.any (by kernel_rfl) ?_) | fail)
      all_goals (conv => whnf)
      · rw [Sh.chk_5 (by omega) (by omega) ni]
        rename_i hx
        obtain ⟨x, hx, h⟩ := hx
        have := Sh.lmax_ge x hx
        omega
      · rw [Sh.chk_4 (by omega) (by omega) ni]
        rename_i hx
        have hm := Sh.lmax_in (l := l) (fun q => by subst q; exact absurd rfl (by assumption))
        have h1 := hb _ hm
        have bd : Sh.bad (Sh.lmax l) = decide (Sh.lmax l < 0 ∨ 1099511627776 < Sh.lmax l) := rfl
        rw [bd] at h1
        have h2 := of_decide_eq_false h1
        exact Decidable.byContradiction fun q => hx ⟨_, hm, by omega⟩
theorem v_rdiv1 (s : Int) (h : 0 ≤ s ∧ s ≤ 1000000) : V.Fn Try.prog 24 [] [.one (.val (.int .i64 1)), .one (.val (.int .i64 s))] (.int .i64 (Sh.dv 1 s)) := by
  rw [show Sh.dv 1 s = s + 1 from rfl]
  refine V.Fn.mk_ V.Tok V.mixed Try.func24 rfl Try.ntmps24 (by kernel_rfl) rfl rfl ?_
  repeat' ((conv => whnf); first | (refine V.NIf.yes ?_ ?_; · (decide; done)) | (refine V.NIf.no ?_ ?_; · (decide; done)) | refine V.NCond.mk ?_ | refine V.NIf.not_ ?_ | refine V.NIf.dec_ ?_ | refine V.NIf.no (by omega) ?_ | refine V.NIf.yes (by omega) ?_ | refine V.NIf.mk (fun _ => ?_) (fun _ => ?_) | refine V.NWrap.ok (by omega) (by omega) ?_ | refine V.NWrap.u64 (by omega) (by omega) ?_ | refine V.NLt.mk (by omega) ?_ | refine V.NBoth.mk ?_ ?_ | refine V.NTF.yes (by omega) ?_ | refine V.NTF.no (by omega) ?_ | refine V.NTF.dec ?_ | refine V.NDraw.q (by exact rfl) (by kernel_rfl) ?_ | refine V.NApp.one (by first | omega | (simp; omega)) (by first | omega | (simp; omega)) ?_ | (refine V.NDraw.any (by kernel_rfl) ?_) | fail)
  all_goals (conv => whnf)
  all_goals rfl
theorem v_rdiv2 (s : Int) (h : 0 ≤ s ∧ s ≤ 1000000) : V.Fn Try.prog 24 [] [.one (.val (.int .i64 2)), .one (.val (.int .i64 s))] (.int .i64 (Sh.dv 2 s)) := by
  rw [show Sh.dv 2 s = 2 * s + 1 from rfl]
  refine V.Fn.mk_ V.Tok V.mixed Try.func24 rfl Try.ntmps24 (by kernel_rfl) rfl rfl ?_
  repeat' ((conv => whnf); first | (refine V.NIf.yes ?_ ?_; · (decide; done)) | (refine V.NIf.no ?_ ?_; · (decide; done)) | refine V.NCond.mk ?_ | refine V.NIf.not_ ?_ | refine V.NIf.dec_ ?_ | refine V.NIf.no (by omega) ?_ | refine V.NIf.yes (by omega) ?_ | refine V.NIf.mk (fun _ => ?_) (fun _ => ?_) | refine V.NWrap.ok (by omega) (by omega) ?_ | refine V.NWrap.u64 (by omega) (by omega) ?_ | refine V.NLt.mk (by omega) ?_ | refine V.NBoth.mk ?_ ?_ | refine V.NTF.yes (by omega) ?_ | refine V.NTF.no (by omega) ?_ | refine V.NTF.dec ?_ | refine V.NDraw.q (by exact rfl) (by kernel_rfl) ?_ | refine V.NApp.one (by first | omega | (simp; omega)) (by first | omega | (simp; omega)) ?_ | (refine V.NDraw.any (by kernel_rfl) ?_) | fail)
  all_goals (conv => whnf)
  all_goals rfl
theorem v_shTog (l : List Int) (hl : l.length ≤ 9223372036854775807) (hs : ∀ k, -9223372036854775808 ≤ Sh.sm (l.take k) ∧ Sh.sm (l.take k) ≤ 9223372036854775807) : V.Fn Try.prog 19 [.arr 1 l.length (ga e1 l)] [.one (.ref 0)] (.int .i64 (Sh.sm l)) := by
  refine V.Fn.mk_ V.Tok V.mixed Try.func19 rfl Try.ntmps19 (by kernel_rfl) rfl rfl ?_
  repeat' ((conv => whnf); first | refine V.NCond.mk ?_ | refine V.NIf.not_ ?_ | refine V.NIf.dec_ ?_ | refine V.NIf.no (by omega) ?_ | refine V.NIf.yes (by omega) ?_ | refine V.NIf.mk (fun _ => ?_) (fun _ => ?_) | refine V.NWrap.ok (by omega) (by omega) ?_ | refine V.NWrap.u64 (by omega) (by omega) ?_ | refine V.NLt.mk (by omega) ?_ | refine V.NBoth.mk ?_ ?_ | refine V.NTF.yes (by omega) ?_ | refine V.NTF.no (by omega) ?_ | refine V.NTF.dec ?_ | refine V.NDraw.q (by exact rfl) (by kernel_rfl) ?_ | refine V.NApp.one (by first | omega | (simp; omega)) (by first | omega | (simp; omega)) ?_ | (refine V.NDraw.any (by kernel_rfl) ?_) | fail)
  (conv => whnf)
  refine V.NLoop.auto (fun (k : Nat) => [(4, .one (.val (.int .i64 k))), (3, .one (.val (.int .i64 (Sh.sm (l.take k)))))]) (fun (k : Nat) => []) [] [] (fun (k : Nat) => l.length - k) (fun (k : Nat) => k ≤ l.length) 0 (Nat.zero_le _) (by repeat' (first | exact rfl | exact Iff.rfl | exact trivial | exact (fun _ _ => rfl) | exact (fun _ h => absurd h (Nat.not_lt_zero _)) | refine ⟨?_, ?_⟩ | exact Iff.rfl | exact congrArg (fun z => V.SV.one (V.At.val (Value.int .i64 z))) (by omega))) (by repeat' (first | exact rfl | exact Iff.rfl | exact trivial | exact (fun _ _ => rfl) | exact (fun _ h => absurd h (Nat.not_lt_zero _)) | refine ⟨?_, ?_⟩ | exact Iff.rfl | exact congrArg (fun z => V.SV.one (V.At.val (Value.int .i64 z))) (by omega))) (fun _ => ⟨rfl, rfl⟩) ?_; (conv => whnf); refine ⟨⟨rfl, rfl⟩, ?_⟩
  rintro k hk
  have h1 := hs k
  have h2 := hs (k + 1)
  by_cases hlt : k < l.length
  · have e := Sh.sm_take hlt
    repeat' ((conv => whnf); first | refine V.NCond.mk ?_ | refine V.NIf.not_ ?_ | refine V.NIf.dec_ ?_ | refine V.NIf.no (by omega) ?_ | refine V.NIf.yes (by omega) ?_ | refine V.NIf.mk (fun _ => ?_) (fun _ => ?_) | refine V.NWrap.ok (by omega) (by omega) ?_ | refine V.NWrap.u64 (by omega) (by omega) ?_ | refine V.NLt.mk (by omega) ?_ | refine V.NBoth.mk ?_ ?_ | refine V.NTF.yes (by omega) ?_ | refine V.NTF.no (by omega) ?_ | refine V.NTF.dec ?_ | refine V.NDraw.q (by exact rfl) (by kernel_rfl) ?_ | refine V.NApp.one (by first | omega | (simp; omega)) (by first | omega | (simp; omega)) ?_ | (refine NIdx.mk ⟨k, rfl, by omega, ?_⟩) | (refine V.NDraw.any (by kernel_rfl) ?_) | fail)
    all_goals (conv => whnf)
    exact V.NBack.at_ (k + 1) [] (by omega) (by omega) (by repeat' (first | exact rfl | exact Iff.rfl | exact trivial | exact (fun _ _ => rfl) | exact (fun _ h => absurd h (Nat.not_lt_zero _)) | refine ⟨?_, ?_⟩ | exact Iff.rfl | exact congrArg (fun z => V.SV.one (V.At.val (Value.int .i64 z))) (by omega))) rfl (by repeat' (first | exact rfl | exact Iff.rfl | exact trivial | exact (fun _ _ => rfl) | exact (fun _ h => absurd h (Nat.not_lt_zero _)) | refine ⟨?_, ?_⟩ | exact Iff.rfl | exact congrArg (fun z => V.SV.one (V.At.val (Value.int .i64 z))) (by omega))) (by repeat' (first | exact rfl | exact Iff.rfl | exact trivial | exact (fun _ _ => rfl) | exact (fun _ h => absurd h (Nat.not_lt_zero _)) | refine ⟨?_, ?_⟩ | exact Iff.rfl | exact congrArg (fun z => V.SV.one (V.At.val (Value.int .i64 z))) (by omega))) (by repeat' (first | exact rfl | exact Iff.rfl | exact trivial | exact (fun _ _ => rfl) | exact (fun _ h => absurd h (Nat.not_lt_zero _)) | refine ⟨?_, ?_⟩ | exact Iff.rfl | exact congrArg (fun z => V.SV.one (V.At.val (Value.int .i64 z))) (by omega)))
  · obtain rfl : k = l.length := by omega
    repeat' ((conv => whnf); first | refine V.NCond.mk ?_ | refine V.NIf.not_ ?_ | refine V.NIf.dec_ ?_ | refine V.NIf.no (by omega) ?_ | refine V.NIf.yes (by omega) ?_ | refine V.NIf.mk (fun _ => ?_) (fun _ => ?_) | refine V.NWrap.ok (by omega) (by omega) ?_ | refine V.NWrap.u64 (by omega) (by omega) ?_ | refine V.NLt.mk (by omega) ?_ | refine V.NBoth.mk ?_ ?_ | refine V.NTF.yes (by omega) ?_ | refine V.NTF.no (by omega) ?_ | refine V.NTF.dec ?_ | refine V.NDraw.q (by exact rfl) (by kernel_rfl) ?_ | refine V.NApp.one (by first | omega | (simp; omega)) (by first | omega | (simp; omega)) ?_ | (refine V.NDraw.any (by kernel_rfl) ?_) | fail)
    exact congrArg (Value.int .i64) (by rw [List.take_length])
end Go.Proofs.Ytfmejgohpokiaaa

/- What the document's way to part a total answers. -/
namespace Go.Proofs.Ytfmejgohpokiaaa
open Go Go.RowKit V
set_option maxRecDepth 100000
set_option linter.unusedVariables false
set_option linter.unusedSimpArgs false
set_option maxHeartbeats 4000000
theorem v_rshPartsY (t : Int) (ws : List Int) (ok : Sh.Oks ws) (ht : 0 ≤ t ∧ t ≤ 1152921504606846976) : V.FnR Try.prog 13 [.arr 1 ws.length (ga e1 ws)] [.one (.val (.int .i64 t)), .one (.ref 0)] (.tup [.one (.ref 1), .one (.val (.int .i64 0))]) [.row 3 1 (Sh.raw t ws).length (ga e1 (Sh.raw t ws))] := by
  have le := ok.le
  have ps := ok.pos
  have sb := ok.sum
  have ck := v_rshChk ws (by omega)
  rw [Sh.chk_of ok] at ck
  have tg := v_shTog ws (by omega) (fun k => by have := Sh.sm_take_le (fun x hx => (ok.all x hx).1) k; omega)
  have eW := fun k => @Sh.whs_at t ws k
  have eL := fun k => @Sh.lfs_at t ws k
  have lW := Sh.whs_len t ws
  have lL := Sh.lfs_len t ws
  refine V.FnR.mk_ V.Tok V.mixed Try.func13 rfl Try.ntmps13 (by kernel_rfl) rfl rfl rfl rfl ?_
  repeat' ((conv => whnf); first | (refine V.NIf.yes ?_ ?_; · (decide; done)) | (refine V.NIf.no ?_ ?_; · (decide; done)) | refine V.NCond.mk ?_ | refine V.NIf.not_ ?_ | refine V.NIf.dec_ ?_ | refine V.NIf.no (by omega) ?_ | refine V.NIf.yes (by omega) ?_ | refine V.NIf.mk (fun _ => ?_) (fun _ => ?_) | refine V.NWrap.ok (by omega) (by omega) ?_ | refine V.NWrap.u64 (by omega) (by omega) ?_ | refine V.NLt.mk (by omega) ?_ | refine V.NBoth.mk ?_ ?_ | refine V.NTF.yes (by omega) ?_ | refine V.NTF.no (by omega) ?_ | refine V.NTF.dec ?_ | refine V.NDraw.q (by exact rfl) (by kernel_rfl) ?_ | refine V.NApp.one (by first | omega | (simp; omega)) (by first | omega | (simp; omega)) ?_ | ((first | refine V.Fn.k (ck) [0] rfl ?_ ?_ | refine V.Fn.q (ck) [0] rfl ?_ ?_ | refine V.Fn.a (ck) [0] rfl ?_ ?_); · ((repeat' (first | exact rfl | exact Iff.rfl | exact trivial | exact (fun _ _ => rfl) | exact (fun _ h => absurd h (Nat.not_lt_zero _)) | refine ⟨?_, ?_⟩ | exact Iff.rfl | exact congrArg (fun z => V.SV.one (V.At.val (Value.int .i64 z))) (by omega))); done)) | (first | refine V.Fn.k0 (v_rbetween _ _ _) rfl ?_ | refine V.Fn.q0 (v_rbetween _ _ _) rfl ?_ | refine V.Fn.a0 (v_rbetween _ _ _) rfl ?_) | ((first | refine V.Fn.k (tg) [0] rfl ?_ ?_ | refine V.Fn.q (tg) [0] rfl ?_ ?_ | refine V.Fn.a (tg) [0] rfl ?_ ?_); · ((repeat' (first | exact rfl | exact Iff.rfl | exact trivial | exact (fun _ _ => rfl) | exact (fun _ h => absurd h (Nat.not_lt_zero _)) | refine ⟨?_, ?_⟩ | exact Iff.rfl | exact congrArg (fun z => V.SV.one (V.At.val (Value.int .i64 z))) (by omega))); done)) | (refine V.NDraw.any (by kernel_rfl) ?_) | fail)
  all_goals (conv => whnf)
  refine V.NLoop.auto (fun (k : Nat) => [(10, .one (.val (.int .i64 k))), (8, .one (.ref 2)), (9, .one (.ref 3))]) (fun (k : Nat) => [(2, .row 3 1 ((Sh.whs t ws).take k).length (ga e1 ((Sh.whs t ws).take k))), (3, .row 3 1 ((Sh.lfs t ws).take k).length (ga e1 ((Sh.lfs t ws).take k)))]) [] [] (fun (k : Nat) => ws.length - k) (fun (k : Nat) => k ≤ ws.length) 0 (Nat.zero_le _) (by repeat' (first | exact rfl | exact Iff.rfl | exact trivial | exact (fun _ _ => rfl) | exact (fun _ h => absurd h (Nat.not_lt_zero _)) | refine ⟨?_, ?_⟩ | exact Iff.rfl | exact congrArg (fun z => V.SV.one (V.At.val (Value.int .i64 z))) (by omega))) (by (conv => whnf); exact ⟨⟨rfl, rfl, rfl, fun k hk => absurd hk (Nat.not_lt_zero _)⟩, ⟨rfl, rfl, rfl, fun k hk => absurd hk (Nat.not_lt_zero _)⟩, trivial⟩) (fun _ => ⟨rfl, rfl⟩) ?_; (conv => whnf); refine ⟨⟨rfl, rfl⟩, ?_⟩
  rintro k hk
  by_cases hlt : k < ws.length
  · have w1 := ok.all _ (getD_mem hlt)
    have wd := v_rwide t (ws.getD k default) (Sh.sm ws) ht w1 (sb.2.2 _ (getD_mem hlt)) ⟨sb.1, sb.2.1⟩
    rw [← eW k hlt, ← eL k hlt] at wd
    have qW : (Sh.whs t ws).take (k + 1) = (Sh.whs t ws).take k ++ [(Sh.whs t ws).getD k default] := by
      rw [List.take_succ_eq_append_getElem (by omega), ← getD_at (by omega)]
    have qL : (Sh.lfs t ws).take (k + 1) = (Sh.lfs t ws).take k ++ [(Sh.lfs t ws).getD k default] := by
      rw [List.take_succ_eq_append_getElem (by omega), ← getD_at (by omega)]
    have l1 : ((Sh.whs t ws).take k).length = k := by simp; omega
    have l2 : ((Sh.lfs t ws).take k).length = k := by simp; omega
    generalize (Sh.whs t ws).take k = A at *
    generalize (Sh.lfs t ws).take k = B at *
    generalize (Sh.whs t ws).getD k default = W at *
    generalize (Sh.lfs t ws).getD k default = L at *
    repeat' ((conv => whnf); first | refine V.NCond.mk ?_ | refine V.NIf.not_ ?_ | refine V.NIf.dec_ ?_ | refine V.NIf.no (by omega) ?_ | refine V.NIf.yes (by omega) ?_ | refine V.NIf.mk (fun _ => ?_) (fun _ => ?_) | refine V.NWrap.ok (by omega) (by omega) ?_ | refine V.NWrap.u64 (by omega) (by omega) ?_ | refine V.NLt.mk (by omega) ?_ | refine V.NBoth.mk ?_ ?_ | refine V.NTF.yes (by omega) ?_ | refine V.NTF.no (by omega) ?_ | refine V.NTF.dec ?_ | refine V.NDraw.q (by exact rfl) (by kernel_rfl) ?_ | refine V.NApp.one (by first | omega | (simp; omega)) (by first | omega | (simp; omega)) ?_ | (refine NIdx.mk ⟨k, rfl, by omega, ?_⟩) | (first | refine V.Fn.k0 (wd) rfl ?_ | refine V.Fn.q0 (wd) rfl ?_ | refine V.Fn.a0 (wd) rfl ?_) | (refine V.NDraw.any (by kernel_rfl) ?_) | fail)
    all_goals (conv => whnf)
    all_goals first | (refine V.NBack.at_ (k + 1) [(2, 5), (3, 7)] ?_ ?_ ?_ ?_ ?_ ?_ ?_; (focus omega); (focus omega); (focus ((repeat' (first | exact rfl | exact Iff.rfl | exact trivial | exact (fun _ _ => rfl) | exact (fun _ h => absurd h (Nat.not_lt_zero _)) | refine ⟨?_, ?_⟩ | exact congrArg (fun z => V.SV.one (V.At.val (Value.int .i64 z))) (by omega))); done)); (focus rfl); (focus exact ⟨ObLe.as_ qW, ObLe.as_ qL, trivial⟩); (focus ((repeat' (first | exact rfl | exact Iff.rfl | exact trivial | exact (fun _ _ => rfl) | exact (fun _ h => absurd h (Nat.not_lt_zero _)) | refine ⟨?_, ?_⟩ | exact congrArg (fun z => V.SV.one (V.At.val (Value.int .i64 z))) (by omega))); done)); (focus ((repeat' (first | exact rfl | exact Iff.rfl | exact trivial | exact (fun _ _ => rfl) | exact (fun _ h => absurd h (Nat.not_lt_zero _)) | refine ⟨?_, ?_⟩ | exact congrArg (fun z => V.SV.one (V.At.val (Value.int .i64 z))) (by omega))); done))) | (refine V.NBack.at_ (k + 1) [(2, 6), (3, 7)] ?_ ?_ ?_ ?_ ?_ ?_ ?_; (focus omega); (focus omega); (focus ((repeat' (first | exact rfl | exact Iff.rfl | exact trivial | exact (fun _ _ => rfl) | exact (fun _ h => absurd h (Nat.not_lt_zero _)) | refine ⟨?_, ?_⟩ | exact congrArg (fun z => V.SV.one (V.At.val (Value.int .i64 z))) (by omega))); done)); (focus rfl); (focus exact ⟨ObLe.as_ qW, ObLe.as_ qL, trivial⟩); (focus ((repeat' (first | exact rfl | exact Iff.rfl | exact trivial | exact (fun _ _ => rfl) | exact (fun _ h => absurd h (Nat.not_lt_zero _)) | refine ⟨?_, ?_⟩ | exact congrArg (fun z => V.SV.one (V.At.val (Value.int .i64 z))) (by omega))); done)); (focus ((repeat' (first | exact rfl | exact Iff.rfl | exact trivial | exact (fun _ _ => rfl) | exact (fun _ h => absurd h (Nat.not_lt_zero _)) | refine ⟨?_, ?_⟩ | exact congrArg (fun z => V.SV.one (V.At.val (Value.int .i64 z))) (by omega))); done))) | (refine V.NBack.at_ (k + 1) [(2, 7), (3, 6)] ?_ ?_ ?_ ?_ ?_ ?_ ?_; (focus omega); (focus omega); (focus ((repeat' (first | exact rfl | exact Iff.rfl | exact trivial | exact (fun _ _ => rfl) | exact (fun _ h => absurd h (Nat.not_lt_zero _)) | refine ⟨?_, ?_⟩ | exact congrArg (fun z => V.SV.one (V.At.val (Value.int .i64 z))) (by omega))); done)); (focus rfl); (focus exact ⟨ObLe.as_ qW, ObLe.as_ qL, trivial⟩); (focus ((repeat' (first | exact rfl | exact Iff.rfl | exact trivial | exact (fun _ _ => rfl) | exact (fun _ h => absurd h (Nat.not_lt_zero _)) | refine ⟨?_, ?_⟩ | exact congrArg (fun z => V.SV.one (V.At.val (Value.int .i64 z))) (by omega))); done)); (focus ((repeat' (first | exact rfl | exact Iff.rfl | exact trivial | exact (fun _ _ => rfl) | exact (fun _ h => absurd h (Nat.not_lt_zero _)) | refine ⟨?_, ?_⟩ | exact congrArg (fun z => V.SV.one (V.At.val (Value.int .i64 z))) (by omega))); done))) | (refine V.NBack.at_ (k + 1) [(2, 7), (3, 5)] ?_ ?_ ?_ ?_ ?_ ?_ ?_; (focus omega); (focus omega); (focus ((repeat' (first | exact rfl | exact Iff.rfl | exact trivial | exact (fun _ _ => rfl) | exact (fun _ h => absurd h (Nat.not_lt_zero _)) | refine ⟨?_, ?_⟩ | exact congrArg (fun z => V.SV.one (V.At.val (Value.int .i64 z))) (by omega))); done)); (focus rfl); (focus exact ⟨ObLe.as_ qW, ObLe.as_ qL, trivial⟩); (focus ((repeat' (first | exact rfl | exact Iff.rfl | exact trivial | exact (fun _ _ => rfl) | exact (fun _ h => absurd h (Nat.not_lt_zero _)) | refine ⟨?_, ?_⟩ | exact congrArg (fun z => V.SV.one (V.At.val (Value.int .i64 z))) (by omega))); done)); (focus ((repeat' (first | exact rfl | exact Iff.rfl | exact trivial | exact (fun _ _ => rfl) | exact (fun _ h => absurd h (Nat.not_lt_zero _)) | refine ⟨?_, ?_⟩ | exact congrArg (fun z => V.SV.one (V.At.val (Value.int .i64 z))) (by omega))); done)))
  · obtain rfl : k = ws.length := by omega
    rw [List.take_of_length_le (Nat.le_of_eq lW), List.take_of_length_le (Nat.le_of_eq lL)]
    rw [lW, lL]
    repeat' ((conv => whnf); first | refine V.NCond.mk ?_ | refine V.NIf.not_ ?_ | refine V.NIf.dec_ ?_ | refine V.NIf.no (by omega) ?_ | refine V.NIf.yes (by omega) ?_ | refine V.NIf.mk (fun _ => ?_) (fun _ => ?_) | refine V.NWrap.ok (by omega) (by omega) ?_ | refine V.NWrap.u64 (by omega) (by omega) ?_ | refine V.NLt.mk (by omega) ?_ | refine V.NBoth.mk ?_ ?_ | refine V.NTF.yes (by omega) ?_ | refine V.NTF.no (by omega) ?_ | refine V.NTF.dec ?_ | refine V.NDraw.q (by exact rfl) (by kernel_rfl) ?_ | refine V.NApp.one (by first | omega | (simp; omega)) (by first | omega | (simp; omega)) ?_ | (refine V.NDraw.any (by kernel_rfl) ?_) | fail)
    all_goals (conv => whnf)
    have rr := Sh.rst_bd (t := t) ok
    have er : Sh.rst t ws = t - Sh.sm (Sh.whs t ws) := rfl
    have rd := Sh.raws_bd (t := t) ok ht.1
    have rl := Sh.raws_len t ws
    have ll := Sh.lft_len t ws
    have nx := fun k => @Sh.lft_next t ws ok k
    have su := fun k => @Sh.raws_sum t ws k
    have s1 := fun k => @Sh.raws_succ t ws k
    have s2 := fun k => @Sh.lft_succ t ws k
    have pg := fun k => @Sh.pls_get t ws k
    have pt : ∀ k, k < ws.length → (Sh.pls t ws).getD k 0 < ws.length := fun k h => Sh.pls_lt (t := t) (getD_mem (by rw [Sh.pls_len]; exact h))
    have rw_ : Sh.raw t ws = Sh.raws t ws (Sh.rst t ws).toNat := rfl
    have sw := su 0 (Nat.zero_le _)
    refine V.NLoop.auto (fun (k : Nat) => [(8, .one (.ref 2)), (9, .one (.ref 3))]) (fun (k : Nat) => [(2, .row 3 1 ws.length (ga e1 (Sh.raws t ws k))), (3, .row 3 1 ws.length (ga e1 (Sh.lft t ws k)))]) [] [] (fun (k : Nat) => (Sh.rst t ws).toNat - k) (fun (k : Nat) => (k : Int) ≤ Sh.rst t ws) 0 rr.1 (by repeat' (first | exact rfl | exact Iff.rfl | exact trivial | exact (fun _ _ => rfl) | exact (fun _ h => absurd h (Nat.not_lt_zero _)) | refine ⟨?_, ?_⟩ | exact Iff.rfl | exact congrArg (fun z => V.SV.one (V.At.val (Value.int .i64 z))) (by omega))) (by repeat' (first | exact rfl | exact Iff.rfl | exact trivial | exact (fun _ _ => rfl) | exact (fun _ h => absurd h (Nat.not_lt_zero _)) | refine ⟨?_, ?_⟩ | exact Iff.rfl | exact congrArg (fun z => V.SV.one (V.At.val (Value.int .i64 z))) (by omega))) (fun _ => ⟨rfl, rfl⟩) ?_; (conv => whnf); refine ⟨⟨rfl, rfl⟩, ?_⟩
    rintro k hk
    have tk := v_shTog (Sh.raws t ws k) (by rw [rl k (by omega)]; omega) (fun j => by
      have a := Sh.sm_take_le (fun x hx => (rd k (by omega) x hx).1) j
      have b := su k (by omega)
      omega)
    rw [su k (by omega), rl k (by omega)] at tk
    by_cases hlt : (k : Int) < Sh.rst t ws
    · repeat' ((conv => whnf); first | refine V.NCond.mk ?_ | refine V.NIf.not_ ?_ | refine V.NIf.dec_ ?_ | refine V.NIf.no (by omega) ?_ | refine V.NIf.yes (by omega) ?_ | refine V.NIf.mk (fun _ => ?_) (fun _ => ?_) | refine V.NWrap.ok (by omega) (by omega) ?_ | refine V.NWrap.u64 (by omega) (by omega) ?_ | refine V.NLt.mk (by omega) ?_ | refine V.NBoth.mk ?_ ?_ | refine V.NTF.yes (by omega) ?_ | refine V.NTF.no (by omega) ?_ | refine V.NTF.dec ?_ | refine V.NDraw.q (by exact rfl) (by kernel_rfl) ?_ | refine V.NApp.one (by first | omega | (simp; omega)) (by first | omega | (simp; omega)) ?_ | ((first | refine V.Fn.k (tk) [2] rfl ?_ ?_ | refine V.Fn.q (tk) [2] rfl ?_ ?_ | refine V.Fn.a (tk) [2] rfl ?_ ?_); · ((repeat' (first | exact rfl | exact Iff.rfl | exact trivial | exact (fun _ _ => rfl) | exact (fun _ h => absurd h (Nat.not_lt_zero _)) | refine ⟨?_, ?_⟩ | exact Iff.rfl | exact congrArg (fun z => V.SV.one (V.At.val (Value.int .i64 z))) (by omega))); done)) | (refine V.NDraw.any (by kernel_rfl) ?_) | fail)
      all_goals (conv => whnf)
      refine V.NLoop.auto (fun (i : Nat) => [(14, .one (.val (.int .i64 i))), (13, .one (.val (.int .i64 (Sh.amx (Sh.lft t ws k) i))))]) (fun (i : Nat) => []) [] [] (fun (i : Nat) => ws.length - i) (fun (i : Nat) => i ≤ ws.length) 0 (Nat.zero_le _) (by repeat' (first | exact rfl | exact Iff.rfl | exact trivial | exact (fun _ _ => rfl) | exact (fun _ h => absurd h (Nat.not_lt_zero _)) | refine ⟨?_, ?_⟩ | exact Iff.rfl | exact congrArg (fun z => V.SV.one (V.At.val (Value.int .i64 z))) (by omega))) (by repeat' (first | exact rfl | exact Iff.rfl | exact trivial | exact (fun _ _ => rfl) | exact (fun _ h => absurd h (Nat.not_lt_zero _)) | refine ⟨?_, ?_⟩ | exact Iff.rfl | exact congrArg (fun z => V.SV.one (V.At.val (Value.int .i64 z))) (by omega))) (fun _ => ⟨rfl, rfl⟩) ?_; (conv => whnf); refine ⟨⟨rfl, rfl⟩, ?_⟩
      rintro i hi
      have al := Sh.amx_lt (Sh.lft t ws k) i
      by_cases hil : i < ws.length
      · have bs : Sh.amx (Sh.lft t ws k) (i + 1) = if (Sh.lft t ws k).getD (Sh.amx (Sh.lft t ws k) i) default < (Sh.lft t ws k).getD i default then i else Sh.amx (Sh.lft t ws k) i := rfl
        generalize Sh.amx (Sh.lft t ws k) i = b at *
        repeat' ((conv => whnf); first | refine V.NCond.mk ?_ | refine V.NIf.not_ ?_ | refine V.NIf.dec_ ?_ | refine V.NIf.no (by omega) ?_ | refine V.NIf.yes (by omega) ?_ | refine V.NIf.mk (fun _ => ?_) (fun _ => ?_) | refine V.NWrap.ok (by omega) (by omega) ?_ | refine V.NWrap.u64 (by omega) (by omega) ?_ | refine V.NLt.mk (by omega) ?_ | refine V.NBoth.mk ?_ ?_ | refine V.NTF.yes (by omega) ?_ | refine V.NTF.no (by omega) ?_ | refine V.NTF.dec ?_ | refine V.NDraw.q (by exact rfl) (by kernel_rfl) ?_ | refine V.NApp.one (by first | omega | (simp; omega)) (by first | omega | (simp; omega)) ?_ | (refine NIdx.mk ⟨i, rfl, by omega, ?_⟩) | (refine NIdx.mk ⟨b, rfl, by omega, ?_⟩) | (refine V.NDraw.any (by kernel_rfl) ?_) | fail)
        all_goals (conv => whnf)
        · exact V.NBack.at_ (i + 1) [] (by omega) (by omega) ⟨(by repeat' (first | exact rfl | exact Iff.rfl | exact trivial | exact (fun _ _ => rfl) | exact (fun _ h => absurd h (Nat.not_lt_zero _)) | refine ⟨?_, ?_⟩ | exact Iff.rfl | exact congrArg (fun z => V.SV.one (V.At.val (Value.int .i64 z))) (by omega))), congrArg (fun z : Nat => V.SV.one (V.At.val (Value.int .i64 z))) (bs.trans (if_pos (by assumption))).symm, trivial⟩ rfl (by repeat' (first | exact rfl | exact Iff.rfl | exact trivial | exact (fun _ _ => rfl) | exact (fun _ h => absurd h (Nat.not_lt_zero _)) | refine ⟨?_, ?_⟩ | exact Iff.rfl | exact congrArg (fun z => V.SV.one (V.At.val (Value.int .i64 z))) (by omega))) (by repeat' (first | exact rfl | exact Iff.rfl | exact trivial | exact (fun _ _ => rfl) | exact (fun _ h => absurd h (Nat.not_lt_zero _)) | refine ⟨?_, ?_⟩ | exact Iff.rfl | exact congrArg (fun z => V.SV.one (V.At.val (Value.int .i64 z))) (by omega))) (by repeat' (first | exact rfl | exact Iff.rfl | exact trivial | exact (fun _ _ => rfl) | exact (fun _ h => absurd h (Nat.not_lt_zero _)) | refine ⟨?_, ?_⟩ | exact Iff.rfl | exact congrArg (fun z => V.SV.one (V.At.val (Value.int .i64 z))) (by omega)))
        · exact V.NBack.at_ (i + 1) [] (by omega) (by omega) ⟨(by repeat' (first | exact rfl | exact Iff.rfl | exact trivial | exact (fun _ _ => rfl) | exact (fun _ h => absurd h (Nat.not_lt_zero _)) | refine ⟨?_, ?_⟩ | exact Iff.rfl | exact congrArg (fun z => V.SV.one (V.At.val (Value.int .i64 z))) (by omega))), congrArg (fun z : Nat => V.SV.one (V.At.val (Value.int .i64 z))) (bs.trans (if_neg (by assumption))).symm, trivial⟩ rfl (by repeat' (first | exact rfl | exact Iff.rfl | exact trivial | exact (fun _ _ => rfl) | exact (fun _ h => absurd h (Nat.not_lt_zero _)) | refine ⟨?_, ?_⟩ | exact Iff.rfl | exact congrArg (fun z => V.SV.one (V.At.val (Value.int .i64 z))) (by omega))) (by repeat' (first | exact rfl | exact Iff.rfl | exact trivial | exact (fun _ _ => rfl) | exact (fun _ h => absurd h (Nat.not_lt_zero _)) | refine ⟨?_, ?_⟩ | exact Iff.rfl | exact congrArg (fun z => V.SV.one (V.At.val (Value.int .i64 z))) (by omega))) (by repeat' (first | exact rfl | exact Iff.rfl | exact trivial | exact (fun _ _ => rfl) | exact (fun _ h => absurd h (Nat.not_lt_zero _)) | refine ⟨?_, ?_⟩ | exact Iff.rfl | exact congrArg (fun z => V.SV.one (V.At.val (Value.int .i64 z))) (by omega)))
      · obtain rfl : i = ws.length := by omega
        rw [nx k (by omega)]
        have pk := pt k (by omega)
        have e1' := s1 k (by omega)
        rw [← pg k (by omega)] at e1'
        unfold Sh.inc1 at e1'
        have e2' := s2 k (by omega)
        have l1 := rl k (by omega)
        have l2 := ll k (by omega)
        have bd := rd k (by omega) _ (getD_mem (l := Sh.raws t ws k) (k := (Sh.pls t ws).getD k 0) (by omega))
        generalize (Sh.pls t ws).getD k 0 = b at *
        repeat' ((conv => whnf); first | refine V.NCond.mk ?_ | refine V.NIf.not_ ?_ | refine V.NIf.dec_ ?_ | refine V.NIf.no (by omega) ?_ | refine V.NIf.yes (by omega) ?_ | refine V.NIf.mk (fun _ => ?_) (fun _ => ?_) | refine V.NWrap.ok (by omega) (by omega) ?_ | refine V.NWrap.u64 (by omega) (by omega) ?_ | refine V.NLt.mk (by omega) ?_ | refine V.NBoth.mk ?_ ?_ | refine V.NTF.yes (by omega) ?_ | refine V.NTF.no (by omega) ?_ | refine V.NTF.dec ?_ | refine V.NDraw.q (by exact rfl) (by kernel_rfl) ?_ | refine V.NApp.one (by first | omega | (simp; omega)) (by first | omega | (simp; omega)) ?_ | (refine NIdx.mk ⟨b, rfl, by omega, ?_⟩) | (refine NPut.is_ (en := e1) (l := Sh.raws t ws k) _ (Sh.raws t ws (k + 1)) e1'.symm (by omega) rfl ?_) | (refine NPut.is_ (en := e1) (l := Sh.lft t ws k) (-1) (Sh.lft t ws (k + 1)) e2'.symm (by omega) rfl ?_) | (refine V.NDraw.any (by kernel_rfl) ?_) | fail)
        all_goals (conv => whnf)
        exact V.NBack.at_ (k + 1) [] (by omega) (by omega) (by repeat' (first | exact rfl | exact Iff.rfl | exact trivial | exact (fun _ _ => rfl) | exact (fun _ h => absurd h (Nat.not_lt_zero _)) | refine ⟨?_, ?_⟩ | exact Iff.rfl | exact congrArg (fun z => V.SV.one (V.At.val (Value.int .i64 z))) (by omega))) rfl (by repeat' (first | exact rfl | exact Iff.rfl | exact trivial | exact (fun _ _ => rfl) | exact (fun _ h => absurd h (Nat.not_lt_zero _)) | refine ⟨?_, ?_⟩ | exact Iff.rfl | exact congrArg (fun z => V.SV.one (V.At.val (Value.int .i64 z))) (by omega))) (by repeat' (first | exact rfl | exact Iff.rfl | exact trivial | exact (fun _ _ => rfl) | exact (fun _ h => absurd h (Nat.not_lt_zero _)) | refine ⟨?_, ?_⟩ | exact Iff.rfl | exact congrArg (fun z => V.SV.one (V.At.val (Value.int .i64 z))) (by omega))) (by repeat' (first | exact rfl | exact Iff.rfl | exact trivial | exact (fun _ _ => rfl) | exact (fun _ h => absurd h (Nat.not_lt_zero _)) | refine ⟨?_, ?_⟩ | exact Iff.rfl | exact congrArg (fun z => V.SV.one (V.At.val (Value.int .i64 z))) (by omega)))
    · have ek : k = (Sh.rst t ws).toNat := by omega
      rw [rw_, ← ek]
      repeat' ((conv => whnf); first | refine V.NCond.mk ?_ | refine V.NIf.not_ ?_ | refine V.NIf.dec_ ?_ | refine V.NIf.no (by omega) ?_ | refine V.NIf.yes (by omega) ?_ | refine V.NIf.mk (fun _ => ?_) (fun _ => ?_) | refine V.NWrap.ok (by omega) (by omega) ?_ | refine V.NWrap.u64 (by omega) (by omega) ?_ | refine V.NLt.mk (by omega) ?_ | refine V.NBoth.mk ?_ ?_ | refine V.NTF.yes (by omega) ?_ | refine V.NTF.no (by omega) ?_ | refine V.NTF.dec ?_ | refine V.NDraw.q (by exact rfl) (by kernel_rfl) ?_ | refine V.NApp.one (by first | omega | (simp; omega)) (by first | omega | (simp; omega)) ?_ | ((first | refine V.Fn.k (tk) [2] rfl ?_ ?_ | refine V.Fn.q (tk) [2] rfl ?_ ?_ | refine V.Fn.a (tk) [2] rfl ?_ ?_); · ((repeat' (first | exact rfl | exact Iff.rfl | exact trivial | exact (fun _ _ => rfl) | exact (fun _ h => absurd h (Nat.not_lt_zero _)) | refine ⟨?_, ?_⟩ | exact Iff.rfl | exact congrArg (fun z => V.SV.one (V.At.val (Value.int .i64 z))) (by omega))); done)) | (refine V.NDraw.any (by kernel_rfl) ?_) | fail)
      all_goals (conv => whnf)
      exact NRet.mk_ [some 2] rfl ⟨rfl, rfl, trivial⟩ ⟨⟨rfl, rfl, (rl k (by omega)).symm, fun k hk => rfl⟩, trivial⟩
theorem v_rshParts (t : Int) (ws : List Int) (hl : ws.length ≤ 9223372036854775807) : V.FnR Try.prog 13 [.arr 1 ws.length (ga e1 ws)] [.one (.val (.int .i64 t)), .one (.ref 0)] (.tup [.one (.ref 1), .one (.val (.int .i64 (Sh.pE t ws)))]) [.row 3 1 (Sh.pL t ws).length (ga e1 (Sh.pL t ws))] := by
  have ck := v_rshChk ws hl
  have cr := v_rshPartsY t ws
  have hc := Sh.pE_cases t ws
  generalize Sh.pE t ws = E at *
  generalize Sh.pL t ws = L at *
  generalize Sh.chk ws = C at *
  rcases hc with ⟨a, rfl, rfl⟩ | ⟨rfl, a, rfl, rfl⟩ | ⟨rfl, a, b, rfl, rfl⟩
  · refine V.FnR.mk_ V.Tok V.mixed Try.func13 rfl Try.ntmps13 (by kernel_rfl) rfl rfl rfl rfl ?_
    repeat' ((conv => whnf); first | (refine V.NIf.yes ?_ ?_; · (decide; done)) | (refine V.NIf.no ?_ ?_; · (decide; done)) | refine V.NCond.mk ?_ | refine V.NIf.not_ ?_ | refine V.NIf.dec_ ?_ | refine V.NIf.no (by omega) ?_ | refine V.NIf.yes (by omega) ?_ | refine V.NIf.mk (fun _ => ?_) (fun _ => ?_) | refine V.NWrap.ok (by omega) (by omega) ?_ | refine V.NWrap.u64 (by omega) (by omega) ?_ | refine V.NLt.mk (by omega) ?_ | refine V.NBoth.mk ?_ ?_ | refine V.NTF.yes (by omega) ?_ | refine V.NTF.no (by omega) ?_ | refine V.NTF.dec ?_ | refine V.NDraw.q (by exact rfl) (by kernel_rfl) ?_ | refine V.NApp.one (by first | omega | (simp; omega)) (by first | omega | (simp; omega)) ?_ | ((first | refine V.Fn.k (ck) [0] rfl ?_ ?_ | refine V.Fn.q (ck) [0] rfl ?_ ?_ | refine V.Fn.a (ck) [0] rfl ?_ ?_); · ((repeat' (first | exact rfl | exact Iff.rfl | exact trivial | exact (fun _ _ => rfl) | exact (fun _ h => absurd h (Nat.not_lt_zero _)) | refine ⟨?_, ?_⟩ | exact Iff.rfl | exact congrArg (fun z => V.SV.one (V.At.val (Value.int .i64 z))) (by omega))); done)) | (first | refine V.Fn.k0 (v_rbetween _ _ _) rfl ?_ | refine V.Fn.q0 (v_rbetween _ _ _) rfl ?_ | refine V.Fn.a0 (v_rbetween _ _ _) rfl ?_) | (refine V.NDraw.any (by kernel_rfl) ?_) | fail)
    all_goals (conv => whnf)
    all_goals exact NRet.mk_ [some 2] rfl ⟨rfl, rfl, trivial⟩ ⟨⟨rfl, rfl, rfl, fun k hk => absurd hk (Nat.not_lt_zero _)⟩, trivial⟩
  · refine V.FnR.mk_ V.Tok V.mixed Try.func13 rfl Try.ntmps13 (by kernel_rfl) rfl rfl rfl rfl ?_
    repeat' ((conv => whnf); first | (refine V.NIf.yes ?_ ?_; · (decide; done)) | (refine V.NIf.no ?_ ?_; · (decide; done)) | refine V.NCond.mk ?_ | refine V.NIf.not_ ?_ | refine V.NIf.dec_ ?_ | refine V.NIf.no (by omega) ?_ | refine V.NIf.yes (by omega) ?_ | refine V.NIf.mk (fun _ => ?_) (fun _ => ?_) | refine V.NWrap.ok (by omega) (by omega) ?_ | refine V.NWrap.u64 (by omega) (by omega) ?_ | refine V.NLt.mk (by omega) ?_ | refine V.NBoth.mk ?_ ?_ | refine V.NTF.yes (by omega) ?_ | refine V.NTF.no (by omega) ?_ | refine V.NTF.dec ?_ | refine V.NDraw.q (by exact rfl) (by kernel_rfl) ?_ | refine V.NApp.one (by first | omega | (simp; omega)) (by first | omega | (simp; omega)) ?_ | ((first | refine V.Fn.k (ck) [0] rfl ?_ ?_ | refine V.Fn.q (ck) [0] rfl ?_ ?_ | refine V.Fn.a (ck) [0] rfl ?_ ?_); · ((repeat' (first | exact rfl | exact Iff.rfl | exact trivial | exact (fun _ _ => rfl) | exact (fun _ h => absurd h (Nat.not_lt_zero _)) | refine ⟨?_, ?_⟩ | exact Iff.rfl | exact congrArg (fun z => V.SV.one (V.At.val (Value.int .i64 z))) (by omega))); done)) | (first | refine V.Fn.k0 (v_rbetween _ _ _) rfl ?_ | refine V.Fn.q0 (v_rbetween _ _ _) rfl ?_ | refine V.Fn.a0 (v_rbetween _ _ _) rfl ?_) | (refine V.NDraw.any (by kernel_rfl) ?_) | fail)
    all_goals (conv => whnf)
    all_goals exact NRet.mk_ [some 2] rfl ⟨rfl, rfl, trivial⟩ ⟨⟨rfl, rfl, rfl, fun k hk => absurd hk (Nat.not_lt_zero _)⟩, trivial⟩
  · exact cr b a
end Go.Proofs.Ytfmejgohpokiaaa

/- What the document's way to give seats answers. -/
namespace Go.Proofs.Ytfmejgohpokiaaa
open Go Go.RowKit V
set_option maxRecDepth 100000
set_option linter.unusedVariables false
set_option linter.unusedSimpArgs false
set_option maxHeartbeats 4000000
theorem v_rdiv (kind s : Int) (hk : kind = 1 ∨ kind = 2) (h : 0 ≤ s ∧ s ≤ 1000000) : V.Fn Try.prog 24 [] [.one (.val (.int .i64 kind)), .one (.val (.int .i64 s))] (.int .i64 (Sh.dv kind s)) := by
  rcases hk with rfl | rfl
  · exact v_rdiv1 s h
  · exact v_rdiv2 s h
theorem v_rshSeatsY (n : Int) (ws : List Int) (kind : Int) (ok : Sh.Oks ws) (hn : 0 ≤ n ∧ n ≤ 500) (hkd : kind = 1 ∨ kind = 2) : V.FnR Try.prog 14 [.arr 1 ws.length (ga e1 ws)] [.one (.val (.int .i64 n)), .one (.ref 0), .one (.val (.int .i64 kind))] (.tup [.one (.ref 1), .one (.val (.int .i64 0))]) [.row 3 1 (Sh.seats kind ws n.toNat).length (ga e1 (Sh.seats kind ws n.toNat))] := by
  have ck := v_rshChk ws (by have := ok.le; omega)
  rw [Sh.chk_of ok] at ck
  have le := ok.le
  have ps := ok.pos
  have dvc := fun s h => v_rdiv kind s hkd h
  refine V.FnR.mk_ V.Tok V.mixed Try.func14 rfl Try.ntmps14 (by kernel_rfl) rfl rfl rfl rfl ?_
  repeat' ((conv => whnf); first | (refine V.NIf.yes ?_ ?_; · (decide; done)) | (refine V.NIf.no ?_ ?_; · (decide; done)) | refine V.NCond.mk ?_ | refine V.NIf.not_ ?_ | refine V.NIf.dec_ ?_ | refine V.NIf.no (by omega) ?_ | refine V.NIf.yes (by omega) ?_ | refine V.NIf.mk (fun _ => ?_) (fun _ => ?_) | refine V.NWrap.ok (by omega) (by omega) ?_ | refine V.NWrap.u64 (by omega) (by omega) ?_ | refine V.NLt.mk (by omega) ?_ | refine V.NBoth.mk ?_ ?_ | refine V.NTF.yes (by omega) ?_ | refine V.NTF.no (by omega) ?_ | refine V.NTF.dec ?_ | refine V.NDraw.q (by exact rfl) (by kernel_rfl) ?_ | refine V.NApp.one (by first | omega | (simp; omega)) (by first | omega | (simp; omega)) ?_ | ((first | refine V.Fn.k (ck) [0] rfl ?_ ?_ | refine V.Fn.q (ck) [0] rfl ?_ ?_ | refine V.Fn.a (ck) [0] rfl ?_ ?_); · ((repeat' (first | exact rfl | exact Iff.rfl | exact trivial | exact (fun _ _ => rfl) | exact (fun _ h => absurd h (Nat.not_lt_zero _)) | refine ⟨?_, ?_⟩ | exact Iff.rfl | exact congrArg (fun z => V.SV.one (V.At.val (Value.int .i64 z))) (by omega))); done)) | (first | refine V.Fn.k0 (v_rbetween _ _ _) rfl ?_ | refine V.Fn.q0 (v_rbetween _ _ _) rfl ?_ | refine V.Fn.a0 (v_rbetween _ _ _) rfl ?_) | (refine NMake.mk ⟨ws.length, ws.length, rfl, rfl, by omega, by omega, by first | omega | decide | (simp; done) | (simp; omega), ?_⟩) | (refine V.NDraw.any (by kernel_rfl) ?_) | fail)
  all_goals (conv => whnf)
  refine V.NLoop.auto (fun (s : Nat) => [(10, .one (.val (.int .i64 s))), (9, .one (.ref 2))]) (fun (s : Nat) => [(2, .row 3 1 ws.length (ga e1 (Sh.seats kind ws s)))]) [] [] (fun (s : Nat) => n.toNat - s) (fun (s : Nat) => (s : Int) ≤ n) 0 hn.1 (by repeat' (first | exact rfl | exact Iff.rfl | exact trivial | exact (fun _ _ => rfl) | exact (fun _ h => absurd h (Nat.not_lt_zero _)) | refine ⟨?_, ?_⟩ | exact Iff.rfl | exact congrArg (fun z => V.SV.one (V.At.val (Value.int .i64 z))) (by omega))) (by (conv => whnf); exact ⟨⟨rfl, rfl, rfl, fun k hk => (by rw [ga_at (by simpa [Sh.seats] using hk)]; simp [Sh.seats]; rfl)⟩, trivial⟩) (fun _ => ⟨rfl, rfl⟩) ?_; (conv => whnf); refine ⟨⟨rfl, rfl⟩, ?_⟩
  rintro s hs
  have ln := Sh.seats_len kind ws s
  have bd := Sh.seats_bd kind ws ps s
  have nx : Sh.seats kind ws (s + 1) = Sh.step kind ws (Sh.seats kind ws s) := rfl
  obtain ⟨out, eo⟩ : ∃ out, out = Sh.seats kind ws s := ⟨_, rfl⟩
  rw [← eo] at ln bd nx ⊢
  by_cases hlt : (s : Int) < n
  · have hd : ∀ j, j < ws.length → 0 < Sh.dv kind (out.getD j default) := fun j hj => by
      have := Sh.dv_bd (kind := kind) (s := out.getD j default) (by have := bd _ (getD_mem (l := out) (k := j) (by omega)); omega)
      omega
    have bl := Sh.best_lt (kind := kind) (out := out) ps
    have wi := fun i hi => Sh.win_iff (kind := kind) (ws := ws) (out := out) ps hd (i := i) hi
    have sp : Sh.step kind ws out = out.set (Sh.best kind ws out) (out.getD (Sh.best kind ws out) default + 1) := rfl
    generalize Sh.best kind ws out = B at *
    repeat' ((conv => whnf); first | refine V.NCond.mk ?_ | refine V.NIf.not_ ?_ | refine V.NIf.dec_ ?_ | refine V.NIf.no (by omega) ?_ | refine V.NIf.yes (by omega) ?_ | refine V.NIf.mk (fun _ => ?_) (fun _ => ?_) | refine V.NWrap.ok (by omega) (by omega) ?_ | refine V.NWrap.u64 (by omega) (by omega) ?_ | refine V.NLt.mk (by omega) ?_ | refine V.NBoth.mk ?_ ?_ | refine V.NTF.yes (by omega) ?_ | refine V.NTF.no (by omega) ?_ | refine V.NTF.dec ?_ | refine V.NDraw.q (by exact rfl) (by kernel_rfl) ?_ | refine V.NApp.one (by first | omega | (simp; omega)) (by first | omega | (simp; omega)) ?_ | (refine V.NDraw.any (by kernel_rfl) ?_) | fail)
    all_goals (conv => whnf)
    refine V.NLoop.auto (fun (i : Nat) => [(11, .one (.val (.int .i64 i)))]) (fun (i : Nat) => []) [] [] (fun (i : Nat) => ws.length - i) (fun (i : Nat) => i ≤ B) 0 (Nat.zero_le _) (by repeat' (first | exact rfl | exact Iff.rfl | exact trivial | exact (fun _ _ => rfl) | exact (fun _ h => absurd h (Nat.not_lt_zero _)) | refine ⟨?_, ?_⟩ | exact Iff.rfl | exact congrArg (fun z => V.SV.one (V.At.val (Value.int .i64 z))) (by omega))) (by repeat' (first | exact rfl | exact Iff.rfl | exact trivial | exact (fun _ _ => rfl) | exact (fun _ h => absurd h (Nat.not_lt_zero _)) | refine ⟨?_, ?_⟩ | exact Iff.rfl | exact congrArg (fun z => V.SV.one (V.At.val (Value.int .i64 z))) (by omega))) (fun _ => ⟨rfl, rfl⟩) ?_; (conv => whnf); refine ⟨⟨rfl, rfl⟩, ?_⟩
    rintro i hi
    have wii := wi i (by omega)
    have w2 := ok.all _ (getD_mem (l := ws) (k := i) (by omega))
    have o2 := bd _ (getD_mem (l := out) (k := i) (by omega))
    repeat' ((conv => whnf); first | refine V.NCond.mk ?_ | refine V.NIf.not_ ?_ | refine V.NIf.dec_ ?_ | refine V.NIf.no (by omega) ?_ | refine V.NIf.yes (by omega) ?_ | refine V.NIf.mk (fun _ => ?_) (fun _ => ?_) | refine V.NWrap.ok (by omega) (by omega) ?_ | refine V.NWrap.u64 (by omega) (by omega) ?_ | refine V.NLt.mk (by omega) ?_ | refine V.NBoth.mk ?_ ?_ | refine V.NTF.yes (by omega) ?_ | refine V.NTF.no (by omega) ?_ | refine V.NTF.dec ?_ | refine V.NDraw.q (by exact rfl) (by kernel_rfl) ?_ | refine V.NApp.one (by first | omega | (simp; omega)) (by first | omega | (simp; omega)) ?_ | (refine V.NDraw.any (by kernel_rfl) ?_) | fail)
    all_goals (conv => whnf)
    refine V.NLoop.auto (fun (k : Nat) => [(13, .one (.val (.int .i64 k))), (12, .one (.prop (∀ j, j < k → Sh.win kind ws out i j)))]) (fun (k : Nat) => []) [] [] (fun (k : Nat) => ws.length - k) (fun (k : Nat) => k ≤ ws.length) 0 (Nat.zero_le _) (by (conv => whnf); exact ⟨rfl, iff_of_true rfl (fun j h => absurd h (Nat.not_lt_zero _)), trivial⟩) (by repeat' (first | exact rfl | exact Iff.rfl | exact trivial | exact (fun _ _ => rfl) | exact (fun _ h => absurd h (Nat.not_lt_zero _)) | refine ⟨?_, ?_⟩ | exact Iff.rfl | exact congrArg (fun z => V.SV.one (V.At.val (Value.int .i64 z))) (by omega))) (fun _ => ⟨rfl, rfl⟩) ?_; (conv => whnf); refine ⟨⟨rfl, rfl⟩, ?_⟩
    rintro k hk
    have ha : (∀ j, j < k → Sh.win kind ws out i j) ∨ ¬ (∀ j, j < k → Sh.win kind ws out i j) := Classical.em _
    by_cases hkl : k < ws.length
    · have w1 := ok.all _ (getD_mem (l := ws) (k := k) (by omega))
      have o1 := bd _ (getD_mem (l := out) (k := k) (by omega))
      have sn : (∀ j, j < k + 1 → Sh.win kind ws out i j) ↔ ((∀ j, j < k → Sh.win kind ws out i j) ∧ Sh.win kind ws out i k) :=
        ⟨fun h => ⟨fun j hj => h j (by omega), h k (by omega)⟩, fun h j hj => by
          by_cases q : j = k
          · subst q; exact h.2
          · exact h.1 j (by omega)⟩
      have d1 := dvc (out.getD k default) (by omega)
      have d2 := dvc (out.getD i default) (by omega)
      have p1 := Sh.prod_bd w2 (Sh.dv_bd (kind := kind) (s := out.getD k default) (by omega))
      have p2 := Sh.prod_bd w1 (Sh.dv_bd (kind := kind) (s := out.getD i default) (by omega))
      have wd : Sh.win kind ws out i k = (ws.getD k default * Sh.dv kind (out.getD i default) < ws.getD i default * Sh.dv kind (out.getD k default) ∨ (ws.getD i default * Sh.dv kind (out.getD k default) = ws.getD k default * Sh.dv kind (out.getD i default) ∧ i ≤ k)) := rfl
      repeat' ((conv => whnf); first | refine V.NCond.mk ?_ | refine V.NIf.not_ ?_ | refine V.NIf.dec_ ?_ | refine V.NIf.no (by omega) ?_ | refine V.NIf.yes (by omega) ?_ | refine V.NIf.mk (fun _ => ?_) (fun _ => ?_) | refine V.NWrap.ok (by omega) (by omega) ?_ | refine V.NWrap.u64 (by omega) (by omega) ?_ | refine V.NLt.mk (by omega) ?_ | refine V.NBoth.mk ?_ ?_ | refine V.NTF.yes (by omega) ?_ | refine V.NTF.no (by omega) ?_ | refine V.NTF.dec ?_ | refine V.NDraw.q (by exact rfl) (by kernel_rfl) ?_ | refine V.NApp.one (by first | omega | (simp; omega)) (by first | omega | (simp; omega)) ?_ | (refine NIdx.mk ⟨i, rfl, by omega, ?_⟩) | (refine NIdx.mk ⟨k, rfl, by omega, ?_⟩) | (first | refine V.Fn.k0 (d1) rfl ?_ | refine V.Fn.q0 (d1) rfl ?_ | refine V.Fn.a0 (d1) rfl ?_) | (first | refine V.Fn.k0 (d2) rfl ?_ | refine V.Fn.q0 (d2) rfl ?_ | refine V.Fn.a0 (d2) rfl ?_) | (refine V.NDraw.any (by kernel_rfl) ?_) | fail)
      all_goals (conv => whnf)
      · exact V.NBack.at_ (k + 1) [] (by omega) (by omega) ⟨rfl, iff_of_true rfl (sn.2 ⟨by assumption, by rw [wd]; exact .inl (by assumption)⟩), trivial⟩ rfl (by repeat' (first | exact rfl | exact Iff.rfl | exact trivial | exact (fun _ _ => rfl) | exact (fun _ h => absurd h (Nat.not_lt_zero _)) | refine ⟨?_, ?_⟩ | exact Iff.rfl | exact congrArg (fun z => V.SV.one (V.At.val (Value.int .i64 z))) (by omega))) (by repeat' (first | exact rfl | exact Iff.rfl | exact trivial | exact (fun _ _ => rfl) | exact (fun _ h => absurd h (Nat.not_lt_zero _)) | refine ⟨?_, ?_⟩ | exact Iff.rfl | exact congrArg (fun z => V.SV.one (V.At.val (Value.int .i64 z))) (by omega))) (by repeat' (first | exact rfl | exact Iff.rfl | exact trivial | exact (fun _ _ => rfl) | exact (fun _ h => absurd h (Nat.not_lt_zero _)) | refine ⟨?_, ?_⟩ | exact Iff.rfl | exact congrArg (fun z => V.SV.one (V.At.val (Value.int .i64 z))) (by omega)))
      · exact V.NBack.at_ (k + 1) [] (by omega) (by omega) ⟨rfl, ⟨fun h => sn.2 ⟨by assumption, by rw [wd]; exact .inr ⟨by assumption, by omega⟩⟩, fun h => by have := (sn.1 h).2; rw [wd] at this; omega⟩, trivial⟩ rfl (by repeat' (first | exact rfl | exact Iff.rfl | exact trivial | exact (fun _ _ => rfl) | exact (fun _ h => absurd h (Nat.not_lt_zero _)) | refine ⟨?_, ?_⟩ | exact Iff.rfl | exact congrArg (fun z => V.SV.one (V.At.val (Value.int .i64 z))) (by omega))) (by repeat' (first | exact rfl | exact Iff.rfl | exact trivial | exact (fun _ _ => rfl) | exact (fun _ h => absurd h (Nat.not_lt_zero _)) | refine ⟨?_, ?_⟩ | exact Iff.rfl | exact congrArg (fun z => V.SV.one (V.At.val (Value.int .i64 z))) (by omega))) (by repeat' (first | exact rfl | exact Iff.rfl | exact trivial | exact (fun _ _ => rfl) | exact (fun _ h => absurd h (Nat.not_lt_zero _)) | refine ⟨?_, ?_⟩ | exact Iff.rfl | exact congrArg (fun z => V.SV.one (V.At.val (Value.int .i64 z))) (by omega)))
      · exact V.NBack.at_ (k + 1) [] (by omega) (by omega) ⟨rfl, iff_of_false (by decide) (fun h => by have := (sn.1 h).2; rw [wd] at this; omega), trivial⟩ rfl (by repeat' (first | exact rfl | exact Iff.rfl | exact trivial | exact (fun _ _ => rfl) | exact (fun _ h => absurd h (Nat.not_lt_zero _)) | refine ⟨?_, ?_⟩ | exact Iff.rfl | exact congrArg (fun z => V.SV.one (V.At.val (Value.int .i64 z))) (by omega))) (by repeat' (first | exact rfl | exact Iff.rfl | exact trivial | exact (fun _ _ => rfl) | exact (fun _ h => absurd h (Nat.not_lt_zero _)) | refine ⟨?_, ?_⟩ | exact Iff.rfl | exact congrArg (fun z => V.SV.one (V.At.val (Value.int .i64 z))) (by omega))) (by repeat' (first | exact rfl | exact Iff.rfl | exact trivial | exact (fun _ _ => rfl) | exact (fun _ h => absurd h (Nat.not_lt_zero _)) | refine ⟨?_, ?_⟩ | exact Iff.rfl | exact congrArg (fun z => V.SV.one (V.At.val (Value.int .i64 z))) (by omega)))
      · exact V.NBack.at_ (k + 1) [] (by omega) (by omega) ⟨rfl, iff_of_false (by decide) (fun h => absurd (sn.1 h).1 (by assumption)), trivial⟩ rfl (by repeat' (first | exact rfl | exact Iff.rfl | exact trivial | exact (fun _ _ => rfl) | exact (fun _ h => absurd h (Nat.not_lt_zero _)) | refine ⟨?_, ?_⟩ | exact Iff.rfl | exact congrArg (fun z => V.SV.one (V.At.val (Value.int .i64 z))) (by omega))) (by repeat' (first | exact rfl | exact Iff.rfl | exact trivial | exact (fun _ _ => rfl) | exact (fun _ h => absurd h (Nat.not_lt_zero _)) | refine ⟨?_, ?_⟩ | exact Iff.rfl | exact congrArg (fun z => V.SV.one (V.At.val (Value.int .i64 z))) (by omega))) (by repeat' (first | exact rfl | exact Iff.rfl | exact trivial | exact (fun _ _ => rfl) | exact (fun _ h => absurd h (Nat.not_lt_zero _)) | refine ⟨?_, ?_⟩ | exact Iff.rfl | exact congrArg (fun z => V.SV.one (V.At.val (Value.int .i64 z))) (by omega)))
    · obtain rfl : k = ws.length := by omega
      by_cases hw : ∀ j, j < ws.length → Sh.win kind ws out i j
      · obtain rfl := wii.1 hw
        repeat' ((conv => whnf); first | (refine V.NIf.yes hw ?_) | refine V.NCond.mk ?_ | refine V.NIf.not_ ?_ | refine V.NIf.dec_ ?_ | refine V.NIf.no (by omega) ?_ | refine V.NIf.yes (by omega) ?_ | refine V.NIf.mk (fun _ => ?_) (fun _ => ?_) | refine V.NWrap.ok (by omega) (by omega) ?_ | refine V.NWrap.u64 (by omega) (by omega) ?_ | refine V.NLt.mk (by omega) ?_ | refine V.NBoth.mk ?_ ?_ | refine V.NTF.yes (by omega) ?_ | refine V.NTF.no (by omega) ?_ | refine V.NTF.dec ?_ | refine V.NDraw.q (by exact rfl) (by kernel_rfl) ?_ | refine V.NApp.one (by first | omega | (simp; omega)) (by first | omega | (simp; omega)) ?_ | (refine NIdx.mk ⟨i, rfl, by omega, ?_⟩) | (refine NPut.is_ (en := e1) (l := out) _ (Sh.seats kind ws (s + 1)) (nx.trans sp).symm (by omega) rfl ?_) | (refine V.NDraw.any (by kernel_rfl) ?_) | fail)
        all_goals (conv => whnf)
        exact V.NBack.at_ (s + 1) [] (by omega) (by omega) (by repeat' (first | exact rfl | exact Iff.rfl | exact trivial | exact (fun _ _ => rfl) | exact (fun _ h => absurd h (Nat.not_lt_zero _)) | refine ⟨?_, ?_⟩ | exact Iff.rfl | exact congrArg (fun z => V.SV.one (V.At.val (Value.int .i64 z))) (by omega))) rfl (by repeat' (first | exact rfl | exact Iff.rfl | exact trivial | exact (fun _ _ => rfl) | exact (fun _ h => absurd h (Nat.not_lt_zero _)) | refine ⟨?_, ?_⟩ | exact Iff.rfl | exact congrArg (fun z => V.SV.one (V.At.val (Value.int .i64 z))) (by omega))) (by repeat' (first | exact rfl | exact Iff.rfl | exact trivial | exact (fun _ _ => rfl) | exact (fun _ h => absurd h (Nat.not_lt_zero _)) | refine ⟨?_, ?_⟩ | exact Iff.rfl | exact congrArg (fun z => V.SV.one (V.At.val (Value.int .i64 z))) (by omega))) (by repeat' (first | exact rfl | exact Iff.rfl | exact trivial | exact (fun _ _ => rfl) | exact (fun _ h => absurd h (Nat.not_lt_zero _)) | refine ⟨?_, ?_⟩ | exact Iff.rfl | exact congrArg (fun z => V.SV.one (V.At.val (Value.int .i64 z))) (by omega)))
      · have ne : i ≠ B := fun q => hw (wii.2 q)
        repeat' ((conv => whnf); first | (refine V.NIf.no hw ?_) | refine V.NCond.mk ?_ | refine V.NIf.not_ ?_ | refine V.NIf.dec_ ?_ | refine V.NIf.no (by omega) ?_ | refine V.NIf.yes (by omega) ?_ | refine V.NIf.mk (fun _ => ?_) (fun _ => ?_) | refine V.NWrap.ok (by omega) (by omega) ?_ | refine V.NWrap.u64 (by omega) (by omega) ?_ | refine V.NLt.mk (by omega) ?_ | refine V.NBoth.mk ?_ ?_ | refine V.NTF.yes (by omega) ?_ | refine V.NTF.no (by omega) ?_ | refine V.NTF.dec ?_ | refine V.NDraw.q (by exact rfl) (by kernel_rfl) ?_ | refine V.NApp.one (by first | omega | (simp; omega)) (by first | omega | (simp; omega)) ?_ | (refine V.NDraw.any (by kernel_rfl) ?_) | fail)
        all_goals (conv => whnf)
        exact V.NBack.at_ (i + 1) [] (by omega) (by omega) (by repeat' (first | exact rfl | exact Iff.rfl | exact trivial | exact (fun _ _ => rfl) | exact (fun _ h => absurd h (Nat.not_lt_zero _)) | refine ⟨?_, ?_⟩ | exact Iff.rfl | exact congrArg (fun z => V.SV.one (V.At.val (Value.int .i64 z))) (by omega))) rfl (by repeat' (first | exact rfl | exact Iff.rfl | exact trivial | exact (fun _ _ => rfl) | exact (fun _ h => absurd h (Nat.not_lt_zero _)) | refine ⟨?_, ?_⟩ | exact Iff.rfl | exact congrArg (fun z => V.SV.one (V.At.val (Value.int .i64 z))) (by omega))) (by repeat' (first | exact rfl | exact Iff.rfl | exact trivial | exact (fun _ _ => rfl) | exact (fun _ h => absurd h (Nat.not_lt_zero _)) | refine ⟨?_, ?_⟩ | exact Iff.rfl | exact congrArg (fun z => V.SV.one (V.At.val (Value.int .i64 z))) (by omega))) (by repeat' (first | exact rfl | exact Iff.rfl | exact trivial | exact (fun _ _ => rfl) | exact (fun _ h => absurd h (Nat.not_lt_zero _)) | refine ⟨?_, ?_⟩ | exact Iff.rfl | exact congrArg (fun z => V.SV.one (V.At.val (Value.int .i64 z))) (by omega)))
  · have e : s = n.toNat := by omega
    rw [← e, ← eo]
    repeat' ((conv => whnf); first | refine V.NCond.mk ?_ | refine V.NIf.not_ ?_ | refine V.NIf.dec_ ?_ | refine V.NIf.no (by omega) ?_ | refine V.NIf.yes (by omega) ?_ | refine V.NIf.mk (fun _ => ?_) (fun _ => ?_) | refine V.NWrap.ok (by omega) (by omega) ?_ | refine V.NWrap.u64 (by omega) (by omega) ?_ | refine V.NLt.mk (by omega) ?_ | refine V.NBoth.mk ?_ ?_ | refine V.NTF.yes (by omega) ?_ | refine V.NTF.no (by omega) ?_ | refine V.NTF.dec ?_ | refine V.NDraw.q (by exact rfl) (by kernel_rfl) ?_ | refine V.NApp.one (by first | omega | (simp; omega)) (by first | omega | (simp; omega)) ?_ | (refine V.NDraw.any (by kernel_rfl) ?_) | fail)
    all_goals (conv => whnf)
    exact NRet.mk_ [some 2] rfl ⟨rfl, rfl, trivial⟩ ⟨⟨rfl, rfl, ln.symm, fun k hk => rfl⟩, trivial⟩
theorem v_rshSeats (n : Int) (ws : List Int) (kind : Int) (hl : ws.length ≤ 9223372036854775807) : V.FnR Try.prog 14 [.arr 1 ws.length (ga e1 ws)] [.one (.val (.int .i64 n)), .one (.ref 0), .one (.val (.int .i64 kind))] (.tup [.one (.ref 1), .one (.val (.int .i64 (Sh.sE n ws kind)))]) [.row 3 1 (Sh.sL n ws kind).length (ga e1 (Sh.sL n ws kind))] := by
  by_cases h : Sh.sE n ws kind = 0
  · obtain ⟨ok, hn, hk, e⟩ := Sh.sE_ok h
    rw [h, e]
    exact v_rshSeatsY n ws kind ok hn hk
  · rw [Sh.sL_no h]
    have ck := v_rshChk ws hl
    have hc : (¬ Sh.chk ws = 0 ∧ Sh.sE n ws kind = Sh.chk ws) ∨ (Sh.chk ws = 0 ∧ (n < 0 ∨ 500 < n) ∧ Sh.sE n ws kind = 3) ∨ (Sh.chk ws = 0 ∧ (0 ≤ n ∧ n ≤ 500) ∧ (kind < 1 ∨ 2 < kind) ∧ Sh.sE n ws kind = 7) := by
      by_cases a : Sh.chk ws = 0
      · by_cases b : n < 0 ∨ 500 < n
        · exact .inr (.inl ⟨a, b, Sh.sE_2 a b⟩)
        · by_cases c : kind < 1 ∨ 2 < kind
          · exact .inr (.inr ⟨a, by omega, c, Sh.sE_3 a b c⟩)
          · exact absurd (Sh.sE_4 a b c) h
      · exact .inl ⟨a, Sh.sE_1 a⟩
    generalize Sh.sE n ws kind = E at *
    generalize Sh.chk ws = C at *
    clear h
    rcases hc with ⟨a, rfl⟩ | ⟨rfl, a, rfl⟩ | ⟨rfl, a, b, rfl⟩
    all_goals (refine V.FnR.mk_ V.Tok V.mixed Try.func14 rfl Try.ntmps14 (by kernel_rfl) rfl rfl rfl rfl ?_; repeat' ((conv => whnf); first | (refine V.NIf.yes ?_ ?_; · (decide; done)) | (refine V.NIf.no ?_ ?_; · (decide; done)) | refine V.NCond.mk ?_ | refine V.NIf.not_ ?_ | refine V.NIf.dec_ ?_ | refine V.NIf.no (by omega) ?_ | refine V.NIf.yes (by omega) ?_ | refine V.NIf.mk (fun _ => ?_) (fun _ => ?_) | refine V.NWrap.ok (by omega) (by omega) ?_ | refine V.NWrap.u64 (by omega) (by omega) ?_ | refine V.NLt.mk (by omega) ?_ | refine V.NBoth.mk ?_ ?_ | refine V.NTF.yes (by omega) ?_ | refine V.NTF.no (by omega) ?_ | refine V.NTF.dec ?_ | refine V.NDraw.q (by exact rfl) (by kernel_rfl) ?_ | refine V.NApp.one (by first | omega | (simp; omega)) (by first | omega | (simp; omega)) ?_ | ((first | refine V.Fn.k (ck) [0] rfl ?_ ?_ | refine V.Fn.q (ck) [0] rfl ?_ ?_ | refine V.Fn.a (ck) [0] rfl ?_ ?_); · ((repeat' (first | exact rfl | exact Iff.rfl | exact trivial | exact (fun _ _ => rfl) | exact (fun _ h => absurd h (Nat.not_lt_zero _)) | refine ⟨?_, ?_⟩ | exact Iff.rfl | exact congrArg (fun z => V.SV.one (V.At.val (Value.int .i64 z))) (by omega))); done)) | (first | refine V.Fn.k0 (v_rbetween _ _ _) rfl ?_ | refine V.Fn.q0 (v_rbetween _ _ _) rfl ?_ | refine V.Fn.a0 (v_rbetween _ _ _) rfl ?_) | (refine V.NDraw.any (by kernel_rfl) ?_) | fail))
    all_goals (conv => whnf)
    all_goals exact NRet.mk_ [some 2] rfl ⟨rfl, rfl, trivial⟩ ⟨⟨rfl, rfl, rfl, fun k hk => absurd hk (Nat.not_lt_zero _)⟩, trivial⟩
end Go.Proofs.Ytfmejgohpokiaaa

/- What must be in any case, of shares. -/
namespace Go.Proofs.Ytfmejgohpokiaaa
open Go Go.RowKit V
set_option maxRecDepth 100000
set_option linter.unusedVariables false
set_option linter.unusedSimpArgs false
set_option maxHeartbeats 4000000
theorem Sh.bgo : Sh.ord 10 [3, 3, 1] = [⟨2, 3⟩, ⟨0, 2⟩, ⟨1, 2⟩] := (srtQ_uniq (l := Sh.qus (Sh.lfs 10 [3, 3, 1])) (l' := [⟨2, 3⟩, ⟨0, 2⟩, ⟨1, 2⟩]) (by
  show List.Perm _ [(⟨0, 2⟩ : Qu), ⟨1, 2⟩, ⟨2, 3⟩]
  exact (List.perm_append_comm (l₁ := [(⟨2, 3⟩ : Qu)]) (l₂ := [(⟨0, 2⟩ : Qu), ⟨1, 2⟩]))) (by
  simp only [List.pairwise_cons, List.mem_cons, List.not_mem_nil, or_false, forall_eq_or_imp, forall_eq, false_imp_iff, implies_true, List.Pairwise.nil, and_true]
  exact ⟨⟨rfl, rfl⟩, rfl⟩)).symm
theorem Sh.bg1 : Sh.pL 10 [3, 3, 1] = [4, 4, 2] ∧ Sh.pE 10 [3, 3, 1] = 0 := by
  have e : Sh.pE 10 [3, 3, 1] = 0 := by decide +kernel
  refine ⟨(if_pos e).trans ?_, e⟩
  unfold Sh.raw Sh.raws
  rw [Sh.bgo]
  rfl
theorem Sh.bg2 : Sh.sL 5 [60, 30, 10] 1 = [4, 1, 0] ∧ Sh.sE 5 [60, 30, 10] 1 = 0 := ⟨by decide +kernel, by decide +kernel⟩
theorem Sh.bg3 : Sh.sL 4 [60, 30, 10] 2 = [3, 1, 0] ∧ Sh.sE 4 [60, 30, 10] 2 = 0 := ⟨by decide +kernel, by decide +kernel⟩
theorem Sh.bg4 : Sh.sL 1 [1] 3 = [] ∧ Sh.sE 1 [1] 3 = 7 := ⟨by decide +kernel, by decide +kernel⟩
theorem Sh.bg5 : Sh.chk [0, 0] = 4 := by decide +kernel
theorem v_shBegun : V.Fn Try.prog 15 [] [] (.bool true) := by
  have a1 := v_shParts 10 [3, 3, 1] (by decide)
  have a2 := v_shSeats 5 [60, 30, 10] 1 (by decide)
  have a3 := v_shSeats 4 [60, 30, 10] 2 (by decide)
  have a4 := v_shSeats 1 [1] 3 (by decide)
  have a5 := v_shCheck [0, 0] (by decide)
  have s1 := v_sameints [4, 4, 2] [4, 4, 2] (by decide)
  have s2 := v_sameints [4, 1, 0] [4, 1, 0] (by decide)
  have s3 := v_sameints [3, 1, 0] [3, 1, 0] (by decide)
  rw [Sh.bg1.1, Sh.bg1.2] at a1
  rw [Sh.bg2.1, Sh.bg2.2] at a2
  rw [Sh.bg3.1, Sh.bg3.2] at a3
  rw [Sh.bg4.1, Sh.bg4.2] at a4
  rw [Sh.bg5] at a5
  refine V.Fn.mk_ V.Tok V.mixed Try.func15 rfl Try.ntmps15 (by kernel_rfl) rfl rfl ?_
  repeat' ((conv => whnf); first | (refine V.NIf.yes ?_ ?_; · (decide; done)) | (refine V.NIf.no ?_ ?_; · (decide; done)) | refine V.NCond.mk ?_ | refine V.NIf.not_ ?_ | refine V.NIf.dec_ ?_ | refine V.NIf.no (by omega) ?_ | refine V.NIf.yes (by omega) ?_ | refine V.NIf.mk (fun _ => ?_) (fun _ => ?_) | refine V.NWrap.ok (by omega) (by omega) ?_ | refine V.NWrap.u64 (by omega) (by omega) ?_ | refine V.NLt.mk (by omega) ?_ | refine V.NBoth.mk ?_ ?_ | refine V.NTF.yes (by omega) ?_ | refine V.NTF.no (by omega) ?_ | refine V.NTF.dec ?_ | refine V.NDraw.q (by exact rfl) (by kernel_rfl) ?_ | refine V.NApp.one (by first | omega | (simp; omega)) (by first | omega | (simp; omega)) ?_ | ((first | refine V.FnR.k_ (a1) [0] rfl ?_ ?_ | refine V.FnR.a_ (a1) [0] rfl ?_ ?_); · ((repeat' (first | exact rfl | exact Iff.rfl | exact trivial | exact (fun _ _ => rfl) | exact (fun _ h => absurd h (Nat.not_lt_zero _)) | refine ⟨?_, ?_⟩ | exact Iff.rfl | exact congrArg (fun z => V.SV.one (V.At.val (Value.int .i64 z))) (by omega))); done)) | ((first | refine V.FnR.k_ (a2) [2] rfl ?_ ?_ | refine V.FnR.a_ (a2) [2] rfl ?_ ?_); · ((repeat' (first | exact rfl | exact Iff.rfl | exact trivial | exact (fun _ _ => rfl) | exact (fun _ h => absurd h (Nat.not_lt_zero _)) | refine ⟨?_, ?_⟩ | exact Iff.rfl | exact congrArg (fun z => V.SV.one (V.At.val (Value.int .i64 z))) (by omega))); done)) | ((first | refine V.FnR.k_ (a3) [4] rfl ?_ ?_ | refine V.FnR.a_ (a3) [4] rfl ?_ ?_); · ((repeat' (first | exact rfl | exact Iff.rfl | exact trivial | exact (fun _ _ => rfl) | exact (fun _ h => absurd h (Nat.not_lt_zero _)) | refine ⟨?_, ?_⟩ | exact Iff.rfl | exact congrArg (fun z => V.SV.one (V.At.val (Value.int .i64 z))) (by omega))); done)) | ((first | refine V.FnR.k_ (a4) [6] rfl ?_ ?_ | refine V.FnR.a_ (a4) [6] rfl ?_ ?_); · ((repeat' (first | exact rfl | exact Iff.rfl | exact trivial | exact (fun _ _ => rfl) | exact (fun _ h => absurd h (Nat.not_lt_zero _)) | refine ⟨?_, ?_⟩ | exact Iff.rfl | exact congrArg (fun z => V.SV.one (V.At.val (Value.int .i64 z))) (by omega))); done)) | ((first | refine V.Fn.k (s1) [1, 8] rfl ?_ ?_ | refine V.Fn.q (s1) [1, 8] rfl ?_ ?_ | refine V.Fn.a (s1) [1, 8] rfl ?_ ?_); · ((repeat' (first | exact rfl | exact Iff.rfl | exact trivial | exact (fun _ _ => rfl) | exact (fun _ h => absurd h (Nat.not_lt_zero _)) | refine ⟨?_, ?_⟩ | exact Iff.rfl | exact congrArg (fun z => V.SV.one (V.At.val (Value.int .i64 z))) (by omega))); done)) | ((first | refine V.Fn.k (s2) [3, 9] rfl ?_ ?_ | refine V.Fn.q (s2) [3, 9] rfl ?_ ?_ | refine V.Fn.a (s2) [3, 9] rfl ?_ ?_); · ((repeat' (first | exact rfl | exact Iff.rfl | exact trivial | exact (fun _ _ => rfl) | exact (fun _ h => absurd h (Nat.not_lt_zero _)) | refine ⟨?_, ?_⟩ | exact Iff.rfl | exact congrArg (fun z => V.SV.one (V.At.val (Value.int .i64 z))) (by omega))); done)) | ((first | refine V.Fn.k (s3) [5, 10] rfl ?_ ?_ | refine V.Fn.q (s3) [5, 10] rfl ?_ ?_ | refine V.Fn.a (s3) [5, 10] rfl ?_ ?_); · ((repeat' (first | exact rfl | exact Iff.rfl | exact trivial | exact (fun _ _ => rfl) | exact (fun _ h => absurd h (Nat.not_lt_zero _)) | refine ⟨?_, ?_⟩ | exact Iff.rfl | exact congrArg (fun z => V.SV.one (V.At.val (Value.int .i64 z))) (by omega))); done)) | ((first | refine V.Fn.k (a5) [11] rfl ?_ ?_ | refine V.Fn.q (a5) [11] rfl ?_ ?_ | refine V.Fn.a (a5) [11] rfl ?_ ?_); · ((repeat' (first | exact rfl | exact Iff.rfl | exact trivial | exact (fun _ _ => rfl) | exact (fun _ h => absurd h (Nat.not_lt_zero _)) | refine ⟨?_, ?_⟩ | exact Iff.rfl | exact congrArg (fun z => V.SV.one (V.At.val (Value.int .i64 z))) (by omega))); done)) | (refine V.NDraw.any (by kernel_rfl) ?_) | fail)
  all_goals (conv => whnf)
  exact ⟨true, rfl, iff_of_true rfl rfl⟩
end Go.Proofs.Ytfmejgohpokiaaa

/- Plain laws of shares: the quota, who weighs more, seats one by one. -/
namespace Go.Proofs.Ytfmejgohpokiaaa
set_option linter.unusedVariables false
namespace Sh
def got (t : Int) (ws : List Int) (j : Nat) : Prop := j ∈ (pls t ws).take (rst t ws).toNat
theorem raw_len {t : Int} {ws : List Int} (ok : Oks ws) : (raw t ws).length = ws.length := raws_len t ws _ (by have := rst_bd (t := t) ok; omega)
theorem raw_in {t : Int} {ws : List Int} (ok : Oks ws) {j : Nat} (h : got t ws j) : (raw t ws).getD j default = (whs t ws).getD j default + 1 := (raws_at _ (by have := rst_bd (t := t) ok; omega)).trans (by unfold got at h; rw [if_pos h])
theorem raw_out {t : Int} {ws : List Int} (ok : Oks ws) {j : Nat} (h : ¬ got t ws j) : (raw t ws).getD j default = (whs t ws).getD j default := (raws_at _ (by have := rst_bd (t := t) ok; omega)).trans (by unfold got at h; rw [if_neg h]; omega)
theorem raw_sum {t : Int} {ws : List Int} (ok : Oks ws) : sm (raw t ws) = t := by
  have b := rst_bd (t := t) ok
  have := raws_sum (t := t) (ws := ws) (rst t ws).toNat (by omega)
  have e : rst t ws = t - sm (whs t ws) := rfl
  unfold raw
  omega
theorem sm_perm {l m : List Int} (h : l.Perm m) : sm l = sm m := by
  induction h with
  | nil => rfl
  | cons x _ ih => simp only [sm, ih]
  | swap x y l => simp only [sm]; omega
  | trans _ _ h1 h2 => exact h1.trans h2
theorem got_up {t : Int} {ws : List Int} {i k : Nat} (hi : i < ws.length) (g : got t ws k) (h : (lfs t ws).getD k default < (lfs t ws).getD i default ∨ ((lfs t ws).getD k default = (lfs t ws).getD i default ∧ i < k)) : got t ws i := by
  obtain ⟨a, ha, ha2, ea⟩ := mem_take g
  obtain ⟨b, hb, eb⟩ := List.getElem_of_mem (pls_all (t := t) hi)
  have eb : (pls t ws).getD b 0 = i := by rw [List.getD_eq_getElem?_getD, List.getElem?_eq_getElem hb]; exact eb
  have lp := pls_len t ws
  by_cases q : b < (rst t ws).toNat
  · unfold got
    rw [← eb]
    rcases Nat.lt_or_ge (pls t ws).length (rst t ws).toNat with z | z
    · rw [List.take_of_length_le (by omega)]
      exact getD_mem (l := pls t ws) hb
    · exact take_mem q z
  · have := pls_ahead (t := t) (ws := ws) (i := a) (k := b) (by omega) (by omega)
    rw [eb, ← ea] at this
    omega
theorem got_pos {t : Int} {ws : List Int} (ok : Oks ws) {j : Nat} (g : got t ws j) : 0 < (lfs t ws).getD j default := by
  obtain ⟨a, ha, ha2, ea⟩ := mem_take g
  have lp := pls_len t ws
  have lb := lf_bd (t := t) ok
  have e := rest_eq (t := t) ok
  have b := rst_bd (t := t) ok
  have p := ok.sum
  refine Int.not_le.1 fun q => ?_
  have pm : ((pls t ws).map fun p => (lfs t ws).getD p default).Perm (lfs t ws) := by
    refine ((pls_perm t ws).map _).trans (List.Perm.of_eq ?_)
    refine List.ext_getElem (by simp [lfs_len]) fun i h1 h2 => ?_
    simp only [List.getElem_map, List.getElem_range]
    exact getD_at h2
  have e2 := sm_perm pm
  generalize hG : ((pls t ws).map fun p => (lfs t ws).getD p default) = G at *
  have gl : G.length = ws.length := by rw [← hG, List.length_map, lp]
  have gm : ∀ x ∈ G, 0 ≤ x ∧ x ≤ sm ws - 1 := fun x hx => lb x (pm.mem_iff.1 hx)
  have sp : sm G = sm (G.take a) + sm (G.drop a) := by rw [← sm_app, List.take_append_drop]
  have b1 := sm_bd (l := G.take a) (B := sm ws - 1) fun x hx => gm x (List.take_subset _ _ hx)
  have b2 := sm_bd (l := G.drop a) (B := 0) fun x hx => by
    obtain ⟨i, hi, ex⟩ := List.getElem_of_mem hx
    rw [List.length_drop] at hi
    refine ⟨(gm x (List.drop_subset _ _ hx)).1, ?_⟩
    rw [← ex, List.getElem_drop]
    have eg : G[a + i]'(by omega) = (lfs t ws).getD ((pls t ws).getD (a + i) 0) default := by
      rw [List.getD_eq_getElem?_getD (l := pls t ws), List.getElem?_eq_getElem (by omega)]
      simp only [← hG, List.getElem_map, Option.getD_some]
    rw [eg]
    by_cases z : i = 0
    · subst z; rw [Nat.add_zero, ← ea]; exact q
    · have := pls_ahead (t := t) (ws := ws) (i := a) (k := a + i) (by omega) (by omega)
      rw [← ea] at this
      omega
  rw [List.length_take, Nat.min_eq_left (by omega)] at b1
  have h3 : rst t ws * sm ws ≤ (sm ws - 1) * (a : Int) := by omega
  have h4 : ((a : Int) + 1) * sm ws ≤ rst t ws * sm ws := Int.mul_le_mul_of_nonneg_right (by omega) (by omega)
  have h5 : ((a : Int) + 1) * sm ws = (a : Int) * sm ws + sm ws := by rw [Int.add_mul]; omega
  have h6 : (sm ws - 1) * (a : Int) = (a : Int) * sm ws - a := by rw [Int.sub_mul, Int.mul_comm (sm ws)]; omega
  omega
theorem raw_bd {t : Int} {ws : List Int} (ok : Oks ws) (ht : 0 ≤ t) {j : Nat} (hj : j < ws.length) : 0 ≤ (raw t ws).getD j default ∧ (raw t ws).getD j default ≤ t := by
  have b := rst_bd (t := t) ok
  have h := raws_bd (t := t) ok ht (rst t ws).toNat (by omega)
  have m := getD_mem (l := raw t ws) (k := j) (by rw [raw_len ok]; exact hj)
  have g := sm_ge (l := raw t ws) (fun x hx => (h x hx).1) m
  rw [raw_sum ok] at g
  exact ⟨(h _ m).1, g⟩
theorem quota {t : Int} {ws : List Int} (ok : Oks ws) {j : Nat} (hj : j < ws.length) : t * ws.getD j default - sm ws < (raw t ws).getD j default * sm ws ∧ (raw t ws).getD j default * sm ws < t * ws.getD j default + sm ws := by
  have p := ok.sum
  have e := Int.mul_ediv_add_emod (t * ws.getD j default) (sm ws)
  have r0 := Int.emod_nonneg (t * ws.getD j default) (b := sm ws) (by omega)
  have r1 := Int.emod_lt_of_pos (t * ws.getD j default) (b := sm ws) (by omega)
  have eL := lfs_at (t := t) hj
  rw [Int.mul_comm (sm ws)] at e
  by_cases g : got t ws j
  · have gp := got_pos ok g
    rw [raw_in ok g, whs_at hj, Int.add_mul]
    omega
  · rw [raw_out ok g, whs_at hj]
    omega
theorem none {t : Int} {ws : List Int} (ok : Oks ws) {j : Nat} (hj : j < ws.length) (h : ws.getD j default = 0) : (raw t ws).getD j default = 0 := by
  have eL := lfs_at (t := t) hj
  rw [h, Int.mul_zero, Int.zero_emod] at eL
  have g : ¬ got t ws j := fun g => by have := got_pos ok g; omega
  rw [raw_out ok g, whs_at hj, h, Int.mul_zero, Int.zero_ediv]
theorem more {t : Int} {ws : List Int} (ok : Oks ws) (ht : 0 ≤ t) {i k : Nat} (hi : i < ws.length) (hk : k < ws.length) : ws.getD i default < ws.getD k default ∨ (raw t ws).getD k default ≤ (raw t ws).getD i default ∨ (ws.getD i default = ws.getD k default ∧ (raw t ws).getD i default + 1 = (raw t ws).getD k default ∧ k < i) := by
  by_cases hw : ws.getD i default < ws.getD k default
  · exact .inl hw
  refine .inr ?_
  have p := ok.sum
  have eLi := lfs_at (t := t) hi
  have eLk := lfs_at (t := t) hk
  have ei := Int.mul_ediv_add_emod (t * ws.getD i default) (sm ws)
  have ek := Int.mul_ediv_add_emod (t * ws.getD k default) (sm ws)
  have m : t * ws.getD k default ≤ t * ws.getD i default := Int.mul_le_mul_of_nonneg_left (by omega) ht
  have q := Int.ediv_le_ediv (c := sm ws) (by omega) m
  have gi := whs_at (t := t) hi
  have gk := whs_at (t := t) hk
  by_cases a : got t ws k
  · have ap := got_pos ok a
    rw [raw_in ok a]
    by_cases b : got t ws i
    · rw [raw_in ok b]; left; omega
    · rw [raw_out ok b]
      by_cases z : t * ws.getD k default / sm ws = t * ws.getD i default / sm ws
      · rw [z] at ek
        have nb : ¬ ((lfs t ws).getD k default < (lfs t ws).getD i default ∨ ((lfs t ws).getD k default = (lfs t ws).getD i default ∧ i < k)) := fun h => b (got_up hi a h)
        have ne : i ≠ k := fun h => by subst h; exact b a
        have et : t * ws.getD i default = t * ws.getD k default := by omega
        have t0 : t ≠ 0 := fun h => by subst h; rw [Int.zero_mul, Int.zero_emod] at eLk; omega
        right
        exact ⟨Int.eq_of_mul_eq_mul_left t0 et, by omega, by omega⟩
      · left; omega
  · rw [raw_out ok a]
    left
    by_cases b : got t ws i
    · rw [raw_in ok b]; omega
    · rw [raw_out ok b]; omega
/-! seats -/
theorem seats_sum (kind : Int) (ws : List Int) (h : 0 < ws.length) : ∀ s : Nat, sm (seats kind ws s) = s
  | 0 => by
    unfold seats
    generalize ws.length = n
    induction n with
    | zero => rfl
    | succ n ih => simp only [List.replicate_succ, sm, ih]; omega
  | s + 1 => by
    have b := best_lt (kind := kind) (out := seats kind ws s) h
    unfold seats step
    rw [sm_set (by rw [seats_len]; exact b), seats_sum kind ws h s]
    omega
theorem step_at {kind : Int} {ws out : List Int} (h : out.length = ws.length) (h0 : 0 < ws.length) (j : Nat) : (step kind ws out).getD j default = if best kind ws out = j then out.getD j default + 1 else out.getD j default := by
  unfold step
  rw [getD_set (by rw [h]; exact best_lt h0)]
  by_cases e : best kind ws out = j
  · rw [if_pos e, if_pos e, e]
  · rw [if_neg e, if_neg e]
theorem dv_mono {kind a b : Int} (h : a ≤ b) : dv kind a ≤ dv kind b := by unfold dv; split <;> omega
theorem dv_pos {kind a : Int} (h : 0 ≤ a) : 0 < dv kind a := by unfold dv; split <;> omega
theorem least {kind : Int} {ws : List Int} (h0 : 0 < ws.length) (hw : ∀ w ∈ ws, 0 ≤ w) : ∀ (s : Nat) (i k : Nat), i < ws.length → k < ws.length → 0 < (seats kind ws s).getD i default →
    ws.getD k default * dv kind ((seats kind ws s).getD i default - 1) ≤ ws.getD i default * dv kind ((seats kind ws s).getD k default)
  | 0, i, k, hi, hk, h => by
    exfalso
    have := getD_mem (l := seats kind ws 0) (k := i) (by rw [seats_len]; exact hi)
    unfold seats at this
    have := List.eq_of_mem_replicate this
    unfold seats at h
    omega
  | s + 1, i, k, hi, hk, h => by
    have ih := least h0 hw s (kind := kind)
    have bd := seats_bd kind ws h0 s
    have ln := seats_len kind ws s
    have st := step_at (kind := kind) ln h0
    have hd : ∀ j, j < ws.length → 0 < dv kind ((seats kind ws s).getD j default) := fun j hj => dv_pos (bd _ (getD_mem (by omega))).1
    have sp := fun j hj => (best_spec hd (j := j) hj).1
    have wi := hw _ (getD_mem (l := ws) (k := i) hi)
    have up : (seats kind ws s).getD k default ≤ (seats kind ws (s + 1)).getD k default := by
      show _ ≤ (step kind ws (seats kind ws s)).getD k default
      rw [st k]; split <;> omega
    have mk : ws.getD i default * dv kind ((seats kind ws s).getD k default) ≤ ws.getD i default * dv kind ((seats kind ws (s + 1)).getD k default) := Int.mul_le_mul_of_nonneg_left (dv_mono up) wi
    have ei : (seats kind ws (s + 1)).getD i default = if best kind ws (seats kind ws s) = i then (seats kind ws s).getD i default + 1 else (seats kind ws s).getD i default := st i
    by_cases e : best kind ws (seats kind ws s) = i
    · rw [if_pos e] at ei
      have := sp k hk
      rw [e] at this
      rw [ei, Int.add_sub_cancel]
      exact Int.le_trans this mk
    · rw [if_neg e] at ei
      rw [ei] at h ⊢
      exact Int.le_trans (ih i k hi hk h) mk
theorem times {kind b : Int} {ws : List Int} (hb : 0 < b) : ∀ s, seats kind (ws.map fun w => b * w) s = seats kind ws s
  | 0 => by simp [seats]
  | s + 1 => by
    have q : ∀ (out : List Int) k, k ≤ ws.length → bst kind (ws.map fun w => b * w) out k = bst kind ws out k := by
      intro out k
      induction k with
      | zero => intro _; rfl
      | succ k ih =>
        intro hk
        have bl := bst_lt kind ws out k
        simp only [bst]
        rw [ih (by omega)]
        generalize bst kind ws out k = x at *
        rw [getD_map (f := fun w => b * w) (l := ws) (k := x) (by omega), getD_map (f := fun w => b * w) (l := ws) (k := k) (by omega), Int.mul_assoc, Int.mul_assoc]
        by_cases h : ws.getD x default * dv kind (out.getD k default) < ws.getD k default * dv kind (out.getD x default)
        · rw [if_pos h, if_pos (Int.mul_lt_mul_of_pos_left h hb)]
        · rw [if_neg h, if_neg (fun z => h (Int.lt_of_mul_lt_mul_left z (by omega)))]
    unfold seats step best
    rw [times hb s, List.length_map, q _ _ (Nat.le_refl _)]
theorem rep_at {n k : Nat} {w : Int} (h : k < n) : (List.replicate n w).getD k default = w := by
  rw [getD_at (by simpa using h), List.getElem_replicate]
theorem even_seats {kind w : Int} {n : Nat} (hn : 0 < n) (hw : 0 < w) : ∀ s i j, i < j → j < n → (seats kind (List.replicate n w) s).getD j default ≤ (seats kind (List.replicate n w) s).getD i default ∧ (seats kind (List.replicate n w) s).getD i default ≤ (seats kind (List.replicate n w) s).getD j default + 1
  | 0, i, j, h, hj => by
    unfold seats
    rw [List.length_replicate, rep_at (by omega), rep_at (by omega)]
    omega
  | s + 1, i, j, h, hj => by
    have ih := even_seats (kind := kind) hn hw s
    have h0 : 0 < (List.replicate n w).length := by simpa using hn
    have bd := seats_bd kind (List.replicate n w) h0 s
    have ln := seats_len kind (List.replicate n w) s
    have st := step_at (kind := kind) ln h0
    have lr : (List.replicate n w).length = n := List.length_replicate
    have bl := best_lt (kind := kind) (out := seats kind (List.replicate n w) s) h0
    have hd : ∀ j, j < (List.replicate n w).length → 0 < dv kind ((seats kind (List.replicate n w) s).getD j default) := fun j hj => dv_pos (bd _ (getD_mem (by omega))).1
    have sp := fun j hj => best_spec hd (j := j) hj
    show (step kind _ (seats kind _ s)).getD j default ≤ (step kind _ (seats kind _ s)).getD i default ∧ (step kind _ (seats kind _ s)).getD i default ≤ (step kind _ (seats kind _ s)).getD j default + 1
    rw [st j, st i]
    have dl : ∀ x y, dv kind x < dv kind y → x < y := fun x y h => Int.not_le.1 fun z => by have := dv_mono (kind := kind) z; omega
    have dle : ∀ x y, dv kind x ≤ dv kind y → x ≤ y := fun x y h => by unfold dv at h; split at h <;> omega
    have s1 := fun j (hj : j < n) => sp j (by omega)
    generalize best kind (List.replicate n w) (seats kind (List.replicate n w) s) = B at *
    generalize seats kind (List.replicate n w) s = o at *
    have s2 : ∀ j, j < n → o.getD B default ≤ o.getD j default ∧ (j < B → o.getD B default < o.getD j default) := fun j hj => by
      have := s1 j hj
      rw [rep_at hj, rep_at (by omega)] at this
      exact ⟨dle _ _ (Int.le_of_mul_le_mul_left this.1 hw), fun z => dl _ _ (Int.lt_of_mul_lt_mul_left (this.2 z) (by omega))⟩
    have h1 := ih i j h hj
    by_cases e1 : B = i
    · have := s2 j hj
      subst e1
      rw [if_pos rfl, if_neg (by omega)]
      omega
    · by_cases e2 : B = j
      · have := (s2 i (by omega)).2 (by omega)
        subst e2
        rw [if_pos rfl, if_neg e1]
        omega
      · rw [if_neg e1, if_neg e2]; exact h1
theorem even_raw {t w : Int} {n : Nat} (ok : Oks (List.replicate n w)) {i j : Nat} (h : i < j) (hj : j < n) : (raw t (List.replicate n w)).getD j default ≤ (raw t (List.replicate n w)).getD i default ∧ (raw t (List.replicate n w)).getD i default ≤ (raw t (List.replicate n w)).getD j default + 1 := by
  have lr : (List.replicate n w).length = n := List.length_replicate
  have ei := whs_at (t := t) (ws := List.replicate n w) (k := i) (by omega)
  have ej := whs_at (t := t) (ws := List.replicate n w) (k := j) (by omega)
  have li := lfs_at (t := t) (ws := List.replicate n w) (k := i) (by omega)
  have lj := lfs_at (t := t) (ws := List.replicate n w) (k := j) (by omega)
  rw [rep_at (by omega)] at ei ej li lj
  by_cases a : got t (List.replicate n w) j
  · have b := got_up (i := i) (by omega) a (.inr ⟨by rw [li, lj], h⟩)
    rw [raw_in ok a, raw_in ok b, ei, ej]
    omega
  · rw [raw_out ok a]
    by_cases b : got t (List.replicate n w) i
    · rw [raw_in ok b, ei, ej]; omega
    · rw [raw_out ok b, ei, ej]; omega
end Sh
end Go.Proofs.Ytfmejgohpokiaaa

/- How a list of numbers is read off an argument. -/
namespace Go.Proofs.Ytfmejgohpokiaaa
set_option maxRecDepth 100000
open Go Go.RowKit Go.ChangeShapes Go.WideShapes Go.Deep V
theorem intCells : Try.prog.cellsOf 3 = 1 := by kernel_rfl
theorem open_il {H : Type} {enc : TypeId × Value → H} {W : World} {base : Nat} {spare : Nat → Bool} {held : Bool} {r : Reach} {b0 : Nat} {v : Value} {d : DataW H} {p : List MemPlace} (hv : Value.okWide Try.prog W r b0 22 v) (h : DataW.Trod enc Try.prog W base spare held 22 v d p) :
    ∃ l : List Int, ArrIs W v 1 l.length (ga e1 l) ∧ ∀ f ∈ l, (Lit.int .i64 f).wf = true :=
  open_ints_ Try.underlying22 Try.underlying3 intCells hv h
end Go.Proofs.Ytfmejgohpokiaaa
