/- Shared texts, one behind the other: StQ6, StQ7, ShPl2, VFam2, VSh4, PricePl, VPrice, OfferPl, OrdPl, ShPl3, ShPl4, GrPl, DatePl, CalPl, LoanPl, VLoan, StI, StI2, StI3 -/
import Derived.Test.YtcdlhfbpmpjfkaaZ1
import Derived.Test.YtcdlhfbpmpjfkaaZ2
import Derived.Test.YtcdlhfbpmpjfkaaZ3

/- Sorting that keeps the order of equals, of quotas: the whole. -/
namespace Go.Proofs.Ytcdlhfbpmpjfkaa
open Go Go.Sort Go.RowKit V
set_option maxRecDepth 100000
set_option linter.unusedVariables false
set_option linter.unusedSimpArgs false
set_option maxHeartbeats 4000000
theorem v_symQ (nx : Nat) (O : Obs) (hT : Tail (nx + 1) O) (g : FuncId) (cf : Qt → Qt → Int) (hc : Cmp g cf) (lt : Qt → Qt → Bool) (S : SWO lt) (sz : Nat) (h3 : sz ≤ 2305843009213693951) : ∀ (N : Nat) (d : Array Qt) (a m b : Nat), b - a ≤ N → a < m → m < b → b ≤ d.size → d.size = sz → SortedIn lt a m d → SortedIn lt m b d →
    (∀ i j, a ≤ i → i < m → m ≤ j → j < b → less cf d[j]! d[i]! = lt d[j]! d[i]!) →
    Fam Try.prog 69 [.one (.ref 0), .one (.val (.int .i64 ((a : Int)))), .one (.val (.int .i64 ((m : Int)))), .one (.val (.int .i64 ((b : Int)))), .one (.clo g [])] 84 2 sz (ga encT d.toList) nx O (fun r => ∃ d', PermIn a b d d' ∧ SortedIn lt a b d' ∧ r = ga encT d'.toList)
  | 0, d, a, m, b, hN, h0, h1, _, _, _, _, _ => absurd hN (by omega)
  | N + 1, d, a, m, b, hN, h0, h1, h2, hs, H1, H2, HT => by
    subst hs
    have ih := fun (e : Array Qt) (x y z : Nat) (q1 : z - x < b - a) (q2 : a ≤ x) (q3 : x < y) (q4 : y < z) (q5 : z ≤ b) (q6 : e.size = d.size) r1 r2 r3 => v_symQ nx O hT g cf hc lt S d.size h3 N e x y z (by omega) q3 q4 (by omega) q6 r1 r2 r3
    by_cases hA : m = a + 1
    · subst hA
      exact v_symA nx O hT g cf hc lt S d a b (by omega) h2 (by omega) H2 (fun j j1 j2 => HT a j (Nat.le_refl _) (by omega) j1 j2)
    by_cases hB : b = m + 1
    · subst hB
      exact v_symB nx O hT g cf hc lt S d a m (by omega) h2 (by omega) H1 (fun i i1 i2 => HT i m i1 i2 (Nat.le_refl _) (by omega))
    by_cases hm : (a + b) / 2 < m
    · exact v_symC1 nx O hT g cf hc lt S d a m b (by omega) (by omega) h2 h3 H1 H2 HT hm ih
    · exact v_symC0 nx O hT g cf hc lt S d a m b (by omega) (by omega) h2 h3 H1 H2 HT (by omega) ih
theorem v_stabQ (nx : Nat) (O : Obs) (hT : Tail (nx + 1) O) (g : FuncId) (cf : Qt → Qt → Int) (hc : Cmp g cf) (lt : Qt → Qt → Bool) (S : SWO lt) (HL : ∀ x y : Qt, x.tg < y.tg → less cf y x = lt y x) (d : Array Qt) (h3 : d.size ≤ 1152921504606846975) (ht : ∀ i, i < d.size → d[i]!.tg = i) :
    Fam Try.prog 64 [.one (.ref 0), .one (.val (.int .i64 ((d.size : Int)))), .one (.clo g [])] 84 2 d.size (ga encT d.toList) nx O (fun r => ∃ d', PermIn 0 d.size d d' ∧ SortedIn lt 0 d.size d' ∧ r = ga encT d'.toList) := by
  refine Fam.mk hT ?_
  obtain ⟨n, en⟩ : ∃ n, d.size = n := ⟨_, rfl⟩
  rw [en] at h3 ht ⊢
  refine V.NCall.inl (f := 64) V.Tok V.mixed Try.func64 rfl Try.ntmps64 (by kernel_rfl) rfl ?_
  repeat' ((conv => whnf); first | refine V.NCond.mk ?_ | refine V.NIf.not_ ?_ | refine V.NIf.dec_ ?_ | refine V.NIf.no (by omega) ?_ | refine V.NIf.yes (by omega) ?_ | refine V.NIf.mk (fun _ => ?_) (fun _ => ?_) | refine V.NWrap.ok (by omega) (by omega) ?_ | refine V.NWrap.u64 (by omega) (by omega) ?_ | refine V.NLt.mk (by omega) ?_ | refine V.NBoth.mk ?_ ?_ | refine V.NTF.yes (by omega) ?_ | refine V.NTF.no (by omega) ?_ | refine V.NTF.dec ?_ | refine V.NDraw.q (by exact rfl) (by kernel_rfl) ?_ | refine V.NApp.one (by first | omega | (simp; omega)) (by first | omega | (simp; omega)) ?_ | (refine V.NDraw.any (by kernel_rfl) ?_) | fail)
  all_goals (conv => whnf)
  have ins : ∀ (d1 : Array Qt) (a b : Nat), d1.size = n → a ≤ b → b ≤ n → (∀ i, a ≤ i → i < n → d1[i]! = d[i]!) → PermIn a b d1 (insertionSort (less cf) d1 a b) ∧ St.Good Qt.tg lt a b (insertionSort (less cf) d1 a b) := fun d1 a b s1 ab bn same => by
    have tg1 : ∀ i, a ≤ i → i < b → d1[i]!.tg = i := fun i q1 q2 => by rw [same i q1 (by omega)]; exact ht i (by omega)
    rw [St.ins_eq (l1 := lt) (by omega) (fun p q q1 q2 q3 => HL _ _ (by rw [tg1 p (by omega) q1, tg1 q q2 (by omega)]; exact q3))]
    have h := insertionSort_holds S d1 a b ab (by omega)
    exact ⟨h.1, St.Good.of_perm (by omega) (fun i q1 q2 => by rw [tg1 i q1 q2]; omega) h.1 h.2⟩
  refine NLoop.fam hT (fun (s : Nat × Array Qt) => [(7, .one (.val (.int .i64 ((s.1 * 20 : Nat) : Int)))), (8, .one (.val (.int .i64 ((s.1 * 20 + 20 : Nat) : Int))))]) [(0, .one (.ref 0)), (1, .one (.val (.int .i64 n))), (2, .one (.clo g [])), (6, .one (.val (.int .i64 20)))] 84 2 n (fun s => ga encT s.2.toList) (fun s => n - s.1 * 20) (fun s => s.1 * 20 ≤ n ∧ PermIn 0 n d s.2 ∧ St.To Qt.tg lt 20 (s.1 * 20) s.2 ∧ ∀ i, s.1 * 20 ≤ i → i < n → s.2[i]! = d[i]!) (0, d) ⟨Nat.zero_le _, permIn_refl _ _ _, St.To.zero 20 d, fun _ _ _ => rfl⟩ [(0, _)] rfl rfl rfl (fun k hk => rfl) (by repeat' (first | exact rfl | exact Iff.rfl | exact trivial | exact (fun _ _ => rfl) | exact (fun _ h => absurd h (Nat.not_lt_zero _)) | refine ⟨?_, ?_⟩ | exact Iff.rfl | exact congrArg (fun z => V.SV.one (V.At.val (Value.int .i64 z))) (by omega))) (fun _ => rfl) rfl ?_
  rintro ⟨K, d1⟩ ⟨hK, P, TO, same⟩
  dsimp only at hK P TO same ⊢
  have s1 : d1.size = n := by rw [P.1, en]
  obtain ⟨a, ea⟩ : ∃ a, a = K * 20 := ⟨_, rfl⟩
  rw [← ea] at hK TO same ⊢
  by_cases hlt : a + 20 ≤ n
  · obtain ⟨I1, I2⟩ := ins d1 a (a + 20) s1 (by omega) hlt same
    have c := v_insQ nx O hT g cf hc d1 a (a + 20) (by omega) (by omega) (by omega)
    rw [s1] at c
    generalize insertionSort (less cf) d1 a (a + 20) = d2 at *
    have ek : (K + 1) * 20 = a + 20 := by omega
    have TO2 := (TO.same (fun i q => I1.2.1 i (.inl q))).push ea (by omega) I2
    have P2 : PermIn 0 n d d2 := permIn_trans _ _ _ _ _ P (permIn_mono _ _ _ _ 0 n (Nat.zero_le _) hlt (by omega) I1)
    have same2 : ∀ i, a + 20 ≤ i → i < n → d2[i]! = d[i]! := fun i q1 q2 => by rw [I1.2.1 i (.inr q1)]; exact same i (by omega) q2
    repeat' ((conv => whnf); first | refine V.NCond.mk ?_ | refine V.NIf.not_ ?_ | refine V.NIf.dec_ ?_ | refine V.NIf.no (by omega) ?_ | refine V.NIf.yes (by omega) ?_ | refine V.NIf.mk (fun _ => ?_) (fun _ => ?_) | refine V.NWrap.ok (by omega) (by omega) ?_ | refine V.NWrap.u64 (by omega) (by omega) ?_ | refine V.NLt.mk (by omega) ?_ | refine V.NBoth.mk ?_ ?_ | refine V.NTF.yes (by omega) ?_ | refine V.NTF.no (by omega) ?_ | refine V.NTF.dec ?_ | refine V.NDraw.q (by exact rfl) (by kernel_rfl) ?_ | refine V.NApp.one (by first | omega | (simp; omega)) (by first | omega | (simp; omega)) ?_ | (refine Fam.use c hT [(0, _)] rfl rfl rfl (fun k hk => rfl) ?_; rintro g1 rfl) | (refine V.NDraw.any (by kernel_rfl) ?_) | fail)
    all_goals (conv => whnf)
    exact FBack.at_ hT (K + 1, d2) [(0, _)] (by dsimp only; rw [ek]; exact ⟨hlt, P2, TO2, same2⟩) (by dsimp only; omega) ⟨congrArg (fun z : Int => SV.one (At.val (Value.int .i64 z))) (show ((a + 20 : Nat) : Int) = (((K + 1) * 20 : Nat) : Int) by omega), congrArg (fun z : Int => SV.one (At.val (Value.int .i64 z))) (show ((a + 20 : Nat) : Int) + 20 = (((K + 1) * 20 + 20 : Nat) : Int) by omega), rfl, rfl, rfl, rfl, trivial⟩ rfl rfl rfl (fun k hk => rfl)
  · obtain ⟨I1, I2⟩ := ins d1 a n s1 hK (Nat.le_refl _) same
    have c := v_insQ nx O hT g cf hc d1 a n hK (by omega) (by omega)
    rw [s1] at c
    generalize insertionSort (less cf) d1 a n = d2 at *
    have P2 : PermIn 0 n d d2 := permIn_trans _ _ _ _ _ P (permIn_mono _ _ _ _ 0 n (Nat.zero_le _) (Nat.le_refl _) (by omega) I1)
    have TO2 : St.To Qt.tg lt 20 n d2 := by
      have t0 := TO.same (fun i q => I1.2.1 i (.inl q))
      by_cases z : a < n
      · exact t0.last ea (by omega) I2 z (by omega)
      · obtain rfl : a = n := by omega
        exact t0
    clear ins I1 I2 TO same P
    repeat' ((conv => whnf); first | refine V.NCond.mk ?_ | refine V.NIf.not_ ?_ | refine V.NIf.dec_ ?_ | refine V.NIf.no (by omega) ?_ | refine V.NIf.yes (by omega) ?_ | refine V.NIf.mk (fun _ => ?_) (fun _ => ?_) | refine V.NWrap.ok (by omega) (by omega) ?_ | refine V.NWrap.u64 (by omega) (by omega) ?_ | refine V.NLt.mk (by omega) ?_ | refine V.NBoth.mk ?_ ?_ | refine V.NTF.yes (by omega) ?_ | refine V.NTF.no (by omega) ?_ | refine V.NTF.dec ?_ | refine V.NDraw.q (by exact rfl) (by kernel_rfl) ?_ | refine V.NApp.one (by first | omega | (simp; omega)) (by first | omega | (simp; omega)) ?_ | (refine Fam.use c hT [(0, _)] rfl rfl rfl (fun k hk => rfl) ?_; rintro g1 rfl) | (refine V.NDraw.any (by kernel_rfl) ?_) | fail)
    all_goals (conv => whnf)
    refine NLoop.fam hT (fun (s : Nat × Array Qt) => [(6, .one (.val (.int .i64 s.1)))]) [(0, .one (.ref 0)), (1, .one (.val (.int .i64 n))), (2, .one (.clo g []))] 84 2 n (fun s => ga encT s.2.toList) (fun s => n - s.1) (fun s => 20 ≤ s.1 ∧ s.1 ≤ 2 * n + 20 ∧ PermIn 0 n d s.2 ∧ St.To Qt.tg lt s.1 n s.2) (20, d2) ⟨Nat.le_refl _, by dsimp only; omega, P2, TO2⟩ [(0, _)] rfl rfl rfl (fun k hk => rfl) (by repeat' (first | exact rfl | exact Iff.rfl | exact trivial | exact (fun _ _ => rfl) | exact (fun _ h => absurd h (Nat.not_lt_zero _)) | refine ⟨?_, ?_⟩ | exact Iff.rfl | exact congrArg (fun z => V.SV.one (V.At.val (Value.int .i64 z))) (by omega))) (fun _ => rfl) rfl ?_
    clear P2 TO2 c d2 s1 hlt ea hK a K d1
    rintro ⟨bs, d1⟩ ⟨hb, hb2, P, TO⟩
    dsimp only at hb hb2 P TO ⊢
    have s1 : d1.size = n := by rw [P.1, en]
    by_cases hlt : bs < n
    · repeat' ((conv => whnf); first | refine V.NCond.mk ?_ | refine V.NIf.not_ ?_ | refine V.NIf.dec_ ?_ | refine V.NIf.no (by omega) ?_ | refine V.NIf.yes (by omega) ?_ | refine V.NIf.mk (fun _ => ?_) (fun _ => ?_) | refine V.NWrap.ok (by omega) (by omega) ?_ | refine V.NWrap.u64 (by omega) (by omega) ?_ | refine V.NLt.mk (by omega) ?_ | refine V.NBoth.mk ?_ ?_ | refine V.NTF.yes (by omega) ?_ | refine V.NTF.no (by omega) ?_ | refine V.NTF.dec ?_ | refine V.NDraw.q (by exact rfl) (by kernel_rfl) ?_ | refine V.NApp.one (by first | omega | (simp; omega)) (by first | omega | (simp; omega)) ?_ | (refine V.NDraw.any (by kernel_rfl) ?_) | fail)
      all_goals (conv => whnf)
      refine NLoop.fam hT (fun (s : Nat × Array Qt) => [(7, .one (.val (.int .i64 ((s.1 * (2 * bs) : Nat) : Int)))), (8, .one (.val (.int .i64 ((s.1 * (2 * bs) + 2 * bs : Nat) : Int))))]) [(0, .one (.ref 0)), (1, .one (.val (.int .i64 n))), (2, .one (.clo g [])), (6, .one (.val (.int .i64 bs)))] 84 2 n (fun s => ga encT s.2.toList) (fun s => n - s.1 * (2 * bs)) (fun s => s.1 * (2 * bs) ≤ n ∧ PermIn 0 n d s.2 ∧ St.To Qt.tg lt (2 * bs) (s.1 * (2 * bs)) s.2 ∧ St.Fr Qt.tg lt bs (s.1 * (2 * bs)) n s.2) (0, d1) ⟨by dsimp only; rw [Nat.zero_mul]; exact Nat.zero_le _, P, by dsimp only; rw [Nat.zero_mul]; exact St.To.zero _ _, by dsimp only; rw [Nat.zero_mul]; exact St.Fr.of_to TO⟩ [(0, _)] rfl rfl rfl (fun k hk => rfl) ⟨congrArg (fun z : Int => SV.one (At.val (Value.int .i64 z))) (show (0 : Int) = ((0 * (2 * bs) : Nat) : Int) by rw [Nat.zero_mul]; rfl), congrArg (fun z : Int => SV.one (At.val (Value.int .i64 z))) (show (2 : Int) * bs = ((0 * (2 * bs) + 2 * bs : Nat) : Int) by rw [Nat.zero_mul]; omega), rfl, rfl, rfl, rfl, trivial⟩ (fun _ => rfl) rfl ?_
      clear P TO s1 d1
      rintro ⟨K, d1⟩ ⟨hK, P, TO, FR⟩
      dsimp only at hK P TO FR ⊢
      have s1 : d1.size = n := by rw [P.1, en]
      obtain ⟨a, ea⟩ : ∃ a, a = K * (2 * bs) := ⟨_, rfl⟩
      rw [← ea] at hK TO FR ⊢
      by_cases hle : a + 2 * bs ≤ n
      · have G1 := FR.head (by omega)
        rw [show min (a + bs) n = a + bs by omega] at G1
        have G2 := FR.tail.head (by omega)
        rw [show min (a + bs + bs) n = a + 2 * bs by omega] at G2
        have c := v_symQ nx O hT g cf hc lt S n (by omega) (a + 2 * bs - a) d1 a (a + bs) (a + 2 * bs) (Nat.le_refl _) (by omega) (by omega) (by omega) s1 G1.s G2.s (fun i j i1 i2 j1 j2 => HL _ _ (by have := G1.t i i1 i2; have := G2.t j j1 j2; omega))
        have ek : (K + 1) * (2 * bs) = a + 2 * bs := by rw [Nat.succ_mul, ← ea]
        repeat' ((conv => whnf); first | refine V.NCond.mk ?_ | refine V.NIf.not_ ?_ | refine V.NIf.dec_ ?_ | refine V.NIf.no (by omega) ?_ | refine V.NIf.yes (by omega) ?_ | refine V.NIf.mk (fun _ => ?_) (fun _ => ?_) | refine V.NWrap.ok (by omega) (by omega) ?_ | refine V.NWrap.u64 (by omega) (by omega) ?_ | refine V.NLt.mk (by omega) ?_ | refine V.NBoth.mk ?_ ?_ | refine V.NTF.yes (by omega) ?_ | refine V.NTF.no (by omega) ?_ | refine V.NTF.dec ?_ | refine V.NDraw.q (by exact rfl) (by kernel_rfl) ?_ | refine V.NApp.one (by first | omega | (simp; omega)) (by first | omega | (simp; omega)) ?_ | (refine Fam.use c hT [(0, _)] rfl rfl rfl (fun k hk => rfl) ?_; rintro g1 ⟨d2, P2, S2, rfl⟩) | (refine V.NDraw.any (by kernel_rfl) ?_) | fail)
        all_goals (conv => whnf)
        have G := St.Good.merge (by omega) (by omega) (by omega) G1 G2 P2 S2
        have TO2 := (TO.same (fun i q => P2.2.1 i (.inl q))).push ea (by omega) G
        have FR2 : St.Fr Qt.tg lt bs (a + 2 * bs) n d2 := by
          have q := FR.tail.tail
          rw [show a + bs + bs = a + 2 * bs by omega] at q
          exact q.same fun i q => P2.2.1 i (.inr q)
        exact FBack.at_ hT (K + 1, d2) [(0, _)] (by dsimp only; rw [ek]; exact ⟨hle, permIn_trans _ _ _ _ _ P (permIn_mono _ _ _ _ 0 n (Nat.zero_le _) hle (by omega) P2), TO2, FR2⟩) (by dsimp only; rw [ek]; omega) ⟨congrArg (fun z : Int => SV.one (At.val (Value.int .i64 z))) (show ((a + 2 * bs : Nat) : Int) = (((K + 1) * (2 * bs) : Nat) : Int) by rw [ek]), congrArg (fun z : Int => SV.one (At.val (Value.int .i64 z))) (show ((a + 2 * bs : Nat) : Int) + 2 * (bs : Int) = (((K + 1) * (2 * bs) + 2 * bs : Nat) : Int) by rw [ek]; omega), rfl, rfl, rfl, rfl, trivial⟩ rfl rfl rfl (fun k hk => rfl)
      · by_cases hm : a + bs < n
        · have G1 := FR.head (by omega)
          rw [show min (a + bs) n = a + bs by omega] at G1
          have G2 := FR.tail.head hm
          rw [show min (a + bs + bs) n = n by omega] at G2
          have c := v_symQ nx O hT g cf hc lt S n (by omega) (n - a) d1 a (a + bs) n (Nat.le_refl _) (by omega) hm (by omega) s1 G1.s G2.s (fun i j i1 i2 j1 j2 => HL _ _ (by have := G1.t i i1 i2; have := G2.t j j1 j2; omega))
          rw [show ((a + bs : Nat) : Int) = (a : Int) + bs by omega] at c
          repeat' ((conv => whnf); first | refine V.NCond.mk ?_ | refine V.NIf.not_ ?_ | refine V.NIf.dec_ ?_ | refine V.NIf.no (by omega) ?_ | refine V.NIf.yes (by omega) ?_ | refine V.NIf.mk (fun _ => ?_) (fun _ => ?_) | refine V.NWrap.ok (by omega) (by omega) ?_ | refine V.NWrap.u64 (by omega) (by omega) ?_ | refine V.NLt.mk (by omega) ?_ | refine V.NBoth.mk ?_ ?_ | refine V.NTF.yes (by omega) ?_ | refine V.NTF.no (by omega) ?_ | refine V.NTF.dec ?_ | refine V.NDraw.q (by exact rfl) (by kernel_rfl) ?_ | refine V.NApp.one (by first | omega | (simp; omega)) (by first | omega | (simp; omega)) ?_ | (refine Fam.use c hT [(0, _)] rfl rfl rfl (fun k hk => rfl) ?_; rintro g1 ⟨d2, P2, S2, rfl⟩) | (refine V.NDraw.any (by kernel_rfl) ?_) | fail)
          all_goals (conv => whnf)
          have G := St.Good.merge (by omega) (by omega) (by omega) G1 G2 P2 S2
          have TO2 := (TO.same (fun i q => P2.2.1 i (.inl q))).last ea (by omega) G (by omega) (by omega)
          exact FBack.at_ hT (2 * bs, d2) [(0, _)] ⟨by dsimp only; omega, by dsimp only; omega, permIn_trans _ _ _ _ _ P (permIn_mono _ _ _ _ 0 n (Nat.zero_le _) (Nat.le_refl _) (by omega) P2), TO2⟩ (by dsimp only; omega) ⟨congrArg (fun z : Int => SV.one (At.val (Value.int .i64 z))) (show (bs : Int) * 2 = ((2 * bs : Nat) : Int) by omega), rfl, rfl, rfl, trivial⟩ rfl rfl rfl (fun k hk => rfl)
        · have TO2 : St.To Qt.tg lt (2 * bs) n d1 := by
            by_cases z : a < n
            · have G1 := FR.head z
              rw [show min (a + bs) n = n by omega] at G1
              exact TO.last ea (by omega) G1 z (by omega)
            · obtain rfl : a = n := by omega
              exact TO
          repeat' ((conv => whnf); first | refine V.NCond.mk ?_ | refine V.NIf.not_ ?_ | refine V.NIf.dec_ ?_ | refine V.NIf.no (by omega) ?_ | refine V.NIf.yes (by omega) ?_ | refine V.NIf.mk (fun _ => ?_) (fun _ => ?_) | refine V.NWrap.ok (by omega) (by omega) ?_ | refine V.NWrap.u64 (by omega) (by omega) ?_ | refine V.NLt.mk (by omega) ?_ | refine V.NBoth.mk ?_ ?_ | refine V.NTF.yes (by omega) ?_ | refine V.NTF.no (by omega) ?_ | refine V.NTF.dec ?_ | refine V.NDraw.q (by exact rfl) (by kernel_rfl) ?_ | refine V.NApp.one (by first | omega | (simp; omega)) (by first | omega | (simp; omega)) ?_ | (refine V.NDraw.any (by kernel_rfl) ?_) | fail)
          all_goals (conv => whnf)
          exact FBack.at_ hT (2 * bs, d1) [(0, _)] ⟨by dsimp only; omega, by dsimp only; omega, P, TO2⟩ (by dsimp only; omega) ⟨congrArg (fun z : Int => SV.one (At.val (Value.int .i64 z))) (show (bs : Int) * 2 = ((2 * bs : Nat) : Int) by omega), rfl, rfl, rfl, trivial⟩ rfl rfl rfl (fun k hk => rfl)
    · repeat' ((conv => whnf); first | refine V.NCond.mk ?_ | refine V.NIf.not_ ?_ | refine V.NIf.dec_ ?_ | refine V.NIf.no (by omega) ?_ | refine V.NIf.yes (by omega) ?_ | refine V.NIf.mk (fun _ => ?_) (fun _ => ?_) | refine V.NWrap.ok (by omega) (by omega) ?_ | refine V.NWrap.u64 (by omega) (by omega) ?_ | refine V.NLt.mk (by omega) ?_ | refine V.NBoth.mk ?_ ?_ | refine V.NTF.yes (by omega) ?_ | refine V.NTF.no (by omega) ?_ | refine V.NTF.dec ?_ | refine V.NDraw.q (by exact rfl) (by kernel_rfl) ?_ | refine V.NApp.one (by first | omega | (simp; omega)) (by first | omega | (simp; omega)) ?_ | (refine V.NDraw.any (by kernel_rfl) ?_) | fail)
      all_goals (conv => whnf)
      exact ⟨rfl, rfl, [(0, _)], _, rfl, rfl, rfl, d1, P, TO.all (by omega), rfl⟩
end Go.Proofs.Ytcdlhfbpmpjfkaa

/- slices.SortStableFunc, of quotas, that stand each at its place: by what is left, the most first; of as much in the order of their places. -/
namespace Go.Proofs.Ytcdlhfbpmpjfkaa
open Go Go.Sort Go.RowKit V
set_option maxRecDepth 100000
set_option linter.unusedVariables false
set_option linter.unusedSimpArgs false
set_option maxHeartbeats 4000000
def cmpI (u v : Int) : Int := if u < v then -1 else if v < u then 1 else 0
theorem v_isNaN (x : Int) : V.Fn Try.prog 48 [] [.one (.val (.int .i64 x))] (.bool false) := by
  refine V.Fn.mk_ V.Tok V.mixed Try.func48 rfl Try.ntmps48 (by kernel_rfl) rfl rfl ?_
  repeat' ((conv => whnf); first | refine V.NCond.mk ?_ | refine V.NIf.not_ ?_ | refine V.NIf.dec_ ?_ | refine V.NIf.no (by omega) ?_ | refine V.NIf.yes (by omega) ?_ | refine V.NIf.mk (fun _ => ?_) (fun _ => ?_) | refine V.NWrap.ok (by omega) (by omega) ?_ | refine V.NWrap.u64 (by omega) (by omega) ?_ | refine V.NLt.mk (by omega) ?_ | refine V.NBoth.mk ?_ ?_ | refine V.NTF.yes (by omega) ?_ | refine V.NTF.no (by omega) ?_ | refine V.NTF.dec ?_ | refine V.NDraw.q (by exact rfl) (by kernel_rfl) ?_ | refine V.NApp.one (by first | omega | (simp; omega)) (by first | omega | (simp; omega)) ?_ | (refine V.NDraw.any (by kernel_rfl) ?_) | fail)
  all_goals (conv => whnf)
  all_goals first
    | rfl
    | exact ⟨false, rfl, iff_of_false (by omega) (by decide)⟩
    | trace_state
theorem v_compare (u v : Int) : V.Fn Try.prog 38 [] [.one (.val (.int .i64 u)), .one (.val (.int .i64 v))] (.int .i64 (cmpI u v)) := by
  have c1 : u < v → cmpI u v = -1 := fun h => if_pos h
  have c2 : ¬ u < v → v < u → cmpI u v = 1 := fun h k => (if_neg h).trans (if_pos k)
  have c3 : ¬ u < v → ¬ v < u → cmpI u v = 0 := fun h k => (if_neg h).trans (if_neg k)
  refine V.Fn.mk_ V.Tok V.mixed Try.func38 rfl Try.ntmps38 (by kernel_rfl) rfl rfl ?_
  repeat' ((conv => whnf); first | (refine V.NIf.yes ?_ ?_; · (decide; done)) | (refine V.NIf.no ?_ ?_; · (decide; done)) | refine V.NCond.mk ?_ | refine V.NIf.not_ ?_ | refine V.NIf.dec_ ?_ | refine V.NIf.no (by omega) ?_ | refine V.NIf.yes (by omega) ?_ | refine V.NIf.mk (fun _ => ?_) (fun _ => ?_) | refine V.NWrap.ok (by omega) (by omega) ?_ | refine V.NWrap.u64 (by omega) (by omega) ?_ | refine V.NLt.mk (by omega) ?_ | refine V.NBoth.mk ?_ ?_ | refine V.NTF.yes (by omega) ?_ | refine V.NTF.no (by omega) ?_ | refine V.NTF.dec ?_ | refine V.NDraw.q (by exact rfl) (by kernel_rfl) ?_ | refine V.NApp.one (by first | omega | (simp; omega)) (by first | omega | (simp; omega)) ?_ | (first | refine V.Fn.k0 (v_isNaN _) rfl ?_ | refine V.Fn.q0 (v_isNaN _) rfl ?_ | refine V.Fn.a0 (v_isNaN _) rfl ?_) | (refine V.NDraw.any (by kernel_rfl) ?_) | fail)
  all_goals (conv => whnf)
  · rw [c1 (by assumption)]
  · rw [c2 (by assumption) (by assumption)]
  · rw [c3 (by assumption) (by assumption)]
theorem v_rawCmp (x y : Qt) : V.Fn Try.prog 60 [] [.agg [.val (.int .i64 x.q.pl), .val (.int .i64 x.q.le)], .agg [.val (.int .i64 y.q.pl), .val (.int .i64 y.q.le)]] (.int .i64 (cmpI y.q.le x.q.le)) := by
  have c := v_compare y.q.le x.q.le
  refine V.Fn.mk_ V.Tok V.mixed Try.func60 rfl Try.ntmps60 (by kernel_rfl) rfl rfl ?_
  repeat' ((conv => whnf); first | refine V.NCond.mk ?_ | refine V.NIf.not_ ?_ | refine V.NIf.dec_ ?_ | refine V.NIf.no (by omega) ?_ | refine V.NIf.yes (by omega) ?_ | refine V.NIf.mk (fun _ => ?_) (fun _ => ?_) | refine V.NWrap.ok (by omega) (by omega) ?_ | refine V.NWrap.u64 (by omega) (by omega) ?_ | refine V.NLt.mk (by omega) ?_ | refine V.NBoth.mk ?_ ?_ | refine V.NTF.yes (by omega) ?_ | refine V.NTF.no (by omega) ?_ | refine V.NTF.dec ?_ | refine V.NDraw.q (by exact rfl) (by kernel_rfl) ?_ | refine V.NApp.one (by first | omega | (simp; omega)) (by first | omega | (simp; omega)) ?_ | (first | refine V.Fn.k0 (c) rfl ?_ | refine V.Fn.q0 (c) rfl ?_ | refine V.Fn.a0 (c) rfl ?_) | (refine V.NDraw.any (by kernel_rfl) ?_) | fail)
  all_goals (conv => whnf)
  all_goals rfl
def encQ (x : Qu) : List Go.Value := [.int .i64 x.pl, .int .i64 x.le]
def bf (x y : Qu) : Bool := decide (y.le < x.le ∨ (y.le = x.le ∧ x.pl ≤ y.pl))
def srtQ (l : List Qu) : List Qu := l.mergeSort bf
def tagQ (q : Qu) : Qt := ⟨q, q.pl.toNat⟩
theorem tag_ga (l : List Qu) : ga encT ((l.map tagQ).toArray).toList = ga encQ l := by
  funext k
  unfold ga
  simp only
  have : (l.map tagQ).getD k default = tagQ (l.getD k default) := by
    rw [List.getD_eq_getElem?_getD, List.getD_eq_getElem?_getD, List.getElem?_map]
    cases l[k]? <;> rfl
  rw [this]
  rfl
def ltQ (x y : Qt) : Bool := decide (y.q.le < x.q.le ∨ (y.q.le = x.q.le ∧ x.tg < y.tg))
theorem swoQ : SWO ltQ where
  irrefl x := by unfold ltQ; simp
  trans x y z := by unfold ltQ; simp only [decide_eq_true_eq]; omega
  ntrans x y z := by unfold ltQ; simp only [decide_eq_false_iff_not]; omega
theorem bf_trans : ∀ (a b c : Qu), bf a b = true → bf b c = true → bf a c = true := by
  intro a b c; unfold bf; simp only [decide_eq_true_eq]; omega
theorem bf_total : ∀ (a b : Qu), (bf a b || bf b a) = true := by
  intro a b; unfold bf; simp only [Bool.or_eq_true, decide_eq_true_eq]; omega
theorem srtQ_uniq {l l' : List Qu} (p : l'.Perm l) (s : l'.Pairwise (fun x y => bf x y = true)) : l' = srtQ l := by
  have s2 : (srtQ l).Pairwise (fun x y => bf x y = true) := List.pairwise_mergeSort bf_trans bf_total l
  refine List.Perm.eq_of_pairwise (le := fun x y => bf x y = true) (fun a b _ _ h1 h2 => ?_) s s2 (p.trans (List.mergeSort_perm l bf).symm)
  unfold bf at h1 h2
  simp only [decide_eq_true_eq] at h1 h2
  cases a; cases b
  simp only [Qu.mk.injEq] at *
  omega
theorem v_sortQ (nx : Nat) (O : Obs) (hT : Tail (nx + 1) O) (l : List Qu) (hn : l.length ≤ 1152921504606846975) (hl : ∀ i, i < l.length → (l.getD i default).pl = i) :
    Fam Try.prog 59 [.one (.ref 0), .one (.clo 60 [])] 84 2 l.length (ga encQ l) nx O (fun r => ∀ k, k < l.length → r k = ga encQ (srtQ l) k) := by
  have sz : ((l.map tagQ).toArray).size = l.length := by simp
  have gt : ∀ i, i < l.length → ((l.map tagQ).toArray)[i]! = tagQ (l.getD i default) := fun i hi => by
    rw [getElem!_pos _ i (by simpa using hi)]
    simp [List.getD_eq_getElem?_getD, hi]
  have c := v_stabQ nx O hT 60 (fun x y => cmpI y.q.le x.q.le) v_rawCmp ltQ swoQ (fun x y h => by
    show decide (cmpI x.q.le y.q.le < 0) = ltQ y x
    unfold ltQ cmpI
    by_cases q : x.q.le < y.q.le
    · rw [if_pos q]; simp; omega
    · rw [if_neg q]
      by_cases q2 : y.q.le < x.q.le
      · rw [if_pos q2]; simp; omega
      · rw [if_neg q2]; simp; omega) ((l.map tagQ).toArray) (by rw [sz]; exact hn) (fun i hi => by
    rw [sz] at hi
    rw [gt i hi]
    unfold tagQ
    simp only [hl i hi]
    omega)
  rw [sz, tag_ga] at c
  have done : ∀ d' : Array Qt, PermIn 0 l.length ((l.map tagQ).toArray) d' → SortedIn ltQ 0 l.length d' → ∀ k, k < l.length → ga encT d'.toList k = ga encQ (srtQ l) k := fun d' P s k hk => by
    have s1 : d'.size = l.length := by rw [P.1, sz]
    have p : d'.toList.Perm ((l.map tagQ).toArray).toList := by
      have := P.2.2
      rwa [show d'.extract 0 l.length = d' by rw [← s1]; simp, show ((l.map tagQ).toArray).extract 0 l.length = (l.map tagQ).toArray by simp [List.take_of_length_le]] at this
    have e : d'.toList.map Qt.q = srtQ l := by
      refine srtQ_uniq ?_ ?_
      · have := p.map Qt.q
        rw [show (((l.map tagQ).toArray).toList).map Qt.q = l by
          rw [show ((l.map tagQ).toArray).toList = l.map tagQ from rfl, List.map_map, show Qt.q ∘ tagQ = id from rfl, List.map_id]] at this
        exact this
      · refine List.pairwise_map.2 (List.pairwise_iff_getElem.2 fun i j hi hj hij => ?_)
        have tp : ∀ x ∈ d'.toList, x.q.pl = x.tg := fun x hx => by
          have hx := p.mem_iff.1 hx
          rw [show ((l.map tagQ).toArray).toList = l.map tagQ from rfl] at hx
          obtain ⟨q, hq, rfl⟩ := List.mem_map.1 hx
          obtain ⟨i, hi, rfl⟩ := List.getElem_of_mem hq
          have := hl i hi
          rw [List.getD_eq_getElem?_getD, List.getElem?_eq_getElem hi] at this
          simp only [Option.getD_some] at this
          unfold tagQ
          simp only [this]
          omega
        have q := s i j (Nat.zero_le _) hij (by simpa [s1] using hj)
        rw [← arr_get, ← arr_get, List.getD_eq_getElem?_getD, List.getD_eq_getElem?_getD, List.getElem?_eq_getElem hi, List.getElem?_eq_getElem hj] at q
        simp only [Option.getD_some] at q
        have t1 := tp _ (List.getElem_mem hi)
        have t2 := tp _ (List.getElem_mem hj)
        unfold ltQ at q
        unfold bf
        simp only [decide_eq_false_iff_not] at q
        simp only [decide_eq_true_eq]
        omega
    rw [← e]
    unfold ga
    have : (d'.toList.map Qt.q).getD k default = (d'.toList.getD k default).q := by
      rw [List.getD_eq_getElem?_getD, List.getD_eq_getElem?_getD, List.getElem?_map]
      cases d'.toList[k]? <;> rfl
    rw [this]
    rfl
  refine Fam.mk hT ?_
  refine V.NCall.inl (f := 59) V.Tok V.mixed Try.func59 rfl Try.ntmps59 (by kernel_rfl) rfl ?_
  repeat' ((conv => whnf); first | refine V.NCond.mk ?_ | refine V.NIf.not_ ?_ | refine V.NIf.dec_ ?_ | refine V.NIf.no (by omega) ?_ | refine V.NIf.yes (by omega) ?_ | refine V.NIf.mk (fun _ => ?_) (fun _ => ?_) | refine V.NWrap.ok (by omega) (by omega) ?_ | refine V.NWrap.u64 (by omega) (by omega) ?_ | refine V.NLt.mk (by omega) ?_ | refine V.NBoth.mk ?_ ?_ | refine V.NTF.yes (by omega) ?_ | refine V.NTF.no (by omega) ?_ | refine V.NTF.dec ?_ | refine V.NDraw.q (by exact rfl) (by kernel_rfl) ?_ | refine V.NApp.one (by first | omega | (simp; omega)) (by first | omega | (simp; omega)) ?_ | (refine Fam.use c hT [(0, _)] rfl rfl rfl (fun k hk => rfl) ?_; rintro g1 ⟨d', P, S, rfl⟩) | (refine V.NDraw.any (by kernel_rfl) ?_) | fail)
  all_goals (conv => whnf)
  exact ⟨rfl, rfl, [(0, _)], _, rfl, rfl, rfl, done d' P S⟩
end Go.Proofs.Ytcdlhfbpmpjfkaa

/- Plain facts on the parts of a total: wholes, what is left, who gets one more. -/
namespace Go.Proofs.Ytcdlhfbpmpjfkaa
set_option linter.unusedVariables false
namespace Sh
def whs (t : Int) (ws : List Int) : List Int := ws.map fun w => t * w / sm ws
def lfs (t : Int) (ws : List Int) : List Int := ws.map fun w => t * w % sm ws
def rst (t : Int) (ws : List Int) : Int := t - sm (whs t ws)
def qus (ls : List Int) : List Qu := (List.range ls.length).map fun (i : Nat) => ⟨(i : Int), ls.getD i default⟩
def inc1 (l : List Int) (k : Nat) : List Int := l.set k (l.getD k default + 1)
def ord (t : Int) (ws : List Int) : List Qu := srtQ (qus (lfs t ws))
def raws (t : Int) (ws : List Int) (k : Nat) : List Int := ((ord t ws).take k).foldl (fun l q => inc1 l q.pl.toNat) (whs t ws)
def raw (t : Int) (ws : List Int) : List Int := raws t ws (rst t ws).toNat
def ow (l : List Int) (n k : Nat) : List Int := l.take k ++ List.replicate (n - k) 0
theorem whs_len (t : Int) (ws : List Int) : (whs t ws).length = ws.length := by simp [whs]
theorem lfs_len (t : Int) (ws : List Int) : (lfs t ws).length = ws.length := by simp [lfs]
theorem getD_map {α β : Type} [Inhabited α] [Inhabited β] {f : α → β} {l : List α} {k : Nat} (h : k < l.length) : (l.map f).getD k default = f (l.getD k default) := by
  rw [getD_at (by simpa using h), getD_at h, List.getElem_map]
theorem whs_at {t : Int} {ws : List Int} {k : Nat} (h : k < ws.length) : (whs t ws).getD k default = t * ws.getD k default / sm ws := getD_map h
theorem lfs_at {t : Int} {ws : List Int} {k : Nat} (h : k < ws.length) : (lfs t ws).getD k default = t * ws.getD k default % sm ws := getD_map h
theorem qus_len (l : List Int) : (qus l).length = l.length := by simp [qus]
theorem qus_at {l : List Int} {k : Nat} (h : k < l.length) : (qus l).getD k default = ⟨(k : Int), l.getD k default⟩ := by
  rw [getD_at (by rw [qus_len]; exact h)]
  simp [qus]
theorem ord_len (t : Int) (ws : List Int) : (ord t ws).length = ws.length := by
  unfold ord srtQ
  rw [List.length_mergeSort, qus_len, lfs_len]
theorem ord_perm (t : Int) (ws : List Int) : (ord t ws).Perm (qus (lfs t ws)) := List.mergeSort_perm _ _
theorem mem_qus {l : List Int} {q : Qu} (h : q ∈ qus l) : ∃ k : Nat, k < l.length ∧ q = ⟨(k : Int), l.getD k default⟩ := by
  unfold qus at h
  obtain ⟨k, hk, rfl⟩ := List.mem_map.1 h
  exact ⟨k, List.mem_range.1 hk, rfl⟩
theorem ord_pl {t : Int} {ws : List Int} {q : Qu} (h : q ∈ ord t ws) : 0 ≤ q.pl ∧ q.pl < ws.length ∧ q.le = t * ws.getD q.pl.toNat default % sm ws := by
  obtain ⟨k, hk, rfl⟩ := mem_qus ((ord_perm t ws).mem_iff.1 h)
  rw [lfs_len] at hk
  refine ⟨by simp only; omega, by simp only; omega, ?_⟩
  simp only
  rw [lfs_at hk, show ((k : Int).toNat) = k by omega]
theorem raws_succ {t : Int} {ws : List Int} {k : Nat} (h : k < ws.length) : raws t ws (k + 1) = inc1 (raws t ws k) ((ord t ws).getD k default).pl.toNat := by
  unfold raws
  have h2 : k < (ord t ws).length := by rw [ord_len]; exact h
  rw [List.take_succ_eq_append_getElem h2, List.foldl_append, ← getD_at h2]
  rfl
theorem raws_len (t : Int) (ws : List Int) : ∀ k, k ≤ ws.length → (raws t ws k).length = ws.length
  | 0, _ => by simp [raws, whs_len]
  | k + 1, h => by rw [raws_succ (by omega)]; simp [inc1, raws_len t ws k (by omega)]
theorem ow_len {l : List Int} {n k : Nat} (h : l.length = n) (hk : k ≤ n) : (ow l n k).length = n := by simp [ow]; omega
theorem ow_set {l : List Int} {n k : Nat} (h : l.length = n) (hk : k < n) : (ow l n k).set k (l.getD k default) = ow l n (k + 1) := by
  refine List.ext_getElem (by simp [ow]; omega) fun i h1 h2 => ?_
  rw [List.getElem_set]
  simp only [ow, List.length_set] at h1 h2 ⊢
  simp only [List.getElem_append, List.length_take, List.getElem_take, List.getElem_replicate]
  by_cases e : k = i
  · subst e
    rw [if_pos rfl, dif_pos (by omega), getD_at (by omega)]
  · rw [if_neg e]
    by_cases q : i < k
    · rw [dif_pos (by omega), dif_pos (by omega)]
    · rw [dif_neg (by omega), dif_neg (by omega)]
theorem ow_0 (l : List Int) (n : Nat) : ow l n 0 = List.replicate n 0 := by simp [ow]
theorem ow_n {l : List Int} {n : Nat} (h : l.length = n) : ow l n n = l := by
  unfold ow
  rw [List.take_of_length_le (by omega)]
  simp
/-! the sum of the wholes -/
theorem parts_sum (t : Int) (A : Int) (hA : 0 < A) (l : List Int) : sm (l.map fun w => t * w / A) * A + sm (l.map fun w => t * w % A) = t * sm l := by
  induction l with
  | nil => simp [sm]
  | cons w r ih =>
    simp only [List.map_cons, sm]
    have e := Int.mul_ediv_add_emod (t * w) A
    rw [Int.add_mul, Int.mul_add]
    rw [Int.mul_comm A] at e
    omega
theorem sm_nonneg {l : List Int} (h : ∀ x ∈ l, 0 ≤ x) : 0 ≤ sm l := by
  induction l with
  | nil => exact Int.le_refl _
  | cons z s ih =>
    have := ih fun w hw => h w (by simp [hw])
    have := h z (by simp)
    simp only [sm]; omega
theorem sm_take_le {l : List Int} (h : ∀ x ∈ l, 0 ≤ x) (k : Nat) : 0 ≤ sm (l.take k) ∧ sm (l.take k) ≤ sm l := by
  have e : sm l = sm (l.take k) + sm (l.drop k) := by rw [← sm_app, List.take_append_drop]
  have := sm_nonneg (l := l.drop k) fun x hx => h x (List.drop_subset _ _ hx)
  have := sm_nonneg (l := l.take k) fun x hx => h x (List.take_subset _ _ hx)
  omega
theorem rest_eq {t : Int} {ws : List Int} (ok : Oks ws) : rst t ws * sm ws = sm (lfs t ws) := by
  have := parts_sum t (sm ws) (by have := ok.sum; omega) ws
  unfold rst
  rw [Int.sub_mul]
  unfold whs lfs
  omega
theorem lf_bd {t : Int} {ws : List Int} (ok : Oks ws) : ∀ x ∈ lfs t ws, 0 ≤ x ∧ x ≤ sm ws - 1 := by
  intro x hx
  unfold lfs at hx
  obtain ⟨w, _, rfl⟩ := List.mem_map.1 hx
  have p : 0 < sm ws := by have := ok.sum; omega
  exact ⟨Int.emod_nonneg _ (by omega), by have := Int.emod_lt_of_pos (t * w) p; omega⟩
theorem wh_bd {t : Int} {ws : List Int} (ok : Oks ws) (ht : 0 ≤ t) : ∀ x ∈ whs t ws, 0 ≤ x ∧ x ≤ t := by
  intro x hx
  unfold whs at hx
  obtain ⟨w, hw, rfl⟩ := List.mem_map.1 hx
  have p := ok.sum
  have q := ok.all w hw
  refine ⟨Int.ediv_nonneg (Int.mul_nonneg ht q.1) (by omega), ?_⟩
  have := Int.ediv_le_ediv (c := sm ws) (by omega) (Int.mul_le_mul_of_nonneg_left (p.2.2 w hw) ht)
  rwa [Int.mul_ediv_cancel _ (by omega)] at this
theorem rst_bd {t : Int} {ws : List Int} (ok : Oks ws) : 0 ≤ rst t ws ∧ rst t ws < ws.length := by
  have e := rest_eq (t := t) ok
  have p := ok.sum
  have b := sm_bd (lf_bd (t := t) ok)
  rw [lfs_len] at b
  have n := ok.pos
  generalize rst t ws = r at *
  generalize sm ws = A at *
  constructor
  · refine Int.not_lt.1 fun h => ?_
    have : r * A ≤ -1 * A := Int.mul_le_mul_of_nonneg_right (by omega) (by omega)
    omega
  · refine Int.not_le.1 fun h => ?_
    have h1 : (ws.length : Int) * A ≤ r * A := Int.mul_le_mul_of_nonneg_right h (by omega)
    have h2 : (A - 1) * (ws.length : Int) = (ws.length : Int) * A - ws.length := by rw [Int.sub_mul, Int.mul_comm A]; omega
    omega
theorem rest_bd {t : Int} {ws : List Int} (ok : Oks ws) (ht : 0 ≤ t) (k : Nat) : 0 ≤ t - sm ((whs t ws).take k) ∧ t - sm ((whs t ws).take k) ≤ t := by
  have a := sm_take_le (fun x hx => (wh_bd (t := t) ok ht x hx).1) k
  have b := rst_bd (t := t) ok
  unfold rst at b
  omega
theorem raws_bd {t : Int} {ws : List Int} (ok : Oks ws) (ht : 0 ≤ t) : ∀ k, k ≤ ws.length → ∀ x ∈ raws t ws k, 0 ≤ x ∧ x ≤ t + k
  | 0, _ => by
    intro x hx
    have := wh_bd ok ht x (by simpa [raws] using hx)
    omega
  | k + 1, h => by
    intro x hx
    have ih := raws_bd ok ht k (by omega)
    rw [raws_succ (by omega)] at hx
    have hk : k < (ord t ws).length := by rw [ord_len]; omega
    have pl := ord_pl (getD_mem hk)
    have ln := raws_len t ws k (by omega)
    have hg := ih _ (getD_mem (l := raws t ws k) (k := ((ord t ws).getD k default).pl.toNat) (by omega))
    unfold inc1 at hx
    rcases List.mem_or_eq_of_mem_set hx with q | q
    · have := ih x q; omega
    · omega
end Sh
end Go.Proofs.Ytcdlhfbpmpjfkaa

/- A function that writes a row: a call of it, of which the outcome is known by what it promises. -/
namespace Go.Proofs.Ytcdlhfbpmpjfkaa.V
open Go Go.RowKit
set_option linter.unusedVariables false
/-- as Fam.call, but the objects behind the call are given outright, by what the contract promises -/
theorem Fam.callQ {P : Program} {f : FuncId} {args : List SV} {t s n nx : Nat} {get : Nat → List Value} {O : Obs} {Q : (Nat → List Value) → Prop} (h : Fam P f args t s n get nx O Q) (hT : Tail (nx + 1) O) {obs : Obs} {args' : List SV} {K : SV → Obs → Nat → Prop} (l : List (Nat × Nat)) (obs2 : Obs)
    (ha : args' = args.map (renS (sgm l))) (hab : argB (nx + 1) args = true) (hi : injB (sgm l) (nx + 1) = true) (hinv : ∀ i, i < nx + 1 → sgm l i < nx + 1 ∧ sgm l (sgm l i) = i) (ho : ObsLe (sgm l) obs ((0, .row t s n get) :: O)) (hb2 : obsB (nx + 1) obs2 = true)
    (ho2 : ∀ g', Q g' → ObsLe (sgm l) ((0, .row t s n g') :: O) obs2) (hK : K (.tup []) obs2 (nx + 1)) : NCall P f args' obs (nx + 1) K := by
  subst ha
  refine ⟨h.b, fun B ρ w xs hC hxs => ?_⟩
  have c := hC.head ho (hT.bz t s n get) hi
  refine (h.h B _ w xs c (Svs.ren_ hab hxs)).mono ?_
  rintro e' w' ⟨v, o, m, ρ', x, hK', hx, he, hv, hC', hb, hoth⟩
  obtain ⟨rfl, rfl, g', rfl, hQ⟩ := hK'.h
  have c2 := hC'.head (ho2 g' hQ) hb2 hi
  refine ⟨_, _, _, _, x, hK, fun i y hy => ?_, he, ?_, c2, hb, hoth⟩
  · have hi' : i < nx + 1 := by
      rcases Nat.lt_or_ge i (nx + 1) with q | q
      · exact q
      · rw [hC.new i q] at hy; cases hy
    obtain ⟨q1, q2⟩ := hinv i hi'
    rw [cut_lt hi']
    refine hx _ _ ?_
    rw [cut_lt q1]
    unfold via
    rw [q2]
    exact hy
  · exact hv
end Go.Proofs.Ytcdlhfbpmpjfkaa.V

/- What share.Raw and share.Parts answer. -/
namespace Go.Proofs.Ytcdlhfbpmpjfkaa
open Go Go.RowKit V
set_option maxRecDepth 100000
set_option linter.unusedVariables false
set_option linter.unusedSimpArgs false
set_option maxHeartbeats 4000000
theorem v_shRaw (t : Int) (ws : List Int) (ok : Sh.Oks ws) (ht : 0 ≤ t ∧ t ≤ 1152921504606846976) : V.FnR Try.prog 50 [.arr 1 ws.length (ga e1 ws)] [.one (.val (.int .i64 t)), .one (.ref 0)] (.one (.ref 1)) [.row 3 1 (Sh.raw t ws).length (ga e1 (Sh.raw t ws))] := by
  have le := ok.le
  have ps := ok.pos
  have sb := ok.sum
  refine V.FnR.mk_ V.Tok V.mixed Try.func50 rfl Try.ntmps50 (by kernel_rfl) rfl rfl rfl rfl ?_
  repeat' ((conv => whnf); first | refine V.NCond.mk ?_ | refine V.NIf.not_ ?_ | refine V.NIf.dec_ ?_ | refine V.NIf.no (by omega) ?_ | refine V.NIf.yes (by omega) ?_ | refine V.NIf.mk (fun _ => ?_) (fun _ => ?_) | refine V.NWrap.ok (by omega) (by omega) ?_ | refine V.NWrap.u64 (by omega) (by omega) ?_ | refine V.NLt.mk (by omega) ?_ | refine V.NBoth.mk ?_ ?_ | refine V.NTF.yes (by omega) ?_ | refine V.NTF.no (by omega) ?_ | refine V.NTF.dec ?_ | refine V.NDraw.q (by exact rfl) (by kernel_rfl) ?_ | refine V.NApp.one (by first | omega | (simp; omega)) (by first | omega | (simp; omega)) ?_ | (refine V.NDraw.any (by kernel_rfl) ?_) | fail)
  all_goals (conv => whnf)
  refine V.NLoop.auto (fun (k : Nat) => [(19, .one (.val (.int .i64 k))), (5, .one (.val (.int .i64 (Sh.sm (ws.take k)))))]) (fun (k : Nat) => []) [] [] (fun (k : Nat) => ws.length - k) (fun (k : Nat) => k ≤ ws.length) 0 (Nat.zero_le _) (by repeat' (first | exact rfl | exact Iff.rfl | exact trivial | exact (fun _ _ => rfl) | exact (fun _ h => absurd h (Nat.not_lt_zero _)) | refine ⟨?_, ?_⟩ | exact Iff.rfl | exact congrArg (fun z => V.SV.one (V.At.val (Value.int .i64 z))) (by omega))) (by repeat' (first | exact rfl | exact Iff.rfl | exact trivial | exact (fun _ _ => rfl) | exact (fun _ h => absurd h (Nat.not_lt_zero _)) | refine ⟨?_, ?_⟩ | exact Iff.rfl | exact congrArg (fun z => V.SV.one (V.At.val (Value.int .i64 z))) (by omega))) (fun _ => ⟨rfl, rfl⟩) ?_; (conv => whnf); refine ⟨⟨rfl, rfl⟩, ?_⟩
  rintro k hk
  have tk := Sh.sm_take_le (fun x hx => (ok.all x hx).1) k
  by_cases hlt : k < ws.length
  · have e := Sh.sm_take hlt
    have w1 := ok.all _ (getD_mem hlt)
    repeat' ((conv => whnf); first | refine V.NCond.mk ?_ | refine V.NIf.not_ ?_ | refine V.NIf.dec_ ?_ | refine V.NIf.no (by omega) ?_ | refine V.NIf.yes (by omega) ?_ | refine V.NIf.mk (fun _ => ?_) (fun _ => ?_) | refine V.NWrap.ok (by omega) (by omega) ?_ | refine V.NWrap.u64 (by omega) (by omega) ?_ | refine V.NLt.mk (by omega) ?_ | refine V.NBoth.mk ?_ ?_ | refine V.NTF.yes (by omega) ?_ | refine V.NTF.no (by omega) ?_ | refine V.NTF.dec ?_ | refine V.NDraw.q (by exact rfl) (by kernel_rfl) ?_ | refine V.NApp.one (by first | omega | (simp; omega)) (by first | omega | (simp; omega)) ?_ | (refine NIdx.mk ⟨k, rfl, by omega, ?_⟩) | (refine V.NDraw.any (by kernel_rfl) ?_) | fail)
    all_goals (conv => whnf)
    exact V.NBack.at_ (k + 1) [] (by omega) (by omega) (by repeat' (first | exact rfl | exact Iff.rfl | exact trivial | exact (fun _ _ => rfl) | exact (fun _ h => absurd h (Nat.not_lt_zero _)) | refine ⟨?_, ?_⟩ | exact Iff.rfl | exact congrArg (fun z => V.SV.one (V.At.val (Value.int .i64 z))) (by omega))) rfl (by repeat' (first | exact rfl | exact Iff.rfl | exact trivial | exact (fun _ _ => rfl) | exact (fun _ h => absurd h (Nat.not_lt_zero _)) | refine ⟨?_, ?_⟩ | exact Iff.rfl | exact congrArg (fun z => V.SV.one (V.At.val (Value.int .i64 z))) (by omega))) (by repeat' (first | exact rfl | exact Iff.rfl | exact trivial | exact (fun _ _ => rfl) | exact (fun _ h => absurd h (Nat.not_lt_zero _)) | refine ⟨?_, ?_⟩ | exact Iff.rfl | exact congrArg (fun z => V.SV.one (V.At.val (Value.int .i64 z))) (by omega))) (by repeat' (first | exact rfl | exact Iff.rfl | exact trivial | exact (fun _ _ => rfl) | exact (fun _ h => absurd h (Nat.not_lt_zero _)) | refine ⟨?_, ?_⟩ | exact Iff.rfl | exact congrArg (fun z => V.SV.one (V.At.val (Value.int .i64 z))) (by omega)))
  · obtain rfl : k = ws.length := by omega
    rw [List.take_length]
    repeat' ((conv => whnf); first | refine V.NCond.mk ?_ | refine V.NIf.not_ ?_ | refine V.NIf.dec_ ?_ | refine V.NIf.no (by omega) ?_ | refine V.NIf.yes (by omega) ?_ | refine V.NIf.mk (fun _ => ?_) (fun _ => ?_) | refine V.NWrap.ok (by omega) (by omega) ?_ | refine V.NWrap.u64 (by omega) (by omega) ?_ | refine V.NLt.mk (by omega) ?_ | refine V.NBoth.mk ?_ ?_ | refine V.NTF.yes (by omega) ?_ | refine V.NTF.no (by omega) ?_ | refine V.NTF.dec ?_ | refine V.NDraw.q (by exact rfl) (by kernel_rfl) ?_ | refine V.NApp.one (by first | omega | (simp; omega)) (by first | omega | (simp; omega)) ?_ | (refine NMake.mk ⟨ws.length, ws.length, rfl, rfl, by omega, by omega, by first | omega | decide | (simp; done) | (simp; omega), ?_⟩) | (refine V.NDraw.any (by kernel_rfl) ?_) | fail)
    all_goals (conv => whnf)
    have eW := fun k => @Sh.whs_at t ws k
    have eL := fun k => @Sh.lfs_at t ws k
    have lW := Sh.whs_len t ws
    have lL := Sh.lfs_len t ws
    have rb := Sh.rest_bd ok ht.1
    have wb := Sh.wh_bd ok ht.1
    have rr := Sh.rst_bd (t := t) ok
    have er : Sh.rst t ws = t - Sh.sm (Sh.whs t ws) := rfl
    refine V.NLoop.auto (fun (k : Nat) => [(33, .one (.val (.int .i64 k))), (10, .one (.val (.int .i64 (t - Sh.sm ((Sh.whs t ws).take k))))), (8, .one (.ref 2)), (9, .one (.ref 3))]) (fun (k : Nat) => [(2, .row 3 1 ws.length (ga e1 (Sh.ow (Sh.whs t ws) ws.length k))), (3, .row 84 2 ((Sh.qus (Sh.lfs t ws)).take k).length (ga encQ ((Sh.qus (Sh.lfs t ws)).take k)))]) [] [] (fun (k : Nat) => ws.length - k) (fun (k : Nat) => k ≤ ws.length) 0 (Nat.zero_le _) (by (conv => whnf); exact ⟨rfl, congrArg (fun z => V.SV.one (V.At.val (Value.int .i64 z))) (Int.sub_zero t).symm, rfl, rfl, trivial⟩) (by (conv => whnf); exact ⟨⟨rfl, rfl, rfl, fun k hk => (by rw [Sh.ow_0, ga_at (by simpa using hk)]; simp; rfl)⟩, ⟨rfl, rfl, rfl, fun k hk => absurd hk (Nat.not_lt_zero _)⟩, trivial⟩) (fun _ => ⟨rfl, rfl⟩) ?_; (conv => whnf); refine ⟨⟨rfl, rfl⟩, ?_⟩
    rintro k hk
    have lq : (Sh.qus (Sh.lfs t ws)).length = ws.length := by rw [Sh.qus_len, lL]
    have lo := Sh.ow_len lW hk
    have rbk := rb k
    by_cases hlt : k < ws.length
    · have w1 := ok.all _ (getD_mem hlt)
      have wd := v_wide t (ws.getD k default) (Sh.sm ws) ht ⟨w1.1, sb.2.2 _ (getD_mem hlt)⟩ ⟨sb.1, sb.2.1⟩
      rw [← eW k hlt, ← eL k hlt] at wd
      have wk := wb _ (getD_mem (l := Sh.whs t ws) (k := k) (by omega))
      have os := Sh.ow_set lW hlt
      have qs : (Sh.qus (Sh.lfs t ws)).take (k + 1) = (Sh.qus (Sh.lfs t ws)).take k ++ [⟨(k : Int), (Sh.lfs t ws).getD k default⟩] := by
        rw [List.take_succ_eq_append_getElem (by omega), ← getD_at (by omega), Sh.qus_at (by omega)]
      have st := Sh.sm_take (l := Sh.whs t ws) (k := k) (by omega)
      have rb1 := rb (k + 1)
      have lqk : ((Sh.qus (Sh.lfs t ws)).take k).length = k := by simp; omega
      generalize (Sh.qus (Sh.lfs t ws)).take k = Q at *
      generalize (Sh.whs t ws).getD k default = W at *
      generalize (Sh.lfs t ws).getD k default = L at *
      generalize Sh.ow (Sh.whs t ws) ws.length k = O at *
      repeat' ((conv => whnf); first | (refine NPut.is_ (en := e1) (l := O) W (Sh.ow (Sh.whs t ws) ws.length (k + 1)) os (by omega) rfl ?_) | (refine NApp.one (en := encQ) (l := Q) (x := ⟨(k : Int), L⟩) (by first | omega | (simp; omega)) (by first | omega | (simp; omega)) ?_) | refine V.NCond.mk ?_ | refine V.NIf.not_ ?_ | refine V.NIf.dec_ ?_ | refine V.NIf.no (by omega) ?_ | refine V.NIf.yes (by omega) ?_ | refine V.NIf.mk (fun _ => ?_) (fun _ => ?_) | refine V.NWrap.ok (by omega) (by omega) ?_ | refine V.NWrap.u64 (by omega) (by omega) ?_ | refine V.NLt.mk (by omega) ?_ | refine V.NBoth.mk ?_ ?_ | refine V.NTF.yes (by omega) ?_ | refine V.NTF.no (by omega) ?_ | refine V.NTF.dec ?_ | refine V.NDraw.q (by exact rfl) (by kernel_rfl) ?_ | refine V.NApp.one (by first | omega | (simp; omega)) (by first | omega | (simp; omega)) ?_ | (refine NIdx.mk ⟨k, rfl, by omega, ?_⟩) | (first | refine V.Fn.k0 (wd) rfl ?_ | refine V.Fn.q0 (wd) rfl ?_ | refine V.Fn.a0 (wd) rfl ?_) | (refine V.NDraw.any (by kernel_rfl) ?_) | fail)
      all_goals (conv => whnf)
      exact V.NBack.at_ (k + 1) [(3, 5)] (by omega) (by omega) (by repeat' (first | exact rfl | exact Iff.rfl | exact trivial | exact (fun _ _ => rfl) | exact (fun _ h => absurd h (Nat.not_lt_zero _)) | refine ⟨?_, ?_⟩ | exact Iff.rfl | exact congrArg (fun z => V.SV.one (V.At.val (Value.int .i64 z))) (by omega))) rfl ⟨⟨rfl, rfl, rfl, fun _ _ => rfl⟩, ObLe.as_ qs, trivial⟩ (by repeat' (first | exact rfl | exact Iff.rfl | exact trivial | exact (fun _ _ => rfl) | exact (fun _ h => absurd h (Nat.not_lt_zero _)) | refine ⟨?_, ?_⟩ | exact Iff.rfl | exact congrArg (fun z => V.SV.one (V.At.val (Value.int .i64 z))) (by omega))) (by repeat' (first | exact rfl | exact Iff.rfl | exact trivial | exact (fun _ _ => rfl) | exact (fun _ h => absurd h (Nat.not_lt_zero _)) | refine ⟨?_, ?_⟩ | exact Iff.rfl | exact congrArg (fun z => V.SV.one (V.At.val (Value.int .i64 z))) (by omega)))
    · obtain rfl : k = ws.length := by omega
      rw [Sh.ow_n lW, List.take_of_length_le (Nat.le_of_eq lW), List.take_of_length_le (Nat.le_of_eq lq), ← er]
      have sq := v_sortQ 3 [(3, .arr 1 ws.length (ga e1 ws)), (1, .row 3 1 0 (fun _ => [])), (2, .row 3 1 ws.length (ga e1 (Sh.whs t ws)))] (Tail.of rfl rfl) (Sh.qus (Sh.lfs t ws)) (by omega) (fun i hi => by rw [Sh.qus_at (by omega)])
      have om := fun q => @Sh.ord_pl t ws q
      have ol := Sh.ord_len t ws
      have es : srtQ (Sh.qus (Sh.lfs t ws)) = Sh.ord t ws := rfl
      rw [es, lq] at sq
      rw [lq]
      have rs := fun k => @Sh.raws_succ t ws k
      have rl := Sh.raws_len t ws
      have rd := Sh.raws_bd (t := t) ok ht.1
      have r0 : Sh.raws t ws 0 = Sh.whs t ws := rfl
      have rw_ : Sh.raw t ws = Sh.raws t ws (Sh.rst t ws).toNat := rfl
      obtain ⟨r, hr⟩ : ∃ r : Nat, Sh.rst t ws = r := ⟨(Sh.rst t ws).toNat, by omega⟩
      rw [hr, Int.toNat_natCast] at rw_
      rw [hr] at rr ⊢
      rw [rw_]
      generalize Sh.ord t ws = D at *
      repeat' ((conv => whnf); first | refine V.NCond.mk ?_ | refine V.NIf.not_ ?_ | refine V.NIf.dec_ ?_ | refine V.NIf.no (by omega) ?_ | refine V.NIf.yes (by omega) ?_ | refine V.NIf.mk (fun _ => ?_) (fun _ => ?_) | refine V.NWrap.ok (by omega) (by omega) ?_ | refine V.NWrap.u64 (by omega) (by omega) ?_ | refine V.NLt.mk (by omega) ?_ | refine V.NBoth.mk ?_ ?_ | refine V.NTF.yes (by omega) ?_ | refine V.NTF.no (by omega) ?_ | refine V.NTF.dec ?_ | refine V.NDraw.q (by exact rfl) (by kernel_rfl) ?_ | refine V.NApp.one (by first | omega | (simp; omega)) (by first | omega | (simp; omega)) ?_ | (refine Fam.callQ sq (Tail.of rfl rfl) [(3, 0), (0, 3)] [(3, .row 84 2 ws.length (ga encQ D)), (0, .arr 1 ws.length (ga e1 ws)), (1, .row 3 1 0 (fun _ => [])), (2, .row 3 1 ws.length (ga e1 (Sh.whs t ws)))] rfl rfl rfl (by decide) ⟨⟨rfl, rfl, rfl, fun _ _ => rfl⟩, ⟨rfl, rfl, fun _ _ => rfl⟩, ⟨rfl, rfl, rfl, fun _ _ => rfl⟩, ⟨rfl, rfl, rfl, fun _ _ => rfl⟩, trivial⟩ rfl (fun g hg => ⟨⟨rfl, rfl, rfl, hg⟩, ⟨rfl, rfl, fun _ _ => rfl⟩, ⟨rfl, rfl, rfl, fun _ _ => rfl⟩, ⟨rfl, rfl, rfl, fun _ _ => rfl⟩, trivial⟩) ?_) | (refine NCut.mk ⟨0, r, rfl, rfl, by omega, by omega, ?_⟩) | (refine V.NDraw.any (by kernel_rfl) ?_) | fail)
      all_goals (conv => whnf)
      refine V.NLoop.auto (fun (k : Nat) => [(65, .one (.val (.int .i64 k))), (8, .one (.ref 2))]) (fun (k : Nat) => [(2, .row 3 1 ws.length (ga e1 (Sh.raws t ws k)))]) [] [] (fun (k : Nat) => r - k) (fun (k : Nat) => k ≤ r) 0 (Nat.zero_le _) (by repeat' (first | exact rfl | exact Iff.rfl | exact trivial | exact (fun _ _ => rfl) | exact (fun _ h => absurd h (Nat.not_lt_zero _)) | refine ⟨?_, ?_⟩ | exact Iff.rfl | exact congrArg (fun z => V.SV.one (V.At.val (Value.int .i64 z))) (by omega))) (by repeat' (first | exact rfl | exact Iff.rfl | exact trivial | exact (fun _ _ => rfl) | exact (fun _ h => absurd h (Nat.not_lt_zero _)) | refine ⟨?_, ?_⟩ | exact Iff.rfl | exact congrArg (fun z => V.SV.one (V.At.val (Value.int .i64 z))) (by omega))) (fun _ => ⟨rfl, rfl⟩) ?_; (conv => whnf); refine ⟨⟨rfl, rfl⟩, ?_⟩
      rintro k hk
      by_cases hlt : k < r
      · have pq := om (D.getD (0 + k) default) (getD_mem (by omega))
        have ln := rl k (by omega)
        have bd := rd k (by omega) _ (getD_mem (l := Sh.raws t ws k) (k := (D.getD (0 + k) default).pl.toNat) (by omega))
        have nx := rs k (by omega)
        rw [show D.getD k default = D.getD (0 + k) default by rw [Nat.zero_add]] at nx
        unfold Sh.inc1 at nx
        repeat' ((conv => whnf); first | refine V.NCond.mk ?_ | refine V.NIf.not_ ?_ | refine V.NIf.dec_ ?_ | refine V.NIf.no (by omega) ?_ | refine V.NIf.yes (by omega) ?_ | refine V.NIf.mk (fun _ => ?_) (fun _ => ?_) | refine V.NWrap.ok (by omega) (by omega) ?_ | refine V.NWrap.u64 (by omega) (by omega) ?_ | refine V.NLt.mk (by omega) ?_ | refine V.NBoth.mk ?_ ?_ | refine V.NTF.yes (by omega) ?_ | refine V.NTF.no (by omega) ?_ | refine V.NTF.dec ?_ | refine V.NDraw.q (by exact rfl) (by kernel_rfl) ?_ | refine V.NApp.one (by first | omega | (simp; omega)) (by first | omega | (simp; omega)) ?_ | (refine NIdx.mk ⟨k, rfl, by omega, ?_⟩) | (refine NIdx.mk ⟨(D.getD (0 + k) default).pl.toNat, by omega, by omega, ?_⟩) | (refine NPut.is_ (en := e1) (l := Sh.raws t ws k) _ (Sh.raws t ws (k + 1)) nx.symm (by omega) rfl ?_) | (refine V.NDraw.any (by kernel_rfl) ?_) | fail)
        all_goals (conv => whnf)
        exact V.NBack.at_ (k + 1) [] (by omega) (by omega) (by repeat' (first | exact rfl | exact Iff.rfl | exact trivial | exact (fun _ _ => rfl) | exact (fun _ h => absurd h (Nat.not_lt_zero _)) | refine ⟨?_, ?_⟩ | exact Iff.rfl | exact congrArg (fun z => V.SV.one (V.At.val (Value.int .i64 z))) (by omega))) rfl (by repeat' (first | exact rfl | exact Iff.rfl | exact trivial | exact (fun _ _ => rfl) | exact (fun _ h => absurd h (Nat.not_lt_zero _)) | refine ⟨?_, ?_⟩ | exact Iff.rfl | exact congrArg (fun z => V.SV.one (V.At.val (Value.int .i64 z))) (by omega))) (by repeat' (first | exact rfl | exact Iff.rfl | exact trivial | exact (fun _ _ => rfl) | exact (fun _ h => absurd h (Nat.not_lt_zero _)) | refine ⟨?_, ?_⟩ | exact Iff.rfl | exact congrArg (fun z => V.SV.one (V.At.val (Value.int .i64 z))) (by omega))) (by repeat' (first | exact rfl | exact Iff.rfl | exact trivial | exact (fun _ _ => rfl) | exact (fun _ h => absurd h (Nat.not_lt_zero _)) | refine ⟨?_, ?_⟩ | exact Iff.rfl | exact congrArg (fun z => V.SV.one (V.At.val (Value.int .i64 z))) (by omega)))
      · obtain rfl : k = r := by omega
        repeat' ((conv => whnf); first | refine V.NCond.mk ?_ | refine V.NIf.not_ ?_ | refine V.NIf.dec_ ?_ | refine V.NIf.no (by omega) ?_ | refine V.NIf.yes (by omega) ?_ | refine V.NIf.mk (fun _ => ?_) (fun _ => ?_) | refine V.NWrap.ok (by omega) (by omega) ?_ | refine V.NWrap.u64 (by omega) (by omega) ?_ | refine V.NLt.mk (by omega) ?_ | refine V.NBoth.mk ?_ ?_ | refine V.NTF.yes (by omega) ?_ | refine V.NTF.no (by omega) ?_ | refine V.NTF.dec ?_ | refine V.NDraw.q (by exact rfl) (by kernel_rfl) ?_ | refine V.NApp.one (by first | omega | (simp; omega)) (by first | omega | (simp; omega)) ?_ | (refine V.NDraw.any (by kernel_rfl) ?_) | fail)
        all_goals (conv => whnf)
        exact NRet.mk_ [some 2] rfl rfl ⟨⟨rfl, rfl, (rl k (by omega)).symm, fun k hk => rfl⟩, trivial⟩
def _root_.Go.Proofs.Ytcdlhfbpmpjfkaa.Sh.pE (t : Int) (ws : List Int) : Int := if Sh.chk ws ≠ 0 then Sh.chk ws else if t < 0 ∨ 1152921504606846976 < t then 3 else 0
def _root_.Go.Proofs.Ytcdlhfbpmpjfkaa.Sh.pL (t : Int) (ws : List Int) : List Int := if Sh.pE t ws = 0 then Sh.raw t ws else []
theorem _root_.Go.Proofs.Ytcdlhfbpmpjfkaa.Sh.pE_cases (t : Int) (ws : List Int) : (¬ Sh.chk ws = 0 ∧ Sh.pE t ws = Sh.chk ws ∧ Sh.pL t ws = []) ∨ (Sh.chk ws = 0 ∧ (t < 0 ∨ 1152921504606846976 < t) ∧ Sh.pE t ws = 3 ∧ Sh.pL t ws = []) ∨ (Sh.chk ws = 0 ∧ (0 ≤ t ∧ t ≤ 1152921504606846976) ∧ Sh.Oks ws ∧ Sh.pE t ws = 0 ∧ Sh.pL t ws = Sh.raw t ws) := by
  by_cases a : Sh.chk ws = 0
  · by_cases b : t < 0 ∨ 1152921504606846976 < t
    · have e : Sh.pE t ws = 3 := (if_neg (fun z => z a)).trans (if_pos b)
      exact .inr (.inl ⟨a, b, e, if_neg (by rw [e]; decide)⟩)
    · have e : Sh.pE t ws = 0 := (if_neg (fun z => z a)).trans (if_neg b)
      exact .inr (.inr ⟨a, by omega, Sh.chk_ok a, e, if_pos e⟩)
  · have e : Sh.pE t ws = Sh.chk ws := if_pos a
    exact .inl ⟨a, e, if_neg (by rw [e]; exact a)⟩
end Go.Proofs.Ytcdlhfbpmpjfkaa

/- Plain facts on prices: what units cost. -/
namespace Go.Proofs.Ytcdlhfbpmpjfkaa
set_option linter.unusedVariables false
namespace P
def Ok (p : Int) : Prop := 0 ≤ p ∧ p ≤ 1099511627776
instance (p : Int) : Decidable (Ok p) := by unfold Ok; exact inferInstance
def chk (p : Int) : Int := if Ok p then 0 else 3
theorem chk_yes {p : Int} (h : Ok p) : chk p = 0 := if_pos h
theorem chk_no {p : Int} (h : ¬ Ok p) : chk p = 3 := if_neg h
theorem pok {u p : Int} : M.POk u p 10000 ↔ M.Amt u ∧ Ok p := by
  unfold M.POk Ok
  constructor
  · intro h; exact ⟨h.1, h.2.1⟩
  · intro h; exact ⟨h.1, h.2, by omega⟩
/-- prices of all papers -/
def chks (l : List Int) : Int := if l.length ≠ 20 then 1 else if ∀ p ∈ l, Ok p then 0 else 3
theorem chks_ok {l : List Int} (h : chks l = 0) : l.length = 20 ∧ ∀ p ∈ l, Ok p := by
  unfold chks at h
  split at h
  · omega
  · split at h
    · exact ⟨by omega, by assumption⟩
    · omega
theorem chks_of {l : List Int} (h1 : l.length = 20) (h2 : ∀ p ∈ l, Ok p) : chks l = 0 := by
  unfold chks; rw [if_neg (by omega), if_pos h2]
theorem chks_bad {l : List Int} (h1 : l.length = 20) {p : Int} (hp : p ∈ l) (h2 : ¬ Ok p) : chks l = 3 := by
  unfold chks; rw [if_neg (by omega), if_neg fun q => h2 (q p hp)]
/-- the price of a paper -/
def pr (l : List Int) (pa : Int) : Int := l.getD (pa - 1).toNat default
theorem pr_ok {l : List Int} (h : chks l = 0) {pa : Int} (h1 : 1 ≤ pa ∧ pa ≤ 20) : Ok (pr l pa) := by
  obtain ⟨h2, h3⟩ := chks_ok h
  exact h3 _ (getD_mem (by omega))
/-- what units cost -/
def cost (u p : Int) : Int := u * p / 10000
theorem mul_bd {u p : Int} (hu : 0 ≤ u ∧ u ≤ 1073741824) (hp : Ok p) : 0 ≤ u * p ∧ u * p ≤ 1180591620717411303424 := by
  unfold Ok at hp
  have h1 := Int.mul_nonneg hu.1 hp.1
  have h2 := Int.mul_le_mul hu.2 hp.2 hp.1 (show (0 : Int) ≤ 1073741824 by omega)
  omega
theorem cost_bd {u p : Int} (hu : 0 ≤ u ∧ u ≤ 1073741824) (hp : Ok p) : 0 ≤ cost u p ∧ cost u p ≤ 118059162071741130 := by
  have := mul_bd hu hp
  unfold cost
  generalize u * p = x at *
  omega
theorem cost_mono {u v p : Int} (h : u ≤ v) (hp : Ok p) : cost u p ≤ cost v p := by
  have := Int.mul_le_mul_of_nonneg_right h hp.1
  unfold cost
  generalize u * p = x at *
  generalize v * p = y at *
  omega
theorem part_cost {u p : Int} (hu : 0 ≤ u ∧ u ≤ 1073741824) (hp : Ok p) : M.prE u p 10000 = 0 ∧ M.prQ u p 10000 = cost u p := by
  have h := cost_bd hu hp
  have k : M.POk u p 10000 := pok.2 ⟨by unfold M.Amt; omega, hp⟩
  have a : M.Amt (u * p / 10000) := by unfold M.Amt; unfold cost at h; omega
  exact ⟨(M.pr_3 k a).1, (M.pr_3 k a).2.1⟩
/-- part of an amount, by parts of 10000 -/
theorem rate_bd {n r : Int} (hn : 0 ≤ n) (hr : 0 ≤ r ∧ r ≤ 10000) : 0 ≤ n * r / 10000 ∧ n * r / 10000 ≤ n := by
  have h1 := Int.mul_nonneg hn hr.1
  have h2 := Int.mul_le_mul_of_nonneg_left hr.2 hn
  generalize n * r = x at *
  omega
theorem rate_mono {n m r : Int} (h : n ≤ m) (hr : 0 ≤ r) : n * r / 10000 ≤ m * r / 10000 := by
  have := Int.mul_le_mul_of_nonneg_right h hr
  generalize n * r = x at *
  generalize m * r = y at *
  omega
theorem part_rate {n r : Int} (hn : 0 ≤ n ∧ n ≤ 1152921504606846976) (hr : 0 ≤ r ∧ r ≤ 10000) : M.prE n r 10000 = 0 ∧ M.prQ n r 10000 = n * r / 10000 := by
  have h := rate_bd hn.1 hr
  have k : M.POk n r 10000 := ⟨by unfold M.Amt; omega, by omega, by omega⟩
  have a : M.Amt (n * r / 10000) := by unfold M.Amt; omega
  exact ⟨(M.pr_3 k a).1, (M.pr_3 k a).2.1⟩
end P
end Go.Proofs.Ytcdlhfbpmpjfkaa

/- What the functions on prices answer. -/
namespace Go.Proofs.Ytcdlhfbpmpjfkaa
open Go Go.RowKit V
set_option maxRecDepth 100000
set_option linter.unusedVariables false
theorem v_pcheck (p : Int) : V.Fn Try.prog 28 [] [.one (.val (.int .i64 p))] (.int .i64 (P.chk p)) := by
  refine V.Fn.mk_ V.Tok V.mixed Try.func28 rfl Try.ntmps28 (by kernel_rfl) rfl rfl ?_
  repeat' ((conv => whnf); first | refine V.NCond.mk ?_ | refine V.NIf.not_ ?_ | refine V.NIf.dec_ ?_ | refine V.NIf.no (by omega) ?_ | refine V.NIf.yes (by omega) ?_ | refine V.NIf.mk (fun _ => ?_) (fun _ => ?_) | refine V.NWrap.ok (by omega) (by omega) ?_ | refine V.NWrap.u64 (by omega) (by omega) ?_ | refine V.NLt.mk (by omega) ?_ | refine V.NBoth.mk ?_ ?_ | refine V.NTF.yes (by omega) ?_ | refine V.NTF.no (by omega) ?_ | refine V.NTF.dec ?_ | refine V.NDraw.q (by exact rfl) (by kernel_rfl) ?_ | refine V.NApp.one (by first | omega | (simp; omega)) (by first | omega | (simp; omega)) ?_ | (refine V.NDraw.any (by kernel_rfl) ?_) | fail)
  all_goals ((conv => whnf); refine congrArg _ ?_; unfold P.chk P.Ok; (repeat' split) <;> first | rfl | omega | (exfalso; omega) | (simp_all; done) | (simp_all; omega))
theorem v_rpcheck (p : Int) : V.Fn Try.prog 16 [] [.one (.val (.int .i64 p))] (.int .i64 (P.chk p)) := by
  refine V.Fn.mk_ V.Tok V.mixed Try.func16 rfl Try.ntmps16 (by kernel_rfl) rfl rfl ?_
  repeat' ((conv => whnf); first | refine V.NCond.mk ?_ | refine V.NIf.not_ ?_ | refine V.NIf.dec_ ?_ | refine V.NIf.no (by omega) ?_ | refine V.NIf.yes (by omega) ?_ | refine V.NIf.mk (fun _ => ?_) (fun _ => ?_) | refine V.NWrap.ok (by omega) (by omega) ?_ | refine V.NWrap.u64 (by omega) (by omega) ?_ | refine V.NLt.mk (by omega) ?_ | refine V.NBoth.mk ?_ ?_ | refine V.NTF.yes (by omega) ?_ | refine V.NTF.no (by omega) ?_ | refine V.NTF.dec ?_ | refine V.NDraw.q (by exact rfl) (by kernel_rfl) ?_ | refine V.NApp.one (by first | omega | (simp; omega)) (by first | omega | (simp; omega)) ?_ | (first | refine V.Fn.k0 (v_rbetween _ _ _) rfl ?_ | refine V.Fn.q0 (v_rbetween _ _ _) rfl ?_ | refine V.Fn.a0 (v_rbetween _ _ _) rfl ?_) | (refine V.NDraw.any (by kernel_rfl) ?_) | fail)
  all_goals ((conv => whnf); refine congrArg _ ?_; unfold P.chk P.Ok; (repeat' split) <;> first | rfl | omega | (exfalso; omega) | (simp_all; done) | (simp_all; omega))
theorem v_cost (u p : Int) : V.Fn Try.prog 30 [] [.one (.val (.int .i64 u)), .one (.val (.int .i64 p))] (.tuple #[.int .i64 (M.prQ u p 10000), .int .i64 (M.prR u p 10000), .int .i64 (M.prE u p 10000)]) := by
  have h1 : ¬ M.chk u = 0 → M.prE u p 10000 = 3 ∧ M.prQ u p 10000 = 0 ∧ M.prR u p 10000 = 0 ∧ M.chk u = 3 := fun h => by
    by_cases q : M.Amt u
    · exact absurd (M.chk_yes q) h
    · obtain ⟨a, b, c⟩ := M.pr_1 (a := u) (b := p) (c := 10000) (fun k => q k.1)
      exact ⟨a, b, c, M.chk_no q⟩
  have h2 : ¬ P.chk p = 0 → M.prE u p 10000 = 3 ∧ M.prQ u p 10000 = 0 ∧ M.prR u p 10000 = 0 ∧ P.chk p = 3 := fun h => by
    by_cases q : P.Ok p
    · exact absurd (P.chk_yes q) h
    · obtain ⟨a, b, c⟩ := M.pr_1 (a := u) (b := p) (c := 10000) (fun k => q k.2.1)
      exact ⟨a, b, c, P.chk_no q⟩
  refine V.Fn.mk_ V.Tok V.mixed Try.func30 rfl Try.ntmps30 (by kernel_rfl) rfl rfl ?_
  repeat' ((conv => whnf); first | refine V.NCond.mk ?_ | refine V.NIf.not_ ?_ | refine V.NIf.dec_ ?_ | refine V.NIf.no (by omega) ?_ | refine V.NIf.yes (by omega) ?_ | refine V.NIf.mk (fun _ => ?_) (fun _ => ?_) | refine V.NWrap.ok (by omega) (by omega) ?_ | refine V.NWrap.u64 (by omega) (by omega) ?_ | refine V.NLt.mk (by omega) ?_ | refine V.NBoth.mk ?_ ?_ | refine V.NTF.yes (by omega) ?_ | refine V.NTF.no (by omega) ?_ | refine V.NTF.dec ?_ | refine V.NDraw.q (by exact rfl) (by kernel_rfl) ?_ | refine V.NApp.one (by first | omega | (simp; omega)) (by first | omega | (simp; omega)) ?_ | (first | refine V.Fn.k0 (v_check _) rfl ?_ | refine V.Fn.q0 (v_check _) rfl ?_ | refine V.Fn.a0 (v_check _) rfl ?_) | (first | refine V.Fn.k0 (v_pcheck _) rfl ?_ | refine V.Fn.q0 (v_pcheck _) rfl ?_ | refine V.Fn.a0 (v_pcheck _) rfl ?_) | (first | refine V.Fn.k0 (v_part _ _ _) rfl ?_ | refine V.Fn.q0 (v_part _ _ _) rfl ?_ | refine V.Fn.a0 (v_part _ _ _) rfl ?_) | (refine V.NDraw.any (by kernel_rfl) ?_) | fail)
  all_goals (conv => whnf)
  · exact (by repeat' (first | exact rfl | exact Iff.rfl | exact trivial | exact (fun _ _ => rfl) | exact (fun _ h => absurd h (Nat.not_lt_zero _)) | refine ⟨?_, ?_⟩ | exact Iff.rfl | exact congrArg (fun z => V.SV.one (V.At.val (Value.int .i64 z))) (by omega)))
  · obtain ⟨a, b, c, d⟩ := h2 (by assumption)
    rw [a, b, c, d]; exact (by repeat' (first | exact rfl | exact Iff.rfl | exact trivial | exact (fun _ _ => rfl) | exact (fun _ h => absurd h (Nat.not_lt_zero _)) | refine ⟨?_, ?_⟩ | exact Iff.rfl | exact congrArg (fun z => V.SV.one (V.At.val (Value.int .i64 z))) (by omega)))
  · obtain ⟨a, b, c, d⟩ := h1 (by assumption)
    rw [a, b, c, d]; exact (by repeat' (first | exact rfl | exact Iff.rfl | exact trivial | exact (fun _ _ => rfl) | exact (fun _ h => absurd h (Nat.not_lt_zero _)) | refine ⟨?_, ?_⟩ | exact Iff.rfl | exact congrArg (fun z => V.SV.one (V.At.val (Value.int .i64 z))) (by omega)))
end Go.Proofs.Ytcdlhfbpmpjfkaa

/- Plain facts on offers. -/
namespace Go.Proofs.Ytcdlhfbpmpjfkaa
open Go
structure Of where
  pt : Int
  un : Int
  pr : Int
instance : Inhabited Of := ⟨⟨0, 0, 0⟩⟩
def encO (f : Of) : List Go.Value := [.int .i64 f.pt, .int .i64 f.un, .int .i64 f.pr]
end Go.Proofs.Ytcdlhfbpmpjfkaa

/- Plain facts on places put in an order. -/
namespace Go.Proofs.Ytcdlhfbpmpjfkaa
set_option linter.unusedVariables false
namespace Od
structure Sto (bf : Nat → Nat → Bool) : Prop where
  irr : ∀ i, bf i i = false
  tr : ∀ i j k, bf i j = true → bf j k = true → bf i k = true
  tot : ∀ i j, i ≠ j → bf i j = true ∨ bf j i = true
def le (bf : Nat → Nat → Bool) (i j : Nat) : Bool := !bf j i
def srt (bf : Nat → Nat → Bool) (n : Nat) : List Nat := (List.range n).mergeSort (le bf)
theorem srt_perm (bf : Nat → Nat → Bool) (n : Nat) : (srt bf n).Perm (List.range n) := List.mergeSort_perm _ _
theorem srt_len (bf : Nat → Nat → Bool) (n : Nat) : (srt bf n).length = n := by unfold srt; rw [List.length_mergeSort, List.length_range]
theorem srt_nd (bf : Nat → Nat → Bool) (n : Nat) : (srt bf n).Nodup := (srt_perm bf n).nodup_iff.2 List.nodup_range
theorem srt_lt {bf : Nat → Nat → Bool} {n p : Nat} (h : p ∈ srt bf n) : p < n := List.mem_range.1 ((srt_perm bf n).mem_iff.1 h)
theorem srt_mem {bf : Nat → Nat → Bool} {n p : Nat} (h : p < n) : p ∈ srt bf n := (srt_perm bf n).mem_iff.2 (List.mem_range.2 h)
theorem srt_at {bf : Nat → Nat → Bool} {n k : Nat} (h : k < n) : (srt bf n).getD k default < n := srt_lt (getD_mem (by rw [srt_len]; exact h))
section
variable {bf : Nat → Nat → Bool} (S : Sto bf)
include S
theorem le_trans : ∀ a b c : Nat, le bf a b = true → le bf b c = true → le bf a c = true := by
  intro a b c
  unfold le
  simp only [Bool.not_eq_true']
  intro h1 h2
  cases h : bf c a
  · rfl
  · exfalso
    by_cases e : b = c
    · subst e; rw [h] at h1; cases h1
    · rcases S.tot b c e with q | q
      · have := S.tr _ _ _ q h; rw [this] at h1; cases h1
      · rw [q] at h2; cases h2
theorem le_total : ∀ a b : Nat, (le bf a b || le bf b a) = true := by
  intro a b
  unfold le
  cases h1 : bf b a <;> cases h2 : bf a b <;> simp_all
  have := S.tr _ _ _ h1 h2
  rw [S.irr] at this; cases this
theorem srt_srt (n : Nat) : (srt bf n).Pairwise fun i j => le bf i j = true := List.pairwise_mergeSort (le_trans S) (le_total S) _
theorem srt_bf (n : Nat) : (srt bf n).Pairwise fun i j => bf i j = true := by
  refine List.pairwise_iff_getElem.2 fun i j hi hj hij => ?_
  have a := List.pairwise_iff_getElem.1 (srt_srt S n) i j hi hj hij
  have b := List.pairwise_iff_getElem.1 (srt_nd bf n) i j hi hj hij
  rcases S.tot _ _ b with q | q
  · exact q
  · unfold le at a; rw [q] at a; cases a
theorem srt_uniq {n : Nat} {l : List Nat} (p : l.Perm (List.range n)) (s : l.Pairwise fun i j => bf i j = true) : l = srt bf n := by
  refine List.Perm.eq_of_pairwise (le := fun i j => bf i j = true) (fun a b _ _ h1 h2 => ?_) s (srt_bf S n) (p.trans (srt_perm bf n).symm)
  have := S.tr _ _ _ h1 h2
  rw [S.irr] at this; cases this
/-- what stands ahead of a place -/
theorem ahead {n k : Nat} (h : k < n) : ((srt bf n).take k).Perm ((List.range n).filter fun q => bf q ((srt bf n).getD k default)) := by
  have hk : k < (srt bf n).length := by rw [srt_len]; exact h
  have e : (srt bf n).filter (fun q => bf q ((srt bf n).getD k default)) = (srt bf n).take k := by
    conv => lhs; arg 2; rw [← List.take_append_drop k (srt bf n)]
    rw [List.filter_append]
    have a : ((srt bf n).take k).filter (fun q => bf q ((srt bf n).getD k default)) = (srt bf n).take k := List.filter_eq_self.2 fun x hx => by
      obtain ⟨i, hi, rfl⟩ := List.getElem_of_mem hx
      have hi2 : i < k := by simp at hi; omega
      rw [List.getElem_take, getD_at hk]
      exact List.pairwise_iff_getElem.1 (srt_bf S n) i k (by omega) hk hi2
    have b : ((srt bf n).drop k).filter (fun q => bf q ((srt bf n).getD k default)) = [] := List.filter_eq_nil_iff.2 fun x hx => by
      obtain ⟨i, hi, rfl⟩ := List.getElem_of_mem hx
      have hki : k + i < (srt bf n).length := by rw [List.length_drop] at hi; omega
      rw [List.getElem_drop, getD_at hk]
      simp only [Bool.not_eq_true]
      by_cases z : i = 0
      · subst z; exact S.irr _
      · have q := List.pairwise_iff_getElem.1 (srt_bf S n) k (k + i) hk hki (by omega)
        cases r : bf (srt bf n)[k + i] (srt bf n)[k]
        · rfl
        · have := S.tr _ _ _ q r
          rw [S.irr] at this; cases this
    rw [a, b, List.append_nil]
  rw [← e]
  exact (srt_perm bf n).filter _
theorem bf_of {n i k : Nat} (h : i < k) (hk : k < n) : bf ((srt bf n).getD i default) ((srt bf n).getD k default) = true := by
  have h1 : i < (srt bf n).length := by rw [srt_len]; omega
  have h2 : k < (srt bf n).length := by rw [srt_len]; omega
  rw [getD_at h1, getD_at h2]
  exact List.pairwise_iff_getElem.1 (srt_bf S n) i k h1 h2 h
end
theorem inj_at {bf : Nat → Nat → Bool} {n i k : Nat} (hi : i < n) (hk : k < n) (e : (srt bf n).getD i default = (srt bf n).getD k default) : i = k := by
  rw [getD_at (by rw [srt_len]; exact hi), getD_at (by rw [srt_len]; exact hk)] at e
  exact (List.getElem_inj (srt_nd bf n)).1 e
/-- a place that stands in the order stands somewhere -/
theorem srt_ix {bf : Nat → Nat → Bool} {n p : Nat} (h : p < n) : ∃ k, k < n ∧ (srt bf n).getD k default = p := by
  obtain ⟨k, hk, e⟩ := List.getElem_of_mem (srt_mem (bf := bf) h)
  rw [srt_len] at hk
  exact ⟨k, hk, by rw [getD_at (by rw [srt_len]; exact hk)]; exact e⟩
theorem mem_take {bf : Nat → Nat → Bool} {n k j : Nat} (hk : k ≤ n) (hj : j < n) : (srt bf n).getD j default ∈ (srt bf n).take k ↔ j < k := by
  constructor
  · intro h
    obtain ⟨i, hi, e⟩ := List.getElem_of_mem h
    rw [List.length_take, srt_len] at hi
    rw [List.getElem_take, ← getD_at] at e
    have := inj_at (bf := bf) (n := n) (by omega) hj e
    omega
  · intro h
    rw [getD_at (by rw [srt_len]; exact hj)]
    exact List.mem_take_iff_getElem.2 ⟨j, by rw [srt_len]; omega, rfl⟩
theorem take_succ {bf : Nat → Nat → Bool} {n k : Nat} (h : k < n) : (srt bf n).take (k + 1) = (srt bf n).take k ++ [(srt bf n).getD k default] := by
  rw [List.take_succ_eq_append_getElem (by rw [srt_len]; exact h), getD_at (by rw [srt_len]; exact h)]
/-- by a key; of equal ones the first one -/
def tie (kb : Nat → Nat → Bool) (i k : Nat) : Bool := kb i k || (!kb k i && decide (i < k))
theorem sto_tie {kb : Nat → Nat → Bool} (h1 : ∀ i, kb i i = false) (h2 : ∀ i j k, kb i j = true → kb j k = true → kb i k = true) (h3 : ∀ i j k, kb i j = false → kb j k = false → kb i k = false) : Sto (tie kb) where
  irr i := by unfold tie; simp [h1]
  tr i j k := by
    unfold tie
    simp only [Bool.or_eq_true, Bool.and_eq_true, Bool.not_eq_true', decide_eq_true_eq]
    rintro (a | ⟨a, b⟩) (c | ⟨c, d⟩)
    · exact .inl (h2 _ _ _ a c)
    · cases q : kb i k
      · have := h3 _ _ _ q c; rw [this] at a; cases a
      · exact .inl rfl
    · cases q : kb i k
      · have := h3 _ _ _ a q; rw [this] at c; cases c
      · exact .inl rfl
    · exact .inr ⟨h3 _ _ _ c a, by omega⟩
  tot i j h := by
    unfold tie
    cases a : kb i j <;> cases b : kb j i <;> simp
    omega
end Od
end Go.Proofs.Ytcdlhfbpmpjfkaa

/- Plain facts on the parts of a total: one by one to whom most is left; seats: whoever stands for most. -/
namespace Go.Proofs.Ytcdlhfbpmpjfkaa
set_option linter.unusedVariables false
namespace Sh
/-- the first one of the greatest -/
def amx (l : List Int) : Nat → Nat
  | 0 => 0
  | k + 1 => if l.getD (amx l k) default < l.getD k default then k else amx l k
theorem amx_lt (l : List Int) : ∀ k, amx l k ≤ k - 1
  | 0 => Nat.le_refl _
  | k + 1 => by
    have := amx_lt l k
    simp only [amx]
    split <;> omega
theorem amx_spec (l : List Int) : ∀ k j, j < k → l.getD j default ≤ l.getD (amx l k) default ∧ (j < amx l k → l.getD j default < l.getD (amx l k) default)
  | 0, j, h => absurd h (by omega)
  | k + 1, j, h => by
    have b := amx_lt l k
    simp only [amx]
    by_cases q : j < k
    · have ih := amx_spec l k j q
      split
      · omega
      · exact ih
    · obtain rfl : j = k := by omega
      split
      · omega
      · omega
theorem amx_is {l : List Int} {n b : Nat} (hb : b < n) (h : ∀ j, j < n → l.getD j default ≤ l.getD b default ∧ (j < b → l.getD j default < l.getD b default)) : amx l n = b := by
  have s := amx_spec l n
  have a := amx_lt l n
  generalize amx l n = x at *
  have h1 := h x (by omega)
  have h2 := s b hb
  rcases Nat.lt_trichotomy x b with q | q | q
  · have := h1.2 q; omega
  · exact q
  · have := h2.2 q; omega
/-- the places, in their order -/
def pls (t : Int) (ws : List Int) : List Nat := (ord t ws).map fun q => q.pl.toNat
def lft (t : Int) (ws : List Int) (k : Nat) : List Int := ((pls t ws).take k).foldl (fun l p => l.set p (-1)) (lfs t ws)
theorem pls_len (t : Int) (ws : List Int) : (pls t ws).length = ws.length := by simp [pls, ord_len]
theorem pls_perm (t : Int) (ws : List Int) : (pls t ws).Perm (List.range ws.length) := by
  have := (ord_perm t ws).map fun q => q.pl.toNat
  refine this.trans (List.Perm.of_eq ?_)
  unfold qus
  rw [lfs_len, List.map_map]
  exact List.map_id _
theorem pls_nd (t : Int) (ws : List Int) : (pls t ws).Nodup := (pls_perm t ws).nodup_iff.2 List.nodup_range
theorem pls_lt {t : Int} {ws : List Int} {p : Nat} (h : p ∈ pls t ws) : p < ws.length := List.mem_range.1 ((pls_perm t ws).mem_iff.1 h)
theorem pls_all {t : Int} {ws : List Int} {p : Nat} (h : p < ws.length) : p ∈ pls t ws := (pls_perm t ws).mem_iff.2 (List.mem_range.2 h)
theorem ord_srt (t : Int) (ws : List Int) : (ord t ws).Pairwise fun x y => bf x y = true := List.pairwise_mergeSort bf_trans bf_total _
theorem pls_get {t : Int} {ws : List Int} {i : Nat} (h : i < ws.length) : (pls t ws).getD i 0 = ((ord t ws).getD i default).pl.toNat := getD_map (by rw [ord_len]; exact h)
/-- who stands ahead has more left, or as much and is first -/
theorem pls_ahead {t : Int} {ws : List Int} {i k : Nat} (h : i < k) (hk : k < ws.length) : (lfs t ws).getD ((pls t ws).getD k 0) default < (lfs t ws).getD ((pls t ws).getD i 0) default ∨ ((lfs t ws).getD ((pls t ws).getD k 0) default = (lfs t ws).getD ((pls t ws).getD i 0) default ∧ (pls t ws).getD i 0 < (pls t ws).getD k 0) := by
  have lo := ord_len t ws
  have s := List.pairwise_iff_getElem.1 (ord_srt t ws) i k (by omega) (by omega) h
  rw [← getD_at, ← getD_at] at s
  have p1 := ord_pl (getD_mem (l := ord t ws) (k := i) (by omega))
  have p2 := ord_pl (getD_mem (l := ord t ws) (k := k) (by omega))
  have e1 := pls_get (t := t) (ws := ws) (i := i) (by omega)
  have e2 := pls_get (t := t) (ws := ws) (i := k) (by omega)
  have ne : (pls t ws).getD i 0 ≠ (pls t ws).getD k 0 := by
    intro q
    have l := pls_len t ws
    have nd := List.pairwise_iff_getElem.1 (pls_nd t ws) i k (by omega) (by omega) h
    rw [List.getD_eq_getElem?_getD, List.getD_eq_getElem?_getD, List.getElem?_eq_getElem (by omega), List.getElem?_eq_getElem (by omega)] at q
    exact nd q
  rw [e1, e2] at *
  rw [lfs_at (by omega), lfs_at (by omega), ← p1.2.2, ← p2.2.2]
  unfold bf at s
  simp only [decide_eq_true_eq] at s
  omega
theorem take_mem {l : List Nat} {k i : Nat} (h : i < k) (hk : k ≤ l.length) : l.getD i 0 ∈ l.take k := by
  have e : (l.take k).getD i 0 = l.getD i 0 := by
    rw [List.getD_eq_getElem?_getD, List.getD_eq_getElem?_getD, List.getElem?_take, if_pos h]
  rw [← e]
  exact getD_mem (l := l.take k) (by rw [List.length_take]; omega)
theorem mem_take {l : List Nat} {k p : Nat} (h : p ∈ l.take k) : ∃ i, i < k ∧ i < l.length ∧ p = l.getD i 0 := by
  obtain ⟨i, hi, e⟩ := List.getElem_of_mem h
  rw [List.length_take] at hi
  refine ⟨i, by omega, by omega, ?_⟩
  rw [← e, List.getElem_take, List.getD_eq_getElem?_getD, List.getElem?_eq_getElem (by omega)]
  rfl
theorem take_snoc {l : List Nat} {k : Nat} (h : k < l.length) : l.take (k + 1) = l.take k ++ [l.getD k 0] := by
  rw [List.take_succ_eq_append_getElem h, List.getD_eq_getElem?_getD, List.getElem?_eq_getElem h]
  rfl
theorem not_take {l : List Nat} (nd : l.Nodup) {k i : Nat} (h : k ≤ i) (hi : i < l.length) : l.getD i 0 ∉ l.take k := by
  intro q
  obtain ⟨j, h1, h2, e⟩ := mem_take q
  have := List.pairwise_iff_getElem.1 nd j i h2 hi (by omega)
  rw [List.getD_eq_getElem?_getD, List.getD_eq_getElem?_getD, List.getElem?_eq_getElem hi, List.getElem?_eq_getElem h2] at e
  exact this e.symm
theorem lft_succ {t : Int} {ws : List Int} {k : Nat} (h : k < ws.length) : lft t ws (k + 1) = (lft t ws k).set ((pls t ws).getD k 0) (-1) := by
  unfold lft
  rw [take_snoc (by rw [pls_len]; exact h), List.foldl_append]
  rfl
theorem lft_len (t : Int) (ws : List Int) : ∀ k, k ≤ ws.length → (lft t ws k).length = ws.length
  | 0, _ => by simp [lft, lfs_len]
  | k + 1, h => by rw [lft_succ (by omega)]; simp [lft_len t ws k (by omega)]
theorem getD_set {l : List Int} {i j : Nat} {x : Int} (h : i < l.length) : (l.set i x).getD j default = if i = j then x else l.getD j default := by
  rw [List.getD_eq_getElem?_getD, List.getElem?_set]
  by_cases e : i = j
  · subst e; rw [if_pos rfl, if_pos rfl, if_pos h]; rfl
  · rw [if_neg e, if_neg e, List.getD_eq_getElem?_getD]
theorem lft_at {t : Int} {ws : List Int} {j : Nat} : ∀ k, k ≤ ws.length → (lft t ws k).getD j default = if j ∈ (pls t ws).take k then -1 else (lfs t ws).getD j default
  | 0, _ => by simp [lft]
  | k + 1, h => by
    have lp := pls_len t ws
    have hp := pls_lt (t := t) (ws := ws) (getD_mem (l := pls t ws) (k := k) (by omega))
    rw [lft_succ (by omega), getD_set (by rw [lft_len _ _ _ (by omega)]; exact hp), lft_at k (by omega), take_snoc (by omega)]
    simp only [List.mem_append, List.mem_singleton]
    by_cases e : (pls t ws).getD k 0 = j
    · rw [if_pos e, if_pos (.inr e.symm)]
    · rw [if_neg e]
      by_cases q : j ∈ (pls t ws).take k
      · rw [if_pos q, if_pos (.inl q)]
      · rw [if_neg q, if_neg (fun z => z.elim q fun y => e y.symm)]
theorem raws_at {t : Int} {ws : List Int} {j : Nat} : ∀ k, k ≤ ws.length → (raws t ws k).getD j default = (whs t ws).getD j default + if j ∈ (pls t ws).take k then 1 else 0
  | 0, _ => by simp [raws]
  | k + 1, h => by
    have lp := pls_len t ws
    have hp := pls_lt (t := t) (ws := ws) (getD_mem (l := pls t ws) (k := k) (by omega))
    have nt := not_take (pls_nd t ws) (Nat.le_refl k) (by omega)
    have ih := raws_at (t := t) (ws := ws) (j := j) k (by omega)
    rw [raws_succ (by omega), ← pls_get (by omega)]
    unfold inc1
    rw [getD_set (by rw [raws_len _ _ _ (by omega)]; exact hp), take_snoc (by omega)]
    simp only [List.mem_append, List.mem_singleton]
    by_cases e : (pls t ws).getD k 0 = j
    · rw [if_pos e, if_pos (.inr e.symm), e, ih, if_neg (by rw [← e]; exact nt)]
      omega
    · rw [if_neg e, ih]
      by_cases q : j ∈ (pls t ws).take k
      · rw [if_pos q, if_pos (.inl q)]
      · rw [if_neg q, if_neg (fun z => z.elim q fun y => e y.symm)]
/-- most is left to whom it goes next -/
theorem lft_next {t : Int} {ws : List Int} (ok : Oks ws) {k : Nat} (h : k < ws.length) : amx (lft t ws k) ws.length = (pls t ws).getD k 0 := by
  have lp := pls_len t ws
  have lb := lf_bd (t := t) ok
  have hp := pls_lt (t := t) (ws := ws) (getD_mem (l := pls t ws) (k := k) (by omega))
  refine amx_is hp fun j hj => ?_
  have nt := not_take (pls_nd t ws) (Nat.le_refl k) (by omega)
  have b0 := lb _ (getD_mem (l := lfs t ws) (k := (pls t ws).getD k 0) (by rw [lfs_len]; exact hp))
  rw [lft_at k (by omega), lft_at k (by omega), if_neg (c := (pls t ws).getD k 0 ∈ _) nt]
  by_cases q : j ∈ (pls t ws).take k
  · rw [if_pos q]; omega
  · rw [if_neg q]
    obtain ⟨i, hi, e⟩ := List.getElem_of_mem (pls_all (t := t) hj)
    have e : (pls t ws).getD i 0 = j := by rw [List.getD_eq_getElem?_getD, List.getElem?_eq_getElem hi]; exact e
    have hki : k ≤ i := Nat.not_lt.1 fun z => q (by rw [← e]; exact take_mem z (by omega))
    by_cases z : k = i
    · subst z; rw [e]; omega
    · have := pls_ahead (t := t) (ws := ws) (i := k) (k := i) (by omega) (by omega)
      rw [e] at this
      omega
theorem sm_set {l : List Int} {k : Nat} {x : Int} (h : k < l.length) : sm (l.set k x) = sm l - l.getD k default + x := by
  induction l generalizing k with
  | nil => simp at h
  | cons y r ih =>
    cases k with
    | zero => simp only [List.set_cons_zero, sm, List.getD_cons_zero]; omega
    | succ k =>
      simp only [List.set_cons_succ, sm, List.getD_cons_succ]
      rw [ih (by simpa using h)]; omega
theorem raws_sum {t : Int} {ws : List Int} : ∀ k, k ≤ ws.length → sm (raws t ws k) = sm (whs t ws) + k
  | 0, _ => by simp [raws]
  | k + 1, h => by
    have lp := pls_len t ws
    have hp := pls_lt (t := t) (ws := ws) (getD_mem (l := pls t ws) (k := k) (by omega))
    rw [raws_succ (by omega), ← pls_get (by omega)]
    unfold inc1
    rw [sm_set (by rw [raws_len _ _ _ (by omega)]; exact hp), raws_sum k (by omega)]
    omega
/-! seats -/
theorem frac {a b c x y z : Int} (hy : 0 < y) (hx : 0 < x) (hz : 0 < z) (h1 : a * y ≤ b * x) (h2 : b * z ≤ c * y) : a * z ≤ c * x := by
  refine Int.le_of_mul_le_mul_right (a := y) ?_ hy
  have e1 := Int.mul_le_mul_of_nonneg_right h1 (Int.le_of_lt hz)
  have e2 := Int.mul_le_mul_of_nonneg_right h2 (Int.le_of_lt hx)
  grind
theorem frac_lt {a b c x y z : Int} (hy : 0 < y) (hx : 0 < x) (hz : 0 < z) (h1 : a * y ≤ b * x) (h2 : b * z < c * y) : a * z < c * x := by
  refine Int.lt_of_mul_lt_mul_right (a := y) ?_ (Int.le_of_lt hy)
  have e1 := Int.mul_le_mul_of_nonneg_right h1 (Int.le_of_lt hz)
  have e2 := Int.mul_lt_mul_of_pos_right h2 hx
  grind
theorem bst_spec {kind : Int} {ws out : List Int} (hd : ∀ j, j < ws.length → 0 < dv kind (out.getD j default)) : ∀ k, k ≤ ws.length → ∀ j, j < k →
    ws.getD j default * dv kind (out.getD (bst kind ws out k) default) ≤ ws.getD (bst kind ws out k) default * dv kind (out.getD j default) ∧
    (j < bst kind ws out k → ws.getD j default * dv kind (out.getD (bst kind ws out k) default) < ws.getD (bst kind ws out k) default * dv kind (out.getD j default))
  | 0, _, j, h => absurd h (by omega)
  | k + 1, hk, j, h => by
    have b := bst_lt kind ws out k
    simp only [bst]
    by_cases q : j < k
    · have ih := bst_spec hd k (by omega) j q
      generalize bst kind ws out k = x at *
      have d1 := hd j (by omega)
      have d2 := hd k (by omega)
      have d3 := hd x (by omega)
      split
      · rename_i hlt
        have := frac_lt d3 d1 d2 ih.1 hlt
        exact ⟨Int.le_of_lt this, fun _ => this⟩
      · exact ih
    · obtain rfl : j = k := by omega
      split
      · exact ⟨Int.le_refl _, fun z => absurd z (by omega)⟩
      · exact ⟨by omega, fun z => absurd z (by omega)⟩
theorem best_spec {kind : Int} {ws out : List Int} (hd : ∀ j, j < ws.length → 0 < dv kind (out.getD j default)) {j : Nat} (h : j < ws.length) :
    ws.getD j default * dv kind (out.getD (best kind ws out) default) ≤ ws.getD (best kind ws out) default * dv kind (out.getD j default) ∧
    (j < best kind ws out → ws.getD j default * dv kind (out.getD (best kind ws out) default) < ws.getD (best kind ws out) default * dv kind (out.getD j default)) := bst_spec hd _ (Nat.le_refl _) j h
/-- whoever none stands for more than, nor for as much ahead of it -/
def win (kind : Int) (ws out : List Int) (i k : Nat) : Prop := ws.getD k default * dv kind (out.getD i default) < ws.getD i default * dv kind (out.getD k default) ∨ (ws.getD i default * dv kind (out.getD k default) = ws.getD k default * dv kind (out.getD i default) ∧ i ≤ k)
theorem win_iff {kind : Int} {ws out : List Int} (h0 : 0 < ws.length) (hd : ∀ j, j < ws.length → 0 < dv kind (out.getD j default)) {i : Nat} (hi : i < ws.length) : (∀ k, k < ws.length → win kind ws out i k) ↔ i = best kind ws out := by
  have bl := best_lt (kind := kind) (out := out) h0
  have s := fun j hj => best_spec hd (j := j) hj
  generalize best kind ws out = b at *
  unfold win
  constructor
  · intro h
    have h1 := h b bl
    have h2 := s i hi
    rcases Nat.lt_trichotomy i b with q | q | q
    · have := h2.2 q; omega
    · exact q
    · omega
  · rintro rfl k hk
    have h2 := s k hk
    by_cases q : k < i
    · have := h2.2 q; omega
    · omega
end Sh
end Go.Proofs.Ytcdlhfbpmpjfkaa

/- Plain laws of shares: the quota, who weighs more, seats one by one. -/
namespace Go.Proofs.Ytcdlhfbpmpjfkaa
set_option linter.unusedVariables false
namespace Sh
def got (t : Int) (ws : List Int) (j : Nat) : Prop := j ∈ (pls t ws).take (rst t ws).toNat
theorem raw_len {t : Int} {ws : List Int} (ok : Oks ws) : (raw t ws).length = ws.length := raws_len t ws _ (by have := rst_bd (t := t) ok; omega)
theorem raw_in {t : Int} {ws : List Int} (ok : Oks ws) {j : Nat} (h : got t ws j) : (raw t ws).getD j default = (whs t ws).getD j default + 1 := (raws_at _ (by have := rst_bd (t := t) ok; omega)).trans (by unfold got at h; rw [if_pos h])
theorem raw_out {t : Int} {ws : List Int} (ok : Oks ws) {j : Nat} (h : ¬ got t ws j) : (raw t ws).getD j default = (whs t ws).getD j default := (raws_at _ (by have := rst_bd (t := t) ok; omega)).trans (by unfold got at h; rw [if_neg h]; omega)
theorem raw_sum {t : Int} {ws : List Int} (ok : Oks ws) : sm (raw t ws) = t := by
  have b := rst_bd (t := t) ok
  have := raws_sum (t := t) (ws := ws) (rst t ws).toNat (by omega)
  have e : rst t ws = t - sm (whs t ws) := rfl
  unfold raw
  omega
theorem sm_perm {l m : List Int} (h : l.Perm m) : sm l = sm m := by
  induction h with
  | nil => rfl
  | cons x _ ih => simp only [sm, ih]
  | swap x y l => simp only [sm]; omega
  | trans _ _ h1 h2 => exact h1.trans h2
theorem got_up {t : Int} {ws : List Int} {i k : Nat} (hi : i < ws.length) (g : got t ws k) (h : (lfs t ws).getD k default < (lfs t ws).getD i default ∨ ((lfs t ws).getD k default = (lfs t ws).getD i default ∧ i < k)) : got t ws i := by
  obtain ⟨a, ha, ha2, ea⟩ := mem_take g
  obtain ⟨b, hb, eb⟩ := List.getElem_of_mem (pls_all (t := t) hi)
  have eb : (pls t ws).getD b 0 = i := by rw [List.getD_eq_getElem?_getD, List.getElem?_eq_getElem hb]; exact eb
  have lp := pls_len t ws
  by_cases q : b < (rst t ws).toNat
  · unfold got
    rw [← eb]
    rcases Nat.lt_or_ge (pls t ws).length (rst t ws).toNat with z | z
    · rw [List.take_of_length_le (by omega)]
      exact getD_mem (l := pls t ws) hb
    · exact take_mem q z
  · have := pls_ahead (t := t) (ws := ws) (i := a) (k := b) (by omega) (by omega)
    rw [eb, ← ea] at this
    omega
theorem got_pos {t : Int} {ws : List Int} (ok : Oks ws) {j : Nat} (g : got t ws j) : 0 < (lfs t ws).getD j default := by
  obtain ⟨a, ha, ha2, ea⟩ := mem_take g
  have lp := pls_len t ws
  have lb := lf_bd (t := t) ok
  have e := rest_eq (t := t) ok
  have b := rst_bd (t := t) ok
  have p := ok.sum
  refine Int.not_le.1 fun q => ?_
  have pm : ((pls t ws).map fun p => (lfs t ws).getD p default).Perm (lfs t ws) := by
    refine ((pls_perm t ws).map _).trans (List.Perm.of_eq ?_)
    refine List.ext_getElem (by simp [lfs_len]) fun i h1 h2 => ?_
    simp only [List.getElem_map, List.getElem_range]
    exact getD_at h2
  have e2 := sm_perm pm
  generalize hG : ((pls t ws).map fun p => (lfs t ws).getD p default) = G at *
  have gl : G.length = ws.length := by rw [← hG, List.length_map, lp]
  have gm : ∀ x ∈ G, 0 ≤ x ∧ x ≤ sm ws - 1 := fun x hx => lb x (pm.mem_iff.1 hx)
  have sp : sm G = sm (G.take a) + sm (G.drop a) := by rw [← sm_app, List.take_append_drop]
  have b1 := sm_bd (l := G.take a) (B := sm ws - 1) fun x hx => gm x (List.take_subset _ _ hx)
  have b2 := sm_bd (l := G.drop a) (B := 0) fun x hx => by
    obtain ⟨i, hi, ex⟩ := List.getElem_of_mem hx
    rw [List.length_drop] at hi
    refine ⟨(gm x (List.drop_subset _ _ hx)).1, ?_⟩
    rw [← ex, List.getElem_drop]
    have eg : G[a + i]'(by omega) = (lfs t ws).getD ((pls t ws).getD (a + i) 0) default := by
      rw [List.getD_eq_getElem?_getD (l := pls t ws), List.getElem?_eq_getElem (by omega)]
      simp only [← hG, List.getElem_map, Option.getD_some]
    rw [eg]
    by_cases z : i = 0
    · subst z; rw [Nat.add_zero, ← ea]; exact q
    · have := pls_ahead (t := t) (ws := ws) (i := a) (k := a + i) (by omega) (by omega)
      rw [← ea] at this
      omega
  rw [List.length_take, Nat.min_eq_left (by omega)] at b1
  have h3 : rst t ws * sm ws ≤ (sm ws - 1) * (a : Int) := by omega
  have h4 : ((a : Int) + 1) * sm ws ≤ rst t ws * sm ws := Int.mul_le_mul_of_nonneg_right (by omega) (by omega)
  have h5 : ((a : Int) + 1) * sm ws = (a : Int) * sm ws + sm ws := by rw [Int.add_mul]; omega
  have h6 : (sm ws - 1) * (a : Int) = (a : Int) * sm ws - a := by rw [Int.sub_mul, Int.mul_comm (sm ws)]; omega
  omega
theorem raw_bd {t : Int} {ws : List Int} (ok : Oks ws) (ht : 0 ≤ t) {j : Nat} (hj : j < ws.length) : 0 ≤ (raw t ws).getD j default ∧ (raw t ws).getD j default ≤ t := by
  have b := rst_bd (t := t) ok
  have h := raws_bd (t := t) ok ht (rst t ws).toNat (by omega)
  have m := getD_mem (l := raw t ws) (k := j) (by rw [raw_len ok]; exact hj)
  have g := sm_ge (l := raw t ws) (fun x hx => (h x hx).1) m
  rw [raw_sum ok] at g
  exact ⟨(h _ m).1, g⟩
theorem quota {t : Int} {ws : List Int} (ok : Oks ws) {j : Nat} (hj : j < ws.length) : t * ws.getD j default - sm ws < (raw t ws).getD j default * sm ws ∧ (raw t ws).getD j default * sm ws < t * ws.getD j default + sm ws := by
  have p := ok.sum
  have e := Int.mul_ediv_add_emod (t * ws.getD j default) (sm ws)
  have r0 := Int.emod_nonneg (t * ws.getD j default) (b := sm ws) (by omega)
  have r1 := Int.emod_lt_of_pos (t * ws.getD j default) (b := sm ws) (by omega)
  have eL := lfs_at (t := t) hj
  rw [Int.mul_comm (sm ws)] at e
  by_cases g : got t ws j
  · have gp := got_pos ok g
    rw [raw_in ok g, whs_at hj, Int.add_mul]
    omega
  · rw [raw_out ok g, whs_at hj]
    omega
theorem none {t : Int} {ws : List Int} (ok : Oks ws) {j : Nat} (hj : j < ws.length) (h : ws.getD j default = 0) : (raw t ws).getD j default = 0 := by
  have eL := lfs_at (t := t) hj
  rw [h, Int.mul_zero, Int.zero_emod] at eL
  have g : ¬ got t ws j := fun g => by have := got_pos ok g; omega
  rw [raw_out ok g, whs_at hj, h, Int.mul_zero, Int.zero_ediv]
theorem more {t : Int} {ws : List Int} (ok : Oks ws) (ht : 0 ≤ t) {i k : Nat} (hi : i < ws.length) (hk : k < ws.length) : ws.getD i default < ws.getD k default ∨ (raw t ws).getD k default ≤ (raw t ws).getD i default ∨ (ws.getD i default = ws.getD k default ∧ (raw t ws).getD i default + 1 = (raw t ws).getD k default ∧ k < i) := by
  by_cases hw : ws.getD i default < ws.getD k default
  · exact .inl hw
  refine .inr ?_
  have p := ok.sum
  have eLi := lfs_at (t := t) hi
  have eLk := lfs_at (t := t) hk
  have ei := Int.mul_ediv_add_emod (t * ws.getD i default) (sm ws)
  have ek := Int.mul_ediv_add_emod (t * ws.getD k default) (sm ws)
  have m : t * ws.getD k default ≤ t * ws.getD i default := Int.mul_le_mul_of_nonneg_left (by omega) ht
  have q := Int.ediv_le_ediv (c := sm ws) (by omega) m
  have gi := whs_at (t := t) hi
  have gk := whs_at (t := t) hk
  by_cases a : got t ws k
  · have ap := got_pos ok a
    rw [raw_in ok a]
    by_cases b : got t ws i
    · rw [raw_in ok b]; left; omega
    · rw [raw_out ok b]
      by_cases z : t * ws.getD k default / sm ws = t * ws.getD i default / sm ws
      · rw [z] at ek
        have nb : ¬ ((lfs t ws).getD k default < (lfs t ws).getD i default ∨ ((lfs t ws).getD k default = (lfs t ws).getD i default ∧ i < k)) := fun h => b (got_up hi a h)
        have ne : i ≠ k := fun h => by subst h; exact b a
        have et : t * ws.getD i default = t * ws.getD k default := by omega
        have t0 : t ≠ 0 := fun h => by subst h; rw [Int.zero_mul, Int.zero_emod] at eLk; omega
        right
        exact ⟨Int.eq_of_mul_eq_mul_left t0 et, by omega, by omega⟩
      · left; omega
  · rw [raw_out ok a]
    left
    by_cases b : got t ws i
    · rw [raw_in ok b]; omega
    · rw [raw_out ok b]; omega
/-! seats -/
theorem seats_sum (kind : Int) (ws : List Int) (h : 0 < ws.length) : ∀ s : Nat, sm (seats kind ws s) = s
  | 0 => by
    unfold seats
    generalize ws.length = n
    induction n with
    | zero => rfl
    | succ n ih => simp only [List.replicate_succ, sm, ih]; omega
  | s + 1 => by
    have b := best_lt (kind := kind) (out := seats kind ws s) h
    unfold seats step
    rw [sm_set (by rw [seats_len]; exact b), seats_sum kind ws h s]
    omega
theorem step_at {kind : Int} {ws out : List Int} (h : out.length = ws.length) (h0 : 0 < ws.length) (j : Nat) : (step kind ws out).getD j default = if best kind ws out = j then out.getD j default + 1 else out.getD j default := by
  unfold step
  rw [getD_set (by rw [h]; exact best_lt h0)]
  by_cases e : best kind ws out = j
  · rw [if_pos e, if_pos e, e]
  · rw [if_neg e, if_neg e]
theorem dv_mono {kind a b : Int} (h : a ≤ b) : dv kind a ≤ dv kind b := by unfold dv; split <;> omega
theorem dv_pos {kind a : Int} (h : 0 ≤ a) : 0 < dv kind a := by unfold dv; split <;> omega
theorem least {kind : Int} {ws : List Int} (h0 : 0 < ws.length) (hw : ∀ w ∈ ws, 0 ≤ w) : ∀ (s : Nat) (i k : Nat), i < ws.length → k < ws.length → 0 < (seats kind ws s).getD i default →
    ws.getD k default * dv kind ((seats kind ws s).getD i default - 1) ≤ ws.getD i default * dv kind ((seats kind ws s).getD k default)
  | 0, i, k, hi, hk, h => by
    exfalso
    have := getD_mem (l := seats kind ws 0) (k := i) (by rw [seats_len]; exact hi)
    unfold seats at this
    have := List.eq_of_mem_replicate this
    unfold seats at h
    omega
  | s + 1, i, k, hi, hk, h => by
    have ih := least h0 hw s (kind := kind)
    have bd := seats_bd kind ws h0 s
    have ln := seats_len kind ws s
    have st := step_at (kind := kind) ln h0
    have hd : ∀ j, j < ws.length → 0 < dv kind ((seats kind ws s).getD j default) := fun j hj => dv_pos (bd _ (getD_mem (by omega))).1
    have sp := fun j hj => (best_spec hd (j := j) hj).1
    have wi := hw _ (getD_mem (l := ws) (k := i) hi)
    have up : (seats kind ws s).getD k default ≤ (seats kind ws (s + 1)).getD k default := by
      show _ ≤ (step kind ws (seats kind ws s)).getD k default
      rw [st k]; split <;> omega
    have mk : ws.getD i default * dv kind ((seats kind ws s).getD k default) ≤ ws.getD i default * dv kind ((seats kind ws (s + 1)).getD k default) := Int.mul_le_mul_of_nonneg_left (dv_mono up) wi
    have ei : (seats kind ws (s + 1)).getD i default = if best kind ws (seats kind ws s) = i then (seats kind ws s).getD i default + 1 else (seats kind ws s).getD i default := st i
    by_cases e : best kind ws (seats kind ws s) = i
    · rw [if_pos e] at ei
      have := sp k hk
      rw [e] at this
      rw [ei, Int.add_sub_cancel]
      exact Int.le_trans this mk
    · rw [if_neg e] at ei
      rw [ei] at h ⊢
      exact Int.le_trans (ih i k hi hk h) mk
theorem times {kind b : Int} {ws : List Int} (hb : 0 < b) : ∀ s, seats kind (ws.map fun w => b * w) s = seats kind ws s
  | 0 => by simp [seats]
  | s + 1 => by
    have q : ∀ (out : List Int) k, k ≤ ws.length → bst kind (ws.map fun w => b * w) out k = bst kind ws out k := by
      intro out k
      induction k with
      | zero => intro _; rfl
      | succ k ih =>
        intro hk
        have bl := bst_lt kind ws out k
        simp only [bst]
        rw [ih (by omega)]
        generalize bst kind ws out k = x at *
        rw [getD_map (f := fun w => b * w) (l := ws) (k := x) (by omega), getD_map (f := fun w => b * w) (l := ws) (k := k) (by omega), Int.mul_assoc, Int.mul_assoc]
        by_cases h : ws.getD x default * dv kind (out.getD k default) < ws.getD k default * dv kind (out.getD x default)
        · rw [if_pos h, if_pos (Int.mul_lt_mul_of_pos_left h hb)]
        · rw [if_neg h, if_neg (fun z => h (Int.lt_of_mul_lt_mul_left z (by omega)))]
    unfold seats step best
    rw [times hb s, List.length_map, q _ _ (Nat.le_refl _)]
theorem rep_at {n k : Nat} {w : Int} (h : k < n) : (List.replicate n w).getD k default = w := by
  rw [getD_at (by simpa using h), List.getElem_replicate]
theorem even_seats {kind w : Int} {n : Nat} (hn : 0 < n) (hw : 0 < w) : ∀ s i j, i < j → j < n → (seats kind (List.replicate n w) s).getD j default ≤ (seats kind (List.replicate n w) s).getD i default ∧ (seats kind (List.replicate n w) s).getD i default ≤ (seats kind (List.replicate n w) s).getD j default + 1
  | 0, i, j, h, hj => by
    unfold seats
    rw [List.length_replicate, rep_at (by omega), rep_at (by omega)]
    omega
  | s + 1, i, j, h, hj => by
    have ih := even_seats (kind := kind) hn hw s
    have h0 : 0 < (List.replicate n w).length := by simpa using hn
    have bd := seats_bd kind (List.replicate n w) h0 s
    have ln := seats_len kind (List.replicate n w) s
    have st := step_at (kind := kind) ln h0
    have lr : (List.replicate n w).length = n := List.length_replicate
    have bl := best_lt (kind := kind) (out := seats kind (List.replicate n w) s) h0
    have hd : ∀ j, j < (List.replicate n w).length → 0 < dv kind ((seats kind (List.replicate n w) s).getD j default) := fun j hj => dv_pos (bd _ (getD_mem (by omega))).1
    have sp := fun j hj => best_spec hd (j := j) hj
    show (step kind _ (seats kind _ s)).getD j default ≤ (step kind _ (seats kind _ s)).getD i default ∧ (step kind _ (seats kind _ s)).getD i default ≤ (step kind _ (seats kind _ s)).getD j default + 1
    rw [st j, st i]
    have dl : ∀ x y, dv kind x < dv kind y → x < y := fun x y h => Int.not_le.1 fun z => by have := dv_mono (kind := kind) z; omega
    have dle : ∀ x y, dv kind x ≤ dv kind y → x ≤ y := fun x y h => by unfold dv at h; split at h <;> omega
    have s1 := fun j (hj : j < n) => sp j (by omega)
    generalize best kind (List.replicate n w) (seats kind (List.replicate n w) s) = B at *
    generalize seats kind (List.replicate n w) s = o at *
    have s2 : ∀ j, j < n → o.getD B default ≤ o.getD j default ∧ (j < B → o.getD B default < o.getD j default) := fun j hj => by
      have := s1 j hj
      rw [rep_at hj, rep_at (by omega)] at this
      exact ⟨dle _ _ (Int.le_of_mul_le_mul_left this.1 hw), fun z => dl _ _ (Int.lt_of_mul_lt_mul_left (this.2 z) (by omega))⟩
    have h1 := ih i j h hj
    by_cases e1 : B = i
    · have := s2 j hj
      subst e1
      rw [if_pos rfl, if_neg (by omega)]
      omega
    · by_cases e2 : B = j
      · have := (s2 i (by omega)).2 (by omega)
        subst e2
        rw [if_pos rfl, if_neg e1]
        omega
      · rw [if_neg e1, if_neg e2]; exact h1
theorem even_raw {t w : Int} {n : Nat} (ok : Oks (List.replicate n w)) {i j : Nat} (h : i < j) (hj : j < n) : (raw t (List.replicate n w)).getD j default ≤ (raw t (List.replicate n w)).getD i default ∧ (raw t (List.replicate n w)).getD i default ≤ (raw t (List.replicate n w)).getD j default + 1 := by
  have lr : (List.replicate n w).length = n := List.length_replicate
  have ei := whs_at (t := t) (ws := List.replicate n w) (k := i) (by omega)
  have ej := whs_at (t := t) (ws := List.replicate n w) (k := j) (by omega)
  have li := lfs_at (t := t) (ws := List.replicate n w) (k := i) (by omega)
  have lj := lfs_at (t := t) (ws := List.replicate n w) (k := j) (by omega)
  rw [rep_at (by omega)] at ei ej li lj
  by_cases a : got t (List.replicate n w) j
  · have b := got_up (i := i) (by omega) a (.inr ⟨by rw [li, lj], h⟩)
    rw [raw_in ok a, raw_in ok b, ei, ej]
    omega
  · rw [raw_out ok a]
    by_cases b : got t (List.replicate n w) i
    · rw [raw_in ok b, ei, ej]; omega
    · rw [raw_out ok b, ei, ej]; omega
end Sh
end Go.Proofs.Ytcdlhfbpmpjfkaa

/- Plain facts on taking from places, in an order, until there is enough. -/
namespace Go.Proofs.Ytcdlhfbpmpjfkaa
set_option linter.unusedVariables false
namespace Gr
open Od
/-- what stands ahead of a place, together -/
def ahd (u : Nat → Int) (bf : Nat → Nat → Bool) (n i : Nat) : Int := Sh.sm (((List.range n).filter fun q => bf q i).map u)
/-- what is taken from a place -/
def tk (u : Nat → Int) (bf : Nat → Nat → Bool) (n : Nat) (m : Int) (i : Nat) : Int := if m - ahd u bf n i < 0 then 0 else if u i < m - ahd u bf n i then u i else m - ahd u bf n i
/-- what of m is wanted yet, behind k places -/
def lf (u : Nat → Int) (bf : Nat → Nat → Bool) (n : Nat) (m : Int) (k : Nat) : Int := if m - Sh.sm (((srt bf n).take k).map u) < 0 then 0 else m - Sh.sm (((srt bf n).take k).map u)
def outs (u : Nat → Int) (bf : Nat → Nat → Bool) (n : Nat) (m : Int) (k : Nat) : List Int := (List.range n).map fun q => if q ∈ (srt bf n).take k then tk u bf n m q else 0
def all (u : Nat → Int) (bf : Nat → Nat → Bool) (n : Nat) (m : Int) : List Int := (List.range n).map (tk u bf n m)
section
variable {u : Nat → Int} {bf : Nat → Nat → Bool} {n : Nat} {m : Int}
theorem ahd_at (S : Sto bf) {k : Nat} (h : k < n) : ahd u bf n ((srt bf n).getD k default) = Sh.sm (((srt bf n).take k).map u) := (Sh.sm_perm ((Od.ahead S h).map u)).symm
theorem sum_succ {k : Nat} (h : k < n) : Sh.sm (((srt bf n).take (k + 1)).map u) = Sh.sm (((srt bf n).take k).map u) + u ((srt bf n).getD k default) := by
  rw [take_succ h, List.map_append, Sh.sm_app]; simp [Sh.sm]
theorem lf_nn (k : Nat) : 0 ≤ lf u bf n m k := by unfold lf; split <;> omega
theorem lf_0 (h : 0 ≤ m) : lf u bf n m 0 = m := by unfold lf; simp [Sh.sm]; omega
theorem sum_nn (hu : ∀ i, i < n → 0 ≤ u i) : ∀ k, k ≤ n → 0 ≤ Sh.sm (((srt bf n).take k).map u)
  | 0, _ => by simp [Sh.sm]
  | k + 1, h => by
    rw [sum_succ (by omega)]
    have := sum_nn hu k (by omega)
    have := hu _ (srt_at (bf := bf) (n := n) (k := k) (by omega))
    omega
theorem lf_le (hm : 0 ≤ m) (hu : ∀ i, i < n → 0 ≤ u i) {k : Nat} (hk : k ≤ n) : lf u bf n m k ≤ m := by
  have := sum_nn (bf := bf) hu k hk
  unfold lf; split <;> omega
theorem tk_at (S : Sto bf) {k : Nat} (h : k < n) (hu : ∀ i, i < n → 0 ≤ u i) : tk u bf n m ((srt bf n).getD k default) = if u ((srt bf n).getD k default) < lf u bf n m k then u ((srt bf n).getD k default) else lf u bf n m k := by
  have a := hu _ (srt_at (bf := bf) (n := n) (k := k) h)
  unfold tk
  rw [ahd_at S h]
  unfold lf
  generalize Sh.sm (((srt bf n).take k).map u) = s at *
  generalize u ((srt bf n).getD k default) = x at *
  (repeat' split) <;> omega
theorem lf_succ (S : Sto bf) {k : Nat} (h : k < n) (hu : ∀ i, i < n → 0 ≤ u i) : lf u bf n m (k + 1) = lf u bf n m k - tk u bf n m ((srt bf n).getD k default) := by
  have a := hu _ (srt_at (bf := bf) (n := n) (k := k) h)
  rw [tk_at S h hu]
  unfold lf
  rw [sum_succ h]
  generalize Sh.sm (((srt bf n).take k).map u) = s at *
  generalize u ((srt bf n).getD k default) = x at *
  (repeat' split) <;> omega
theorem tk_bd (hu : ∀ i, i < n → 0 ≤ u i) {i : Nat} (h : i < n) : 0 ≤ tk u bf n m i ∧ tk u bf n m i ≤ u i := by
  have := hu i h
  unfold tk
  (repeat' split) <;> omega
theorem outs_len (k : Nat) : (outs u bf n m k).length = n := by simp [outs]
theorem outs_0 : outs u bf n m 0 = List.replicate n 0 := by
  unfold outs
  simp only [List.take_zero, List.not_mem_nil, if_false]
  exact List.map_const' ..|>.trans (by rw [List.length_range])
theorem outs_at {k q : Nat} (h : q < n) : (outs u bf n m k).getD q default = if q ∈ (srt bf n).take k then tk u bf n m q else 0 := by
  rw [getD_at (by rw [outs_len]; exact h)]; simp [outs]
theorem outs_n : outs u bf n m n = all u bf n m := by
  unfold outs all
  refine List.map_congr_left fun q hq => ?_
  rw [if_pos]
  rw [List.take_of_length_le (by rw [srt_len]; exact Nat.le_refl _)]
  exact srt_mem (List.mem_range.1 hq)
theorem outs_set {k : Nat} (h : k < n) : (outs u bf n m k).set ((srt bf n).getD k default) (tk u bf n m ((srt bf n).getD k default)) = outs u bf n m (k + 1) := by
  refine List.ext_getElem (by rw [List.length_set, outs_len, outs_len]) fun i h1 h2 => ?_
  rw [outs_len] at h2
  rw [List.getElem_set]
  simp only [outs, List.getElem_map, List.getElem_range]
  rw [take_succ h]
  by_cases e : (srt bf n).getD k default = i
  · rw [if_pos e, ← e, if_pos (by simp)]
  · rw [if_neg e]
    have : i ∈ (srt bf n).take k ++ [(srt bf n).getD k default] ↔ i ∈ (srt bf n).take k := by
      simp only [List.mem_append, List.mem_singleton]
      exact ⟨fun h => h.elim id (fun h => absurd h.symm e), .inl⟩
    simp only [this]
theorem all_len : (all u bf n m).length = n := by simp [all]
theorem all_at {i : Nat} (h : i < n) : (all u bf n m).getD i default = tk u bf n m i := by rw [getD_at (by rw [all_len]; exact h)]; simp [all]
theorem all_sum (S : Sto bf) (hm : 0 ≤ m) (hu : ∀ i, i < n → 0 ≤ u i) : Sh.sm (all u bf n m) = m - lf u bf n m n := by
  have e : Sh.sm (all u bf n m) = Sh.sm ((srt bf n).map (tk u bf n m)) := Sh.sm_perm ((srt_perm bf n).symm.map _)
  have st : ∀ k, k ≤ n → Sh.sm (((srt bf n).take k).map (tk u bf n m)) = m - lf u bf n m k := by
    intro k
    induction k with
    | zero => intro _; rw [lf_0 hm]; simp [Sh.sm]
    | succ k ih =>
      intro h
      rw [take_succ (by omega), List.map_append, Sh.sm_app, ih (by omega), lf_succ S (by omega) hu]
      simp [Sh.sm]; omega
  have := st n (Nat.le_refl _)
  rw [List.take_of_length_le (by rw [srt_len]; exact Nat.le_refl _)] at this
  rw [e, this]
theorem lf_end (S : Sto bf) : lf u bf n m n = if m - Sh.sm ((List.range n).map u) < 0 then 0 else m - Sh.sm ((List.range n).map u) := by
  unfold lf
  rw [List.take_of_length_le (by rw [srt_len]; exact Nat.le_refl _), Sh.sm_perm ((srt_perm bf n).map u)]
/-- nothing is taken from a place as long as something is there ahead of it -/
theorem tk_order (S : Sto bf) (hu : ∀ i, i < n → 0 ≤ u i) {i k : Nat} (hi : i < n) (hk : k < n) (h : bf i k = true) (q : tk u bf n m i < u i) : tk u bf n m k = 0 := by
  obtain ⟨a, ha, rfl⟩ := srt_ix (bf := bf) hi
  obtain ⟨b, hb, rfl⟩ := srt_ix (bf := bf) hk
  have hab : a < b := by
    rcases Nat.lt_or_ge a b with z | z
    · exact z
    · rcases Nat.lt_or_ge b a with y | y
      · have := S.tr _ _ _ h (bf_of S y ha)
        rw [S.irr] at this; cases this
      · obtain rfl : a = b := by omega
        rw [S.irr] at h; cases h
  rw [tk_at S ha hu] at q
  have mono : ∀ c, a < c → c ≤ n → lf u bf n m c = 0 := by
    intro c
    induction c with
    | zero => intro h; omega
    | succ c ih =>
      intro h1 h2
      rw [lf_succ S (by omega) hu, tk_at S (by omega) hu]
      by_cases z : a = c
      · subst z
        split at q
        · omega
        · rename_i w; rw [if_neg w]; omega
      · rw [ih (by omega) (by omega)]
        have := hu _ (srt_at (bf := bf) (n := n) (k := c) (by omega))
        rw [if_neg (by omega)]; rfl
  rw [tk_at S hb hu, mono b hab (by omega), if_neg (by have := hu _ hk; omega)]
end
end Gr
end Go.Proofs.Ytcdlhfbpmpjfkaa

/- Plain facts on dates: leap years, lengths of months, the number of a day, that each number has just one date. -/
namespace Go.Proofs.Ytcdlhfbpmpjfkaa.D

def lp (y : Int) : Bool := y % 4 == 0 && (!(y % 100 == 0) || y % 400 == 0)
def L (y : Int) : Int := if y % 4 = 0 ∧ (¬ y % 100 = 0 ∨ y % 400 = 0) then 1 else 0
def ml (y m : Int) : Int := if m = 2 then 28 + L y else if m = 4 ∨ m = 6 ∨ m = 9 ∨ m = 11 then 30 else 31
def cum (y m : Int) : Int :=
  if m ≤ 1 then 0 else if m = 2 then 31 else (if m = 3 then 59 else if m = 4 then 90 else if m = 5 then 120 else if m = 6 then 151 else if m = 7 then 181 else if m = 8 then 212 else if m = 9 then 243 else if m = 10 then 273 else if m = 11 then 304 else 334) + L y
def dby (y : Int) : Int := 365 * (y - 1) + (y - 1) / 4 - (y - 1) / 100 + (y - 1) / 400
def raw (y m d : Int) : Int := dby y + cum y m + d - 1
def Valid (y m d : Int) : Prop := 1 ≤ y ∧ y ≤ 9999 ∧ 1 ≤ m ∧ m ≤ 12 ∧ 1 ≤ d ∧ d ≤ ml y m
instance (y m d : Int) : Decidable (Valid y m d) := by unfold Valid; exact inferInstance

theorem lp_eq (y : Int) : lp y = decide (L y = 1) := by
  unfold lp L
  by_cases a : y % 4 = 0 <;> by_cases b : y % 100 = 0 <;> by_cases c : y % 400 = 0 <;> simp [a, b, c]
theorem L_01 (y : Int) : 0 ≤ L y ∧ L y ≤ 1 := by unfold L; split <;> omega
theorem L_of {y : Int} (h : lp y = true) : L y = 1 := by rw [lp_eq] at h; simpa using h
theorem L_not {y : Int} (h : lp y = false) : L y = 0 := by rw [lp_eq] at h; have := L_01 y; have h : ¬ L y = 1 := by simpa using h
                                                           omega
theorem dby_succ (y : Int) : dby (y + 1) = dby y + 365 + L y := by unfold dby L; split <;> omega
theorem dby_mono {y z : Int} (h : y < z) : dby y + 365 + L y ≤ dby z := by
  rw [← dby_succ]; unfold dby; omega
theorem dby_one : dby 1 = 0 := by decide
theorem dby_bd (y : Int) (h0 : 1 ≤ y) (h : y ≤ 20000) : 0 ≤ dby y ∧ dby y ≤ 10000000 := by unfold dby; omega
theorem dby_400 (y : Int) : dby (y + 400) = dby y + 146097 := by unfold dby; omega
theorem L_400 (y : Int) : L (y + 400) = L y := by
  unfold L
  have a : (y + 400) % 4 = y % 4 := by omega
  have b : (y + 400) % 100 = y % 100 := by omega
  have c : (y + 400) % 400 = y % 400 := by omega
  rw [a, b, c]
theorem dby_max : dby 10000 = 3652059 := by decide
theorem ml_bd (y m : Int) : 28 ≤ ml y m ∧ ml y m ≤ 31 := by have := L_01 y; unfold ml; split <;> (try split) <;> omega
theorem cum_succ (y m : Int) (h1 : 1 ≤ m) (h2 : m ≤ 11) : cum y (m + 1) = cum y m + ml y m := by
  have h : m = 1 ∨ m = 2 ∨ m = 3 ∨ m = 4 ∨ m = 5 ∨ m = 6 ∨ m = 7 ∨ m = 8 ∨ m = 9 ∨ m = 10 ∨ m = 11 := by omega
  rcases h with rfl | rfl | rfl | rfl | rfl | rfl | rfl | rfl | rfl | rfl | rfl <;> simp [cum, ml] <;> omega
theorem cum_one (y : Int) : cum y 1 = 0 := by simp [cum]
theorem cum_12 (y : Int) : cum y 12 + ml y 12 = 365 + L y := by simp [cum, ml]; omega
theorem cum_bd (y m : Int) (h1 : 1 ≤ m) (h2 : m ≤ 12) : 0 ≤ cum y m ∧ cum y m + ml y m ≤ 365 + L y := by
  have h : m = 1 ∨ m = 2 ∨ m = 3 ∨ m = 4 ∨ m = 5 ∨ m = 6 ∨ m = 7 ∨ m = 8 ∨ m = 9 ∨ m = 10 ∨ m = 11 ∨ m = 12 := by omega
  have := L_01 y
  rcases h with rfl | rfl | rfl | rfl | rfl | rfl | rfl | rfl | rfl | rfl | rfl | rfl <;> simp [cum, ml] <;> omega
theorem cum_mono (y : Int) {m k : Int} (h1 : 1 ≤ m) (h : m < k) (h2 : k ≤ 12) : cum y m + ml y m ≤ cum y k := by
  have a : m = 1 ∨ m = 2 ∨ m = 3 ∨ m = 4 ∨ m = 5 ∨ m = 6 ∨ m = 7 ∨ m = 8 ∨ m = 9 ∨ m = 10 ∨ m = 11 := by omega
  have b : k = 2 ∨ k = 3 ∨ k = 4 ∨ k = 5 ∨ k = 6 ∨ k = 7 ∨ k = 8 ∨ k = 9 ∨ k = 10 ∨ k = 11 ∨ k = 12 := by omega
  have := L_01 y
  rcases a with rfl | rfl | rfl | rfl | rfl | rfl | rfl | rfl | rfl | rfl | rfl <;>
    rcases b with rfl | rfl | rfl | rfl | rfl | rfl | rfl | rfl | rfl | rfl | rfl <;>
    first | (exfalso; omega) | (simp [cum, ml]; try omega)
theorem ml_400 (y m : Int) : ml (y + 400) m = ml y m := by unfold ml; rw [L_400]
theorem cum_400 (y m : Int) : cum (y + 400) m = cum y m := by unfold cum; rw [L_400]

theorem raw_bd {y m d : Int} (h : Valid y m d) : 0 ≤ raw y m d ∧ raw y m d ≤ 3652058 := by
  obtain ⟨a, b, c, e, f, g⟩ := h
  have h1 := dby_bd y a (by omega)
  have h2 := cum_bd y m c e
  have h3 : dby y + 365 + L y ≤ 3652059 := by have := dby_mono (y := y) (z := 10000) (by omega); have := dby_max; omega
  unfold raw; omega

/-- later by year, month and day: a greater number -/
theorem raw_lt {y m d z k e : Int} (h : Valid y m d) (h' : Valid z k e) (hl : y < z ∨ (y = z ∧ (m < k ∨ (m = k ∧ d < e)))) : raw y m d < raw z k e := by
  obtain ⟨a1, b1, c1, e1, f1, g1⟩ := h
  obtain ⟨a2, b2, c2, e2, f2, g2⟩ := h'
  have q1 := cum_bd y m c1 e1
  have q2 := cum_bd z k c2 e2
  unfold raw
  rcases hl with hl | ⟨rfl, hl | ⟨rfl, hl⟩⟩
  · have := dby_mono hl; omega
  · have := cum_mono y c1 hl e2; omega
  · omega
theorem raw_inj {y m d z k e : Int} (h : Valid y m d) (h' : Valid z k e) (he : raw y m d = raw z k e) : y = z ∧ m = k ∧ d = e := by
  by_cases a : y < z
  · have := raw_lt h h' (.inl a); omega
  by_cases b : z < y
  · have := raw_lt h' h (.inl b); omega
  obtain rfl : y = z := by omega
  by_cases c : m < k
  · have := raw_lt h h' (.inr ⟨rfl, .inl c⟩); omega
  by_cases d' : k < m
  · have := raw_lt h' h (.inr ⟨rfl, .inl d'⟩); omega
  obtain rfl : m = k := by omega
  refine ⟨rfl, rfl, ?_⟩
  unfold raw at he; omega

/-- the next date -/
def next (t : Int × Int × Int) : Int × Int × Int :=
  if t.2.2 < ml t.1 t.2.1 then (t.1, t.2.1, t.2.2 + 1) else if t.2.1 < 12 then (t.1, t.2.1 + 1, 1) else (t.1 + 1, 1, 1)
def at' : Nat → Int × Int × Int
  | 0 => (1, 1, 1)
  | k + 1 => next (at' k)
theorem at'_ok (k : Nat) : (k : Int) ≤ 3652058 → Valid (at' k).1 (at' k).2.1 (at' k).2.2 ∧ raw (at' k).1 (at' k).2.1 (at' k).2.2 = k := by
  induction k with
  | zero => intro _; refine ⟨⟨by decide, by decide, by decide, by decide, by decide, by decide⟩, by decide⟩
  | succ k ih =>
    intro h
    obtain ⟨v, hr⟩ := ih (by omega)
    show Valid (next (at' k)).1 (next (at' k)).2.1 (next (at' k)).2.2 ∧ raw (next (at' k)).1 (next (at' k)).2.1 (next (at' k)).2.2 = _
    generalize at' k = t at v hr
    obtain ⟨y, m, d⟩ := t
    obtain ⟨a, b, c, e, f, g⟩ := v
    simp only at a b c e f g hr
    unfold next
    simp only
    unfold raw at hr
    split
    · rename_i hd
      refine ⟨⟨a, b, c, e, by simp only; omega, by simp only; omega⟩, ?_⟩
      unfold raw; simp only; omega
    · rename_i hd
      split
      · rename_i hm
        have := cum_succ y m c (by omega)
        have := ml_bd y (m + 1)
        refine ⟨⟨a, b, by simp only; omega, by simp only; omega, by simp only; omega, by simp only; omega⟩, ?_⟩
        unfold raw; simp only; omega
      · rename_i hm
        obtain rfl : m = 12 := by omega
        have h12 := cum_12 y
        have hs := dby_succ y
        have hy : y + 1 ≤ 9999 := by
          apply Classical.byContradiction; intro hc
          obtain rfl : y = 9999 := by omega
          have h1 := dby_max
          have h2 : dby (9999 + 1) = dby 10000 := rfl
          omega
        refine ⟨⟨by simp only; omega, by simp only; omega, by simp only; omega, by simp only; omega, by simp only; omega, by simp only; have := ml_bd (y + 1) 1; omega⟩, ?_⟩
        have h1 := cum_one (y + 1)
        unfold raw; simp only; omega
def yO (n : Int) : Int := (at' n.toNat).1
def mO (n : Int) : Int := (at' n.toNat).2.1
def dO (n : Int) : Int := (at' n.toNat).2.2
theorem of_ok (n : Int) (h0 : 0 ≤ n) (h : n ≤ 3652058) : Valid (yO n) (mO n) (dO n) ∧ raw (yO n) (mO n) (dO n) = n := by
  have := at'_ok n.toNat (by omega)
  rw [show ((n.toNat : Nat) : Int) = n from by omega] at this
  exact this
theorem of_uniq {n y m d : Int} (h : Valid y m d) (e : raw y m d = n) : yO n = y ∧ mO n = m ∧ dO n = d := by
  have hb := raw_bd h
  obtain ⟨v, r⟩ := of_ok n (by omega) (by omega)
  exact raw_inj v h (by omega)
def fromV (y m d : Int) : Int := if Valid y m d then raw y m d else 0
def fromE (y m d : Int) : Int := if Valid y m d then 0 else 3
theorem fromV_yes {y m d : Int} (h : Valid y m d) : fromV y m d = raw y m d := if_pos h
theorem fromV_no {y m d : Int} (h : ¬ Valid y m d) : fromV y m d = 0 := if_neg h
theorem fromE_yes {y m d : Int} (h : Valid y m d) : fromE y m d = 0 := if_pos h
theorem fromE_no {y m d : Int} (h : ¬ Valid y m d) : fromE y m d = 3 := if_neg h
def chk (n : Int) : Int := if 0 ≤ n ∧ n ≤ 3652058 then 0 else 3
theorem chk_yes {n : Int} (h : 0 ≤ n) (h' : n ≤ 3652058) : chk n = 0 := if_pos ⟨h, h'⟩
theorem chk_no {n : Int} (h : ¬ (0 ≤ n ∧ n ≤ 3652058)) : chk n = 3 := if_neg h
theorem of_bds {n : Int} (h0 : 0 ≤ n) (h : n ≤ 3652058) : 1 ≤ yO n ∧ yO n ≤ 9999 ∧ 1 ≤ mO n ∧ mO n ≤ 12 ∧ 1 ≤ dO n ∧ dO n ≤ ml (yO n) (mO n) ∧ n = dby (yO n) + cum (yO n) (mO n) + dO n - 1 ∧ dby (yO n) ≤ n ∧ n < dby (yO n + 1) := by
  obtain ⟨⟨a, b, c, e, f, g⟩, r⟩ := of_ok n h0 h
  have h1 := cum_bd (yO n) (mO n) c e
  have h2 := dby_succ (yO n)
  unfold raw at r
  refine ⟨a, b, c, e, f, g, by omega, by omega, by omega⟩
def yO' (n : Int) : Int := if 0 ≤ n ∧ n ≤ 3652058 then yO n else 0
def mO' (n : Int) : Int := if 0 ≤ n ∧ n ≤ 3652058 then mO n else 0
def dO' (n : Int) : Int := if 0 ≤ n ∧ n ≤ 3652058 then dO n else 0
theorem o_yes {n : Int} (h : 0 ≤ n ∧ n ≤ 3652058) : yO' n = yO n ∧ mO' n = mO n ∧ dO' n = dO n := ⟨if_pos h, if_pos h, if_pos h⟩
theorem o_no {n : Int} (h : ¬ (0 ≤ n ∧ n ≤ 3652058)) : yO' n = 0 ∧ mO' n = 0 ∧ dO' n = 0 := ⟨if_neg h, if_neg h, if_neg h⟩
theorem guess {n : Int} (h0 : 0 ≤ n) (h : n ≤ 3652058) : n / 366 + 1 ≤ yO n := by
  obtain ⟨a, b, _, _, _, _, _, _, h2⟩ := of_bds h0 h
  have : dby (yO n + 1) ≤ 366 * yO n := by unfold dby; omega
  omega
def wk (n : Int) : Int := if 0 ≤ n ∧ n ≤ 3652058 then n % 7 else 0
theorem wk_yes {n : Int} (h : 0 ≤ n ∧ n ≤ 3652058) : wk n = n % 7 := if_pos h
theorem wk_no {n : Int} (h : ¬ (0 ≤ n ∧ n ≤ 3652058)) : wk n = 0 := if_neg h
def leB (y : Int) : Bool := if 1 ≤ y ∧ y ≤ 9999 then lp y else false
def leE (y : Int) : Int := if 1 ≤ y ∧ y ≤ 9999 then 0 else 3
theorem leB_yes {y : Int} (h : 1 ≤ y ∧ y ≤ 9999) : leB y = lp y := if_pos h
theorem leB_no {y : Int} (h : ¬ (1 ≤ y ∧ y ≤ 9999)) : leB y = false := if_neg h
theorem leE_yes {y : Int} (h : 1 ≤ y ∧ y ≤ 9999) : leE y = 0 := if_pos h
theorem leE_no {y : Int} (h : ¬ (1 ≤ y ∧ y ≤ 9999)) : leE y = 3 := if_neg h
/-- months later: 'at': the months since the year 0 -/
def moV (n many : Int) : Int :=
  if ¬ (0 ≤ n ∧ n ≤ 3652058) then 0 else if many < -120000 ∨ 120000 < many then 0 else
  if 12 * yO n + mO n - 1 + many < 12 ∨ 120000 ≤ 12 * yO n + mO n - 1 + many then 0 else
  raw ((12 * yO n + mO n - 1 + many) / 12) ((12 * yO n + mO n - 1 + many) % 12 + 1) (min (dO n) (ml ((12 * yO n + mO n - 1 + many) / 12) ((12 * yO n + mO n - 1 + many) % 12 + 1)))
def moE (n many : Int) : Int :=
  if ¬ (0 ≤ n ∧ n ≤ 3652058) then 3 else if many < -120000 ∨ 120000 < many then 8 else
  if 12 * yO n + mO n - 1 + many < 12 ∨ 120000 ≤ 12 * yO n + mO n - 1 + many then 8 else 0
theorem mo_no {n many : Int} (h : ¬ (0 ≤ n ∧ n ≤ 3652058)) : moV n many = 0 ∧ moE n many = 3 := ⟨if_pos h, if_pos h⟩
theorem mo_wide1 {n many : Int} (h : 0 ≤ n ∧ n ≤ 3652058) (h2 : many < -120000 ∨ 120000 < many) : moV n many = 0 ∧ moE n many = 8 := by
  unfold moV moE; rw [if_neg (by simpa using h), if_pos h2, if_neg (by simpa using h), if_pos h2]; exact ⟨rfl, rfl⟩
theorem mo_yes {n many : Int} (h : 0 ≤ n ∧ n ≤ 3652058) (h2 : -120000 ≤ many) (h3 : many ≤ 120000) :
    (12 * yO n + mO n - 1 + many < 12 ∨ 120000 ≤ 12 * yO n + mO n - 1 + many → moV n many = 0 ∧ moE n many = 8) ∧
    (12 ≤ 12 * yO n + mO n - 1 + many ∧ 12 * yO n + mO n - 1 + many < 120000 → moV n many = raw ((12 * yO n + mO n - 1 + many) / 12) ((12 * yO n + mO n - 1 + many) % 12 + 1) (min (dO n) (ml ((12 * yO n + mO n - 1 + many) / 12) ((12 * yO n + mO n - 1 + many) % 12 + 1))) ∧ moE n many = 0) := by
  unfold moV moE
  have a1 : ¬ ¬ (0 ≤ n ∧ n ≤ 3652058) := by simpa using h
  have a2 : ¬ (many < -120000 ∨ 120000 < many) := by omega
  rw [if_neg a1, if_neg a2, if_neg a1, if_neg a2]
  exact ⟨fun q => by rw [if_pos q, if_pos q]; exact ⟨rfl, rfl⟩, fun q => by rw [if_neg (by omega), if_neg (by omega)]; exact ⟨rfl, rfl⟩⟩
theorem dby_start (y : Int) : dby ((y - 1) / 400 * 400 + 1) = (y - 1) / 400 * 146097 := by unfold dby; omega
theorem dby_4 (n : Int) : dby (1 + n / 146097 * 400) = n / 146097 * 146097 := by unfold dby; omega
theorem guess4 {n : Int} (h0 : 0 ≤ n) (h : n ≤ 3652058) : 1 + n / 146097 * 400 ≤ yO n := by
  obtain ⟨a, b, _, _, _, _, _, _, h2⟩ := of_bds h0 h
  have h3 := dby_4 n
  by_cases hc : 1 + n / 146097 * 400 ≤ yO n
  · exact hc
  · exfalso
    by_cases e : yO n + 1 = 1 + n / 146097 * 400
    · rw [e, h3] at h2; omega
    · have := dby_mono (y := yO n + 1) (z := 1 + n / 146097 * 400) (by omega); have := L_01 (yO n + 1); omega
theorem b1 : fromV 2026 11 16 = 739935 ∧ fromE 2026 11 16 = 0 := by decide
theorem b2 : yO' 739935 = 2026 ∧ mO' 739935 = 11 ∧ dO' 739935 = 16 ∧ chk 739935 = 0 := by
  obtain ⟨e1, e2, e3⟩ := o_yes (n := 739935) (by decide)
  obtain ⟨g1, g2, g3⟩ := of_uniq (n := 739935) (y := 2026) (m := 11) (d := 16) (by decide) (by decide)
  rw [e1, e2, e3]
  exact ⟨g1, g2, g3, by decide⟩
theorem b3 : wk 739935 = 0 := by decide
theorem b4 : leB 1900 = false ∧ leE 1900 = 0 := by decide
theorem b5 : moV 739935 3 = 740027 ∧ moE 739935 3 = 0 := by
  obtain ⟨g1, g2, g3⟩ := of_uniq (n := 739935) (y := 2026) (m := 11) (d := 16) (by decide) (by decide)
  have := (mo_yes (n := 739935) (many := 3) (by decide) (by decide) (by decide)).2 (by rw [g1, g2]; decide)
  rw [g1, g2, g3] at this
  rw [this.1, this.2]
  decide
theorem b6 : fromV 9999 12 31 = 3652058 ∧ fromE 9999 12 31 = 0 := by decide
theorem b7 : fromV 2023 2 29 = 0 ∧ fromE 2023 2 29 = 3 := by decide
theorem of_from {y m d : Int} (h : Valid y m d) : yO' (fromV y m d) = y ∧ mO' (fromV y m d) = m ∧ dO' (fromV y m d) = d ∧ chk (fromV y m d) = 0 := by
  rw [fromV_yes h]
  have hb := raw_bd h
  obtain ⟨e1, e2, e3⟩ := o_yes hb
  obtain ⟨g1, g2, g3⟩ := of_uniq h rfl
  exact ⟨e1.trans g1, e2.trans g2, e3.trans g3, chk_yes hb.1 hb.2⟩
theorem fromV_bd {y m d : Int} (h : Valid y m d) : 0 ≤ fromV y m d ∧ fromV y m d ≤ 3652058 := by rw [fromV_yes h]; exact raw_bd h
theorem from_of {n : Int} (h : 0 ≤ n ∧ n ≤ 3652058) : fromV (yO' n) (mO' n) (dO' n) = n ∧ fromE (yO' n) (mO' n) (dO' n) = 0 := by
  obtain ⟨e1, e2, e3⟩ := o_yes h
  obtain ⟨v, r⟩ := of_ok n h.1 h.2
  rw [e1, e2, e3, fromV_yes v, fromE_yes v]
  exact ⟨r, rfl⟩
theorem round {y m d : Int} (h : Valid y m d) (hy : y ≤ 9599) : fromV (y + 400) m d = fromV y m d + 146097 ∧ fromE (y + 400) m d = 0 ∧ chk (fromV y m d) = 0 ∧ chk (fromV y m d + 146097) = 0 ∧ wk (fromV y m d + 146097) = wk (fromV y m d) := by
  have h' : Valid (y + 400) m d := by
    obtain ⟨a, b, c, e, f, g⟩ := h
    exact ⟨by omega, by omega, c, e, f, by rw [ml_400]; exact g⟩
  have r : raw (y + 400) m d = raw y m d + 146097 := by unfold raw; rw [dby_400, cum_400]; omega
  have b1 := raw_bd h
  have b2 := raw_bd h'
  rw [fromV_yes h', fromE_yes h', fromV_yes h]
  refine ⟨r, rfl, chk_yes b1.1 b1.2, chk_yes (by omega) (by omega), ?_⟩
  rw [wk_yes (by omega), wk_yes b1]
  omega
theorem wk_next {n : Int} (h0 : 0 ≤ n) (h1 : n < 3652058) : wk (n + 1) = (wk n + 1) % 7 ∧ chk (n + 1) = 0 ∧ 0 ≤ wk n ∧ wk n ≤ 6 := by
  rw [wk_yes ⟨by omega, by omega⟩, wk_yes ⟨h0, by omega⟩]
  exact ⟨by omega, chk_yes (by omega) (by omega), by omega, by omega⟩
/-- two days, by year, month and day -/
theorem order {n k : Int} (hn : 0 ≤ n ∧ n ≤ 3652058) (hk : 0 ≤ k ∧ k ≤ 3652058) :
    (yO' n < yO' k ∧ n < k) ∨ (yO' k < yO' n ∧ k < n) ∨ (yO' k = yO' n ∧ mO' n < mO' k ∧ n < k) ∨ (yO' k = yO' n ∧ mO' k < mO' n ∧ k < n) ∨
    (yO' k = yO' n ∧ mO' k = mO' n ∧ dO' n < dO' k ∧ n < k) ∨ (yO' k = yO' n ∧ mO' k = mO' n ∧ dO' k ≤ dO' n ∧ k ≤ n) := by
  obtain ⟨a1, a2, a3⟩ := o_yes hn
  obtain ⟨b1, b2, b3⟩ := o_yes hk
  rw [a1, a2, a3, b1, b2, b3]
  obtain ⟨v, r⟩ := of_ok n hn.1 hn.2
  obtain ⟨v', r'⟩ := of_ok k hk.1 hk.2
  by_cases c1 : yO n < yO k
  · exact .inl ⟨c1, by rw [← r, ← r']; exact raw_lt v v' (.inl c1)⟩
  by_cases c2 : yO k < yO n
  · exact .inr (.inl ⟨c2, by rw [← r, ← r']; exact raw_lt v' v (.inl c2)⟩)
  have c3 : yO k = yO n := by omega
  by_cases c4 : mO n < mO k
  · exact .inr (.inr (.inl ⟨c3, c4, by rw [← r, ← r']; exact raw_lt v v' (.inr ⟨c3.symm, .inl c4⟩)⟩))
  by_cases c5 : mO k < mO n
  · exact .inr (.inr (.inr (.inl ⟨c3, c5, by rw [← r, ← r']; exact raw_lt v' v (.inr ⟨c3, .inl c5⟩)⟩)))
  have c6 : mO k = mO n := by omega
  by_cases c7 : dO n < dO k
  · exact .inr (.inr (.inr (.inr (.inl ⟨c3, c6, c7, by rw [← r, ← r']; exact raw_lt v v' (.inr ⟨c3.symm, .inr ⟨c6.symm, c7⟩⟩)⟩))))
  · refine .inr (.inr (.inr (.inr (.inr ⟨c3, c6, by omega, ?_⟩))))
    by_cases c8 : dO k < dO n
    · have := raw_lt v' v (.inr ⟨c3, .inr ⟨c6, c8⟩⟩); omega
    · have c9 : dO k = dO n := by omega
      rw [← r, ← r', c3, c6, c9]; omega
/-- months there and back -/
theorem back {n many : Int} (h : 0 ≤ n ∧ n ≤ 3652058) (h2 : -120000 ≤ many) (h3 : many ≤ 120000) (h4 : 12 ≤ 12 * yO n + mO n - 1 + many ∧ 12 * yO n + mO n - 1 + many < 120000) :
    moE n many = 0 ∧ chk (moV n many) = 0 ∧ (∃ q, mO' (moV n many) - mO' n - many = 12 * q ∧ -20000 ≤ q ∧ q ≤ 20000) ∧ dO' (moV n many) ≤ dO' n ∧ 1 ≤ dO' (moV n many) ∧ dO' n ≤ 31 ∧ 28 ≤ ml (yO' (moV n many)) (mO' (moV n many)) ∧
    (dO' (moV n many) < dO' n → dO' (moV n many) = ml (yO' (moV n many)) (mO' (moV n many))) ∧ 1 ≤ yO' (moV n many) ∧ yO' (moV n many) ≤ 9999 ∧ 1 ≤ mO' (moV n many) ∧ mO' (moV n many) ≤ 12 ∧ 1 ≤ mO' n ∧ mO' n ≤ 12 ∧
    moE (moV n many) (-many) = 0 ∧ moV (moV n many) (-many) = n - (dO' n - dO' (moV n many)) := by
  obtain ⟨e1, e2⟩ := (mo_yes (many := many) h h2 h3).2 h4
  obtain ⟨c1, c2, c3⟩ := o_yes h
  obtain ⟨b1, b2, b3, b4, b5, b6, b7, b8, b9⟩ := of_bds h.1 h.2
  have hml := ml_bd ((12 * yO n + mO n - 1 + many) / 12) ((12 * yO n + mO n - 1 + many) % 12 + 1)
  have hml2 := ml_bd (yO n) (mO n)
  have hv : Valid ((12 * yO n + mO n - 1 + many) / 12) ((12 * yO n + mO n - 1 + many) % 12 + 1) (min (dO n) (ml ((12 * yO n + mO n - 1 + many) / 12) ((12 * yO n + mO n - 1 + many) % 12 + 1))) := ⟨by omega, by omega, by omega, by omega, by omega, by omega⟩
  have hb := raw_bd hv
  rw [← e1] at hb
  obtain ⟨g1, g2, g3⟩ := of_uniq hv e1.symm
  obtain ⟨d1, d2, d3⟩ := o_yes hb
  have hat : 12 * yO (moV n many) + mO (moV n many) - 1 + -many = 12 * yO n + mO n - 1 := by rw [g1, g2]; omega
  obtain ⟨f1, f2⟩ := (mo_yes (many := -many) hb (by omega) (by omega)).2 (by rw [hat]; omega)
  rw [hat] at f1
  have y1 : (12 * yO n + mO n - 1) / 12 = yO n := by omega
  have m1 : (12 * yO n + mO n - 1) % 12 + 1 = mO n := by omega
  rw [y1, m1, g3] at f1
  rw [f1, f2, e2, d1, d2, d3, c2, c3, g1, g2, g3]
  refine ⟨rfl, chk_yes hb.1 hb.2, ⟨yO n - (12 * yO n + mO n - 1 + many) / 12, by omega, by omega, by omega⟩, by omega, by omega, by omega, hml.1, by omega, by omega, by omega, by omega, by omega, by omega, by omega, rfl, ?_⟩
  unfold raw
  omega
theorem mo_err {n many : Int} (h : 0 ≤ n ∧ n ≤ 3652058) (h4 : ¬ (-120000 ≤ many ∧ many ≤ 120000 ∧ 12 ≤ 12 * yO n + mO n - 1 + many ∧ 12 * yO n + mO n - 1 + many < 120000)) : moV n many = 0 ∧ moE n many = 8 := by
  by_cases h2 : many < -120000 ∨ 120000 < many
  · exact mo_wide1 h h2
  · exact (mo_yes h (by omega) (by omega)).1 (by omega)
theorem long_step (y : Int) (h0 : 1 ≤ y) (h1 : y ≤ 9999) : fromV y 1 1 = dby y ∧ fromE y 1 1 = 0 := by
  have hv : Valid y 1 1 := ⟨h0, h1, by decide, by decide, by decide, by have := ml_bd y 1; omega⟩
  rw [fromV_yes hv, fromE_yes hv]
  exact ⟨by unfold raw; rw [cum_one]; omega, rfl⟩
theorem long_end (y : Int) : dby (y + 8) - dby y - 2920 = 1 ∨ dby (y + 8) - dby y - 2920 = 2 := by unfold dby; omega
end Go.Proofs.Ytcdlhfbpmpjfkaa.D

/- Plain facts on calendars: business days, how many there are, and steps from one to another. -/
namespace Go.Proofs.Ytcdlhfbpmpjfkaa
set_option linter.unusedVariables false
structure Cl where
  we : Int
  hs : List Int
namespace Ca
/-- the first error of so many -/
def fe (f : Nat → Int) (n : Nat) : Int := fb f (List.range n)
theorem fe_ok {f : Nat → Int} {n : Nat} (h : fe f n = 0) : ∀ j, j < n → f j = 0 := fun j hj => fb_ok h j (List.mem_range.2 hj)
theorem fe_end {f : Nat → Int} {n : Nat} (h : ∀ j, j < n → f j = 0) : fe f n = 0 := fb_yes fun d hd => h d (List.mem_range.1 hd)
theorem fe_get {f : Nat → Int} {n k : Nat} (hk : k < n) (h1 : ∀ j, j < k → f j = 0) (h : f k ≠ 0) : fe f n = f k := by
  have hl : k < (List.range n).length := by simpa using hk
  have e : (List.range n)[k] = k := by simp
  have := fb_at (f := f) hl (fun d hd => h1 d (by
    rw [List.take_range] at hd
    have := List.mem_range.1 hd
    omega)) (by rw [e]; exact h)
  rw [e] at this
  exact this
def Day (n : Int) : Prop := 0 ≤ n ∧ n ≤ 3652058
instance (n : Int) : Decidable (Day n) := by unfold Day; exact inferInstance
def Ok (c : Cl) : Prop := (0 ≤ c.we ∧ c.we ≤ 126) ∧ c.hs.length ≤ 60 ∧ (∀ n ∈ c.hs, Day n) ∧ c.hs.Pairwise (· < ·)
def eAt (hs : List Int) (k : Nat) : Int := if ¬ Day (hs.getD k default) then 3 else if 0 < k ∧ hs.getD k default = hs.getD (k - 1) default then 6 else if 0 < k ∧ hs.getD k default < hs.getD (k - 1) default then 4 else 0
def chk (c : Cl) : Int := if c.we < 0 ∨ 126 < c.we then 3 else if 60 < c.hs.length then 2 else fe (eAt c.hs) c.hs.length
theorem eAt_ok {hs : List Int} {k : Nat} (h : eAt hs k = 0) : Day (hs.getD k default) ∧ (0 < k → hs.getD (k - 1) default < hs.getD k default) := by
  unfold eAt at h
  split at h
  · omega
  · rename_i a
    split at h
    · omega
    · split at h
      · omega
      · exact ⟨Classical.not_not.1 a, fun hk => by omega⟩
theorem chk_ok {c : Cl} (h : chk c = 0) : Ok c := by
  unfold chk at h
  split at h
  · omega
  split at h
  · omega
  have a := fe_ok h
  refine ⟨by omega, by omega, fun n hn => ?_, List.pairwise_iff_getElem.2 fun i j hi hj hij => ?_⟩
  · obtain ⟨i, hi, rfl⟩ := List.getElem_of_mem hn
    have := (eAt_ok (a i hi)).1
    rwa [getD_at hi] at this
  · have st : ∀ m, i < m → m < c.hs.length → c.hs.getD i default < c.hs.getD m default := by
      intro m
      induction m with
      | zero => intro h; omega
      | succ m ih =>
        intro h1 h2
        have h3 := (eAt_ok (a (m + 1) h2)).2 (by omega)
        rw [Nat.add_sub_cancel] at h3
        by_cases e : i = m
        · subst e; exact h3
        · have := ih (by omega) (by omega); omega
    have := st j hij hj
    rwa [getD_at hi, getD_at hj] at this
theorem chk_1 {c : Cl} (h : c.we < 0 ∨ 126 < c.we) : chk c = 3 := if_pos h
theorem chk_2 {c : Cl} (h : ¬ (c.we < 0 ∨ 126 < c.we)) (k : 60 < c.hs.length) : chk c = 2 := (if_neg h).trans (if_pos k)
theorem chk_3 {c : Cl} (h : ¬ (c.we < 0 ∨ 126 < c.we)) (k : ¬ 60 < c.hs.length) : chk c = fe (eAt c.hs) c.hs.length := (if_neg h).trans (if_neg k)
theorem chk_of {c : Cl} (h : Ok c) : chk c = 0 := by
  obtain ⟨h1, h2, h3, h4⟩ := h
  rw [chk_3 (by omega) (by omega)]
  refine fe_end fun k hk => ?_
  have hd := h3 _ (getD_mem (l := c.hs) hk)
  unfold eAt
  rw [if_neg (fun q => q hd)]
  have lt : 0 < k → c.hs.getD (k - 1) default < c.hs.getD k default := fun h => by
    rw [getD_at hk, getD_at (l := c.hs) (k := k - 1) (by omega)]
    exact List.pairwise_iff_getElem.1 h4 (k - 1) k (by omega) hk (by omega)
  rw [if_neg (fun q => by have := lt q.1; omega), if_neg (fun q => by have := lt q.1; omega)]
/-- no day of the weekend; a business day -/
def wd (c : Cl) (n : Int) : Int := 1 - c.we / 2 ^ (n % 7).toNat % 2
def op (c : Cl) (n : Int) : Int := if n ∈ c.hs then 0 else wd c n
theorem wd_01 (c : Cl) (n : Int) : wd c n = 0 ∨ wd c n = 1 := by unfold wd; omega
theorem op_01 (c : Cl) (n : Int) : op c n = 0 ∨ op c n = 1 := by unfold op; split; · exact .inl rfl
                                                                 · exact wd_01 c n
theorem wd_7 (c : Cl) (n : Int) : wd c (n + 7) = wd c n := by unfold wd; rw [show (n + 7) % 7 = n % 7 by omega]
/-- sums over (a, a + k] -/
def sm (f : Int → Int) (a : Int) : Nat → Int
  | 0 => 0
  | k + 1 => sm f a k + f (a + k + 1)
theorem sm_add (f : Int → Int) (a : Int) (k : Nat) : ∀ m : Nat, sm f a (k + m) = sm f a k + sm f (a + k) m
  | 0 => by simp [sm]
  | m + 1 => by
    have := sm_add f a k m
    rw [← Nat.add_assoc]
    simp only [sm]
    rw [this, show a + ((k + m : Nat) : Int) + 1 = a + k + m + 1 by omega]; omega
def cnt (c : Cl) (a b : Int) : Int := sm (op c) a (b - a).toNat
theorem cnt_none {c : Cl} {a b : Int} (h : b ≤ a) : cnt c a b = 0 := by unfold cnt; rw [show (b - a).toNat = 0 by omega]; rfl
theorem cnt_succ {c : Cl} {a b : Int} (h : a ≤ b) : cnt c a (b + 1) = cnt c a b + op c (b + 1) := by
  unfold cnt
  rw [show (b + 1 - a).toNat = (b - a).toNat + 1 by omega]
  simp only [sm]
  rw [show a + ((b - a).toNat : Int) + 1 = b + 1 by omega]
theorem cnt_add {c : Cl} {a b d : Int} (h : a ≤ b) (k : b ≤ d) : cnt c a d = cnt c a b + cnt c b d := by
  unfold cnt
  rw [show (d - a).toNat = (b - a).toNat + (d - b).toNat by omega, sm_add, show a + ((b - a).toNat : Int) = b by omega]
theorem cnt_last {c : Cl} {a b : Int} (h : a < b) : cnt c a b = cnt c a (b - 1) + op c b := by
  have := cnt_succ (c := c) (a := a) (b := b - 1) (by omega)
  rwa [show b - 1 + 1 = b by omega] at this
theorem cnt_one (c : Cl) (a : Int) : cnt c a (a + 1) = op c (a + 1) := by rw [cnt_succ (Int.le_refl _), cnt_none (Int.le_refl _)]; omega
theorem cnt_first {c : Cl} {a b : Int} (h : a < b) : cnt c a b = op c (a + 1) + cnt c (a + 1) b := by
  rw [cnt_add (b := a + 1) (by omega) (by omega), cnt_one]
theorem sm_bd (c : Cl) (a : Int) : ∀ k : Nat, 0 ≤ sm (op c) a k ∧ sm (op c) a k ≤ k
  | 0 => by simp [sm]
  | k + 1 => by
    have := sm_bd c a k
    have := op_01 c (a + k + 1)
    simp only [sm]; omega
theorem cnt_bd (c : Cl) (a b : Int) : 0 ≤ cnt c a b ∧ (a ≤ b → cnt c a b ≤ b - a) := by
  have := sm_bd c a (b - a).toNat
  unfold cnt
  exact ⟨this.1, fun h => by omega⟩
theorem cnt_mono {c : Cl} {a b d : Int} (k : b ≤ d) : cnt c a b ≤ cnt c a d := by
  by_cases h : a ≤ b
  · have := cnt_add (c := c) h k; have := cnt_bd c b d; omega
  · rw [cnt_none (by omega)]; exact (cnt_bd c a d).1
theorem cnt_pos {c : Cl} {a b : Int} (h : a < b) (k : op c b = 1) : 1 ≤ cnt c a b := by
  rw [cnt_last h]; have := cnt_bd c a (b - 1); omega
/-- the m-th business day behind a -/
def Up (c : Cl) (a m d : Int) : Prop := a < d ∧ d ≤ 3652058 ∧ op c d = 1 ∧ cnt c a d = m
theorem up_one {c : Cl} {a m d e : Int} (h : Up c a m d) (k : Up c a m e) : d = e := by
  obtain ⟨h1, h2, h3, h4⟩ := h
  obtain ⟨k1, k2, k3, k4⟩ := k
  rcases Int.lt_trichotomy d e with q | q | q
  · have := cnt_add (c := c) (a := a) (b := d) (d := e) (by omega) (by omega); have := cnt_pos q k3; omega
  · exact q
  · have := cnt_add (c := c) (a := a) (b := e) (d := d) (by omega) (by omega); have := cnt_pos q h3; omega
open Classical in
noncomputable def stU (c : Cl) (a m : Int) : Int := if h : ∃ d, Up c a m d then h.choose else -1
theorem stU_is {c : Cl} {a m d : Int} (h : Up c a m d) : stU c a m = d := by
  have e : ∃ d, Up c a m d := ⟨d, h⟩
  unfold stU
  rw [dif_pos e]
  exact up_one e.choose_spec h
theorem stU_no {c : Cl} {a m : Int} (h : cnt c a 3652058 < m) : stU c a m = -1 := by
  unfold stU
  exact dif_neg fun ⟨d, _, h2, _, h4⟩ => by have := cnt_mono (c := c) (a := a) h2; omega
theorem stU_ok {c : Cl} {a m : Int} (h : 0 ≤ stU c a m) : Up c a m (stU c a m) := by
  by_cases e : ∃ d, Up c a m d
  · unfold stU; rw [dif_pos e]; exact e.choose_spec
  · unfold stU at h; rw [dif_neg e] at h; omega
theorem stU_cases {c : Cl} {a m : Int} (ha : -1 ≤ a) : stU c a m = -1 ∨ (0 ≤ stU c a m ∧ Up c a m (stU c a m)) := by
  by_cases e : ∃ d, Up c a m d
  · right
    have : Up c a m (stU c a m) := by unfold stU; rw [dif_pos e]; exact e.choose_spec
    exact ⟨by have := this.1; omega, this⟩
  · left; unfold stU; exact dif_neg e
/-- the m-th business day ahead of a -/
def Dn (c : Cl) (a m d : Int) : Prop := 0 ≤ d ∧ d < a ∧ op c d = 1 ∧ cnt c (d - 1) (a - 1) = m
theorem dn_one {c : Cl} {a m d e : Int} (h : Dn c a m d) (k : Dn c a m e) : d = e := by
  have key : ∀ d e, d < e → Dn c a m d → Dn c a m e → False := fun d e q ⟨h1, h2, h3, h4⟩ ⟨k1, k2, k3, k4⟩ => by
    have h5 := cnt_add (c := c) (a := d - 1) (b := e - 1) (d := a - 1) (by omega) (by omega)
    have h6 := cnt_first (c := c) (a := d - 1) (b := e - 1) (by omega)
    have h7 := cnt_bd c (d - 1 + 1) (e - 1)
    rw [show d - 1 + 1 = d by omega] at h6 h7
    omega
  rcases Int.lt_trichotomy d e with q | q | q
  · exact (key d e q h k).elim
  · exact q
  · exact (key e d q k h).elim
open Classical in
noncomputable def stD (c : Cl) (a m : Int) : Int := if h : ∃ d, Dn c a m d then h.choose else -1
theorem stD_is {c : Cl} {a m d : Int} (h : Dn c a m d) : stD c a m = d := by
  have e : ∃ d, Dn c a m d := ⟨d, h⟩
  unfold stD
  rw [dif_pos e]
  exact dn_one e.choose_spec h
theorem cnt_mono_l {c : Cl} {a b d : Int} (k : a ≤ b) : cnt c b d ≤ cnt c a d := by
  by_cases h : b ≤ d
  · have := cnt_add (c := c) k h; have := cnt_bd c a b; omega
  · rw [cnt_none (by omega)]; exact (cnt_bd c a d).1
theorem stD_no {c : Cl} {a m : Int} (h : cnt c (-1) (a - 1) < m) : stD c a m = -1 := by
  unfold stD
  exact dif_neg fun ⟨d, h1, h2, _, h4⟩ => by have := cnt_mono_l (c := c) (a := -1) (b := d - 1) (d := a - 1) (by omega); omega
theorem stD_cases (c : Cl) (a m : Int) : stD c a m = -1 ∨ (0 ≤ stD c a m ∧ Dn c a m (stD c a m)) := by
  by_cases e : ∃ d, Dn c a m d
  · right
    have : Dn c a m (stD c a m) := by unfold stD; rw [dif_pos e]; exact e.choose_spec
    exact ⟨this.1, this⟩
  · left; unfold stD; exact dif_neg e
/-- so many steps -/
noncomputable def stp (c : Cl) (n m : Int) : Int := if 0 < m then stU c n m else if m < 0 then stD c n (-m) else n
theorem stp_p {c : Cl} {n m : Int} (h : 0 < m) : stp c n m = stU c n m := if_pos h
theorem stp_n {c : Cl} {n m : Int} (h : m < 0) : stp c n m = stD c n (-m) := (if_neg (by omega)).trans (if_pos h)
theorem stp_0 {c : Cl} {n : Int} : stp c n 0 = n := (if_neg (by omega)).trans (if_neg (by omega))
theorem stp_cases {c : Cl} {n m : Int} (hn : Day n) : stp c n m = -1 ∨ Day (stp c n m) := by
  unfold Day at *
  by_cases h : 0 < m
  · rw [stp_p h]
    rcases stU_cases (c := c) (a := n) (m := m) (by omega) with q | ⟨q, _, r, _⟩
    · exact .inl q
    · exact .inr ⟨q, r⟩
  · by_cases k : m < 0
    · rw [stp_n k]
      rcases stD_cases c n (-m) with q | ⟨q, _, r, _⟩
      · exact .inl q
      · exact .inr ⟨q, by omega⟩
    · obtain rfl : m = 0 := by omega
      rw [stp_0]; exact .inr hn
/-! what the count of the program comes to -/
def hc (c : Cl) (a b : Int) : List Int → Int
  | [] => 0
  | h :: r => (if a < h ∧ h ≤ b ∧ wd c h = 1 then 1 else 0) + hc c a b r
theorem hc_snoc (c : Cl) (a b : Int) : ∀ (l : List Int) (x : Int), hc c a b (l ++ [x]) = hc c a b l + (if a < x ∧ x ≤ b ∧ wd c x = 1 then 1 else 0)
  | [], x => by simp [hc]
  | h :: r, x => by
    rw [List.cons_append]; simp only [hc]
    rw [hc_snoc c a b r x]; omega
theorem hc_same {c : Cl} {a b : Int} : ∀ {l : List Int}, b + 1 ∉ l → hc c a (b + 1) l = hc c a b l
  | [], _ => rfl
  | h :: r, q => by
    have h1 : h ≠ b + 1 := fun e => q (by simp [e])
    have := hc_same (c := c) (a := a) (b := b) (l := r) (fun e => q (by simp [e]))
    simp only [hc]
    rw [this]
    congr 1
    split <;> split <;> omega
theorem hc_succ {c : Cl} {a b : Int} (hab : a ≤ b) : ∀ {l : List Int}, l.Nodup → hc c a (b + 1) l = hc c a b l + (if b + 1 ∈ l then wd c (b + 1) else 0)
  | [], _ => by simp [hc]
  | h :: r, hn => by
    rw [List.nodup_cons] at hn
    simp only [hc]
    by_cases e : h = b + 1
    · subst e
      rw [hc_same hn.1, if_pos (by simp : b + 1 ∈ (b + 1) :: r), if_neg (by omega : ¬ (a < b + 1 ∧ b + 1 ≤ b ∧ wd c (b + 1) = 1))]
      rcases wd_01 c (b + 1) with w | w
      · rw [if_neg (by omega), w]; omega
      · rw [if_pos (by omega), w]; omega
    · rw [hc_succ hab hn.2]
      have m : (b + 1 ∈ h :: r) ↔ b + 1 ∈ r := by
        rw [List.mem_cons]
        exact ⟨fun q => q.resolve_left fun z => e z.symm, .inr⟩
      have i1 : (if a < h ∧ h ≤ b + 1 ∧ wd c h = 1 then (1 : Int) else 0) = (if a < h ∧ h ≤ b ∧ wd c h = 1 then 1 else 0) := by split <;> split <;> omega
      rw [i1]
      by_cases q : b + 1 ∈ r
      · rw [if_pos q, if_pos (m.2 q)]; omega
      · rw [if_neg q, if_neg (fun z => q (m.1 z))]; omega
theorem hc_none {c : Cl} {a b : Int} (h : b ≤ a) : ∀ l : List Int, hc c a b l = 0
  | [] => rfl
  | x :: r => by simp only [hc]; rw [hc_none h r, if_neg (by omega)]; rfl
theorem sm_op {c : Cl} (hn : c.hs.Nodup) (a : Int) : ∀ k : Nat, sm (op c) a k = sm (wd c) a k - hc c a (a + k) c.hs
  | 0 => by simp only [sm]; rw [hc_none (by omega)]; rfl
  | k + 1 => by
    have h1 := sm_op hn a k
    have h2 := hc_succ (c := c) (a := a) (b := a + k) (by omega) hn
    simp only [sm]
    rw [h1, show a + ((k + 1 : Nat) : Int) = a + k + 1 by omega, h2]
    unfold op
    split <;> omega
/-- business days of a week, but for holidays -/
def wk (c : Cl) : Int := sm (wd c) (-1) 7
theorem sm_wk (c : Cl) (a : Int) : sm (wd c) a 7 = wk c := by
  have per : ∀ x y : Int, x % 7 = y % 7 → wd c x = wd c y := fun x y h => by unfold wd; rw [h]
  have e : ∀ b, sm (wd c) b 7 = wd c (b + 1) + wd c (b + 2) + wd c (b + 3) + wd c (b + 4) + wd c (b + 5) + wd c (b + 6) + wd c (b + 7) := fun b => by
    simp only [sm, Int.zero_add]
    rw [show b + ((0 : Nat) : Int) + 1 = b + 1 by omega, show b + ((1 : Nat) : Int) + 1 = b + 2 by omega, show b + ((2 : Nat) : Int) + 1 = b + 3 by omega, show b + ((3 : Nat) : Int) + 1 = b + 4 by omega, show b + ((4 : Nat) : Int) + 1 = b + 5 by omega, show b + ((5 : Nat) : Int) + 1 = b + 6 by omega, show b + ((6 : Nat) : Int) + 1 = b + 7 by omega]
  have st : ∀ b, sm (wd c) (b + 1) 7 = sm (wd c) b 7 := fun b => by
    rw [e, e, show b + 1 + 7 = b + 1 + 7 from rfl, wd_7, show b + 1 + 1 = b + 2 by omega, show b + 1 + 2 = b + 3 by omega, show b + 1 + 3 = b + 4 by omega, show b + 1 + 4 = b + 5 by omega, show b + 1 + 5 = b + 6 by omega, show b + 1 + 6 = b + 7 by omega]
    omega
  have up : ∀ (k : Nat) b, sm (wd c) (b + k) 7 = sm (wd c) b 7 := by
    intro k
    induction k with
    | zero => intro b; rw [show b + ((0 : Nat) : Int) = b by omega]
    | succ k ih => intro b; rw [show b + ((k + 1 : Nat) : Int) = b + k + 1 by omega, st, ih]
  unfold wk
  by_cases h : -1 ≤ a
  · have := up (a + 1).toNat (-1)
    rwa [show -1 + ((a + 1).toNat : Int) = a by omega] at this
  · have := up (-1 - a).toNat a
    rw [show a + ((-1 - a).toNat : Int) = -1 by omega] at this
    exact this.symm
theorem sm_weeks (c : Cl) (a : Int) : ∀ q : Nat, sm (wd c) a (7 * q) = q * wk c
  | 0 => by simp [sm]
  | q + 1 => by
    rw [Nat.mul_succ, sm_add, sm_weeks c a q, sm_wk, Int.natCast_add, Int.add_mul]; omega
theorem count_is {c : Cl} (hn : c.hs.Nodup) {a b : Int} (h : a ≤ b) : cnt c a b = (b - a) / 7 * wk c + sm (wd c) (a + (b - a) / 7 * 7) ((b - a) % 7).toNat - hc c a b c.hs := by
  unfold cnt
  rw [sm_op hn, show a + ((b - a).toNat : Int) = b by omega, show (b - a).toNat = 7 * ((b - a) / 7).toNat + ((b - a) % 7).toNat by omega, sm_add, sm_weeks, show (((b - a) / 7).toNat : Int) = (b - a) / 7 by omega, show a + ((7 * ((b - a) / 7).toNat : Nat) : Int) = a + (b - a) / 7 * 7 by omega]
theorem ok_nodup {c : Cl} (h : Ok c) : c.hs.Nodup := h.2.2.2.imp (fun q => by omega)
/-! a binary search -/
def lb (l : List Int) (x : Int) : Nat := (l.takeWhile (fun y => decide (y < x))).length
theorem lb_is {l : List Int} {x : Int} {i : Nat} (hi : i ≤ l.length) (h1 : ∀ k, k < i → l.getD k default < x) (h2 : ∀ k, i ≤ k → k < l.length → ¬ l.getD k default < x) : lb l x = i := by
  have key : ∀ (l : List Int) (i : Nat), i ≤ l.length → (∀ k, k < i → l.getD k default < x) → (∀ k, i ≤ k → k < l.length → ¬ l.getD k default < x) → lb l x = i := by
    intro l
    induction l with
    | nil => intro i hi _ _; simp at hi; subst hi; rfl
    | cons a r ih =>
      intro i hi h1 h2
      unfold lb
      cases i with
      | zero =>
        have := h2 0 (by omega) (by simp)
        have e : ¬ a < x := by simpa using this
        rw [List.takeWhile_cons, if_neg (by simpa using e)]; rfl
      | succ i =>
        have := h1 0 (by omega)
        have e : a < x := by simpa using this
        rw [List.takeWhile_cons, if_pos (by simpa using e), List.length_cons]
        have := ih i (by simpa using hi) (fun k hk => by simpa using h1 (k + 1) (by omega)) (fun k h3 h4 => by simpa using h2 (k + 1) (by omega) (by simpa using h4))
        unfold lb at this
        rw [this]
  exact key l i hi h1 h2
theorem srt_lt {l : List Int} (h : l.Pairwise (· < ·)) {i j : Nat} (hij : i < j) (hj : j < l.length) : l.getD i default < l.getD j default := by
  rw [getD_at (by omega), getD_at hj]
  exact List.pairwise_iff_getElem.1 h i j (by omega) hj hij
/-- found, where it is -/
theorem found_is {l : List Int} {x : Int} {i : Nat} (h1 : ∀ k, k < i → l.getD k default < x) (h2 : ∀ k, i ≤ k → k < l.length → ¬ l.getD k default < x) (hs : l.Pairwise (· < ·)) : x ∈ l ↔ (i < l.length ∧ l.getD i default = x) := by
  constructor
  · intro h
    obtain ⟨k, hk, e⟩ := List.getElem_of_mem h
    have e : l.getD k default = x := by rw [getD_at hk]; exact e
    have hik : i ≤ k := by
      rcases Nat.lt_or_ge k i with q | q
      · have := h1 k q; omega
      · exact q
    refine ⟨by omega, ?_⟩
    by_cases q : i = k
    · subst q; exact e
    · have a := srt_lt hs (i := i) (j := k) (by omega) hk
      have b := h2 i (Nat.le_refl _) (by omega)
      omega
  · rintro ⟨a, b⟩
    rw [← b]; exact getD_mem a
/-! errors -/
def chks (c : Cl) (ds : List Int) : Int := if chk c ≠ 0 then chk c else fb D.chk ds
theorem chks_1 {c : Cl} {ds : List Int} (h : ¬ chk c = 0) : chks c ds = chk c := if_pos h
theorem chks_2 {c : Cl} {ds : List Int} (h : chk c = 0) : chks c ds = fb D.chk ds := if_neg (by omega)
def e1 (c : Cl) (n : Int) : Int := chks c [n]
theorem dchk (n : Int) : (D.chk n = 0 ∧ Day n) ∨ (D.chk n = 3 ∧ ¬ Day n) := by
  by_cases h : Day n
  · exact .inl ⟨D.chk_yes h.1 h.2, h⟩
  · exact .inr ⟨D.chk_no h, h⟩
theorem e1_ok {c : Cl} {n : Int} (h : e1 c n = 0) : Ok c ∧ Day n ∧ chk c = 0 := by
  unfold e1 at h
  by_cases a : chk c = 0
  · rw [chks_2 a] at h
    have := fb_ok h n (by simp)
    rcases dchk n with q | q
    · exact ⟨chk_ok a, q.2, a⟩
    · omega
  · rw [chks_1 a] at h; omega
theorem e1_of {c : Cl} {n : Int} (h : chk c = 0) (k : Day n) : e1 c n = 0 := by
  unfold e1
  rw [chks_2 h]
  exact fb_yes fun d hd => by rw [List.mem_singleton] at hd; subst hd; exact D.chk_yes k.1 k.2
theorem e1_1 {c : Cl} {n : Int} (h : ¬ chk c = 0) : e1 c n = chk c := chks_1 h
theorem e1_2 {c : Cl} {n : Int} (h : chk c = 0) (k : ¬ Day n) : e1 c n = 3 := by
  unfold e1
  rw [chks_2 h]
  have e := D.chk_no k
  show (if D.chk n ≠ 0 then D.chk n else _) = 3
  rw [if_pos (by omega), e]
/-- is it a business day? -/
def isV (c : Cl) (n : Int) : Bool := decide (e1 c n = 0 ∧ op c n = 1)
/-- what is told of a day, or that there is none -/
def toV (d : Int) : Int := if d < 0 then 0 else d
def toE (d : Int) : Int := if d < 0 then 8 else 0
noncomputable def neV (c : Cl) (n : Int) : Int := if e1 c n ≠ 0 then 0 else toV (stU c (n - 1) 1)
noncomputable def neE (c : Cl) (n : Int) : Int := if e1 c n ≠ 0 then e1 c n else toE (stU c (n - 1) 1)
def sE0 (c : Cl) (n m : Int) : Int := if e1 c n ≠ 0 then e1 c n else if m < -500 ∨ 500 < m then 3 else 0
theorem sE0_ok {c : Cl} {n m : Int} (h : sE0 c n m = 0) : e1 c n = 0 ∧ -500 ≤ m ∧ m ≤ 500 := by
  unfold sE0 at h
  split at h
  · exact absurd h ‹_›
  · split at h
    · omega
    · exact ⟨by omega, by omega, by omega⟩
noncomputable def sV (c : Cl) (n m : Int) : Int := if sE0 c n m ≠ 0 then 0 else toV (stp c n m)
noncomputable def sE (c : Cl) (n m : Int) : Int := if sE0 c n m ≠ 0 then sE0 c n m else toE (stp c n m)
def coE (c : Cl) (a b : Int) : Int := if chks c [a, b] ≠ 0 then chks c [a, b] else if b < a then 1 else 0
def coV (c : Cl) (a b : Int) : Int := if coE c a b = 0 then cnt c a b else 0
theorem chks2_ok {c : Cl} {a b : Int} (h : chks c [a, b] = 0) : chk c = 0 ∧ Day a ∧ Day b := by
  by_cases q : chk c = 0
  · rw [chks_2 q] at h
    have h1 := fb_ok h a (by simp)
    have h2 := fb_ok h b (by simp)
    rcases dchk a with x | x <;> rcases dchk b with y | y <;> first | exact ⟨q, x.2, y.2⟩ | omega
  · rw [chks_1 q] at h; omega
theorem coE_ok {c : Cl} {a b : Int} (h : coE c a b = 0) : chk c = 0 ∧ Day a ∧ Day b ∧ a ≤ b := by
  unfold coE at h
  split at h
  · exact absurd h ‹_›
  · split at h
    · omega
    · have := chks2_ok (c := c) (a := a) (b := b) (by omega)
      exact ⟨this.1, this.2.1, this.2.2, by omega⟩
theorem coE_of {c : Cl} {a b : Int} (h : chk c = 0) (ha : Day a) (hb : Day b) (hab : a ≤ b) : coE c a b = 0 := by
  have : chks c [a, b] = 0 := by
    rw [chks_2 h]
    exact fb_yes fun d hd => by
      simp only [List.mem_cons, List.not_mem_nil, or_false] at hd
      rcases hd with rfl | rfl
      · exact D.chk_yes ha.1 ha.2
      · exact D.chk_yes hb.1 hb.2
  unfold coE
  rw [if_neg (by omega), if_neg (by omega)]
theorem eAt_cases {hs : List Int} {k : Nat} {x last : Int} (hx : x = hs.getD k default) (hl : last = if k = 0 then -1 else hs.getD (k - 1) default) :
    (¬ Day x → eAt hs k = 3) ∧ (Day x → x = last → eAt hs k = 6) ∧ (Day x → ¬ x = last → x < last → eAt hs k = 4) ∧ (Day x → ¬ x = last → ¬ x < last → eAt hs k = 0) := by
  subst hx
  unfold eAt Day
  by_cases hk : k = 0
  · subst hk
    rw [if_pos rfl] at hl
    refine ⟨fun h => if_pos h, fun h e => by omega, fun h e q => by omega, fun h e q => ?_⟩
    rw [if_neg (fun z => z h), if_neg (by omega), if_neg (by omega)]
  · rw [if_neg hk] at hl
    refine ⟨fun h => if_pos h, fun h e => ?_, fun h e q => ?_, fun h e q => ?_⟩
    · rw [if_neg (fun z => z h), if_pos (by omega)]
    · rw [if_neg (fun z => z h), if_neg (by omega), if_pos (by omega)]
    · rw [if_neg (fun z => z h), if_neg (by omega), if_neg (by omega)]
theorem smw_bd (c : Cl) (a : Int) : ∀ k : Nat, 0 ≤ sm (wd c) a k ∧ sm (wd c) a k ≤ k
  | 0 => by simp [sm]
  | k + 1 => by
    have := smw_bd c a k
    have := wd_01 c (a + k + 1)
    simp only [sm]; omega
theorem hc_bd (c : Cl) (a b : Int) : ∀ l : List Int, 0 ≤ hc c a b l ∧ hc c a b l ≤ l.length
  | [] => by simp [hc]
  | x :: r => by
    have := hc_bd c a b r
    simp only [hc, List.length_cons]
    split <;> omega
end Ca
end Go.Proofs.Ytcdlhfbpmpjfkaa

/- Plain facts on offers: the check, who lends how much. -/
namespace Go.Proofs.Ytcdlhfbpmpjfkaa
set_option linter.unusedVariables false
set_option linter.unusedSimpArgs false
namespace O
def Ok (o : Of) : Prop := (0 ≤ o.pt ∧ o.pt ≤ 30) ∧ (1 ≤ o.un ∧ o.un ≤ 1073741824) ∧ P.Ok o.pr
instance (o : Of) : Decidable (Ok o) := by unfold Ok; exact inferInstance
/-- parties of offers ahead -/
def seen (l : List Of) (k : Nat) (q : Int) : Bool := (l.take k).any fun o => decide (o.pt = q)
def eAt (l : List Of) (k : Nat) : Int := if ¬ Ok (l.getD k default) then 3 else if seen l k (l.getD k default).pt = true then 6 else 0
def chk (l : List Of) : Int := if 40 < l.length then 2 else Ca.fe (eAt l) l.length
theorem chk_1 {l : List Of} (h : 40 < l.length) : chk l = 2 := if_pos h
theorem chk_2 {l : List Of} (h : ¬ 40 < l.length) : chk l = Ca.fe (eAt l) l.length := if_neg h
structure Oks (l : List Of) : Prop where
  le : l.length ≤ 40
  all : ∀ o ∈ l, Ok o
theorem seen_0 (l : List Of) (q : Int) : seen l 0 q = false := by simp [seen]
theorem seen_succ {l : List Of} {k : Nat} (h : k < l.length) (q : Int) : seen l (k + 1) q = (seen l k q || decide ((l.getD k default).pt = q)) := by
  unfold seen
  rw [List.take_succ_eq_append_getElem h, List.any_append, getD_at h]; simp
theorem seen_iff {l : List Of} {k : Nat} (hk : k ≤ l.length) (q : Int) : seen l k q = true ↔ ∃ j, j < k ∧ (l.getD j default).pt = q := by
  unfold seen
  rw [List.any_eq_true]
  constructor
  · rintro ⟨o, ho, e⟩
    obtain ⟨j, hj, rfl⟩ := List.getElem_of_mem ho
    rw [List.length_take] at hj
    refine ⟨j, by omega, ?_⟩
    rw [getD_at (by omega)]
    simpa using e
  · rintro ⟨j, hj, e⟩
    refine ⟨l.getD j default, ?_, by simpa using e⟩
    rw [getD_at (by omega)]
    exact List.mem_take_iff_getElem.2 ⟨j, by omega, rfl⟩
theorem chk_ok {l : List Of} (h : chk l = 0) : Oks l := by
  by_cases n : 40 < l.length
  · rw [chk_1 n] at h; omega
  rw [chk_2 n] at h
  have a := Ca.fe_ok h
  refine ⟨by omega, fun o ho => ?_⟩
  obtain ⟨i, hi, rfl⟩ := List.getElem_of_mem ho
  have := a i hi
  unfold eAt at this
  split at this
  · omega
  · rename_i q; rw [getD_at hi] at q; exact Classical.not_not.1 q
def us (l : List Of) : List Int := l.map (·.un)
def U (l : List Of) (q : Nat) : Int := (l.getD q default).un
def err (l : List Of) (m : Int) : Int := if chk l ≠ 0 then chk l else if m < 1 ∨ 1073741824 < m then 3 else if Sh.sm (us l) < m then 5 else 0
theorem us_len (l : List Of) : (us l).length = l.length := by simp [us]
theorem us_at {l : List Of} {k : Nat} (h : k < l.length) : (us l).getD k default = U l k := by
  unfold us U
  rw [getD_at (by simpa using h), getD_at h, List.getElem_map]
theorem us_bd {l : List Of} (ok : Oks l) (x : Int) (hx : x ∈ us l) : 1 ≤ x ∧ x ≤ 1073741824 := by
  obtain ⟨o, ho, rfl⟩ := List.mem_map.1 hx
  exact (ok.all o ho).2.1
theorem U_bd {l : List Of} (ok : Oks l) {k : Nat} (h : k < l.length) : 1 ≤ U l k ∧ U l k ≤ 1073741824 := (ok.all _ (getD_mem h)).2.1
theorem pr_bd {l : List Of} (ok : Oks l) {k : Nat} (h : k < l.length) : P.Ok (l.getD k default).pr := (ok.all _ (getD_mem h)).2.2
theorem us_range (l : List Of) : (List.range l.length).map (U l) = us l := by
  refine List.ext_getElem (by simp [us]) fun i h1 h2 => ?_
  have hi : i < l.length := by simpa using h1
  simp [us, U, getD_at hi, List.getElem?_eq_getElem hi]
theorem us_sum {l : List Of} (ok : Oks l) (k : Nat) : 0 ≤ Sh.sm ((us l).take k) ∧ Sh.sm ((us l).take k) ≤ 42949672960 := by
  have a := Sh.sm_take_le (l := us l) (fun x hx => by have := us_bd ok x hx; omega) k
  have b := Sh.sm_bd (l := us l) (B := 1073741824) fun x hx => by have := us_bd ok x hx; omega
  rw [us_len] at b
  have := ok.le
  have c : 1073741824 * (l.length : Int) ≤ 1073741824 * 40 := Int.mul_le_mul_of_nonneg_left (by omega) (by omega)
  omega
theorem us_oks {l : List Of} (ok : Oks l) (h : 0 < l.length) : Sh.Oks (us l) := by
  refine ⟨by rw [us_len]; exact h, by rw [us_len]; exact ok.le, fun x hx => by have := us_bd ok x hx; omega, ?_⟩
  refine ⟨(us l).getD 0 default, getD_mem (by rw [us_len]; exact h), ?_⟩
  have := us_bd ok _ (getD_mem (l := us l) (k := 0) (by rw [us_len]; exact h))
  omega
theorem err_cases (l : List Of) (m : Int) : (¬ chk l = 0 ∧ err l m = chk l) ∨ (chk l = 0 ∧ (m < 1 ∨ 1073741824 < m) ∧ err l m = 3) ∨ (chk l = 0 ∧ (1 ≤ m ∧ m ≤ 1073741824) ∧ Sh.sm (us l) < m ∧ err l m = 5) ∨ (chk l = 0 ∧ (1 ≤ m ∧ m ≤ 1073741824) ∧ m ≤ Sh.sm (us l) ∧ err l m = 0) := by
  by_cases a : chk l = 0
  · by_cases b : m < 1 ∨ 1073741824 < m
    · exact .inr (.inl ⟨a, b, (if_neg (fun z => z a)).trans (if_pos b)⟩)
    · by_cases c : Sh.sm (us l) < m
      · exact .inr (.inr (.inl ⟨a, by omega, c, (if_neg (fun z => z a)).trans ((if_neg b).trans (if_pos c))⟩))
      · exact .inr (.inr (.inr ⟨a, by omega, by omega, (if_neg (fun z => z a)).trans ((if_neg b).trans (if_neg c))⟩))
  · exact .inl ⟨a, if_pos a⟩
def kb (l : List Of) (i k : Nat) : Bool := decide ((l.getD i default).pr < (l.getD k default).pr)
theorem kb1 (l : List Of) (i : Nat) : kb l i i = false := by unfold kb; simp
theorem kb2 (l : List Of) (i j k : Nat) : kb l i j = true → kb l j k = true → kb l i k = true := by unfold kb; simp only [decide_eq_true_eq]; omega
theorem kb3 (l : List Of) (i j k : Nat) : kb l i j = false → kb l j k = false → kb l i k = false := by unfold kb; simp only [decide_eq_false_iff_not]; omega
/-- is one cheaper than another, or as cheap and ahead? -/
def bf (l : List Of) : Nat → Nat → Bool := Od.tie (kb l)
theorem bf_iff (l : List Of) (i k : Nat) : bf l i k = true ↔ (l.getD i default).pr < (l.getD k default).pr ∨ ((l.getD i default).pr = (l.getD k default).pr ∧ i < k) := by
  unfold bf Od.tie kb
  simp only [Bool.or_eq_true, Bool.and_eq_true, Bool.not_eq_true', decide_eq_true_eq, decide_eq_false_iff_not]
  omega
theorem sto (l : List Of) : Od.Sto (bf l) := Od.sto_tie (kb1 l) (kb2 l) (kb3 l)
def bst (l : List Of) (m : Int) : List Int := Gr.all (U l) (bf l) l.length m
def cs (l : List Of) (m : Int) (q : Nat) : Int := P.cost (Gr.tk (U l) (bf l) l.length m q) (l.getD q default).pr
def cost (l : List Of) (m : Int) : Int := Sh.sm ((List.range l.length).map (cs l m))
theorem tk_le {l : List Of} (ok : Oks l) {m : Int} {q : Nat} (h : q < l.length) : 0 ≤ Gr.tk (U l) (bf l) l.length m q ∧ Gr.tk (U l) (bf l) l.length m q ≤ 1073741824 := by
  have a := Gr.tk_bd (u := U l) (bf := bf l) (n := l.length) (m := m) (fun i hi => by have := U_bd ok hi; omega) h
  have := U_bd ok h
  omega
theorem cs_bd {l : List Of} (ok : Oks l) {m : Int} {q : Nat} (h : q < l.length) : 0 ≤ cs l m q ∧ cs l m q ≤ 118059162071741130 := P.cost_bd (tk_le ok h) (pr_bd ok h)
theorem cs_sum {l : List Of} (ok : Oks l) (m : Int) (k : Nat) : 0 ≤ Sh.sm (((Od.srt (bf l) l.length).take k).map (cs l m)) ∧ Sh.sm (((Od.srt (bf l) l.length).take k).map (cs l m)) ≤ 4722366482869645200 := by
  have b := Sh.sm_bd (l := ((Od.srt (bf l) l.length).take k).map (cs l m)) (B := 118059162071741130) fun x hx => by
    obtain ⟨q, hq, rfl⟩ := List.mem_map.1 hx
    exact cs_bd ok (Od.srt_lt (List.take_subset _ _ hq))
  rw [List.length_map, List.length_take, Od.srt_len] at b
  have := ok.le
  have c : 118059162071741130 * ((min k l.length : Nat) : Int) ≤ 118059162071741130 * 40 := Int.mul_le_mul_of_nonneg_left (by omega) (by omega)
  omega
theorem cs_succ {l : List Of} {m : Int} {k : Nat} (h : k < l.length) : Sh.sm (((Od.srt (bf l) l.length).take (k + 1)).map (cs l m)) = Sh.sm (((Od.srt (bf l) l.length).take k).map (cs l m)) + cs l m ((Od.srt (bf l) l.length).getD k default) := by
  rw [Od.take_succ h, List.map_append, Sh.sm_app]; simp [Sh.sm]
theorem cs_end (l : List Of) (m : Int) : Sh.sm (((Od.srt (bf l) l.length).take l.length).map (cs l m)) = cost l m := by
  rw [List.take_of_length_le (by rw [Od.srt_len]; exact Nat.le_refl _)]
  exact Sh.sm_perm ((Od.srt_perm _ _).map _)
end O
end Go.Proofs.Ytcdlhfbpmpjfkaa

/- What the functions on offers answer: the check, units, shares. -/
namespace Go.Proofs.Ytcdlhfbpmpjfkaa
open Go Go.RowKit V
set_option maxRecDepth 100000
set_option linter.unusedVariables false
set_option linter.unusedSimpArgs false
set_option maxHeartbeats 4000000
theorem arr1 {v : Go.Value} {n k : Nat} (h : k < n) : ((List.replicate n v).drop (k * 1)).take 1 = [v] := by
  rw [List.drop_replicate, List.take_replicate, show min 1 (n - k * 1) = 1 by omega]; rfl
theorem O.put {l : List Of} {k p q : Nat} (h : k < l.length) (hp : (l.getD k default).pt = p) : [Value.bool (O.seen l (k + 1) q)] = if q = p then [Value.bool true] else [Value.bool (O.seen l k q)] := by
  rw [O.seen_succ h, hp]
  by_cases e : q = p
  · subst e; simp
  · rw [if_neg e, show decide ((p : Int) = q) = false by simp; omega, Bool.or_false]
theorem v_lnCheck (l : List Of) (hn : l.length ≤ 9223372036854775807) : V.Fn Try.prog 25 [.arr 3 l.length (ga encO l)] [.one (.ref 0)] (.int .i64 (O.chk l)) := by
  have c1 := @O.chk_1 l
  have c2 := @O.chk_2 l
  refine V.Fn.mk_ V.Tok V.mixed Try.func25 rfl Try.ntmps25 (by kernel_rfl) rfl rfl ?_
  repeat' ((conv => whnf); first | refine V.NCond.mk ?_ | refine V.NIf.not_ ?_ | refine V.NIf.dec_ ?_ | refine V.NIf.no (by omega) ?_ | refine V.NIf.yes (by omega) ?_ | refine V.NIf.mk (fun _ => ?_) (fun _ => ?_) | refine V.NWrap.ok (by omega) (by omega) ?_ | refine V.NWrap.u64 (by omega) (by omega) ?_ | refine V.NLt.mk (by omega) ?_ | refine V.NBoth.mk ?_ ?_ | refine V.NTF.yes (by omega) ?_ | refine V.NTF.no (by omega) ?_ | refine V.NTF.dec ?_ | refine V.NDraw.q (by exact rfl) (by kernel_rfl) ?_ | refine V.NApp.one (by first | omega | (simp; omega)) (by first | omega | (simp; omega)) ?_ | (refine V.NDraw.any (by kernel_rfl) ?_) | fail)
  all_goals (conv => whnf)
  · exact V.fin1 (c1 (by omega))
  have e := c2 (by omega)
  refine V.NLoop.auto (fun (k : Nat) => [(11, .one (.val (.int .i64 k)))]) (fun (k : Nat) => [(1, .row 66 1 31 (fun q => [.bool (O.seen l k q)]))]) [] [] (fun (k : Nat) => l.length - k) (fun (k : Nat) => k ≤ l.length ∧ ∀ j, j < k → O.eAt l j = 0) 0 ⟨Nat.zero_le _, fun j h => absurd h (Nat.not_lt_zero _)⟩ (by repeat' (first | exact rfl | exact Iff.rfl | exact trivial | exact (fun _ _ => rfl) | exact (fun _ h => absurd h (Nat.not_lt_zero _)) | refine ⟨?_, ?_⟩ | exact Iff.rfl | exact congrArg (fun z => V.SV.one (V.At.val (Value.int .i64 z))) (by omega))) (by (conv => whnf); exact ⟨⟨rfl, rfl, rfl, fun k hk => (show List.take 1 (List.drop (k * 1) (List.replicate 31 (Value.bool false))) = [Value.bool (O.seen l 0 k)] by rw [O.seen_0]; exact arr1 hk)⟩, trivial⟩) (fun _ => ⟨rfl, rfl⟩) ?_; (conv => whnf); refine ⟨⟨rfl, rfl⟩, ?_⟩
  rintro k ⟨hk, hJ⟩
  have ge : ∀ v, v ≠ 0 → k < l.length → O.eAt l k = v → O.chk l = v := fun v h1 h2 h3 => e.trans ((Ca.fe_get h2 hJ (by omega)).trans h3)
  by_cases hlt : k < l.length
  · have oo : O.Ok (l.getD k default) ↔ ((0 ≤ (l.getD k default).pt ∧ (l.getD k default).pt ≤ 30) ∧ (1 ≤ (l.getD k default).un ∧ (l.getD k default).un ≤ 1073741824) ∧ P.Ok (l.getD k default).pr) := Iff.rfl
    have e1 : ¬ O.Ok (l.getD k default) → O.eAt l k = 3 := fun q => if_pos q
    have e2 : O.Ok (l.getD k default) → O.seen l k (l.getD k default).pt = true → O.eAt l k = 6 := fun q r => (if_neg (fun z => z q)).trans (if_pos r)
    have e3 : O.Ok (l.getD k default) → ¬ O.seen l k (l.getD k default).pt = true → O.eAt l k = 0 := fun q r => (if_neg (fun z => z q)).trans (if_neg r)
    have pt := fun p q => @O.put l k p q hlt
    have on : O.eAt l k = 0 → ∀ j, j < k + 1 → O.eAt l j = 0 := fun q j hj => by
      by_cases z : j = k
      · subst z; exact q
      · exact hJ j (by omega)
    have hy := @P.chk_yes (l.getD k default).pr
    have hz := @P.chk_no (l.getD k default).pr
    by_cases ok : O.Ok (l.getD k default)
    · have ok' := oo.1 ok
      have pc := v_pcheck (l.getD k default).pr
      rw [hy ok'.2.2] at pc
      obtain ⟨p, hp⟩ : ∃ p : Nat, (l.getD k default).pt = p := ⟨(l.getD k default).pt.toNat, by omega⟩
      have pt := fun q => pt p q hp
      have e2 := e2 ok
      have e3 := e3 ok
      rw [hp] at e2 e3
      clear hy hz c1 c2 e e1 oo hJ
      generalize O.eAt l k = E at *
      repeat' ((conv => whnf); first | (refine V.NIf.yes ?_ ?_; · (decide; done)) | (refine V.NIf.no ?_ ?_; · (decide; done)) | refine V.NCond.mk ?_ | refine V.NIf.not_ ?_ | refine V.NIf.dec_ ?_ | refine V.NIf.no (by omega) ?_ | refine V.NIf.yes (by omega) ?_ | refine V.NIf.mk (fun _ => ?_) (fun _ => ?_) | refine V.NWrap.ok (by omega) (by omega) ?_ | refine V.NWrap.u64 (by omega) (by omega) ?_ | refine V.NLt.mk (by omega) ?_ | refine V.NBoth.mk ?_ ?_ | refine V.NTF.yes (by omega) ?_ | refine V.NTF.no (by omega) ?_ | refine V.NTF.dec ?_ | refine V.NDraw.q (by exact rfl) (by kernel_rfl) ?_ | refine V.NApp.one (by first | omega | (simp; omega)) (by first | omega | (simp; omega)) ?_ | (refine NIdx.mk ⟨k, rfl, by omega, ?_⟩) | (first | refine V.Fn.k0 (pc) rfl ?_ | refine V.Fn.q0 (pc) rfl ?_ | refine V.Fn.a0 (pc) rfl ?_) | (refine NIdx.mk ⟨p, by omega, by omega, ?_⟩) | (refine ⟨⟨fun q => [.bool (O.seen l (k + 1) q)], fun q hq => pt q, ?_⟩⟩) | (refine V.NDraw.any (by kernel_rfl) ?_) | fail)
      all_goals (conv => whnf)
      all_goals first
        | exact V.fin1 (ge 6 (by decide) hlt (e2 (by assumption)))
        | exact V.NBack.at_ (k + 1) [] ⟨by omega, on (e3 (by assumption))⟩ (by omega) (by repeat' (first | exact rfl | exact Iff.rfl | exact trivial | exact (fun _ _ => rfl) | exact (fun _ h => absurd h (Nat.not_lt_zero _)) | refine ⟨?_, ?_⟩ | exact Iff.rfl | exact congrArg (fun z => V.SV.one (V.At.val (Value.int .i64 z))) (by omega))) rfl (by repeat' (first | exact rfl | exact Iff.rfl | exact trivial | exact (fun _ _ => rfl) | exact (fun _ h => absurd h (Nat.not_lt_zero _)) | refine ⟨?_, ?_⟩ | exact Iff.rfl | exact congrArg (fun z => V.SV.one (V.At.val (Value.int .i64 z))) (by omega))) (by repeat' (first | exact rfl | exact Iff.rfl | exact trivial | exact (fun _ _ => rfl) | exact (fun _ h => absurd h (Nat.not_lt_zero _)) | refine ⟨?_, ?_⟩ | exact Iff.rfl | exact congrArg (fun z => V.SV.one (V.At.val (Value.int .i64 z))) (by omega))) (by repeat' (first | exact rfl | exact Iff.rfl | exact trivial | exact (fun _ _ => rfl) | exact (fun _ h => absurd h (Nat.not_lt_zero _)) | refine ⟨?_, ?_⟩ | exact Iff.rfl | exact congrArg (fun z => V.SV.one (V.At.val (Value.int .i64 z))) (by omega)))
    · have e1 := e1 ok
      have pc := v_pcheck (l.getD k default).pr
      by_cases po : P.Ok (l.getD k default).pr
      · rw [hy po] at pc
        have no : ¬ ((0 ≤ (l.getD k default).pt ∧ (l.getD k default).pt ≤ 30) ∧ (1 ≤ (l.getD k default).un ∧ (l.getD k default).un ≤ 1073741824)) := fun q => ok (oo.2 ⟨q.1, q.2, po⟩)
        clear hy hz c1 c2 e e2 e3 oo ok on pt
        repeat' ((conv => whnf); first | (refine V.NIf.yes ?_ ?_; · (decide; done)) | (refine V.NIf.no ?_ ?_; · (decide; done)) | refine V.NCond.mk ?_ | refine V.NIf.not_ ?_ | refine V.NIf.dec_ ?_ | refine V.NIf.no (by omega) ?_ | refine V.NIf.yes (by omega) ?_ | refine V.NIf.mk (fun _ => ?_) (fun _ => ?_) | refine V.NWrap.ok (by omega) (by omega) ?_ | refine V.NWrap.u64 (by omega) (by omega) ?_ | refine V.NLt.mk (by omega) ?_ | refine V.NBoth.mk ?_ ?_ | refine V.NTF.yes (by omega) ?_ | refine V.NTF.no (by omega) ?_ | refine V.NTF.dec ?_ | refine V.NDraw.q (by exact rfl) (by kernel_rfl) ?_ | refine V.NApp.one (by first | omega | (simp; omega)) (by first | omega | (simp; omega)) ?_ | (refine NIdx.mk ⟨k, rfl, by omega, ?_⟩) | (first | refine V.Fn.k0 (pc) rfl ?_ | refine V.Fn.q0 (pc) rfl ?_ | refine V.Fn.a0 (pc) rfl ?_) | (refine V.NDraw.any (by kernel_rfl) ?_) | fail)
        all_goals (conv => whnf)
        all_goals first
          | exact V.fin1 (ge 3 (by decide) hlt e1)
          | (exfalso; omega)
      · rw [hz po] at pc
        clear hy hz c1 c2 e e2 e3 oo ok on pt
        repeat' ((conv => whnf); first | (refine V.NIf.yes ?_ ?_; · (decide; done)) | (refine V.NIf.no ?_ ?_; · (decide; done)) | refine V.NCond.mk ?_ | refine V.NIf.not_ ?_ | refine V.NIf.dec_ ?_ | refine V.NIf.no (by omega) ?_ | refine V.NIf.yes (by omega) ?_ | refine V.NIf.mk (fun _ => ?_) (fun _ => ?_) | refine V.NWrap.ok (by omega) (by omega) ?_ | refine V.NWrap.u64 (by omega) (by omega) ?_ | refine V.NLt.mk (by omega) ?_ | refine V.NBoth.mk ?_ ?_ | refine V.NTF.yes (by omega) ?_ | refine V.NTF.no (by omega) ?_ | refine V.NTF.dec ?_ | refine V.NDraw.q (by exact rfl) (by kernel_rfl) ?_ | refine V.NApp.one (by first | omega | (simp; omega)) (by first | omega | (simp; omega)) ?_ | (refine NIdx.mk ⟨k, rfl, by omega, ?_⟩) | (first | refine V.Fn.k0 (pc) rfl ?_ | refine V.Fn.q0 (pc) rfl ?_ | refine V.Fn.a0 (pc) rfl ?_) | (refine V.NDraw.any (by kernel_rfl) ?_) | fail)
        all_goals (conv => whnf)
        all_goals first
          | exact V.fin1 (ge 3 (by decide) hlt e1)
          | (exfalso; omega)
  · obtain rfl : k = l.length := by omega
    repeat' ((conv => whnf); first | refine V.NCond.mk ?_ | refine V.NIf.not_ ?_ | refine V.NIf.dec_ ?_ | refine V.NIf.no (by omega) ?_ | refine V.NIf.yes (by omega) ?_ | refine V.NIf.mk (fun _ => ?_) (fun _ => ?_) | refine V.NWrap.ok (by omega) (by omega) ?_ | refine V.NWrap.u64 (by omega) (by omega) ?_ | refine V.NLt.mk (by omega) ?_ | refine V.NBoth.mk ?_ ?_ | refine V.NTF.yes (by omega) ?_ | refine V.NTF.no (by omega) ?_ | refine V.NTF.dec ?_ | refine V.NDraw.q (by exact rfl) (by kernel_rfl) ?_ | refine V.NApp.one (by first | omega | (simp; omega)) (by first | omega | (simp; omega)) ?_ | (refine V.NDraw.any (by kernel_rfl) ?_) | fail)
    all_goals (conv => whnf)
    exact V.fin1 (e.trans (Ca.fe_end hJ))
theorem O.us_snoc {l : List Of} {k : Nat} (h : k < l.length) : (O.us l).take (k + 1) = (O.us l).take k ++ [(l.getD k default).un] := by
  rw [List.take_succ_eq_append_getElem (by rw [O.us_len]; exact h), ← getD_at (by rw [O.us_len]; exact h), O.us_at h]; rfl
theorem v_lnUnits (l : List Of) (ok : O.Oks l) : V.FnR Try.prog 46 [.arr 3 l.length (ga encO l)] [.one (.ref 0)] (.tup [.one (.ref 1), .one (.val (.int .i64 (Sh.sm (O.us l))))]) [.row 3 1 (O.us l).length (ga e1 (O.us l))] := by
  have le := ok.le
  have sb := O.us_sum ok
  have ul := O.us_len l
  refine V.FnR.mk_ V.Tok V.mixed Try.func46 rfl Try.ntmps46 (by kernel_rfl) rfl rfl rfl rfl ?_
  repeat' ((conv => whnf); first | refine V.NCond.mk ?_ | refine V.NIf.not_ ?_ | refine V.NIf.dec_ ?_ | refine V.NIf.no (by omega) ?_ | refine V.NIf.yes (by omega) ?_ | refine V.NIf.mk (fun _ => ?_) (fun _ => ?_) | refine V.NWrap.ok (by omega) (by omega) ?_ | refine V.NWrap.u64 (by omega) (by omega) ?_ | refine V.NLt.mk (by omega) ?_ | refine V.NBoth.mk ?_ ?_ | refine V.NTF.yes (by omega) ?_ | refine V.NTF.no (by omega) ?_ | refine V.NTF.dec ?_ | refine V.NDraw.q (by exact rfl) (by kernel_rfl) ?_ | refine V.NApp.one (by first | omega | (simp; omega)) (by first | omega | (simp; omega)) ?_ | (refine V.NDraw.any (by kernel_rfl) ?_) | fail)
  all_goals (conv => whnf)
  refine V.NLoop.auto (fun (k : Nat) => [(8, .one (.val (.int .i64 k))), (2, .one (.ref 1)), (3, .one (.val (.int .i64 (Sh.sm ((O.us l).take k)))))]) (fun (k : Nat) => [(1, .row 3 1 ((O.us l).take k).length (ga e1 ((O.us l).take k)))]) [] [] (fun (k : Nat) => l.length - k) (fun (k : Nat) => k ≤ l.length) 0 (Nat.zero_le _) (by repeat' (first | exact rfl | exact Iff.rfl | exact trivial | exact (fun _ _ => rfl) | exact (fun _ h => absurd h (Nat.not_lt_zero _)) | refine ⟨?_, ?_⟩ | exact Iff.rfl | exact congrArg (fun z => V.SV.one (V.At.val (Value.int .i64 z))) (by omega))) (by (conv => whnf); exact ⟨⟨rfl, rfl, rfl, fun k hk => absurd hk (Nat.not_lt_zero _)⟩, trivial⟩) (fun _ => ⟨rfl, rfl⟩) ?_; (conv => whnf); refine ⟨⟨rfl, rfl⟩, ?_⟩
  rintro k hk
  have b := sb k
  have lk : ((O.us l).take k).length = k := by rw [List.length_take]; omega
  by_cases hlt : k < l.length
  · have u1 := (ok.all _ (getD_mem hlt)).2.1
    have sn := O.us_snoc hlt
    have ss := Sh.sm_take (l := O.us l) (k := k) (by omega)
    rw [O.us_at hlt] at ss
    have uu : O.U l k = (l.getD k default).un := rfl
    generalize (O.us l).take k = A at *
    repeat' ((conv => whnf); first | (refine NApp.one (en := e1) (l := A) (x := (l.getD k default).un) (by first | omega | (simp; omega)) (by first | omega | (simp; omega)) ?_) | refine V.NCond.mk ?_ | refine V.NIf.not_ ?_ | refine V.NIf.dec_ ?_ | refine V.NIf.no (by omega) ?_ | refine V.NIf.yes (by omega) ?_ | refine V.NIf.mk (fun _ => ?_) (fun _ => ?_) | refine V.NWrap.ok (by omega) (by omega) ?_ | refine V.NWrap.u64 (by omega) (by omega) ?_ | refine V.NLt.mk (by omega) ?_ | refine V.NBoth.mk ?_ ?_ | refine V.NTF.yes (by omega) ?_ | refine V.NTF.no (by omega) ?_ | refine V.NTF.dec ?_ | refine V.NDraw.q (by exact rfl) (by kernel_rfl) ?_ | refine V.NApp.one (by first | omega | (simp; omega)) (by first | omega | (simp; omega)) ?_ | (refine NIdx.mk ⟨k, rfl, by omega, ?_⟩) | (refine V.NDraw.any (by kernel_rfl) ?_) | fail)
    all_goals (conv => whnf)
    all_goals first | exact V.NBack.at_ (k + 1) [(1, 3)] (by omega) (by omega) ⟨(by repeat' (first | exact rfl | exact Iff.rfl | exact trivial | exact (fun _ _ => rfl) | exact (fun _ h => absurd h (Nat.not_lt_zero _)) | refine ⟨?_, ?_⟩ | exact Iff.rfl | exact congrArg (fun z => V.SV.one (V.At.val (Value.int .i64 z))) (by omega))), rfl, congrArg (fun z => V.SV.one (V.At.val (Value.int .i64 z))) (by omega), trivial⟩ rfl ⟨ObLe.as_ sn, trivial⟩ (by repeat' (first | exact rfl | exact Iff.rfl | exact trivial | exact (fun _ _ => rfl) | exact (fun _ h => absurd h (Nat.not_lt_zero _)) | refine ⟨?_, ?_⟩ | exact Iff.rfl | exact congrArg (fun z => V.SV.one (V.At.val (Value.int .i64 z))) (by omega))) (by repeat' (first | exact rfl | exact Iff.rfl | exact trivial | exact (fun _ _ => rfl) | exact (fun _ h => absurd h (Nat.not_lt_zero _)) | refine ⟨?_, ?_⟩ | exact Iff.rfl | exact congrArg (fun z => V.SV.one (V.At.val (Value.int .i64 z))) (by omega))) | exact V.NBack.at_ (k + 1) [(1, 4)] (by omega) (by omega) ⟨(by repeat' (first | exact rfl | exact Iff.rfl | exact trivial | exact (fun _ _ => rfl) | exact (fun _ h => absurd h (Nat.not_lt_zero _)) | refine ⟨?_, ?_⟩ | exact Iff.rfl | exact congrArg (fun z => V.SV.one (V.At.val (Value.int .i64 z))) (by omega))), rfl, congrArg (fun z => V.SV.one (V.At.val (Value.int .i64 z))) (by omega), trivial⟩ rfl ⟨ObLe.as_ sn, trivial⟩ (by repeat' (first | exact rfl | exact Iff.rfl | exact trivial | exact (fun _ _ => rfl) | exact (fun _ h => absurd h (Nat.not_lt_zero _)) | refine ⟨?_, ?_⟩ | exact Iff.rfl | exact congrArg (fun z => V.SV.one (V.At.val (Value.int .i64 z))) (by omega))) (by repeat' (first | exact rfl | exact Iff.rfl | exact trivial | exact (fun _ _ => rfl) | exact (fun _ h => absurd h (Nat.not_lt_zero _)) | refine ⟨?_, ?_⟩ | exact Iff.rfl | exact congrArg (fun z => V.SV.one (V.At.val (Value.int .i64 z))) (by omega))) | exact V.NBack.at_ (k + 1) [(1, 5)] (by omega) (by omega) ⟨(by repeat' (first | exact rfl | exact Iff.rfl | exact trivial | exact (fun _ _ => rfl) | exact (fun _ h => absurd h (Nat.not_lt_zero _)) | refine ⟨?_, ?_⟩ | exact Iff.rfl | exact congrArg (fun z => V.SV.one (V.At.val (Value.int .i64 z))) (by omega))), rfl, congrArg (fun z => V.SV.one (V.At.val (Value.int .i64 z))) (by omega), trivial⟩ rfl ⟨ObLe.as_ sn, trivial⟩ (by repeat' (first | exact rfl | exact Iff.rfl | exact trivial | exact (fun _ _ => rfl) | exact (fun _ h => absurd h (Nat.not_lt_zero _)) | refine ⟨?_, ?_⟩ | exact Iff.rfl | exact congrArg (fun z => V.SV.one (V.At.val (Value.int .i64 z))) (by omega))) (by repeat' (first | exact rfl | exact Iff.rfl | exact trivial | exact (fun _ _ => rfl) | exact (fun _ h => absurd h (Nat.not_lt_zero _)) | refine ⟨?_, ?_⟩ | exact Iff.rfl | exact congrArg (fun z => V.SV.one (V.At.val (Value.int .i64 z))) (by omega)))
  · obtain rfl : k = l.length := by omega
    rw [List.take_of_length_le (by omega)]
    repeat' ((conv => whnf); first | refine V.NCond.mk ?_ | refine V.NIf.not_ ?_ | refine V.NIf.dec_ ?_ | refine V.NIf.no (by omega) ?_ | refine V.NIf.yes (by omega) ?_ | refine V.NIf.mk (fun _ => ?_) (fun _ => ?_) | refine V.NWrap.ok (by omega) (by omega) ?_ | refine V.NWrap.u64 (by omega) (by omega) ?_ | refine V.NLt.mk (by omega) ?_ | refine V.NBoth.mk ?_ ?_ | refine V.NTF.yes (by omega) ?_ | refine V.NTF.no (by omega) ?_ | refine V.NTF.dec ?_ | refine V.NDraw.q (by exact rfl) (by kernel_rfl) ?_ | refine V.NApp.one (by first | omega | (simp; omega)) (by first | omega | (simp; omega)) ?_ | (refine V.NDraw.any (by kernel_rfl) ?_) | fail)
    all_goals (conv => whnf)
    exact NRet.mk_ [some 1] rfl ⟨rfl, rfl, trivial⟩ ⟨⟨rfl, rfl, rfl, fun k hk => rfl⟩, trivial⟩
end Go.Proofs.Ytcdlhfbpmpjfkaa

/- Sorting that keeps the order of equals, of numbers: the walks. -/
namespace Go.Proofs.Ytcdlhfbpmpjfkaa
open Go Go.Sort Go.RowKit V
set_option maxRecDepth 100000
set_option linter.unusedVariables false
set_option linter.unusedSimpArgs false
set_option maxHeartbeats 4000000
/-- a number below N + 1, and at which place it stood -/
structure It (Z : Nat) where
  q : Int
  tg : Nat
  ok : 0 ≤ q ∧ q < (Z : Int) + 1
instance {Z : Nat} : Inhabited (It Z) := ⟨⟨0, 0, by omega⟩⟩
variable {Z : Nat}
def encTI (x : It Z) : List Go.Value := [.int .i64 x.q]
theorem arr_getI {d : Array (It Z)} {k : Nat} : d.toList.getD k default = d[k]! := by
  rw [List.getD_eq_getElem?_getD, Array.getElem?_toList]
  by_cases h : k < d.size
  · rw [getElem!_pos d k h, Array.getElem?_eq_getElem h]; rfl
  · rw [getElem!_neg d k h, Array.getElem?_eq_none (by omega)]; rfl
theorem swp_listI (d : Array (It Z)) (i j : Nat) : (swp d i j).toList = (d.toList.set i d[j]!).set j d[i]! := by simp [swp]
theorem v_swapI (nx : Nat) (O : Obs) (hT : Tail (nx + 1) O) (g : FuncId) (cp : Nat) (hcl : Nat.blt cp (nx + 1) = true) (d : Array (It Z)) (a b n : Nat) (h1 : a + n ≤ b) (h2 : b + n ≤ d.size) (h3 : d.size ≤ 4611686018427387904) :
    Fam Try.prog 67 [.one (.ref 0), .one (.val (.int .i64 ((a : Int)))), .one (.val (.int .i64 ((b : Int)))), .one (.val (.int .i64 ((n : Int)))), .one (.clo g [cp])] 3 1 d.size (ga encTI d.toList) nx O (fun r => ∃ d', St.Sw a b n d d' ∧ r = ga encTI d'.toList) := by
  refine Fam.mk hT ?_
  refine V.NCall.inl (f := 67) V.Tok V.mixed Try.func67 rfl Try.ntmps67 (by kernel_rfl) rfl ?_
  repeat' ((conv => whnf); first | refine V.NCond.mk ?_ | refine V.NIf.not_ ?_ | refine V.NIf.dec_ ?_ | refine V.NIf.no (by omega) ?_ | refine V.NIf.yes (by omega) ?_ | refine V.NIf.mk (fun _ => ?_) (fun _ => ?_) | refine V.NWrap.ok (by omega) (by omega) ?_ | refine V.NWrap.u64 (by omega) (by omega) ?_ | refine V.NLt.mk (by omega) ?_ | refine V.NBoth.mk ?_ ?_ | refine V.NTF.yes (by omega) ?_ | refine V.NTF.no (by omega) ?_ | refine V.NTF.dec ?_ | refine V.NDraw.q (by exact rfl) (by kernel_rfl) ?_ | refine V.NApp.one (by first | omega | (simp; omega)) (by first | omega | (simp; omega)) ?_ | (refine V.NDraw.any (by kernel_rfl) ?_) | fail)
  all_goals (conv => whnf)
  refine NLoop.fam hT (fun (i : Nat × Array (It Z)) => [(10, .one (.val (.int .i64 i.1)))]) [(0, .one (.ref 0)), (1, .one (.val (.int .i64 a))), (2, .one (.val (.int .i64 b))), (3, .one (.val (.int .i64 n))), (4, .one (.clo g [cp]))] 3 1 d.size (fun i => ga encTI i.2.toList) (fun i => n - i.1) (fun i => i.1 ≤ n ∧ St.Sw a b i.1 d i.2) (0, d) ⟨Nat.zero_le _, St.Sw.zero a b d⟩ [(0, _)] rfl rfl rfl (fun k hk => rfl) (by repeat' (first | exact rfl | exact Iff.rfl | exact trivial | exact (fun _ _ => rfl) | exact (fun _ h => absurd h (Nat.not_lt_zero _)) | refine ⟨?_, ?_⟩ | exact Iff.rfl | exact congrArg (fun z => V.SV.one (V.At.val (Value.int .i64 z))) (by omega))) (fun _ => rfl) (by first | rfl | simpa [envB, svB, atB] using hcl) ?_
  rintro ⟨i, d1⟩ ⟨hi, hS⟩
  dsimp only at hi hS ⊢
  by_cases hlt : i < n
  · have st := hS.succ (by omega) (by omega)
    have sz := hS.1
    have e1 := arr_getI (d := d1) (k := a + i)
    have e2 := arr_getI (d := d1) (k := b + i)
    have e3 := swp_listI d1 (a + i) (b + i)
    rw [← e1, ← e2] at e3
    repeat' ((conv => whnf); first | refine V.NCond.mk ?_ | refine V.NIf.not_ ?_ | refine V.NIf.dec_ ?_ | refine V.NIf.no (by omega) ?_ | refine V.NIf.yes (by omega) ?_ | refine V.NIf.mk (fun _ => ?_) (fun _ => ?_) | refine V.NWrap.ok (by omega) (by omega) ?_ | refine V.NWrap.u64 (by omega) (by omega) ?_ | refine V.NLt.mk (by omega) ?_ | refine V.NBoth.mk ?_ ?_ | refine V.NTF.yes (by omega) ?_ | refine V.NTF.no (by omega) ?_ | refine V.NTF.dec ?_ | refine V.NDraw.q (by exact rfl) (by kernel_rfl) ?_ | refine V.NApp.one (by first | omega | (simp; omega)) (by first | omega | (simp; omega)) ?_ | (refine NIdx.mk ⟨a + i, by omega, by omega, ?_⟩) | (refine NIdx.mk ⟨b + i, by omega, by omega, ?_⟩) | (refine NPut.is_ (en := encTI) (l := d1.toList) (d1.toList.getD (b + i) default) (d1.toList.set (a + i) (d1.toList.getD (b + i) default)) rfl (by simp [sz]) rfl ?_) | (refine NPut.is_ (en := encTI) (l := d1.toList.set (a + i) (d1.toList.getD (b + i) default)) (d1.toList.getD (a + i) default) (swp d1 (a + i) (b + i)).toList e3.symm (by simp [sz]) rfl ?_) | (refine V.NDraw.any (by kernel_rfl) ?_) | fail)
    all_goals (conv => whnf)
    exact FBack.at_ hT (i + 1, swp d1 (a + i) (b + i)) [(0, _), (0, _), (0, _)] ⟨by dsimp only; omega, st⟩ (by dsimp only; omega) (by repeat' (first | exact rfl | exact Iff.rfl | exact trivial | exact (fun _ _ => rfl) | exact (fun _ h => absurd h (Nat.not_lt_zero _)) | refine ⟨?_, ?_⟩ | exact Iff.rfl | exact congrArg (fun z => V.SV.one (V.At.val (Value.int .i64 z))) (by omega))) rfl rfl rfl (fun k hk => rfl)
  · obtain rfl : i = n := by omega
    repeat' ((conv => whnf); first | refine V.NCond.mk ?_ | refine V.NIf.not_ ?_ | refine V.NIf.dec_ ?_ | refine V.NIf.no (by omega) ?_ | refine V.NIf.yes (by omega) ?_ | refine V.NIf.mk (fun _ => ?_) (fun _ => ?_) | refine V.NWrap.ok (by omega) (by omega) ?_ | refine V.NWrap.u64 (by omega) (by omega) ?_ | refine V.NLt.mk (by omega) ?_ | refine V.NBoth.mk ?_ ?_ | refine V.NTF.yes (by omega) ?_ | refine V.NTF.no (by omega) ?_ | refine V.NTF.dec ?_ | refine V.NDraw.q (by exact rfl) (by kernel_rfl) ?_ | refine V.NApp.one (by first | omega | (simp; omega)) (by first | omega | (simp; omega)) ?_ | (refine V.NDraw.any (by kernel_rfl) ?_) | fail)
    all_goals (conv => whnf)
    exact ⟨rfl, rfl, [(0, _)], _, rfl, rfl, rfl, d1, hS, rfl⟩
/-- a rotation -/
theorem v_rotI (nx : Nat) (O : Obs) (hT : Tail (nx + 1) O) (g : FuncId) (cp : Nat) (hcl : Nat.blt cp (nx + 1) = true) (d : Array (It Z)) (a m b : Nat) (h1 : a ≤ m) (h2 : m ≤ b) (h3 : b ≤ d.size) (h4 : a < m) (h5 : m < b) (h6 : d.size ≤ 4611686018427387904) :
    Fam Try.prog 63 [.one (.ref 0), .one (.val (.int .i64 ((a : Int)))), .one (.val (.int .i64 ((m : Int)))), .one (.val (.int .i64 ((b : Int)))), .one (.clo g [cp])] 3 1 d.size (ga encTI d.toList) nx O (fun r => ∃ d', St.Rot a m b d d' ∧ r = ga encTI d'.toList) := by
  refine Fam.mk hT ?_
  refine V.NCall.inl (f := 63) V.Tok V.mixed Try.func63 rfl Try.ntmps63 (by kernel_rfl) rfl ?_
  repeat' ((conv => whnf); first | refine V.NCond.mk ?_ | refine V.NIf.not_ ?_ | refine V.NIf.dec_ ?_ | refine V.NIf.no (by omega) ?_ | refine V.NIf.yes (by omega) ?_ | refine V.NIf.mk (fun _ => ?_) (fun _ => ?_) | refine V.NWrap.ok (by omega) (by omega) ?_ | refine V.NWrap.u64 (by omega) (by omega) ?_ | refine V.NLt.mk (by omega) ?_ | refine V.NBoth.mk ?_ ?_ | refine V.NTF.yes (by omega) ?_ | refine V.NTF.no (by omega) ?_ | refine V.NTF.dec ?_ | refine V.NDraw.q (by exact rfl) (by kernel_rfl) ?_ | refine V.NApp.one (by first | omega | (simp; omega)) (by first | omega | (simp; omega)) ?_ | (refine V.NDraw.any (by kernel_rfl) ?_) | fail)
  all_goals (conv => whnf)
  refine NLoop.fam hT (fun (s : Nat × Nat × Array (It Z)) => [(10, .one (.val (.int .i64 s.1))), (11, .one (.val (.int .i64 s.2.1)))]) [(0, .one (.ref 0)), (1, .one (.val (.int .i64 a))), (2, .one (.val (.int .i64 m))), (3, .one (.val (.int .i64 b))), (4, .one (.clo g [cp]))] 3 1 d.size (fun s => ga encTI s.2.2.toList) (fun s => s.1 + s.2.1) (fun s => 0 < s.1 ∧ 0 < s.2.1 ∧ s.1 ≤ m - a ∧ s.2.1 ≤ b - m ∧ s.2.2.size = d.size ∧ ∀ d', St.Rot (m - s.1) m (m + s.2.1) s.2.2 d' → St.Rot a m b d d') (m - a, b - m, d) ⟨by dsimp only; omega, by dsimp only; omega, Nat.le_refl _, Nat.le_refl _, rfl, fun d' r => by dsimp only at r; rwa [show m - (m - a) = a by omega, show m + (b - m) = b by omega] at r⟩ [(0, _)] rfl rfl rfl (fun k hk => rfl) ?_ (fun _ => rfl) (by first | rfl | simpa [envB, svB, atB] using hcl) ?_
  · exact ⟨congrArg (fun z : Int => SV.one (At.val (Value.int .i64 z))) (show (m : Int) - a = ((m - a : Nat) : Int) by omega), congrArg (fun z : Int => SV.one (At.val (Value.int .i64 z))) (show (b : Int) - m = ((b - m : Nat) : Int) by omega), rfl, rfl, rfl, rfl, rfl, trivial⟩
  rintro ⟨i, j, d1⟩ ⟨hi0, hj0, hi, hj, sz, hR⟩
  dsimp only at hi0 hj0 hi hj sz hR ⊢
  have k1 : ((m - i : Nat) : Int) = (m : Int) - i := by omega
  by_cases e : i = j
  · subst e
    have c := v_swapI nx O hT g cp hcl d1 (m - i) m i (by omega) (by omega) (by omega)
    rw [sz, k1] at c
    repeat' ((conv => whnf); first | refine V.NCond.mk ?_ | refine V.NIf.not_ ?_ | refine V.NIf.dec_ ?_ | refine V.NIf.no (by omega) ?_ | refine V.NIf.yes (by omega) ?_ | refine V.NIf.mk (fun _ => ?_) (fun _ => ?_) | refine V.NWrap.ok (by omega) (by omega) ?_ | refine V.NWrap.u64 (by omega) (by omega) ?_ | refine V.NLt.mk (by omega) ?_ | refine V.NBoth.mk ?_ ?_ | refine V.NTF.yes (by omega) ?_ | refine V.NTF.no (by omega) ?_ | refine V.NTF.dec ?_ | refine V.NDraw.q (by exact rfl) (by kernel_rfl) ?_ | refine V.NApp.one (by first | omega | (simp; omega)) (by first | omega | (simp; omega)) ?_ | (refine Fam.use c hT [(0, _)] rfl rfl rfl (fun k hk => rfl) ?_; rintro g' ⟨d2, hS, rfl⟩) | (refine V.NDraw.any (by kernel_rfl) ?_) | fail)
    all_goals (conv => whnf)
    exact ⟨rfl, rfl, [(0, _)], _, rfl, rfl, rfl, d2, hR d2 (St.rot_end (by omega) hS), rfl⟩
  · by_cases lt : j < i
    · have c := v_swapI nx O hT g cp hcl d1 (m - i) m j (by omega) (by omega) (by omega)
      rw [sz, k1] at c
      repeat' ((conv => whnf); first | refine V.NCond.mk ?_ | refine V.NIf.not_ ?_ | refine V.NIf.dec_ ?_ | refine V.NIf.no (by omega) ?_ | refine V.NIf.yes (by omega) ?_ | refine V.NIf.mk (fun _ => ?_) (fun _ => ?_) | refine V.NWrap.ok (by omega) (by omega) ?_ | refine V.NWrap.u64 (by omega) (by omega) ?_ | refine V.NLt.mk (by omega) ?_ | refine V.NBoth.mk ?_ ?_ | refine V.NTF.yes (by omega) ?_ | refine V.NTF.no (by omega) ?_ | refine V.NTF.dec ?_ | refine V.NDraw.q (by exact rfl) (by kernel_rfl) ?_ | refine V.NApp.one (by first | omega | (simp; omega)) (by first | omega | (simp; omega)) ?_ | (refine Fam.use c hT [(0, _)] rfl rfl rfl (fun k hk => rfl) ?_; rintro g' ⟨d2, hS, rfl⟩) | (refine V.NDraw.any (by kernel_rfl) ?_) | fail)
      all_goals (conv => whnf)
      exact FBack.at_ hT (i - j, j, d2) [(0, _)] ⟨by dsimp only; omega, hj0, by dsimp only; omega, hj, by dsimp only; rw [hS.1, sz], fun d' r => hR d' (St.rot_left (by omega) hj0 lt hS r)⟩ (by dsimp only; omega) ⟨congrArg (fun z : Int => SV.one (At.val (Value.int .i64 z))) (show (i : Int) - j = ((i - j : Nat) : Int) by omega), rfl, rfl, rfl, rfl, rfl, rfl, trivial⟩ rfl rfl rfl (fun k hk => rfl)
    · have c := v_swapI nx O hT g cp hcl d1 (m - i) (m + j - i) i (by omega) (by omega) (by omega)
      rw [sz, k1, show ((m + j - i : Nat) : Int) = (m : Int) + j - i by omega] at c
      repeat' ((conv => whnf); first | refine V.NCond.mk ?_ | refine V.NIf.not_ ?_ | refine V.NIf.dec_ ?_ | refine V.NIf.no (by omega) ?_ | refine V.NIf.yes (by omega) ?_ | refine V.NIf.mk (fun _ => ?_) (fun _ => ?_) | refine V.NWrap.ok (by omega) (by omega) ?_ | refine V.NWrap.u64 (by omega) (by omega) ?_ | refine V.NLt.mk (by omega) ?_ | refine V.NBoth.mk ?_ ?_ | refine V.NTF.yes (by omega) ?_ | refine V.NTF.no (by omega) ?_ | refine V.NTF.dec ?_ | refine V.NDraw.q (by exact rfl) (by kernel_rfl) ?_ | refine V.NApp.one (by first | omega | (simp; omega)) (by first | omega | (simp; omega)) ?_ | (refine Fam.use c hT [(0, _)] rfl rfl rfl (fun k hk => rfl) ?_; rintro g' ⟨d2, hS, rfl⟩) | (refine V.NDraw.any (by kernel_rfl) ?_) | fail)
      all_goals (conv => whnf)
      exact FBack.at_ hT (i, j - i, d2) [(0, _)] ⟨hi0, by dsimp only; omega, hi, by dsimp only; omega, by dsimp only; rw [hS.1, sz], fun d' r => hR d' (St.rot_right (by omega) hi0 (by omega) hS r)⟩ (by dsimp only; omega) ⟨rfl, congrArg (fun z : Int => SV.one (At.val (Value.int .i64 z))) (show (j : Int) - i = ((j - i : Nat) : Int) by omega), rfl, rfl, rfl, rfl, rfl, trivial⟩ rfl rfl rfl (fun k hk => rfl)
/-- what is told of cmp -/
def CmpI (nx : Nat) (O : Obs) (g : FuncId) (cp : Nat) (cf : (It Z) → (It Z) → Int) : Prop := ∀ (x y : (It Z)) (n : Nat) (get : Nat → List Go.Value) (K : V.SV → Prop), K (.one (.val (.int .i64 (cf x y)))) → V.NCallQ Try.prog g [.one (.val (.int .i64 x.q)), .one (.val (.int .i64 y.q)), .one (.ptr cp 0 0 0)] ((0, .row 3 1 n get) :: O) (nx + 1) K
def lessI (cf : (It Z) → (It Z) → Int) (x y : (It Z)) : Bool := decide (cf x y < 0)
end Go.Proofs.Ytcdlhfbpmpjfkaa

/- Sorting that keeps the order of equals, of numbers: insertion. -/
namespace Go.Proofs.Ytcdlhfbpmpjfkaa
open Go Go.Sort Go.RowKit V
set_option maxRecDepth 100000
set_option linter.unusedVariables false
set_option linter.unusedSimpArgs false
set_option maxHeartbeats 4000000
variable {Z : Nat}
theorem v_insI (nx : Nat) (O : Obs) (hT : Tail (nx + 1) O) (g : FuncId) (cp : Nat) (hcl : Nat.blt cp (nx + 1) = true) (cf : (It Z) → (It Z) → Int) (hc : CmpI nx O g cp cf) (d : Array (It Z)) (a b : Nat) (h1 : a ≤ b) (h2 : b ≤ d.size) (h3 : d.size ≤ 4611686018427387904) :
    Fam Try.prog 56 [.one (.ref 0), .one (.val (.int .i64 ((a : Int)))), .one (.val (.int .i64 ((b : Int)))), .one (.clo g [cp])] 3 1 d.size (ga encTI d.toList) nx O (fun r => r = ga encTI (insertionSort (lessI cf) d a b).toList) := by
  refine Fam.mk hT ?_
  refine V.NCall.inl (f := 56) V.Tok V.mixed Try.func56 rfl Try.ntmps56 (by kernel_rfl) rfl ?_
  repeat' ((conv => whnf); first | refine V.NCond.mk ?_ | refine V.NIf.not_ ?_ | refine V.NIf.dec_ ?_ | refine V.NIf.no (by omega) ?_ | refine V.NIf.yes (by omega) ?_ | refine V.NIf.mk (fun _ => ?_) (fun _ => ?_) | refine V.NWrap.ok (by omega) (by omega) ?_ | refine V.NWrap.u64 (by omega) (by omega) ?_ | refine V.NLt.mk (by omega) ?_ | refine V.NBoth.mk ?_ ?_ | refine V.NTF.yes (by omega) ?_ | refine V.NTF.no (by omega) ?_ | refine V.NTF.dec ?_ | refine V.NDraw.q (by exact rfl) (by kernel_rfl) ?_ | refine V.NApp.one (by first | omega | (simp; omega)) (by first | omega | (simp; omega)) ?_ | (refine V.NDraw.any (by kernel_rfl) ?_) | fail)
  all_goals (conv => whnf)
  refine NLoop.fam hT (fun (s : Nat × Array (It Z)) => [(8, .one (.val (.int .i64 s.1)))]) [(0, .one (.ref 0)), (1, .one (.val (.int .i64 a))), (2, .one (.val (.int .i64 b))), (3, .one (.clo g [cp]))] 3 1 d.size (fun s => ga encTI s.2.toList) (fun s => b + 1 - s.1) (fun s => a + 1 ≤ s.1 ∧ s.2.size = d.size ∧ insOuter (lessI cf) a b s.1 s.2 = insertionSort (lessI cf) d a b) (a + 1, d) ⟨Nat.le_refl _, rfl, rfl⟩ [(0, _)] rfl rfl rfl (fun k hk => rfl) (by repeat' (first | exact rfl | exact Iff.rfl | exact trivial | exact (fun _ _ => rfl) | exact (fun _ h => absurd h (Nat.not_lt_zero _)) | refine ⟨?_, ?_⟩ | exact Iff.rfl | exact congrArg (fun z => V.SV.one (V.At.val (Value.int .i64 z))) (by omega))) (fun _ => rfl) (by first | rfl | simpa [envB, svB, atB] using hcl) ?_
  rintro ⟨i, d1⟩ ⟨hi, sz, hI⟩
  dsimp only at hi sz hI ⊢
  by_cases hlt : i < b
  · rw [St.outer_go hlt] at hI
    repeat' ((conv => whnf); first | refine V.NCond.mk ?_ | refine V.NIf.not_ ?_ | refine V.NIf.dec_ ?_ | refine V.NIf.no (by omega) ?_ | refine V.NIf.yes (by omega) ?_ | refine V.NIf.mk (fun _ => ?_) (fun _ => ?_) | refine V.NWrap.ok (by omega) (by omega) ?_ | refine V.NWrap.u64 (by omega) (by omega) ?_ | refine V.NLt.mk (by omega) ?_ | refine V.NBoth.mk ?_ ?_ | refine V.NTF.yes (by omega) ?_ | refine V.NTF.no (by omega) ?_ | refine V.NTF.dec ?_ | refine V.NDraw.q (by exact rfl) (by kernel_rfl) ?_ | refine V.NApp.one (by first | omega | (simp; omega)) (by first | omega | (simp; omega)) ?_ | (refine V.NDraw.any (by kernel_rfl) ?_) | fail)
    all_goals (conv => whnf)
    refine NLoop.fam hT (fun (s : Nat × Array (It Z)) => [(9, .one (.val (.int .i64 s.1)))]) [(0, .one (.ref 0)), (1, .one (.val (.int .i64 a))), (2, .one (.val (.int .i64 b))), (3, .one (.clo g [cp])), (8, .one (.val (.int .i64 i)))] 3 1 d.size (fun s => ga encTI s.2.toList) (fun s => s.1) (fun s => a ≤ s.1 ∧ s.1 ≤ i ∧ s.2.size = d.size ∧ insInner (lessI cf) a s.1 s.2 = insInner (lessI cf) a i d1) (i, d1) ⟨by dsimp only; omega, Nat.le_refl _, sz, rfl⟩ [(0, _)] rfl rfl rfl (fun k hk => rfl) (by repeat' (first | exact rfl | exact Iff.rfl | exact trivial | exact (fun _ _ => rfl) | exact (fun _ h => absurd h (Nat.not_lt_zero _)) | refine ⟨?_, ?_⟩ | exact Iff.rfl | exact congrArg (fun z => V.SV.one (V.At.val (Value.int .i64 z))) (by omega))) (fun _ => rfl) (by first | rfl | simpa [envB, svB, atB] using hcl) ?_
    rintro ⟨j, d2⟩ ⟨hj, hji, sz2, hI2⟩
    dsimp only at hj hji sz2 hI2 ⊢
    by_cases haj : a < j
    · have e1 := arr_getI (d := d2) (k := j)
      have e2 := arr_getI (d := d2) (k := j - 1)
      have e3 := swp_listI d2 j (j - 1)
      rw [← e1, ← e2] at e3
      have hcc := hc (d2.toList.getD j default) (d2.toList.getD (j - 1) default)
      have g1 := @St.inner_go _ _ (lessI cf) a j d2 haj
      have g2 := @St.inner_stop _ _ (lessI cf) a j d2
      rw [← e1, ← e2] at g1 g2
      unfold lessI at g1 g2
      generalize cf (d2.toList.getD j default) (d2.toList.getD (j - 1) default) = c at *
      repeat' ((conv => whnf); first | refine V.NCond.mk ?_ | refine V.NIf.not_ ?_ | refine V.NIf.dec_ ?_ | refine V.NIf.no (by omega) ?_ | refine V.NIf.yes (by omega) ?_ | refine V.NIf.mk (fun _ => ?_) (fun _ => ?_) | refine V.NWrap.ok (by omega) (by omega) ?_ | refine V.NWrap.u64 (by omega) (by omega) ?_ | refine V.NLt.mk (by omega) ?_ | refine V.NBoth.mk ?_ ?_ | refine V.NTF.yes (by omega) ?_ | refine V.NTF.no (by omega) ?_ | refine V.NTF.dec ?_ | refine V.NDraw.q (by exact rfl) (by kernel_rfl) ?_ | refine V.NApp.one (by first | omega | (simp; omega)) (by first | omega | (simp; omega)) ?_ | (refine NIdx.mk ⟨j, by omega, by omega, ?_⟩) | (refine NIdx.mk ⟨j - 1, by omega, by omega, ?_⟩) | (first | refine hcc _ _ _ ?_ | refine NCallQ.toA (hcc _ _ _ ?_) | refine NCallA.to (NCallQ.toA (hcc _ _ _ ?_))) | (refine NPut.is_ (en := encTI) (l := d2.toList) (d2.toList.getD (j - 1) default) (d2.toList.set j (d2.toList.getD (j - 1) default)) rfl (by simp [sz2]) rfl ?_) | (refine NPut.is_ (en := encTI) (l := d2.toList.set j (d2.toList.getD (j - 1) default)) (d2.toList.getD j default) (swp d2 j (j - 1)).toList e3.symm (by simp [sz2]) rfl ?_) | (refine V.NDraw.any (by kernel_rfl) ?_) | fail)
      all_goals (conv => whnf)
      · have hl : c < 0 := by assumption
        have hg := g1 (decide_eq_true hl)
        exact FBack.at_ hT (j - 1, swp d2 j (j - 1)) [(0, _), (0, _), (0, _)] ⟨by dsimp only; omega, by dsimp only; omega, by dsimp only; rw [size_swp, sz2], hg.symm.trans hI2⟩ (by dsimp only; omega) ⟨congrArg (fun z : Int => SV.one (At.val (Value.int .i64 z))) (show (j : Int) - 1 = ((j - 1 : Nat) : Int) by omega), rfl, rfl, rfl, rfl, rfl, trivial⟩ rfl rfl rfl (fun k hk => rfl)
      · have hl : ¬ c < 0 := by assumption
        have hs := hI2.symm.trans (g2 (.inr (decide_eq_false hl)))
        rw [hs] at hI
        exact FBack.at_ hT (i + 1, d2) [(0, _)] ⟨by dsimp only; omega, sz2, hI⟩ (by dsimp only; omega) (by repeat' (first | exact rfl | exact Iff.rfl | exact trivial | exact (fun _ _ => rfl) | exact (fun _ h => absurd h (Nat.not_lt_zero _)) | refine ⟨?_, ?_⟩ | exact Iff.rfl | exact congrArg (fun z => V.SV.one (V.At.val (Value.int .i64 z))) (by omega))) rfl rfl rfl (fun k hk => rfl)
    · have hs := hI2.symm.trans (@St.inner_stop _ _ (lessI cf) a j d2 (.inl (by omega)))
      rw [hs] at hI
      repeat' ((conv => whnf); first | refine V.NCond.mk ?_ | refine V.NIf.not_ ?_ | refine V.NIf.dec_ ?_ | refine V.NIf.no (by omega) ?_ | refine V.NIf.yes (by omega) ?_ | refine V.NIf.mk (fun _ => ?_) (fun _ => ?_) | refine V.NWrap.ok (by omega) (by omega) ?_ | refine V.NWrap.u64 (by omega) (by omega) ?_ | refine V.NLt.mk (by omega) ?_ | refine V.NBoth.mk ?_ ?_ | refine V.NTF.yes (by omega) ?_ | refine V.NTF.no (by omega) ?_ | refine V.NTF.dec ?_ | refine V.NDraw.q (by exact rfl) (by kernel_rfl) ?_ | refine V.NApp.one (by first | omega | (simp; omega)) (by first | omega | (simp; omega)) ?_ | (refine V.NDraw.any (by kernel_rfl) ?_) | fail)
      all_goals (conv => whnf)
      exact FBack.at_ hT (i + 1, d2) [(0, _)] ⟨by dsimp only; omega, sz2, hI⟩ (by dsimp only; omega) (by repeat' (first | exact rfl | exact Iff.rfl | exact trivial | exact (fun _ _ => rfl) | exact (fun _ h => absurd h (Nat.not_lt_zero _)) | refine ⟨?_, ?_⟩ | exact Iff.rfl | exact congrArg (fun z => V.SV.one (V.At.val (Value.int .i64 z))) (by omega))) rfl rfl rfl (fun k hk => rfl)
  · rw [St.outer_stop hlt] at hI
    repeat' ((conv => whnf); first | refine V.NCond.mk ?_ | refine V.NIf.not_ ?_ | refine V.NIf.dec_ ?_ | refine V.NIf.no (by omega) ?_ | refine V.NIf.yes (by omega) ?_ | refine V.NIf.mk (fun _ => ?_) (fun _ => ?_) | refine V.NWrap.ok (by omega) (by omega) ?_ | refine V.NWrap.u64 (by omega) (by omega) ?_ | refine V.NLt.mk (by omega) ?_ | refine V.NBoth.mk ?_ ?_ | refine V.NTF.yes (by omega) ?_ | refine V.NTF.no (by omega) ?_ | refine V.NTF.dec ?_ | refine V.NDraw.q (by exact rfl) (by kernel_rfl) ?_ | refine V.NApp.one (by first | omega | (simp; omega)) (by first | omega | (simp; omega)) ?_ | (refine V.NDraw.any (by kernel_rfl) ?_) | fail)
    all_goals (conv => whnf)
    exact ⟨rfl, rfl, [(0, _)], _, rfl, rfl, rfl, by rw [hI]⟩
end Go.Proofs.Ytcdlhfbpmpjfkaa

/- Sorting that keeps the order of equals, of numbers: what two sorted runs become. -/
namespace Go.Proofs.Ytcdlhfbpmpjfkaa
open Go Go.Sort Go.RowKit V
set_option maxRecDepth 100000
set_option linter.unusedVariables false
set_option linter.unusedSimpArgs false
set_option maxHeartbeats 4000000
variable {Z : Nat}
theorem v_symAI (nx : Nat) (O : Obs) (hT : Tail (nx + 1) O) (g : FuncId) (cp : Nat) (hcl : Nat.blt cp (nx + 1) = true) (cf : (It Z) → (It Z) → Int) (hc : CmpI nx O g cp cf) (lt : (It Z) → (It Z) → Bool) (S : SWO lt) (d : Array (It Z)) (a b : Nat) (h1 : a + 1 < b) (h2 : b ≤ d.size) (h3 : d.size ≤ 4611686018427387903) (H2 : SortedIn lt (a + 1) b d)
    (HT : ∀ j, a + 1 ≤ j → j < b → lessI cf d[j]! d[a]! = lt d[j]! d[a]!) :
    Fam Try.prog 57 [.one (.ref 0), .one (.val (.int .i64 ((a : Int)))), .one (.val (.int .i64 (((a + 1 : Nat) : Int)))), .one (.val (.int .i64 ((b : Int)))), .one (.clo g [cp])] 3 1 d.size (ga encTI d.toList) nx O (fun r => ∃ d', PermIn a b d d' ∧ SortedIn lt a b d' ∧ r = ga encTI d'.toList) := by
  refine Fam.mk hT ?_
  refine V.NCall.inl (f := 57) V.Tok V.mixed Try.func57 rfl Try.ntmps57 (by kernel_rfl) rfl ?_
  repeat' ((conv => whnf); first | refine V.NCond.mk ?_ | refine V.NIf.not_ ?_ | refine V.NIf.dec_ ?_ | refine V.NIf.no (by omega) ?_ | refine V.NIf.yes (by omega) ?_ | refine V.NIf.mk (fun _ => ?_) (fun _ => ?_) | refine V.NWrap.ok (by omega) (by omega) ?_ | refine V.NWrap.u64 (by omega) (by omega) ?_ | refine V.NLt.mk (by omega) ?_ | refine V.NBoth.mk ?_ ?_ | refine V.NTF.yes (by omega) ?_ | refine V.NTF.no (by omega) ?_ | refine V.NTF.dec ?_ | refine V.NDraw.q (by exact rfl) (by kernel_rfl) ?_ | refine V.NApp.one (by first | omega | (simp; omega)) (by first | omega | (simp; omega)) ?_ | (refine V.NDraw.any (by kernel_rfl) ?_) | fail)
  all_goals (conv => whnf)
  refine NLoop.fam hT (fun (s : Nat × Nat) => [(10, .one (.val (.int .i64 s.1))), (11, .one (.val (.int .i64 s.2)))]) [(0, .one (.ref 0)), (1, .one (.val (.int .i64 a))), (2, .one (.val (.int .i64 ((a + 1 : Nat) : Int)))), (3, .one (.val (.int .i64 b))), (4, .one (.clo g [cp]))] 3 1 d.size (fun s => ga encTI d.toList) (fun s => s.2 - s.1) (fun s => a + 1 ≤ s.1 ∧ s.1 ≤ s.2 ∧ s.2 ≤ b ∧ (s.1 = a + 1 ∨ lt d[s.1 - 1]! d[a]! = true) ∧ (s.2 = b ∨ lt d[s.2]! d[a]! = false)) (a + 1, b) ⟨Nat.le_refl _, by dsimp only; omega, Nat.le_refl _, .inl rfl, .inl rfl⟩ [(0, _)] rfl rfl rfl (fun k hk => rfl) (by repeat' (first | exact rfl | exact Iff.rfl | exact trivial | exact (fun _ _ => rfl) | exact (fun _ h => absurd h (Nat.not_lt_zero _)) | refine ⟨?_, ?_⟩ | exact Iff.rfl | exact congrArg (fun z => V.SV.one (V.At.val (Value.int .i64 z))) (by omega))) (fun _ => rfl) (by first | rfl | simpa [envB, svB, atB] using hcl) ?_
  rintro ⟨i, j⟩ ⟨hi, hij, hj, C1, C2⟩
  dsimp only at hi hij hj C1 C2 ⊢
  by_cases hlt : i < j
  · obtain ⟨h, eh⟩ : ∃ h, h = (i + j) / 2 := ⟨_, rfl⟩
    have h5 : i ≤ h ∧ h < j := by omega
    have e1 := arr_getI (d := d) (k := h)
    have e2 := arr_getI (d := d) (k := a)
    have hcc := hc (d.toList.getD h default) (d.toList.getD a default)
    have ht := HT h (by omega) (by omega)
    rw [← e1, ← e2] at ht
    unfold lessI at ht
    rw [e1, e2] at ht
    rw [← e1, ← e2] at ht
    generalize cf (d.toList.getD h default) (d.toList.getD a default) = c at *
    rw [e1, e2] at ht
    repeat' ((conv => whnf); first | refine V.NCond.mk ?_ | refine V.NIf.not_ ?_ | refine V.NIf.dec_ ?_ | refine V.NIf.no (by omega) ?_ | refine V.NIf.yes (by omega) ?_ | refine V.NIf.mk (fun _ => ?_) (fun _ => ?_) | refine V.NWrap.ok (by omega) (by omega) ?_ | refine V.NWrap.u64 (by omega) (by omega) ?_ | refine V.NLt.mk (by omega) ?_ | refine V.NBoth.mk ?_ ?_ | refine V.NTF.yes (by omega) ?_ | refine V.NTF.no (by omega) ?_ | refine V.NTF.dec ?_ | refine V.NDraw.q (by exact rfl) (by kernel_rfl) ?_ | refine V.NApp.one (by first | omega | (simp; omega)) (by first | omega | (simp; omega)) ?_ | (refine NShr.mid ?_; rw [← eh]) | (refine NIdx.mk ⟨h, by omega, by omega, ?_⟩) | (refine NIdx.mk ⟨a, by omega, by omega, ?_⟩) | (first | refine hcc _ _ _ ?_ | refine NCallQ.toA (hcc _ _ _ ?_) | refine NCallA.to (NCallQ.toA (hcc _ _ _ ?_))) | (refine V.NDraw.any (by kernel_rfl) ?_) | fail)
    all_goals (conv => whnf)
    · have hl : c < 0 := by assumption
      exact FBack.at_ hT (h + 1, j) [(0, _)] ⟨by dsimp only; omega, by dsimp only; omega, hj, .inr (by dsimp only; rw [Nat.add_sub_cancel, ← ht]; exact decide_eq_true hl), C2⟩ (by dsimp only; omega) (by repeat' (first | exact rfl | exact Iff.rfl | exact trivial | exact (fun _ _ => rfl) | exact (fun _ h => absurd h (Nat.not_lt_zero _)) | refine ⟨?_, ?_⟩ | exact Iff.rfl | exact congrArg (fun z => V.SV.one (V.At.val (Value.int .i64 z))) (by omega))) rfl rfl rfl (fun k hk => rfl)
    · have hl : ¬ c < 0 := by assumption
      exact FBack.at_ hT (i, h) [(0, _)] ⟨hi, by dsimp only; omega, by dsimp only; omega, C1, .inr (by dsimp only; rw [← ht]; exact decide_eq_false hl)⟩ (by dsimp only; omega) (by repeat' (first | exact rfl | exact Iff.rfl | exact trivial | exact (fun _ _ => rfl) | exact (fun _ h => absurd h (Nat.not_lt_zero _)) | refine ⟨?_, ?_⟩ | exact Iff.rfl | exact congrArg (fun z => V.SV.one (V.At.val (Value.int .i64 z))) (by omega))) rfl rfl rfl (fun k hk => rfl)
  · obtain rfl : i = j := by omega
    repeat' ((conv => whnf); first | refine V.NCond.mk ?_ | refine V.NIf.not_ ?_ | refine V.NIf.dec_ ?_ | refine V.NIf.no (by omega) ?_ | refine V.NIf.yes (by omega) ?_ | refine V.NIf.mk (fun _ => ?_) (fun _ => ?_) | refine V.NWrap.ok (by omega) (by omega) ?_ | refine V.NWrap.u64 (by omega) (by omega) ?_ | refine V.NLt.mk (by omega) ?_ | refine V.NBoth.mk ?_ ?_ | refine V.NTF.yes (by omega) ?_ | refine V.NTF.no (by omega) ?_ | refine V.NTF.dec ?_ | refine V.NDraw.q (by exact rfl) (by kernel_rfl) ?_ | refine V.NApp.one (by first | omega | (simp; omega)) (by first | omega | (simp; omega)) ?_ | (refine V.NDraw.any (by kernel_rfl) ?_) | fail)
    all_goals (conv => whnf)
    refine NLoop.fam hT (fun (s : Nat × Array (It Z)) => [(13, .one (.val (.int .i64 s.1)))]) [(0, .one (.ref 0)), (10, .one (.val (.int .i64 i)))] 3 1 d.size (fun s => ga encTI s.2.toList) (fun s => i - s.1) (fun s => a ≤ s.1 ∧ s.1 + 1 ≤ i ∧ St.Rot a (a + 1) (s.1 + 1) d s.2) (a, d) ⟨Nat.le_refl _, hi, St.Rot.refl_r⟩ [(0, _)] rfl rfl rfl (fun k hk => rfl) (by repeat' (first | exact rfl | exact Iff.rfl | exact trivial | exact (fun _ _ => rfl) | exact (fun _ h => absurd h (Nat.not_lt_zero _)) | refine ⟨?_, ?_⟩ | exact Iff.rfl | exact congrArg (fun z => V.SV.one (V.At.val (Value.int .i64 z))) (by omega))) (fun _ => rfl) (by first | rfl | simpa [envB, svB, atB] using hcl) ?_
    rintro ⟨k, d1⟩ ⟨hk, hki, hR⟩
    dsimp only at hk hki hR ⊢
    have sz := hR.1
    by_cases hlt : k + 1 < i
    · have e1 := arr_getI (d := d1) (k := k)
      have e2 := arr_getI (d := d1) (k := k + 1)
      have e3 := swp_listI d1 k (k + 1)
      rw [← e1, ← e2] at e3
      have up := hR.up hk (by omega)
      repeat' ((conv => whnf); first | refine V.NCond.mk ?_ | refine V.NIf.not_ ?_ | refine V.NIf.dec_ ?_ | refine V.NIf.no (by omega) ?_ | refine V.NIf.yes (by omega) ?_ | refine V.NIf.mk (fun _ => ?_) (fun _ => ?_) | refine V.NWrap.ok (by omega) (by omega) ?_ | refine V.NWrap.u64 (by omega) (by omega) ?_ | refine V.NLt.mk (by omega) ?_ | refine V.NBoth.mk ?_ ?_ | refine V.NTF.yes (by omega) ?_ | refine V.NTF.no (by omega) ?_ | refine V.NTF.dec ?_ | refine V.NDraw.q (by exact rfl) (by kernel_rfl) ?_ | refine V.NApp.one (by first | omega | (simp; omega)) (by first | omega | (simp; omega)) ?_ | (refine NIdx.mk ⟨k, by omega, by omega, ?_⟩) | (refine NIdx.mk ⟨k + 1, by omega, by omega, ?_⟩) | (refine NPut.is_ (en := encTI) (l := d1.toList) (d1.toList.getD (k + 1) default) (d1.toList.set k (d1.toList.getD (k + 1) default)) rfl (by simp [sz]) rfl ?_) | (refine NPut.is_ (en := encTI) (l := d1.toList.set k (d1.toList.getD (k + 1) default)) (d1.toList.getD k default) (swp d1 k (k + 1)).toList e3.symm (by simp [sz]) rfl ?_) | (refine V.NDraw.any (by kernel_rfl) ?_) | fail)
      all_goals (conv => whnf)
      exact FBack.at_ hT (k + 1, swp d1 k (k + 1)) [(0, _), (0, _), (0, _)] ⟨by dsimp only; omega, by dsimp only; omega, up⟩ (by dsimp only; omega) (by repeat' (first | exact rfl | exact Iff.rfl | exact trivial | exact (fun _ _ => rfl) | exact (fun _ h => absurd h (Nat.not_lt_zero _)) | refine ⟨?_, ?_⟩ | exact Iff.rfl | exact congrArg (fun z => V.SV.one (V.At.val (Value.int .i64 z))) (by omega))) rfl rfl rfl (fun k hk => rfl)
    · obtain rfl : k + 1 = i := by omega
      obtain ⟨P, T⟩ := St.caseA S hR hi hj h2 H2 C1 C2
      repeat' ((conv => whnf); first | refine V.NCond.mk ?_ | refine V.NIf.not_ ?_ | refine V.NIf.dec_ ?_ | refine V.NIf.no (by omega) ?_ | refine V.NIf.yes (by omega) ?_ | refine V.NIf.mk (fun _ => ?_) (fun _ => ?_) | refine V.NWrap.ok (by omega) (by omega) ?_ | refine V.NWrap.u64 (by omega) (by omega) ?_ | refine V.NLt.mk (by omega) ?_ | refine V.NBoth.mk ?_ ?_ | refine V.NTF.yes (by omega) ?_ | refine V.NTF.no (by omega) ?_ | refine V.NTF.dec ?_ | refine V.NDraw.q (by exact rfl) (by kernel_rfl) ?_ | refine V.NApp.one (by first | omega | (simp; omega)) (by first | omega | (simp; omega)) ?_ | (refine V.NDraw.any (by kernel_rfl) ?_) | fail)
      all_goals (conv => whnf)
      exact ⟨rfl, rfl, [(0, _)], _, rfl, rfl, rfl, d1, P, T, rfl⟩
theorem v_symBI (nx : Nat) (O : Obs) (hT : Tail (nx + 1) O) (g : FuncId) (cp : Nat) (hcl : Nat.blt cp (nx + 1) = true) (cf : (It Z) → (It Z) → Int) (hc : CmpI nx O g cp cf) (lt : (It Z) → (It Z) → Bool) (S : SWO lt) (d : Array (It Z)) (a m : Nat) (h1 : a + 1 < m) (h2 : m + 1 ≤ d.size) (h3 : d.size ≤ 4611686018427387903) (H1 : SortedIn lt a m d)
    (HT : ∀ i, a ≤ i → i < m → lessI cf d[m]! d[i]! = lt d[m]! d[i]!) :
    Fam Try.prog 57 [.one (.ref 0), .one (.val (.int .i64 ((a : Int)))), .one (.val (.int .i64 ((m : Int)))), .one (.val (.int .i64 (((m + 1 : Nat) : Int)))), .one (.clo g [cp])] 3 1 d.size (ga encTI d.toList) nx O (fun r => ∃ d', PermIn a (m + 1) d d' ∧ SortedIn lt a (m + 1) d' ∧ r = ga encTI d'.toList) := by
  refine Fam.mk hT ?_
  refine V.NCall.inl (f := 57) V.Tok V.mixed Try.func57 rfl Try.ntmps57 (by kernel_rfl) rfl ?_
  repeat' ((conv => whnf); first | refine V.NCond.mk ?_ | refine V.NIf.not_ ?_ | refine V.NIf.dec_ ?_ | refine V.NIf.no (by omega) ?_ | refine V.NIf.yes (by omega) ?_ | refine V.NIf.mk (fun _ => ?_) (fun _ => ?_) | refine V.NWrap.ok (by omega) (by omega) ?_ | refine V.NWrap.u64 (by omega) (by omega) ?_ | refine V.NLt.mk (by omega) ?_ | refine V.NBoth.mk ?_ ?_ | refine V.NTF.yes (by omega) ?_ | refine V.NTF.no (by omega) ?_ | refine V.NTF.dec ?_ | refine V.NDraw.q (by exact rfl) (by kernel_rfl) ?_ | refine V.NApp.one (by first | omega | (simp; omega)) (by first | omega | (simp; omega)) ?_ | (refine V.NDraw.any (by kernel_rfl) ?_) | fail)
  all_goals (conv => whnf)
  refine NLoop.fam hT (fun (s : Nat × Nat) => [(14, .one (.val (.int .i64 s.1))), (15, .one (.val (.int .i64 s.2)))]) [(0, .one (.ref 0)), (1, .one (.val (.int .i64 a))), (2, .one (.val (.int .i64 m))), (3, .one (.val (.int .i64 ((m + 1 : Nat) : Int)))), (4, .one (.clo g [cp]))] 3 1 d.size (fun s => ga encTI d.toList) (fun s => s.2 - s.1) (fun s => a ≤ s.1 ∧ s.1 ≤ s.2 ∧ s.2 ≤ m ∧ (s.1 = a ∨ lt d[m]! d[s.1 - 1]! = false) ∧ (s.2 = m ∨ lt d[m]! d[s.2]! = true)) (a, m) ⟨Nat.le_refl _, by dsimp only; omega, Nat.le_refl _, .inl rfl, .inl rfl⟩ [(0, _)] rfl rfl rfl (fun k hk => rfl) (by repeat' (first | exact rfl | exact Iff.rfl | exact trivial | exact (fun _ _ => rfl) | exact (fun _ h => absurd h (Nat.not_lt_zero _)) | refine ⟨?_, ?_⟩ | exact Iff.rfl | exact congrArg (fun z => V.SV.one (V.At.val (Value.int .i64 z))) (by omega))) (fun _ => rfl) (by first | rfl | simpa [envB, svB, atB] using hcl) ?_
  rintro ⟨i, j⟩ ⟨hi, hij, hj, C1, C2⟩
  dsimp only at hi hij hj C1 C2 ⊢
  by_cases hlt : i < j
  · obtain ⟨h, eh⟩ : ∃ h, h = (i + j) / 2 := ⟨_, rfl⟩
    have h5 : i ≤ h ∧ h < j := by omega
    have e1 := arr_getI (d := d) (k := m)
    have e2 := arr_getI (d := d) (k := h)
    have hcc := hc (d.toList.getD m default) (d.toList.getD h default)
    have ht := HT h (by omega) (by omega)
    rw [← e1, ← e2] at ht
    unfold lessI at ht
    generalize cf (d.toList.getD m default) (d.toList.getD h default) = c at *
    rw [e1, e2] at ht
    repeat' ((conv => whnf); first | refine V.NCond.mk ?_ | refine V.NIf.not_ ?_ | refine V.NIf.dec_ ?_ | refine V.NIf.no (by omega) ?_ | refine V.NIf.yes (by omega) ?_ | refine V.NIf.mk (fun _ => ?_) (fun _ => ?_) | refine V.NWrap.ok (by omega) (by omega) ?_ | refine V.NWrap.u64 (by omega) (by omega) ?_ | refine V.NLt.mk (by omega) ?_ | refine V.NBoth.mk ?_ ?_ | refine V.NTF.yes (by omega) ?_ | refine V.NTF.no (by omega) ?_ | refine V.NTF.dec ?_ | refine V.NDraw.q (by exact rfl) (by kernel_rfl) ?_ | refine V.NApp.one (by first | omega | (simp; omega)) (by first | omega | (simp; omega)) ?_ | (refine NShr.mid ?_; rw [← eh]) | (refine NIdx.mk ⟨m, by omega, by omega, ?_⟩) | (refine NIdx.mk ⟨h, by omega, by omega, ?_⟩) | (first | refine hcc _ _ _ ?_ | refine NCallQ.toA (hcc _ _ _ ?_) | refine NCallA.to (NCallQ.toA (hcc _ _ _ ?_))) | (refine V.NDraw.any (by kernel_rfl) ?_) | fail)
    all_goals (conv => whnf)
    · have hl : c < 0 := by assumption
      exact FBack.at_ hT (i, h) [(0, _)] ⟨hi, by dsimp only; omega, by dsimp only; omega, C1, .inr (by dsimp only; rw [← ht]; exact decide_eq_true hl)⟩ (by dsimp only; omega) (by repeat' (first | exact rfl | exact Iff.rfl | exact trivial | exact (fun _ _ => rfl) | exact (fun _ h => absurd h (Nat.not_lt_zero _)) | refine ⟨?_, ?_⟩ | exact Iff.rfl | exact congrArg (fun z => V.SV.one (V.At.val (Value.int .i64 z))) (by omega))) rfl rfl rfl (fun k hk => rfl)
    · have hl : ¬ c < 0 := by assumption
      exact FBack.at_ hT (h + 1, j) [(0, _)] ⟨by dsimp only; omega, by dsimp only; omega, hj, .inr (by dsimp only; rw [Nat.add_sub_cancel, ← ht]; exact decide_eq_false hl), C2⟩ (by dsimp only; omega) (by repeat' (first | exact rfl | exact Iff.rfl | exact trivial | exact (fun _ _ => rfl) | exact (fun _ h => absurd h (Nat.not_lt_zero _)) | refine ⟨?_, ?_⟩ | exact Iff.rfl | exact congrArg (fun z => V.SV.one (V.At.val (Value.int .i64 z))) (by omega))) rfl rfl rfl (fun k hk => rfl)
  · obtain rfl : i = j := by omega
    repeat' ((conv => whnf); first | refine V.NCond.mk ?_ | refine V.NIf.not_ ?_ | refine V.NIf.dec_ ?_ | refine V.NIf.no (by omega) ?_ | refine V.NIf.yes (by omega) ?_ | refine V.NIf.mk (fun _ => ?_) (fun _ => ?_) | refine V.NWrap.ok (by omega) (by omega) ?_ | refine V.NWrap.u64 (by omega) (by omega) ?_ | refine V.NLt.mk (by omega) ?_ | refine V.NBoth.mk ?_ ?_ | refine V.NTF.yes (by omega) ?_ | refine V.NTF.no (by omega) ?_ | refine V.NTF.dec ?_ | refine V.NDraw.q (by exact rfl) (by kernel_rfl) ?_ | refine V.NApp.one (by first | omega | (simp; omega)) (by first | omega | (simp; omega)) ?_ | (refine V.NDraw.any (by kernel_rfl) ?_) | fail)
    all_goals (conv => whnf)
    refine NLoop.fam hT (fun (s : Nat × Array (It Z)) => [(17, .one (.val (.int .i64 s.1)))]) [(0, .one (.ref 0)), (14, .one (.val (.int .i64 i)))] 3 1 d.size (fun s => ga encTI s.2.toList) (fun s => s.1) (fun s => i ≤ s.1 ∧ s.1 ≤ m ∧ St.Rot s.1 m (m + 1) d s.2) (m, d) ⟨hj, Nat.le_refl _, St.Rot.refl_l⟩ [(0, _)] rfl rfl rfl (fun k hk => rfl) (by repeat' (first | exact rfl | exact Iff.rfl | exact trivial | exact (fun _ _ => rfl) | exact (fun _ h => absurd h (Nat.not_lt_zero _)) | refine ⟨?_, ?_⟩ | exact Iff.rfl | exact congrArg (fun z => V.SV.one (V.At.val (Value.int .i64 z))) (by omega))) (fun _ => rfl) (by first | rfl | simpa [envB, svB, atB] using hcl) ?_
    rintro ⟨k, d1⟩ ⟨hk, hki, hR⟩
    dsimp only at hk hki hR ⊢
    have sz := hR.1
    by_cases hlt : i < k
    · obtain ⟨q, rfl⟩ : ∃ q, k = q + 1 := ⟨k - 1, by omega⟩
      have e1 := arr_getI (d := d1) (k := q + 1)
      have e2 := arr_getI (d := d1) (k := q)
      have e3 := swp_listI d1 (q + 1) q
      rw [← e1, ← e2] at e3
      have dn := hR.down (i := i) (by omega) (by omega)
      repeat' ((conv => whnf); first | refine V.NCond.mk ?_ | refine V.NIf.not_ ?_ | refine V.NIf.dec_ ?_ | refine V.NIf.no (by omega) ?_ | refine V.NIf.yes (by omega) ?_ | refine V.NIf.mk (fun _ => ?_) (fun _ => ?_) | refine V.NWrap.ok (by omega) (by omega) ?_ | refine V.NWrap.u64 (by omega) (by omega) ?_ | refine V.NLt.mk (by omega) ?_ | refine V.NBoth.mk ?_ ?_ | refine V.NTF.yes (by omega) ?_ | refine V.NTF.no (by omega) ?_ | refine V.NTF.dec ?_ | refine V.NDraw.q (by exact rfl) (by kernel_rfl) ?_ | refine V.NApp.one (by first | omega | (simp; omega)) (by first | omega | (simp; omega)) ?_ | (refine NIdx.mk ⟨q + 1, by omega, by omega, ?_⟩) | (refine NIdx.mk ⟨q, by omega, by omega, ?_⟩) | (refine NPut.is_ (en := encTI) (l := d1.toList) (d1.toList.getD q default) (d1.toList.set (q + 1) (d1.toList.getD q default)) rfl (by simp [sz]) rfl ?_) | (refine NPut.is_ (en := encTI) (l := d1.toList.set (q + 1) (d1.toList.getD q default)) (d1.toList.getD (q + 1) default) (swp d1 (q + 1) q).toList e3.symm (by simp [sz]) rfl ?_) | (refine V.NDraw.any (by kernel_rfl) ?_) | fail)
      all_goals (conv => whnf)
      exact FBack.at_ hT (q, swp d1 (q + 1) q) [(0, _), (0, _), (0, _)] ⟨by dsimp only; omega, by dsimp only; omega, dn⟩ (by dsimp only; omega) ⟨congrArg (fun z : Int => SV.one (At.val (Value.int .i64 z))) (show ((q + 1 : Nat) : Int) - 1 = (q : Int) by omega), rfl, rfl, trivial⟩ rfl rfl rfl (fun k hk => rfl)
    · obtain rfl : k = i := by omega
      obtain ⟨P, T⟩ := St.caseB S hR hi hj h2 H1 C1 C2
      repeat' ((conv => whnf); first | refine V.NCond.mk ?_ | refine V.NIf.not_ ?_ | refine V.NIf.dec_ ?_ | refine V.NIf.no (by omega) ?_ | refine V.NIf.yes (by omega) ?_ | refine V.NIf.mk (fun _ => ?_) (fun _ => ?_) | refine V.NWrap.ok (by omega) (by omega) ?_ | refine V.NWrap.u64 (by omega) (by omega) ?_ | refine V.NLt.mk (by omega) ?_ | refine V.NBoth.mk ?_ ?_ | refine V.NTF.yes (by omega) ?_ | refine V.NTF.no (by omega) ?_ | refine V.NTF.dec ?_ | refine V.NDraw.q (by exact rfl) (by kernel_rfl) ?_ | refine V.NApp.one (by first | omega | (simp; omega)) (by first | omega | (simp; omega)) ?_ | (refine V.NDraw.any (by kernel_rfl) ?_) | fail)
      all_goals (conv => whnf)
      exact ⟨rfl, rfl, [(0, _)], _, rfl, rfl, rfl, d1, P, T, rfl⟩
end Go.Proofs.Ytcdlhfbpmpjfkaa
