/- Shared texts, one behind the other: VBook10, VBook11, BookPl5, CompPl, CompPl2, ClaimPl2, BookPl4, VLe, VBook12, VOpenEv, VOpenF -/
import Derived.Test.YteblbhbfdfifpaaZ1
import Derived.Test.YteblbhbfdfifpaaZ2
import Derived.Test.YteblbhbfdfifpaaZ3
import Derived.Test.YteblbhbfdfifpaaZ4
import Derived.Test.YteblbhbfdfifpaaZ5

/- What Trial answers, and the document's. -/
namespace Go.Proofs.Yteblbhbfdfifpaa
open Go Go.Sort Go.RowKit V
set_option maxRecDepth 100000
set_option linter.unusedVariables false
set_option linter.unusedSimpArgs false
set_option maxHeartbeats 4000000
namespace Bk
def mx (a : Int) : Int := if a < 0 then 0 else a
def up (b : List Po) : List Po := b.map fun p => ⟨p.ac, p.ut, mx p.am⟩
def pos (l : List Int) : List Int := l.filter fun a => decide (0 < a)
def ts (b : List Po) (u : Nat) : Int := M.sum (pos (amu b u))
theorem ws_amt {l : List Po} (hr : ∀ p ∈ l, M.Amt p.am) (k u : Nat) : (ws l k u).1 * 1152921504606846976 + (ws l k u).2 = M.sum (amu (l.take k) u) ∧ (-1152921504606846976 < (ws l k u).2 ∧ (ws l k u).2 < 1152921504606846976) ∧ -(l.length : Int) ≤ (ws l k u).1 ∧ (ws l k u).1 ≤ l.length := by
  obtain ⟨a, b, c⟩ := wst_spec (amu (l.take k) u) (fun a ha => by
    obtain ⟨p, hp, rfl⟩ := List.mem_map.1 ha
    exact hr p (List.mem_of_mem_take (List.mem_filter.1 hp).1))
  have d := amu_len (l.take k) u
  have e : (l.take k).length ≤ l.length := by rw [List.length_take]; omega
  unfold ws
  exact ⟨a, b, by omega, by omega⟩
theorem up_len (b : List Po) : (up b).length = b.length := List.length_map _
theorem up_at {b : List Po} {k : Nat} (h : k < b.length) : (up b).getD k default = ⟨(b.getD k default).ac, (b.getD k default).ut, mx (b.getD k default).am⟩ := by
  rw [getD_at (by rw [up_len]; exact h), getD_at h]
  simp [up]
theorem up_amt {b : List Po} (h : ∀ p ∈ b, Right p) : ∀ p ∈ up b, M.Amt p.am := fun p hp => by
  obtain ⟨q, hq, rfl⟩ := List.mem_map.1 hp
  have := (h q hq).2.1
  unfold M.Amt mx at *
  simp only
  split <;> omega
theorem pos_sum : ∀ l : List Int, M.sum (l.map mx) = M.sum (pos l)
  | [] => rfl
  | a :: r => by
    have i := pos_sum r
    rw [List.map_cons]
    show mx a + M.sum (r.map mx) = M.sum (pos (a :: r))
    rw [i]
    by_cases h : 0 < a
    · rw [show pos (a :: r) = a :: pos r from List.filter_cons_of_pos (decide_eq_true h), show mx a = a from if_neg (by omega)]
      rfl
    · rw [show pos (a :: r) = pos r from List.filter_cons_of_neg (by rw [decide_eq_true_eq]; exact h), show mx a = 0 by unfold mx; split <;> omega]
      omega
theorem up_amu (b : List Po) (u : Nat) : amu (up b) u = (amu b u).map mx := by
  unfold amu up
  rw [List.filter_map, List.map_map, List.map_map]
  rfl
theorem up_ts (b : List Po) (u : Nat) : M.sum (amu (up b) u) = ts b u := by rw [up_amu, pos_sum]; rfl
def tw (b : List Po) : Bool := (List.range 21).any fun u => !decide (M.Amt (ts b u))
def tE (b : List Po) : Int := if lines b ≠ 0 then lines b else if tw b = true then 8 else 0
def tV (b : List Po) : List Int := if tE b = 0 then (List.range 21).map (ts b) else []
theorem tw_yes {b : List Po} {u : Nat} (hu : u < 21) (h : ¬ M.Amt (ts b u)) : tw b = true := List.any_eq_true.2 ⟨u, List.mem_range.2 hu, by simp [h]⟩
theorem tw_no {b : List Po} (h : ∀ u, u < 21 → M.Amt (ts b u)) : tw b = false := by
  cases q : tw b
  · rfl
  · obtain ⟨k, hk, e⟩ := List.any_eq_true.1 q
    have := h k (List.mem_range.1 hk)
    simp [this] at e
def tl (b : List Po) (i : Nat) : List Int := (List.range 21).map fun q => if q < i then ts b q else 0
theorem tl_len (b : List Po) (i : Nat) : (tl b i).length = 21 := by simp [tl]
theorem tl_0 (b : List Po) (q : Nat) (h : q < 21) : ga e1 (tl b 0) q = [.int .i64 0] := by
  unfold ga
  rw [getD_at (by rw [tl_len]; exact h)]
  simp [tl, e1]
theorem tl_set {b : List Po} {i : Nat} (h : i < 21) : (tl b i).set i (ts b i) = tl b (i + 1) := by
  refine List.ext_getElem (by simp [tl]) fun q q1 q2 => ?_
  rw [List.getElem_set]
  simp only [tl, List.getElem_map, List.getElem_range]
  by_cases e : i = q
  · rw [if_pos e, if_pos (by omega), e]
  · rw [if_neg e]
    by_cases z : q < i
    · rw [if_pos z, if_pos (by omega)]
    · rw [if_neg z, if_neg (by omega)]
theorem tl_end (b : List Po) : tl b 21 = (List.range 21).map (ts b) := by
  unfold tl
  refine List.map_congr_left fun q hq => ?_
  rw [if_pos (List.mem_range.1 hq)]
end Bk
theorem v_bkTrial (b : List Po) (hb : b.length ≤ 9223372036854775807) : V.FnR Try.prog 53 [.arr 3 b.length (ga encP b)] [.one (.ref 0)] (.tup [.one (.ref 1), .one (.val (.int .i64 (Bk.tE b)))]) [.row 3 1 (Bk.tV b).length (ga e1 (Bk.tV b))] := by
  have c1 := v_bkLines b hb
  have lo := @Bk.lines_0 b
  have x1 : Bk.lines b ≠ 0 → Bk.tE b = Bk.lines b := fun h => if_pos h
  have x2 : Bk.lines b = 0 → Bk.tw b = true → Bk.tE b = 8 := fun h h2 => (if_neg (fun z => z h)).trans (if_pos h2)
  have x3 : Bk.lines b = 0 → Bk.tw b = false → Bk.tE b = 0 := fun h h2 => (if_neg (fun z => z h)).trans (if_neg (by rw [h2]; decide))
  have v0 : Bk.tE b ≠ 0 → Bk.tV b = [] := fun h => if_neg h
  have v1 : Bk.tE b = 0 → Bk.tV b = (List.range 21).map (Bk.ts b) := fun h => if_pos h
  generalize Bk.lines b = L at *
  refine V.FnR.mk_ V.Tok V.mixed Try.func53 rfl Try.ntmps53 (by kernel_rfl) rfl rfl rfl rfl ?_
  repeat' ((conv => whnf); first | refine V.NCond.mk ?_ | refine V.NIf.not_ ?_ | refine V.NIf.dec_ ?_ | refine V.NIf.no (by omega) ?_ | refine V.NIf.yes (by omega) ?_ | refine V.NIf.mk (fun _ => ?_) (fun _ => ?_) | refine V.NWrap.ok (by omega) (by omega) ?_ | refine V.NWrap.u64 (by omega) (by omega) ?_ | refine V.NLt.mk (by omega) ?_ | refine V.NBoth.mk ?_ ?_ | refine V.NTF.yes (by omega) ?_ | refine V.NTF.no (by omega) ?_ | refine V.NTF.dec ?_ | refine V.NDraw.q (by exact rfl) (by kernel_rfl) ?_ | refine V.NApp.one (by first | omega | (simp; omega)) (by first | omega | (simp; omega)) ?_ | ((first | refine V.Fn.k (c1) [0] rfl ?_ ?_ | refine V.Fn.q (c1) [0] rfl ?_ ?_ | refine V.Fn.a (c1) [0] rfl ?_ ?_); · ((repeat' (first | exact rfl | exact Iff.rfl | exact trivial | exact (fun _ _ => rfl) | exact (fun _ h => absurd h (Nat.not_lt_zero _)) | refine ⟨?_, ?_⟩ | exact Iff.rfl | exact congrArg (fun z => V.SV.one (V.At.val (Value.int .i64 z))) (by omega))); done)) | (refine V.NDraw.any (by kernel_rfl) ?_) | fail)
  all_goals (conv => whnf)
  · obtain ⟨⟨lb, hr, hs⟩, _⟩ := lo (by assumption)
    have ua := Bk.up_amt hr
    have ul := Bk.up_len b
    refine V.NLoop.auto (fun (k : Nat) => [(19, .one (.val (.int .i64 k)))]) (fun (k : Nat) => [(2, .row 103 2 21 (fun q => [.int .i64 (Bk.ws (Bk.up b) k q).1, .int .i64 (Bk.ws (Bk.up b) k q).2]))]) [] [] (fun (k : Nat) => b.length - k) (fun (k : Nat) => k ≤ b.length) 0 (Nat.zero_le _) (by repeat' (first | exact rfl | exact Iff.rfl | exact trivial | exact (fun _ _ => rfl) | exact (fun _ h => absurd h (Nat.not_lt_zero _)) | refine ⟨?_, ?_⟩ | exact Iff.rfl | exact congrArg (fun z => V.SV.one (V.At.val (Value.int .i64 z))) (by omega))) (by (conv => whnf); exact ⟨⟨rfl, rfl, rfl, fun k hk => (show List.take 2 (List.drop (k * 2) (List.replicate (21 * 2) (Value.int .i64 0))) = _ from arr2 hk)⟩, trivial⟩) (fun _ => ⟨rfl, rfl⟩) ?_; (conv => whnf); refine ⟨⟨rfl, rfl⟩, ?_⟩
    rintro k hk
    by_cases hlt : k < b.length
    · obtain ⟨⟨h1, h2⟩, h3, h4⟩ := hr _ (getD_mem hlt)
      obtain ⟨u, hu⟩ : ∃ u : Nat, (b.getD k default).ut = (u : Int) := ⟨(b.getD k default).ut.toNat, by omega⟩
      obtain ⟨-, ws, wl⟩ := Bk.ws_amt ua k u
      rw [ul] at wl
      have hx := Bk.ws_succ (l := Bk.up b) (by rw [ul]; exact hlt) u (by rw [Bk.up_at hlt]; exact hu)
      rw [show ((Bk.up b).getD k default).am = Bk.mx (b.getD k default).am by rw [Bk.up_at hlt]] at hx
      have hm2 : Bk.mx (b.getD k default).am = 0 ∨ Bk.mx (b.getD k default).am = (b.getD k default).am := by unfold Bk.mx; split <;> simp
      have lb' := lb
      unfold M.Amt at h3
      have dm := Bk.tdm ((Bk.ws (Bk.up b) k u).2 + Bk.mx (b.getD k default).am)
      have hx : ∀ q, Bk.ws (Bk.up b) (k + 1) q = Bk.put (Bk.ws (Bk.up b) k) u ((Bk.ws (Bk.up b) k u).1 + ((Bk.ws (Bk.up b) k u).2 + Bk.mx (b.getD k default).am).tdiv 1152921504606846976, ((Bk.ws (Bk.up b) k u).2 + Bk.mx (b.getD k default).am).tmod 1152921504606846976) q := fun q => hx q
      generalize Bk.ws (Bk.up b) k = W at *
      obtain ⟨A, hA⟩ : ∃ A, A = Bk.put W u ((W u).1, (W u).2 + Bk.mx (b.getD k default).am) := ⟨_, rfl⟩
      have eA : (A u).1 = (W u).1 ∧ (A u).2 = (W u).2 + Bk.mx (b.getD k default).am := by rw [hA, Bk.put_u]; exact ⟨rfl, rfl⟩
      rw [← eA.2] at dm hx
      rw [← eA.1] at hx
      have dq : -2 ≤ (A u).2.tdiv 1152921504606846976 ∧ (A u).2.tdiv 1152921504606846976 ≤ 2 := by omega
      obtain ⟨B, hB⟩ : ∃ B, B = Bk.put A u ((A u).1 + (A u).2.tdiv 1152921504606846976, (A u).2) := ⟨_, rfl⟩
      obtain ⟨C, hC⟩ : ∃ C, C = Bk.put A u ((A u).1, (A u).2.tmod 1152921504606846976) := ⟨_, rfl⟩
      obtain ⟨D, hD⟩ : ∃ D, D = Bk.put A u ((A u).1 + (A u).2.tdiv 1152921504606846976, (A u).2.tmod 1152921504606846976) := ⟨_, rfl⟩
      have eB : (B u).1 = (A u).1 + (A u).2.tdiv 1152921504606846976 ∧ (B u).2 = (A u).2 := by rw [hB, Bk.put_u]; exact ⟨rfl, rfl⟩
      have eC : (C u).1 = (A u).1 ∧ (C u).2 = (A u).2.tmod 1152921504606846976 := by rw [hC, Bk.put_u]; exact ⟨rfl, rfl⟩
      have pA := put_is W A u _ _ hA
      have pB := put_is A B u _ _ hB
      have pC := put_is A C u _ _ hC
      have pD := put_is B D u (B u).1 ((A u).2.tmod 1152921504606846976) (by rw [hD, eB.1, hB, Bk.put_2])
      have pE := put_is C D u ((A u).1 + (A u).2.tdiv 1152921504606846976) (C u).2 (by rw [hD, eC.2, hC, Bk.put_2])
      have hx : ∀ q, Bk.ws (Bk.up b) (k + 1) q = D q := fun q => by rw [hx, hD, hA, Bk.put_2]
      clear hA hB hC hD
      repeat' ((conv => whnf); first | (refine V.NDraw.each (by kernel_rfl) ?_) | (refine V.NWrap.ok (e := (W u).2 + Bk.mx (b.getD k default).am) (by omega) (by omega) ?_) | refine V.NCond.mk ?_ | refine V.NIf.not_ ?_ | refine V.NIf.dec_ ?_ | refine V.NIf.no (by omega) ?_ | refine V.NIf.yes (by omega) ?_ | refine V.NIf.mk (fun _ => ?_) (fun _ => ?_) | refine V.NWrap.ok (by omega) (by omega) ?_ | refine V.NWrap.u64 (by omega) (by omega) ?_ | refine V.NLt.mk (by omega) ?_ | refine V.NBoth.mk ?_ ?_ | refine V.NTF.yes (by omega) ?_ | refine V.NTF.no (by omega) ?_ | refine V.NTF.dec ?_ | refine V.NDraw.q (by exact rfl) (by kernel_rfl) ?_ | refine V.NApp.one (by first | omega | (simp; omega)) (by first | omega | (simp; omega)) ?_ | (refine NIdx.mk ⟨k, rfl, by omega, ?_⟩) | (refine NIdx.mk ⟨u, hu, by omega, ?_⟩) | (refine V.NCall.inl (f := 73) V.Tok V.mixed Try.func73 rfl Try.ntmps73 (by kernel_rfl) rfl ?_) | (refine NQuo.ok (by decide) (by omega) (by omega) ?_) | (refine NRem.mk (by decide) ?_) | (refine ⟨⟨fun q => [.int .i64 (A q).1, .int .i64 (A q).2], fun q hq => pA q, ?_⟩⟩) | (refine ⟨⟨fun q => [.int .i64 (B q).1, .int .i64 (B q).2], fun q hq => pB q, ?_⟩⟩) | (refine ⟨⟨fun q => [.int .i64 (C q).1, .int .i64 (C q).2], fun q hq => pC q, ?_⟩⟩) | (refine ⟨⟨fun q => [.int .i64 (D q).1, .int .i64 (D q).2], fun q hq => pD q, ?_⟩⟩) | (refine ⟨⟨fun q => [.int .i64 (D q).1, .int .i64 (D q).2], fun q hq => pE q, ?_⟩⟩) | (refine V.NDraw.any (by kernel_rfl) ?_) | fail)
      all_goals (conv => whnf)
      all_goals exact V.NBack.at_ (k + 1) [] (by omega) (by omega) (by repeat' (first | exact rfl | exact Iff.rfl | exact trivial | exact (fun _ _ => rfl) | exact (fun _ h => absurd h (Nat.not_lt_zero _)) | refine ⟨?_, ?_⟩ | exact Iff.rfl | exact congrArg (fun z => V.SV.one (V.At.val (Value.int .i64 z))) (by omega))) rfl ⟨⟨rfl, rfl, rfl, fun q _ => by show [_, _] = [_, _]; rw [hx q]⟩, trivial⟩ (by repeat' (first | exact rfl | exact Iff.rfl | exact trivial | exact (fun _ _ => rfl) | exact (fun _ h => absurd h (Nat.not_lt_zero _)) | refine ⟨?_, ?_⟩ | exact Iff.rfl | exact congrArg (fun z => V.SV.one (V.At.val (Value.int .i64 z))) (by omega))) (by repeat' (first | exact rfl | exact Iff.rfl | exact trivial | exact (fun _ _ => rfl) | exact (fun _ h => absurd h (Nat.not_lt_zero _)) | refine ⟨?_, ?_⟩ | exact Iff.rfl | exact congrArg (fun z => V.SV.one (V.At.val (Value.int .i64 z))) (by omega)))
    obtain rfl : k = b.length := by omega
    have wsp := fun u => Bk.ws_amt ua b.length u
    rw [← ul, List.take_length] at wsp
    rw [ul] at wsp
    have ws2 := fun u => (wsp u).1.trans (Bk.up_ts b u)
    generalize Bk.ws (Bk.up b) b.length = W at *
    repeat' ((conv => whnf); first | refine V.NCond.mk ?_ | refine V.NIf.not_ ?_ | refine V.NIf.dec_ ?_ | refine V.NIf.no (by omega) ?_ | refine V.NIf.yes (by omega) ?_ | refine V.NIf.mk (fun _ => ?_) (fun _ => ?_) | refine V.NWrap.ok (by omega) (by omega) ?_ | refine V.NWrap.u64 (by omega) (by omega) ?_ | refine V.NLt.mk (by omega) ?_ | refine V.NBoth.mk ?_ ?_ | refine V.NTF.yes (by omega) ?_ | refine V.NTF.no (by omega) ?_ | refine V.NTF.dec ?_ | refine V.NDraw.q (by exact rfl) (by kernel_rfl) ?_ | refine V.NApp.one (by first | omega | (simp; omega)) (by first | omega | (simp; omega)) ?_ | (refine NMake.mk ⟨21, 21, rfl, rfl, by omega, by omega, by first | omega | decide | (simp; done) | (simp; omega), ?_⟩) | (refine V.NDraw.any (by kernel_rfl) ?_) | fail)
    all_goals (conv => whnf)
    refine V.NLoop.auto (fun (i : Nat) => [(32, .one (.val (.int .i64 i))), (8, .one (.ref 3))]) (fun (i : Nat) => [(3, .row 3 1 21 (ga e1 (Bk.tl b i)))]) [] [] (fun (i : Nat) => 21 - i) (fun (i : Nat) => i ≤ 21 ∧ ∀ u, u < i → M.Amt (Bk.ts b u)) 0 ⟨Nat.zero_le _, fun u h => absurd h (Nat.not_lt_zero _)⟩ (by repeat' (first | exact rfl | exact Iff.rfl | exact trivial | exact (fun _ _ => rfl) | exact (fun _ h => absurd h (Nat.not_lt_zero _)) | refine ⟨?_, ?_⟩ | exact Iff.rfl | exact congrArg (fun z => V.SV.one (V.At.val (Value.int .i64 z))) (by omega))) (by (conv => whnf); exact ⟨⟨rfl, rfl, rfl, fun q hq => (Bk.tl_0 b q hq).symm⟩, trivial⟩) (fun _ => ⟨rfl, rfl⟩) ?_; (conv => whnf); refine ⟨⟨rfl, rfl⟩, ?_⟩
    rintro i ⟨hi, hJ⟩
    by_cases i1 : i < 21
    · obtain ⟨w1, w2, w3⟩ := wsp i
      have we := ws2 i
      have am : M.Amt (Bk.ts b i) ↔ -1152921504606846976 ≤ (W i).1 * 1152921504606846976 + (W i).2 ∧ (W i).1 * 1152921504606846976 + (W i).2 ≤ 1152921504606846976 := by rw [we]; exact Iff.rfl
      have w8 : ¬ M.Amt (Bk.ts b i) → Bk.tE b = 8 := fun h => x2 (by assumption) (Bk.tw_yes i1 h)
      have ckn := fun n => @M.chk_yes n
      have ckz := fun n (h : M.chk n = 0) => Classical.byContradiction fun (z : ¬ M.Amt n) => by rw [M.chk_no z] at h; omega
      unfold M.Amt at ckz
      have st : (Bk.tl b i).set i ((W i).1 * 1152921504606846976 + (W i).2) = Bk.tl b (i + 1) := by rw [we]; exact Bk.tl_set i1
      have tn := Bk.tl_len b i
      repeat' ((conv => whnf); first | refine V.NCond.mk ?_ | refine V.NIf.not_ ?_ | refine V.NIf.dec_ ?_ | refine V.NIf.no (by omega) ?_ | refine V.NIf.yes (by omega) ?_ | refine V.NIf.mk (fun _ => ?_) (fun _ => ?_) | refine V.NWrap.ok (by omega) (by omega) ?_ | refine V.NWrap.u64 (by omega) (by omega) ?_ | refine V.NLt.mk (by omega) ?_ | refine V.NBoth.mk ?_ ?_ | refine V.NTF.yes (by omega) ?_ | refine V.NTF.no (by omega) ?_ | refine V.NTF.dec ?_ | refine V.NDraw.q (by exact rfl) (by kernel_rfl) ?_ | refine V.NApp.one (by first | omega | (simp; omega)) (by first | omega | (simp; omega)) ?_ | (refine NIdx.mk ⟨i, rfl, by omega, ?_⟩) | (refine V.NCall.inl (f := 74) V.Tok V.mixed Try.func74 rfl Try.ntmps74 (by kernel_rfl) rfl ?_) | (first | refine V.Fn.k0 (v_check _) rfl ?_ | refine V.Fn.q0 (v_check _) rfl ?_ | refine V.Fn.a0 (v_check _) rfl ?_) | (refine NPut.is_ (en := e1) (l := Bk.tl b i) ((W i).1 * 1152921504606846976 + (W i).2) (Bk.tl b (i + 1)) st tn rfl ?_) | (refine V.NDraw.any (by kernel_rfl) ?_) | fail)
      all_goals (conv => whnf)
      · have e := w8 (fun h => by have := am.1 h; omega)
        rw [v0 (by omega), e]
        exact NRet.mk_ [some 4] rfl ⟨rfl, rfl, trivial⟩ ⟨⟨rfl, rfl, rfl, fun k hk => absurd hk (Nat.not_lt_zero _)⟩, trivial⟩
      · have e := w8 (fun h => by have := am.1 h; omega)
        rw [v0 (by omega), e]
        exact NRet.mk_ [some 4] rfl ⟨rfl, rfl, trivial⟩ ⟨⟨rfl, rfl, rfl, fun k hk => absurd hk (Nat.not_lt_zero _)⟩, trivial⟩
      · have hA := am.2 (ckz _ (by assumption))
        exact V.NBack.at_ (i + 1) [] ⟨by omega, fun u hu => (show u < i ∨ u = i by omega).elim (hJ u) (fun e => by rw [e]; exact hA)⟩ (by omega) (by repeat' (first | exact rfl | exact Iff.rfl | exact trivial | exact (fun _ _ => rfl) | exact (fun _ h => absurd h (Nat.not_lt_zero _)) | refine ⟨?_, ?_⟩ | exact Iff.rfl | exact congrArg (fun z => V.SV.one (V.At.val (Value.int .i64 z))) (by omega))) rfl ⟨⟨rfl, rfl, rfl, fun _ _ => rfl⟩, trivial⟩ (by repeat' (first | exact rfl | exact Iff.rfl | exact trivial | exact (fun _ _ => rfl) | exact (fun _ h => absurd h (Nat.not_lt_zero _)) | refine ⟨?_, ?_⟩ | exact Iff.rfl | exact congrArg (fun z => V.SV.one (V.At.val (Value.int .i64 z))) (by omega))) (by repeat' (first | exact rfl | exact Iff.rfl | exact trivial | exact (fun _ _ => rfl) | exact (fun _ h => absurd h (Nat.not_lt_zero _)) | refine ⟨?_, ?_⟩ | exact Iff.rfl | exact congrArg (fun z => V.SV.one (V.At.val (Value.int .i64 z))) (by omega)))
      · have e := w8 (fun h => absurd (ckn _ (am.1 h)) (by assumption))
        rw [v0 (by omega), e]
        exact NRet.mk_ [some 4] rfl ⟨rfl, rfl, trivial⟩ ⟨⟨rfl, rfl, rfl, fun k hk => absurd hk (Nat.not_lt_zero _)⟩, trivial⟩
    · obtain rfl : i = 21 := by omega
      have e0 := x3 (by assumption) (Bk.tw_no hJ)
      repeat' ((conv => whnf); first | refine V.NCond.mk ?_ | refine V.NIf.not_ ?_ | refine V.NIf.dec_ ?_ | refine V.NIf.no (by omega) ?_ | refine V.NIf.yes (by omega) ?_ | refine V.NIf.mk (fun _ => ?_) (fun _ => ?_) | refine V.NWrap.ok (by omega) (by omega) ?_ | refine V.NWrap.u64 (by omega) (by omega) ?_ | refine V.NLt.mk (by omega) ?_ | refine V.NBoth.mk ?_ ?_ | refine V.NTF.yes (by omega) ?_ | refine V.NTF.no (by omega) ?_ | refine V.NTF.dec ?_ | refine V.NDraw.q (by exact rfl) (by kernel_rfl) ?_ | refine V.NApp.one (by first | omega | (simp; omega)) (by first | omega | (simp; omega)) ?_ | (refine V.NDraw.any (by kernel_rfl) ?_) | fail)
      all_goals (conv => whnf)
      rw [v1 e0, e0, ← Bk.tl_end]
      exact NRet.mk_ [some 3] rfl ⟨rfl, rfl, trivial⟩ ⟨⟨rfl, rfl, (Bk.tl_len b 21).symm, fun k hk => rfl⟩, trivial⟩
  · have e := x1 (by assumption)
    rw [v0 (by omega), e]
    exact NRet.mk_ [some 2] rfl ⟨rfl, rfl, trivial⟩ ⟨⟨rfl, rfl, rfl, fun k hk => absurd hk (Nat.not_lt_zero _)⟩, trivial⟩
end Go.Proofs.Yteblbhbfdfifpaa

/- What the document's trial answers. -/
namespace Go.Proofs.Yteblbhbfdfifpaa
open Go Go.Sort Go.RowKit V
set_option maxRecDepth 100000
set_option linter.unusedVariables false
set_option linter.unusedSimpArgs false
set_option maxHeartbeats 4000000
theorem pos_snoc (l : List Int) (a : Int) : Bk.pos (l ++ [a]) = Bk.pos l ++ if 0 < a then [a] else [] := by
  unfold Bk.pos
  rw [List.filter_append]
  congr 1
  by_cases h : 0 < a
  · rw [if_pos h]; exact List.filter_cons_of_pos (decide_eq_true h)
  · rw [if_neg h]; exact List.filter_cons_of_neg (by rw [decide_eq_true_eq]; exact h)
theorem pos_len (l : List Int) : (Bk.pos l).length ≤ l.length := List.length_filter_le _ _
end Go.Proofs.Yteblbhbfdfifpaa

/- Plain facts on books: what is posted comes out even. -/
namespace Go.Proofs.Yteblbhbfdfifpaa
set_option linter.unusedVariables false
set_option linter.unusedSimpArgs false
namespace Bk
def kk (a u : Int) : Nat := (21 * a + u).toNat
theorem kk_r {a u : Int} (k : Kn a u) : kk a u < 2121 ∧ ((kk a u : Nat) : Int) = 21 * a + u := by
  obtain ⟨h1, h2⟩ := k
  unfold kk
  omega
theorem kk_key {a u : Int} (k : Kn a u) {p : Po} (h : Right p) : key p = kk a u ↔ p.ac = a ∧ p.ut = u := by
  obtain ⟨⟨h1, h2⟩, _⟩ := h
  obtain ⟨h3, h4⟩ := k
  unfold kk key
  omega
theorem amAt_tot {b : List Po} (h : Lines b) {a u : Int} (k : Kn a u) : amAt b a u = tot b (kk a u) := by
  unfold amAt
  rcases ixf_cases (at? a u) b with ⟨e, al⟩ | ⟨i, e, hi, hp, _⟩
  · rw [e, if_neg (by decide), tot_none fun p hp q => ?_]
    have := al p hp
    unfold at? at this
    rw [decide_eq_false_iff_not] at this
    exact this ((kk_key k (h.r p hp)).1 q)
  · unfold at? at hp
    rw [decide_eq_true_eq] at hp
    rw [e, if_pos (by omega), Int.toNat_natCast, ← (kk_key k (h.r _ (getD_mem hi))).2 hp, tot_in (ne_of_lt (lines_srt h)) (getD_mem hi)]
theorem tot_amt {b : List Po} (h : Lines b) (k : Nat) : M.Amt (tot b k) := by
  by_cases q : ∃ p ∈ b, key p = k
  · obtain ⟨p, hp, rfl⟩ := q
    rw [tot_in (ne_of_lt (lines_srt h)) hp]
    exact (h.r p hp).2.1
  · rw [tot_none fun p hp e => q ⟨p, hp, e⟩]
    unfold M.Amt
    omega
structure Posted (b l : List Po) : Prop where
  bo : Lines b
  be : even b = true
  n : 0 < l.length ∧ l.length ≤ 60
  r : ∀ p ∈ l, Right p
  le : even l = true
  a : ∀ k, k < 2121 → M.Amt (tot (b ++ l) k)
  m : (out (tot (b ++ l)) 2121).length ≤ 400
theorem pE_0 {b l : List Po} : pE b l = 0 ↔ Posted b l := by
  constructor
  · intro h
    rcases pE_cases b l with ⟨a, e⟩ | ⟨_, a, e⟩ | ⟨h1, h2, e⟩
    · rw [h] at e; exact absurd e.symm a
    · rw [h] at e; exact absurd e.symm a
    · obtain ⟨m1, m2⟩ := mE_0 (e.symm.trans h)
      obtain ⟨l1, l2⟩ := lines_0 h1
      obtain ⟨c1, c2, c3⟩ := chk_0 h2
      exact ⟨l1, l2, c1, c2, c3, m1, m2⟩
  · rintro ⟨h1, h2, h3, h4, h5, h6, h7⟩
    rcases pE_cases b l with ⟨a, e⟩ | ⟨_, a, e⟩ | ⟨_, _, e⟩
    · exact absurd (lines_is h1 h2) a
    · exact absurd (chk_is h3 h4 h5) a
    · rw [e, mE_is h6, if_neg (by omega)]
theorem po_pL {b l : List Po} (h : Posted b l) : pL b l = out (tot (b ++ l)) 2121 := if_pos (pE_0.2 h)
theorem po_lines {b l : List Po} (h : Posted b l) : Lines (Bk.pL b l) := by
  rw [po_pL h]
  exact out_lines h.a h.m
theorem po_tot {b l : List Po} (h : Posted b l) {k : Nat} (hk : k < 2121) : tot (Bk.pL b l) k = Bk.tot b k + Bk.tot l k := by
  rw [po_pL h, tot_out hk, tot_app]
theorem po_even {b l : List Po} (h : Posted b l) : even (Bk.pL b l) = true := by
  rw [even_su (po_lines h).r]
  intro u hu
  have e1 := (even_su h.bo.r).1 h.be u hu
  have e2 := (even_su h.r).1 h.le u hu
  rw [su_congr (T := fun k => Bk.tot b k + Bk.tot l k) fun j hj => po_tot h (by omega), su_add, e1, e2]
  rfl
theorem po_ok {b l : List Po} (h : Posted b l) : Bk.lines (Bk.pL b l) = 0 := lines_is (po_lines h) (po_even h)
theorem bE_is {b : List Po} (h : Bk.lines b = 0) (a u : Int) : bE b a u = if Kn a u then 0 else 3 := if_neg (fun z => z h)
theorem bV_is {b : List Po} (h : Lines b) (e : even b = true) {a u : Int} (k : Kn a u) : bV b a u = tot b (kk a u) := by
  unfold bV
  rw [bE_is (lines_is h e), if_pos k, if_pos rfl, amAt_tot h k]
/-- two books of the same totals are one -/
theorem book_ext {b c : List Po} (hb : Lines b) (hc : Lines c) (h : ∀ k, k < 2121 → tot b k = tot c k) : b = c := by
  rw [is_out hb, is_out hc]
  have : ∀ n, n ≤ 2121 → out (tot b) n = out (tot c) n := fun n => by
    induction n with
    | zero => intro _; rfl
    | succ n ih => intro hn; rw [out_succ, out_succ, ih (by omega), h n (by omega)]
  exact this 2121 (Nat.le_refl _)
end Bk
end Go.Proofs.Yteblbhbfdfifpaa

/- Plain facts on money for papers: what they are worth, the middle of prices, how far a price may go. -/
namespace Go.Proofs.Yteblbhbfdfifpaa
set_option linter.unusedVariables false
set_option linter.unusedSimpArgs false
namespace Cp
def Ok (u p x : Int) : Prop := (0 ≤ u ∧ u ≤ 1073741824) ∧ P.Ok p ∧ (0 ≤ x ∧ x ≤ 10000)
instance (u p x : Int) : Decidable (Ok u p x) := by unfold Ok; exact inferInstance
def wE (u p x : Int) : Int := if Ok u p x then 0 else 3
def wV (u p x : Int) : Int := if Ok u p x then P.cost u p + P.cost u p * x / 10000 else 0
theorem w_yes {u p x : Int} (h : Ok u p x) : wE u p x = 0 ∧ wV u p x = P.cost u p + P.cost u p * x / 10000 := ⟨if_pos h, if_pos h⟩
theorem w_no {u p x : Int} (h : ¬ Ok u p x) : wE u p x = 3 ∧ wV u p x = 0 := ⟨if_neg h, if_neg h⟩
theorem w_ok {u p x : Int} (h : wE u p x = 0) : Ok u p x := by
  by_cases q : Ok u p x
  · exact q
  · rw [(w_no q).1] at h; cases h
theorem w_bd {u p x : Int} : 0 ≤ wV u p x ∧ wV u p x ≤ 236118324143482260 := by
  by_cases q : Ok u p x
  · rw [(w_yes q).2]
    have := P.cost_bd q.1 q.2.1
    have := P.rate_bd this.1 q.2.2
    omega
  · rw [(w_no q).2]; omega
/-! the middle -/
def srt (l : List Int) : List Int := l.mergeSort fun x y => decide (x ≤ y)
theorem srt_perm (l : List Int) : (srt l).Perm l := List.mergeSort_perm _ _
theorem srt_len (l : List Int) : (srt l).length = l.length := (srt_perm l).length_eq
theorem srt_le (l : List Int) : (srt l).Pairwise fun x y => x ≤ y := by
  have := List.pairwise_mergeSort (le := fun x y : Int => decide (x ≤ y)) (fun a b c h1 h2 => by simp at *; omega) (fun a b => by simp; omega) l
  exact this.imp fun h => by simpa using h
def med (l : List Int) : Int := (srt l).getD ((l.length - 1) / 2) default
def lt (x : Int) (l : List Int) : Nat := l.countP fun y => decide (y < x)
def eq (x : Int) (l : List Int) : Nat := l.countP fun y => decide (y = x)
def le (x : Int) (l : List Int) : Nat := l.countP fun y => decide (y ≤ x)
theorem le_eq (x : Int) : ∀ l : List Int, le x l = lt x l + eq x l
  | [] => rfl
  | y :: r => by
    have := le_eq x r
    unfold le lt eq at *
    simp only [List.countP_cons, this]
    rcases Int.lt_trichotomy y x with h | h | h
    · rw [if_pos (by simp; omega), if_pos (by simp; omega), if_neg (by simp; omega)]; omega
    · rw [if_pos (by simp; omega), if_neg (by simp; omega), if_pos (by simp; omega)]; omega
    · rw [if_neg (by simp; omega), if_neg (by simp; omega), if_neg (by simp; omega)]; omega
theorem srt_split {s : List Int} (hs : s.Pairwise fun x y => x ≤ y) {m : Nat} (hm : m < s.length) : (∀ y ∈ s.take (m + 1), y ≤ s.getD m default) ∧ (∀ y ∈ s.drop m, s.getD m default ≤ y) := by
  have p := List.pairwise_iff_getElem.1 hs
  refine ⟨fun y hy => ?_, fun y hy => ?_⟩
  · obtain ⟨k, hk, rfl⟩ := List.getElem_of_mem hy
    rw [List.length_take] at hk
    rw [List.getElem_take, getD_at hm]
    by_cases q : k = m
    · subst q; exact Int.le_refl _
    · exact p k m (by omega) hm (by omega)
  · obtain ⟨k, hk, rfl⟩ := List.getElem_of_mem hy
    rw [List.length_drop] at hk
    rw [List.getElem_drop, getD_at hm]
    by_cases q : k = 0
    · subst q; exact Int.le_refl _
    · exact p m (m + k) hm (by omega) (by omega)
theorem cnt_take {p : Int → Bool} {s : List Int} {m : Nat} (h : m ≤ s.length) (hp : ∀ y ∈ s.take m, p y = true) : m ≤ s.countP p := by
  have e : s.countP p = (s.take m).countP p + (s.drop m).countP p := by rw [← List.countP_append, List.take_append_drop]
  rw [e, List.countP_eq_length.2 hp, List.length_take]
  omega
theorem cnt_drop {p : Int → Bool} {s : List Int} {m : Nat} (hp : ∀ y ∈ s.drop m, p y = false) : s.countP p ≤ m := by
  have e : s.countP p = (s.take m).countP p + (s.drop m).countP p := by rw [← List.countP_append, List.take_append_drop]
  have z : (s.drop m).countP p = 0 := List.countP_eq_zero.2 fun y hy => by rw [hp y hy]; decide
  have := List.countP_le_length (p := p) (l := s.take m)
  rw [List.length_take] at this
  omega
theorem at_srt {s : List Int} (hs : s.Pairwise fun x y => x ≤ y) {m : Nat} (hm : m < s.length) : lt (s.getD m default) s ≤ m ∧ m < le (s.getD m default) s := by
  obtain ⟨h1, h2⟩ := srt_split hs hm
  exact ⟨cnt_drop fun y hy => decide_eq_false (by have := h2 y hy; omega), cnt_take (by omega) fun y hy => decide_eq_true (h1 y hy)⟩
theorem is_srt {s : List Int} (hs : s.Pairwise fun x y => x ≤ y) {m : Nat} (hm : m < s.length) {x : Int} (h1 : lt x s ≤ m) (h2 : m < le x s) : s.getD m default = x := by
  obtain ⟨g1, g2⟩ := srt_split hs hm
  rcases Int.lt_trichotomy (s.getD m default) x with h | h | h
  · have := cnt_take (p := fun y => decide (y < x)) (show m + 1 ≤ s.length by omega) fun y hy => decide_eq_true (by have := g1 y hy; omega)
    unfold lt at h1
    omega
  · exact h
  · have := cnt_drop (p := fun y => decide (y ≤ x)) (s := s) (m := m) fun y hy => decide_eq_false (by have := g2 y hy; omega)
    unfold le at h2
    omega
theorem half {n : Nat} (h : 0 < n) : (n - 1) / 2 < n := by omega
theorem med_at {l : List Int} (h : l ≠ []) : lt (med l) l ≤ (l.length - 1) / 2 ∧ (l.length - 1) / 2 < le (med l) l := by
  have hp : 0 < l.length := List.length_pos_iff.2 h
  have := at_srt (srt_le l) (m := (l.length - 1) / 2) (by rw [srt_len]; omega)
  have e1 : lt (med l) (srt l) = lt (med l) l := (srt_perm l).countP_eq _
  have e2 : le (med l) (srt l) = le (med l) l := (srt_perm l).countP_eq _
  rw [← e1, ← e2]
  exact this
theorem med_is {l : List Int} (h : l ≠ []) {x : Int} (h1 : lt x l ≤ (l.length - 1) / 2) (h2 : (l.length - 1) / 2 < le x l) : med l = x := by
  have hp : 0 < l.length := List.length_pos_iff.2 h
  have e1 : lt x (srt l) = lt x l := (srt_perm l).countP_eq _
  have e2 : le x (srt l) = le x l := (srt_perm l).countP_eq _
  exact is_srt (srt_le l) (by rw [srt_len]; omega) (by rw [e1]; exact h1) (by rw [e2]; exact h2)
theorem med_perm {l m : List Int} (h : l.Perm m) : med l = med m := by
  by_cases q : m = []
  · subst q; rw [h.eq_nil]
  · obtain ⟨h1, h2⟩ := med_at q
    have e1 : lt (med m) l = lt (med m) m := h.countP_eq _
    have e2 : le (med m) l = le (med m) m := h.countP_eq _
    exact med_is (fun z => q (by subst z; exact h.symm.eq_nil)) (by rw [e1, h.length_eq]; exact h1) (by rw [e2, h.length_eq]; exact h2)
theorem med_mem {l : List Int} (h : l ≠ []) : med l ∈ l := by
  have hp : 0 < l.length := List.length_pos_iff.2 h
  exact (srt_perm l).mem_iff.1 (getD_mem (by rw [srt_len]; omega))
/-- how many stand ahead of place i -/
def rk (l : List Int) (i : Nat) : Nat := lt (l.getD i default) l + eq (l.getD i default) (l.take i)
theorem eq_lt {x : Int} {l : List Int} {i : Nat} (hi : i < l.length) (hx : l.getD i default = x) : eq x (l.take i) < eq x l := by
  have e : eq x l = eq x (l.take (i + 1)) + eq x (l.drop (i + 1)) := by unfold eq; rw [← List.countP_append, List.take_append_drop]
  have e2 : eq x (l.take (i + 1)) = eq x (l.take i) + 1 := by
    unfold eq
    rw [List.take_succ_eq_append_getElem hi, List.countP_append, ← getD_at hi, hx]
    simp
  omega
theorem rk_med {l : List Int} {i : Nat} (hi : i < l.length) (h : rk l i = (l.length - 1) / 2) : med l = l.getD i default := by
  have := eq_lt hi rfl
  unfold rk at h
  refine med_is (fun z => by subst z; cases hi) (by omega) ?_
  rw [le_eq]; omega
theorem nth_eq {x : Int} : ∀ {l : List Int} {j : Nat}, j < eq x l → ∃ i, i < l.length ∧ l.getD i default = x ∧ eq x (l.take i) = j
  | [], j, h => absurd h (Nat.not_lt_zero _)
  | y :: r, j, h => by
    unfold eq at h
    rw [List.countP_cons] at h
    by_cases q : y = x
    · rw [if_pos (by simpa using q)] at h
      cases j with
      | zero => exact ⟨0, by simp, q, rfl⟩
      | succ j =>
        obtain ⟨i, h1, h2, h3⟩ := nth_eq (x := x) (l := r) (j := j) (by unfold eq; omega)
        refine ⟨i + 1, by simpa using h1, h2, ?_⟩
        unfold eq at *
        rw [List.take_succ_cons, List.countP_cons, h3, if_pos (by simpa using q)]
    · rw [if_neg (by simpa using q)] at h
      obtain ⟨i, h1, h2, h3⟩ := nth_eq (x := x) (l := r) (j := j) (by unfold eq; omega)
      refine ⟨i + 1, by simpa using h1, h2, ?_⟩
      unfold eq at *
      rw [List.take_succ_cons, List.countP_cons, h3, if_neg (by simpa using q), Nat.add_zero]
theorem rk_ex {l : List Int} (h : l ≠ []) : ∃ i, i < l.length ∧ rk l i = (l.length - 1) / 2 := by
  obtain ⟨h1, h2⟩ := med_at h
  rw [le_eq] at h2
  obtain ⟨i, g1, g2, g3⟩ := nth_eq (x := med l) (l := l) (j := (l.length - 1) / 2 - lt (med l) l) (by omega)
  refine ⟨i, g1, ?_⟩
  unfold rk
  rw [g2, g3]
  omega
/-- .. as it is counted -/
def ah (l : List Int) (i k : Nat) : Nat := lt (l.getD i default) (l.take k) + eq (l.getD i default) (l.take (min k i))
theorem ah_0 (l : List Int) (i : Nat) : ah l i 0 = 0 := by unfold ah lt eq; simp
theorem ah_end {l : List Int} {i : Nat} (hi : i < l.length) : ah l i l.length = rk l i := by
  unfold ah rk
  rw [List.take_length, Nat.min_eq_right (by omega)]
theorem ah_yes {l : List Int} {i k : Nat} (hi : i < l.length) (hk : k < l.length) (h : l.getD k default < l.getD i default ∨ (l.getD k default = l.getD i default ∧ k < i)) : ah l i (k + 1) = ah l i k + 1 := by
  unfold ah lt eq
  rw [List.take_succ_eq_append_getElem hk, List.countP_append, ← getD_at hk]
  by_cases q : k < i
  · rw [Nat.min_eq_left (by omega), Nat.min_eq_left (by omega), List.take_succ_eq_append_getElem hk, List.countP_append, ← getD_at hk]
    rcases h with h | ⟨h, _⟩
    · rw [List.countP_cons, List.countP_cons, if_pos (decide_eq_true h), if_neg (by rw [decide_eq_true_eq]; omega), List.countP_nil, List.countP_nil]; omega
    · rw [List.countP_cons, List.countP_cons, if_neg (by rw [decide_eq_true_eq]; omega), if_pos (decide_eq_true h), List.countP_nil, List.countP_nil]; omega
  · rw [Nat.min_eq_right (by omega), Nat.min_eq_right (by omega), List.countP_cons, if_pos (decide_eq_true (by omega)), List.countP_nil]; omega
theorem ah_no {l : List Int} {i k : Nat} (hi : i < l.length) (hk : k < l.length) (h : ¬ (l.getD k default < l.getD i default ∨ (l.getD k default = l.getD i default ∧ k < i))) : ah l i (k + 1) = ah l i k := by
  unfold ah lt eq
  rw [List.take_succ_eq_append_getElem hk, List.countP_append, ← getD_at hk, List.countP_cons, if_neg (by rw [decide_eq_true_eq]; omega), List.countP_nil]
  by_cases q : k < i
  · rw [Nat.min_eq_left (by omega), Nat.min_eq_left (by omega), List.take_succ_eq_append_getElem hk, List.countP_append, ← getD_at hk, List.countP_cons, if_neg (by rw [decide_eq_true_eq]; omega), List.countP_nil]; omega
  · rw [Nat.min_eq_right (by omega), Nat.min_eq_right (by omega)]; omega
theorem ah_le (l : List Int) (i k : Nat) : ah l i k ≤ 2 * k := by
  unfold ah lt eq
  have h1 := List.countP_le_length (p := fun y => decide (y < l.getD i default)) (l := l.take k)
  have h2 := List.countP_le_length (p := fun y => decide (y = l.getD i default)) (l := l.take (min k i))
  rw [List.length_take] at h1 h2
  omega
def gt (x : Int) (l : List Int) : Nat := l.countP fun y => decide (x < y)
theorem gt_le (x : Int) : ∀ l : List Int, gt x l + le x l = l.length
  | [] => rfl
  | y :: r => by
    have := gt_le x r
    unfold gt le at *
    rw [List.countP_cons, List.countP_cons, List.length_cons]
    by_cases h : y ≤ x
    · rw [if_neg (by simp; omega), if_pos (by simpa using h)]; omega
    · rw [if_pos (by simp; omega), if_neg (by simpa using h)]; omega
theorem cnt_snoc {p : Int → Bool} {l : List Int} {k : Nat} (h : k < l.length) : (l.take (k + 1)).countP p = (l.take k).countP p + if p (l.getD k default) = true then 1 else 0 := by
  rw [List.take_succ_eq_append_getElem h, List.countP_append, ← getD_at h, List.countP_cons, List.countP_nil]
  omega
theorem cnt_len (p : Int → Bool) (l : List Int) (k : Nat) : (l.take k).countP p ≤ k := by
  have := List.countP_le_length (p := p) (l := l.take k)
  rw [List.length_take] at this
  omega
/-- turned round -/
def rot (l : List Int) (r : Nat) : List Int := l.drop r ++ l.take r
theorem rot_perm (l : List Int) (r : Nat) : (rot l r).Perm l := by
  unfold rot
  exact List.perm_append_comm.trans (by rw [List.take_append_drop])
theorem rot_len (l : List Int) (r : Nat) : (rot l r).length = l.length := (rot_perm l r).length_eq
theorem rot_at {l : List Int} {r k : Nat} (hr : r < l.length) (hk : k < l.length) : (rot l r).take (k + 1) = (rot l r).take k ++ [l.getD ((k + r) % l.length) default] := by
  rw [List.take_succ_eq_append_getElem (by rw [rot_len]; exact hk)]
  congr 2
  unfold rot
  rw [List.getElem_append]
  by_cases q : k < l.length - r
  · rw [dif_pos (by rw [List.length_drop]; exact q), List.getElem_drop, Nat.mod_eq_of_lt (by omega), getD_at (by omega)]
    congr 1; omega
  · rw [dif_neg (by rw [List.length_drop]; exact q), List.getElem_take, getD_at (Nat.mod_lt _ (by omega))]
    have e : (k + r) % l.length = k + r - l.length := by rw [Nat.mod_eq_sub_mod (by omega), Nat.mod_eq_of_lt (by omega)]
    have e2 : k - (l.drop r).length = (k + r) % l.length := by rw [List.length_drop, e]; omega
    congr 1
def bad (l : List Int) : Int := ixf (fun p => decide (¬ P.Ok p)) l
def mE (l : List Int) : Int := if l.length = 0 then 1 else if 40 < l.length then 2 else if ∀ p ∈ l, P.Ok p then 0 else 3
def mV (l : List Int) : Int := if mE l = 0 then med l else 0
theorem m_0 {l : List Int} (h : l.length = 0) : mE l = 1 ∧ mV l = 0 := by
  have e : mE l = 1 := if_pos h
  exact ⟨e, if_neg (by rw [e]; decide)⟩
theorem m_many {l : List Int} (h : 40 < l.length) : mE l = 2 ∧ mV l = 0 := by
  have e : mE l = 2 := by unfold mE; rw [if_neg (by omega), if_pos h]
  exact ⟨e, if_neg (by rw [e]; decide)⟩
theorem m_bad {l : List Int} (h1 : l.length ≠ 0) (h2 : l.length ≤ 40) (h : ¬ ∀ p ∈ l, P.Ok p) : mE l = 3 ∧ mV l = 0 := by
  have e : mE l = 3 := by unfold mE; rw [if_neg h1, if_neg (by omega), if_neg h]
  exact ⟨e, if_neg (by rw [e]; decide)⟩
theorem m_yes {l : List Int} (h1 : l.length ≠ 0) (h2 : l.length ≤ 40) (h : ∀ p ∈ l, P.Ok p) : mE l = 0 ∧ mV l = med l := by
  have e : mE l = 0 := by unfold mE; rw [if_neg h1, if_neg (by omega), if_pos h]
  exact ⟨e, if_pos e⟩
theorem m_ok {l : List Int} (h : mE l = 0) : l.length ≠ 0 ∧ l.length ≤ 40 ∧ ∀ p ∈ l, P.Ok p := by
  unfold mE at h
  split at h
  · omega
  · split at h
    · omega
    · split at h
      · exact ⟨by omega, by omega, by assumption⟩
      · omega
/-! how far -/
def LOk (p was most : Int) : Prop := P.Ok p ∧ P.Ok was ∧ (0 ≤ most ∧ most ≤ 10000)
instance (p was most : Int) : Decidable (LOk p was most) := by unfold LOk; exact inferInstance
def clamp (p was away : Int) : Int := if (if (if p < was - away then was - away else p) > was + away then was + away else (if p < was - away then was - away else p)) > 1099511627776 then 1099511627776 else (if (if p < was - away then was - away else p) > was + away then was + away else (if p < was - away then was - away else p))
def lE (p was most : Int) : Int := if LOk p was most then 0 else 3
def lV (p was most : Int) : Int := if LOk p was most then clamp p was (was * most / 10000) else 0
theorem l_yes {p was most : Int} (h : LOk p was most) : lE p was most = 0 ∧ lV p was most = clamp p was (was * most / 10000) := ⟨if_pos h, if_pos h⟩
theorem l_no {p was most : Int} (h : ¬ LOk p was most) : lE p was most = 3 ∧ lV p was most = 0 := ⟨if_neg h, if_neg h⟩
theorem l_ok {p was most : Int} (h : lE p was most = 0) : LOk p was most := by
  by_cases q : LOk p was most
  · exact q
  · rw [(l_no q).1] at h; cases h
theorem away_bd {p was most : Int} (h : LOk p was most) : 0 ≤ was * most / 10000 ∧ was * most / 10000 ≤ was ∧ was ≤ 1099511627776 := by
  have := P.rate_bd h.2.1.1 h.2.2
  exact ⟨this.1, this.2, h.2.1.2⟩
theorem away_part {p was most : Int} (h : LOk p was most) : M.prE was most 10000 = 0 ∧ M.prQ was most 10000 = was * most / 10000 := by
  have := h.2.1
  unfold P.Ok at this
  exact P.part_rate (by omega) h.2.2
theorem clamp_cases (p was away : Int) : (p < was - away ∧ was - away ≤ was + away ∧ was - away ≤ 1099511627776 ∧ clamp p was away = was - away) ∨ (was - away ≤ p ∧ p ≤ was + away ∧ p ≤ 1099511627776 ∧ clamp p was away = p) ∨ (was - away ≤ p ∧ was + away < p ∧ was + away ≤ 1099511627776 ∧ clamp p was away = was + away) ∨ (was + away < was - away ∧ p < was - away ∧ was + away ≤ 1099511627776 ∧ clamp p was away = was + away) ∨ ((1099511627776 < p ∨ 1099511627776 < was - away) ∧ clamp p was away = 1099511627776) := by
  unfold clamp
  split <;> split <;> split <;> omega
/-! pay -/
def pE (f : Fl) (p x : Int) : Int := if F.less f 1 ≠ 0 then F.less f 1 else wE (F.left f) p x
def pF (f : Fl) (p x : Int) : Fl := if pE f p x = 0 then F.addPd f (F.left f) else F.zero
def pN (f : Fl) (p x : Int) : Int := if pE f p x = 0 then wV (F.left f) p x else 0
def mvd (a b c d : Int) : List Po := [⟨a, c, -d⟩, ⟨b, c, d⟩]
def pL (f : Fl) (p x : Int) : List Po := if pN f p x = 0 then [] else mvd f.fr f.to 0 (pN f p x)
theorem p_1 {f : Fl} {p x : Int} (h : ¬ F.less f 1 = 0) : pE f p x = F.less f 1 ∧ pF f p x = F.zero ∧ pL f p x = [] := by
  have e : pE f p x = F.less f 1 := if_pos h
  exact ⟨e, if_neg (by rw [e]; exact h), if_pos (if_neg (by rw [e]; exact h))⟩
theorem p_2 {f : Fl} {p x : Int} (h : F.less f 1 = 0) (w : ¬ wE (F.left f) p x = 0) : pE f p x = wE (F.left f) p x ∧ pF f p x = F.zero ∧ pL f p x = [] := by
  have e : pE f p x = wE (F.left f) p x := if_neg (fun z => z h)
  exact ⟨e, if_neg (by rw [e]; exact w), if_pos (if_neg (by rw [e]; exact w))⟩
theorem p_3 {f : Fl} {p x : Int} (h : F.less f 1 = 0) (w : wE (F.left f) p x = 0) : pE f p x = 0 ∧ pF f p x = F.addPd f (F.left f) ∧ pN f p x = wV (F.left f) p x := by
  have e : pE f p x = 0 := (if_neg (fun z => z h)).trans w
  exact ⟨e, if_pos e, if_pos e⟩
theorem pL_0 {f : Fl} {p x : Int} (h : pN f p x = 0) : pL f p x = [] := if_pos h
theorem pL_1 {f : Fl} {p x : Int} (h : ¬ pN f p x = 0) : pL f p x = mvd f.fr f.to 0 (pN f p x) := if_neg h
theorem less_1 (f : Fl) : (F.chk f ≠ 0 ∧ F.less f 1 = F.chk f) ∨ (F.chk f = 0 ∧ F.left f = 0 ∧ F.less f 1 = 5) ∨ (F.chk f = 0 ∧ 1 ≤ F.left f ∧ F.less f 1 = 0) := by
  by_cases h : F.chk f = 0
  · have b := F.ok_bounds (F.chk_ok h)
    by_cases q : F.left f = 0
    · exact .inr (.inl ⟨h, q, F.less_3 h (by omega) q⟩)
    · exact .inr (.inr ⟨h, by omega, F.less_5 h (by omega) q (by omega)⟩)
  · exact .inl ⟨h, F.less_1 h⟩
end Cp
end Go.Proofs.Yteblbhbfdfifpaa

/- Plain facts on money for papers: what is paid can be posted. -/
namespace Go.Proofs.Yteblbhbfdfifpaa
set_option linter.unusedVariables false
set_option linter.unusedSimpArgs false
namespace Bk
theorem one_some (T : Nat → Int) (k : Nat) : (one T k).isSome = decide (T k ≠ 0) := by
  unfold one
  by_cases h : T k = 0
  · rw [if_pos h, decide_eq_false (fun z => z h)]; rfl
  · rw [if_neg h, decide_eq_true h]; rfl
theorem out_cnt (T : Nat → Int) : ∀ n, (out T n).length = (List.range n).countP fun k => decide (T k ≠ 0)
  | 0 => rfl
  | n + 1 => by
    rw [out_succ, List.length_append, out_cnt T n, List.range_succ, List.countP_append]
    congr 1
    by_cases h : T n = 0
    · rw [if_pos h]; simp [h]
    · rw [if_neg h]; simp [h]
theorem cnt_or {p q r : Nat → Bool} (h : ∀ k, p k = true → q k = true ∨ r k = true) : ∀ l : List Nat, l.countP p ≤ l.countP q + l.countP r
  | [] => by simp
  | k :: l => by
    have ih := cnt_or h l
    simp only [List.countP_cons]
    by_cases hp : p k = true
    · rcases h k hp with h1 | h1
      · rw [if_pos hp, if_pos h1]; split <;> omega
      · rw [if_pos hp, if_pos h1]; split <;> omega
    · rw [if_neg hp]; omega
theorem cnt_one (a : Nat) : ∀ n, (List.range n).countP (fun k => decide (k = a)) ≤ 1
  | 0 => by simp
  | n + 1 => by
    rw [List.range_succ, List.countP_append]
    have ih := cnt_one a n
    by_cases h : n = a
    · have z : (List.range n).countP (fun k => decide (k = a)) = 0 := List.countP_eq_zero.2 fun k hk => by have := List.mem_range.1 hk; simp; omega
      rw [z]; simp [h]
    · simp [h]; omega
theorem out_few : ∀ (l : List Po) (n : Nat), (out (tot l) n).length ≤ l.length
  | [], n => by
    rw [out_cnt, List.countP_eq_zero.2 fun k hk => by simp [tot_none (l := []) (k := k) (fun p hp => by simp at hp)]]
    simp
  | p :: r, n => by
    have ih := out_few r n
    rw [out_cnt] at *
    have e : ∀ k, tot (p :: r) k = tot [p] k + tot r k := fun k => tot_app [p] r k
    have c := cnt_or (p := fun k => decide (tot (p :: r) k ≠ 0)) (q := fun k => decide (tot r k ≠ 0)) (r := fun k => decide (k = key p)) (fun k hk => by
      rw [decide_eq_true_eq] at hk
      by_cases q : k = key p
      · exact .inr (decide_eq_true q)
      · refine .inl (decide_eq_true fun z => hk ?_)
        rw [e, z, tot_none fun x hx => by rw [List.mem_singleton.1 hx]; exact fun w => q w.symm]
        rfl) (List.range n)
    have o := cnt_one (key p) n
    rw [List.length_cons]
    omega
theorem lines_nil : lines [] = 0 := by decide
theorem posted_nil {l : List Po} (n : 0 < l.length ∧ l.length ≤ 60) (r : ∀ p ∈ l, Right p) (e : even l = true) (a : ∀ k, k < 2121 → M.Amt (tot l k)) : Posted [] l := by
  obtain ⟨h1, h2⟩ := lines_0 lines_nil
  exact ⟨h1, h2, n, r, e, a, Nat.le_trans (out_few _ _) (by simpa using Nat.le_trans n.2 (by decide))⟩
end Bk
namespace Cp
theorem mvd_right {a b c d : Int} (ha : 0 ≤ a ∧ a ≤ 100) (hb : 0 ≤ b ∧ b ≤ 100) (hc : 0 ≤ c ∧ c ≤ 20) (hd : 1 ≤ d ∧ d ≤ 1152921504606846976) : ∀ p ∈ mvd a b c d, Bk.Right p := fun p hp => by
  unfold mvd at hp
  simp only [List.mem_cons, List.not_mem_nil, or_false] at hp
  rcases hp with rfl | rfl
  · exact ⟨⟨ha, hc⟩, by unfold M.Amt; dsimp only; omega, by dsimp only; omega⟩
  · exact ⟨⟨hb, hc⟩, by unfold M.Amt; dsimp only; omega, by dsimp only; omega⟩
theorem mvd_even {a b c d : Int} : Bk.even (mvd a b c d) = true := (Bk.even_iff _).2 fun u hu => by
  unfold mvd Bk.amu
  by_cases h : c = (u : Int)
  · simp [h, M.sum]
    omega
  · simp [h, M.sum]
theorem mvd_tot {a b c d : Int} (ha : 0 ≤ a ∧ a ≤ 100) (hb : 0 ≤ b ∧ b ≤ 100) (hc : 0 ≤ c ∧ c ≤ 20) (hd : 1 ≤ d ∧ d ≤ 1152921504606846976) (hab : a ≠ b) : Bk.tot (mvd a b c d) (Bk.kk a c) = -d ∧ Bk.tot (mvd a b c d) (Bk.kk b c) = d ∧ ∀ k, M.Amt (Bk.tot (mvd a b c d) k) := by
  have r := mvd_right ha hb hc hd
  have r1 := r ⟨a, c, -d⟩ (by simp [mvd])
  have r2 := r ⟨b, c, d⟩ (by simp [mvd])
  have k1 : Bk.key ⟨a, c, -d⟩ = Bk.kk a c := (Bk.kk_key ⟨ha, hc⟩ r1).2 ⟨rfl, rfl⟩
  have k2 : Bk.key ⟨b, c, d⟩ = Bk.kk b c := (Bk.kk_key ⟨hb, hc⟩ r2).2 ⟨rfl, rfl⟩
  have ne : Bk.key ⟨a, c, -d⟩ ≠ Bk.key ⟨b, c, d⟩ := fun z => hab ((Bk.key_eq r1 r2).1 z).1
  have pw : (mvd a b c d).Pairwise fun p q => Bk.key p ≠ Bk.key q := by
    unfold mvd
    simp [ne]
  have t1 := Bk.tot_in pw (p := ⟨a, c, -d⟩) (by simp [mvd])
  have t2 := Bk.tot_in pw (p := ⟨b, c, d⟩) (by simp [mvd])
  rw [k1] at t1
  rw [k2] at t2
  refine ⟨t1, t2, fun k => ?_⟩
  by_cases e1 : k = Bk.kk a c
  · rw [e1, t1]; unfold M.Amt; dsimp only; omega
  · by_cases e2 : k = Bk.kk b c
    · rw [e2, t2]; unfold M.Amt; dsimp only; omega
    · rw [Bk.tot_none fun p hp => ?_]
      · unfold M.Amt; omega
      · unfold mvd at hp
        simp only [List.mem_cons, List.not_mem_nil, or_false] at hp
        rcases hp with rfl | rfl
        · rw [k1]; exact fun z => e1 z.symm
        · rw [k2]; exact fun z => e2 z.symm
theorem mvd_posted {a b c d : Int} (ha : 0 ≤ a ∧ a ≤ 100) (hb : 0 ≤ b ∧ b ≤ 100) (hc : 0 ≤ c ∧ c ≤ 20) (hd : 1 ≤ d ∧ d ≤ 1152921504606846976) (hab : a ≠ b) : Bk.Posted [] (mvd a b c d) :=
  Bk.posted_nil ⟨Nat.succ_pos _, (by decide : (2 : Nat) ≤ 60)⟩ (mvd_right ha hb hc hd) mvd_even fun k _ => (mvd_tot ha hb hc hd hab).2.2 k
theorem tot_nil (k : Nat) : Bk.tot [] k = 0 := Bk.tot_none fun p hp => by simp at hp
/-- what a balance shows behind it -/
theorem mvd_bal {a b c d : Int} (ha : 0 ≤ a ∧ a ≤ 100) (hb : 0 ≤ b ∧ b ≤ 100) (hc : 0 ≤ c ∧ c ≤ 20) (hd : 1 ≤ d ∧ d ≤ 1152921504606846976) (hab : a ≠ b) : Bk.pE [] (mvd a b c d) = 0 ∧ Bk.bE (Bk.pL [] (mvd a b c d)) a c = 0 ∧ Bk.bE (Bk.pL [] (mvd a b c d)) b c = 0 ∧ Bk.bV (Bk.pL [] (mvd a b c d)) a c = -d ∧ Bk.bV (Bk.pL [] (mvd a b c d)) b c = d := by
  have P := mvd_posted ha hb hc hd hab
  obtain ⟨t1, t2, _⟩ := mvd_tot ha hb hc hd hab
  have lp := Bk.po_ok P
  have ln := Bk.po_lines P
  have le := Bk.po_even P
  have ka : Bk.Kn a c := ⟨ha, hc⟩
  have kb : Bk.Kn b c := ⟨hb, hc⟩
  refine ⟨Bk.pE_0.2 P, ?_, ?_, ?_, ?_⟩
  · rw [Bk.bE_is lp, if_pos ka]
  · rw [Bk.bE_is lp, if_pos kb]
  · rw [Bk.bV_is ln le ka, Bk.po_tot P (Bk.kk_r ka).1, tot_nil, t1]; omega
  · rw [Bk.bV_is ln le kb, Bk.po_tot P (Bk.kk_r kb).1, tot_nil, t2]; omega
theorem paid {f : Fl} (h : F.Ok f) : F.chk (F.addPd f (F.left f)) = 0 ∧ F.left (F.addPd f (F.left f)) = 0 ∧ F.opn (F.addPd f (F.left f)) = 0 := by
  have b := F.ok_bounds h
  obtain ⟨k, n, ⟨⟨p1, p2⟩, ⟨p3, p4⟩, p5, p6⟩, d⟩ := id h
  have l : F.left (F.addPd f (F.left f)) = 0 := by
    show f.un - f.de - f.bo - (f.pd + F.left f) = 0
    unfold F.left; omega
  have e : F.left f = f.un - f.de - f.bo - f.pd := rfl
  have c : F.chk (F.addPd f (F.left f)) = 0 := F.chk_of ⟨k, n, ⟨⟨p1, p2⟩, ⟨p3, p4⟩, by show 0 ≤ f.pd + F.left f; omega, by show f.pd + F.left f ≤ f.un; omega⟩, by show f.de + f.bo + (f.pd + F.left f) ≤ f.un; omega⟩
  exact ⟨c, l, (F.opn_yes c).trans l⟩
end Cp
end Go.Proofs.Yteblbhbfdfifpaa

/- Plain facts on what papers bring: it comes out even, and no more is claimed than all would bring. -/
namespace Go.Proofs.Yteblbhbfdfifpaa
set_option linter.unusedVariables false
set_option linter.unusedSimpArgs false
namespace Bk
theorem amu_app (l m : List Po) (u : Nat) : amu (l ++ m) u = amu l u ++ amu m u := by unfold amu; rw [List.filter_append, List.map_append]
theorem even_app {l m : List Po} (h1 : even l = true) (h2 : even m = true) : even (l ++ m) = true := (even_iff _).2 fun u hu => by
  rw [amu_app, M.sum_append, (even_iff l).1 h1 u hu, (even_iff m).1 h2 u hu]; rfl
theorem even_nil : even [] = true := by decide
theorem even_flat {α : Type} {g : α → List Po} : ∀ {l : List α}, (∀ x ∈ l, even (g x) = true) → even (l.flatMap g) = true
  | [], _ => even_nil
  | x :: r, h => by
    rw [List.flatMap_cons]
    exact even_app (h x (List.mem_cons_self ..)) (even_flat fun y hy => h y (List.mem_cons_of_mem _ hy))
theorem chk_even {l : List Po} (h1 : ∀ p ∈ l, Right p) (h2 : even l = true) : (chk l = 0 ∨ chk l = 2) ∨ (chk l = 1 ∧ l = []) := by
  by_cases n : l.length = 0
  · exact .inr ⟨if_pos n, List.eq_nil_of_length_eq_zero n⟩
  · by_cases m : 60 < l.length
    · exact .inl (.inr (by unfold chk; rw [if_neg n, if_pos m]))
    · exact .inl (.inl (chk_is ⟨by omega, by omega⟩ h1 h2))
end Bk
namespace C
theorem poO_right {v : Ev} {f : Fl} (hv : Ok v) (hf : F.Ok f) : ∀ p ∈ poO v f, Bk.Right p := by
  unfold poO
  split
  · rename_i h
    obtain ⟨⟨_, h1, h2, _⟩, _⟩ := id hf
    have b := fr_bd hv (K.left_bd hf)
    have hp := hv.1
    exact Cp.mvd_right (a := f.fr) (b := f.to) (c := v.pa) (d := fr v (F.left f)) (by omega) (by omega) (by omega) (by omega)
  · intro p hp; simp at hp
theorem poO_even (v : Ev) (f : Fl) : Bk.even (poO v f) = true := by
  unfold poO
  split
  · exact Cp.mvd_even (a := f.fr) (b := f.to) (c := v.pa) (d := fr v (F.left f))
  · exact Bk.even_nil
theorem pos_right {v : Ev} {fs : List Fl} (hv : Ok v) (hf : ∀ f ∈ fs, F.Ok f) : ∀ p ∈ pos v fs, Bk.Right p := fun p hp => by
  obtain ⟨f, h1, h2⟩ := List.mem_flatMap.1 hp
  exact poO_right hv (hf f h1) p h2
theorem pos_even (v : Ev) (fs : List Fl) : Bk.even (pos v fs) = true := Bk.even_flat fun f _ => poO_even v f
/-- what is open of its paper -/
def own1 (v : Ev) (f : Fl) : Int := if f.pa = v.pa then F.left f else 0
def own (v : Ev) (fs : List Fl) : Int := M.sum (fs.map (own1 v))
def csum (l : List Du) : Int := M.sum (l.map (·.am))
def pm (p : Po) : Int := if p.am < 0 then 0 else p.am
def psum (l : List Po) : Int := M.sum (l.map pm)
theorem fl_two {p q b : Int} (hb : 0 < b) : p / b + q / b ≤ (p + q) / b ∧ (p + q) / b ≤ p / b + q / b + 1 := by
  have e1 := Int.mul_ediv_add_emod p b
  have e2 := Int.mul_ediv_add_emod q b
  have a1 := Int.emod_nonneg p (show b ≠ 0 by omega)
  have a2 := Int.emod_lt_of_pos p hb
  have b1 := Int.emod_nonneg q (show b ≠ 0 by omega)
  have b2 := Int.emod_lt_of_pos q hb
  have e : p + q = (p % b + q % b) + b * (p / b + q / b) := by rw [Int.mul_add]; omega
  rw [e, Int.add_mul_ediv_left _ _ (show b ≠ 0 by omega)]
  have c1 := Int.ediv_nonneg (show 0 ≤ p % b + q % b by omega) (show 0 ≤ b by omega)
  have c2 := Int.ediv_lt_of_lt_mul (a := p % b + q % b) (b := 2) (c := b) hb (by omega)
  omega
structure Near (g : Int → Int) : Prop where
  z : g 0 = 0
  l : ∀ x y, g x + g y ≤ g (x + y)
  u : ∀ x y, g (x + y) ≤ g x + g y + 1
theorem near_cash (v : Ev) : Near (cash v) := by
  have h : ∀ x y, cash v x + cash v y ≤ cash v (x + y) ∧ cash v (x + y) ≤ cash v x + cash v y + 1 := fun x y => by
    have := fl_two (p := x * v.ca) (q := y * v.ca) (b := 10000) (by decide)
    rw [← Int.add_mul] at this
    exact this
  exact ⟨cash_zero v, fun x y => (h x y).1, fun x y => (h x y).2⟩
theorem near_fr {v : Ev} (hv : 0 ≤ v.fo) : Near (fr v) := by
  have h : ∀ x y, fr v x + fr v y ≤ fr v (x + y) ∧ fr v (x + y) ≤ fr v x + fr v y + 1 := fun x y => by
    unfold fr
    by_cases q : v.fo = 0
    · rw [if_pos q, if_pos q, if_pos q]; omega
    · rw [if_neg q, if_neg q, if_neg q]
      have := fl_two (p := x * v.gi) (q := y * v.gi) (b := v.fo) (by omega)
      rw [← Int.add_mul] at this
      exact this
  exact ⟨fr_zero v, fun x y => (h x y).1, fun x y => (h x y).2⟩
theorem near_sum {g : Int → Int} (n : Near g) : ∀ l : List Int, M.sum (l.map g) ≤ g (M.sum l) ∧ g (M.sum l) ≤ M.sum (l.map g) + l.length
  | [] => by simp [M.sum, n.z]
  | x :: r => by
    have ih := near_sum n r
    have a := n.l x (M.sum r)
    have b := n.u x (M.sum r)
    show g x + M.sum (r.map g) ≤ g (x + M.sum r) ∧ g (x + M.sum r) ≤ g x + M.sum (r.map g) + (r.length + 1 : Nat)
    omega
theorem csum_app (l m : List Du) : csum (l ++ m) = csum l + csum m := by unfold csum; rw [List.map_append, M.sum_append]
theorem psum_app (l m : List Po) : psum (l ++ m) = psum l + psum m := by unfold psum; rw [List.map_append, M.sum_append]
theorem own_nn {v : Ev} {f : Fl} (hf : F.Ok f) : 0 ≤ own1 v f ∧ own1 v f ≤ 1073741824 := by
  have := K.left_bd hf
  unfold own1; split <;> omega
theorem csum_1 {v : Ev} {f : Fl} (hv : Ok v) (hf : F.Ok f) : csum (duO v f) = cash v (own1 v f) := by
  have hl := K.left_bd hf
  have cb := cash_bd hv hl
  unfold duO own1
  by_cases h : f.pa = v.pa
  · rw [if_pos h]
    by_cases h2 : 0 < F.left f ∧ 0 < cash v (F.left f)
    · rw [if_pos ⟨h, h2⟩]
      show cash v (F.left f) + 0 = _
      omega
    · rw [if_neg fun z => h2 z.2]
      show (0 : Int) = _
      by_cases q : F.left f = 0
      · rw [q, cash_zero]
      · omega
  · rw [if_neg fun z => h z.1, if_neg h, cash_zero]; rfl
theorem psum_1 {v : Ev} {f : Fl} (hv : Ok v) (hf : F.Ok f) : psum (poO v f) = fr v (own1 v f) := by
  have hl := K.left_bd hf
  have cb := fr_bd hv hl
  unfold poO own1
  by_cases h : f.pa = v.pa
  · rw [if_pos h]
    by_cases h2 : 0 < F.left f ∧ 0 < fr v (F.left f)
    · rw [if_pos ⟨h, h2⟩]
      show pm ⟨f.fr, v.pa, -fr v (F.left f)⟩ + (pm ⟨f.to, v.pa, fr v (F.left f)⟩ + 0) = _
      unfold pm
      rw [if_pos (by dsimp only; omega), if_neg (by dsimp only; omega)]
      dsimp only; omega
    · rw [if_neg fun z => h2 z.2]
      show (0 : Int) = _
      by_cases q : F.left f = 0
      · rw [q, fr_zero]
      · omega
  · rw [if_neg fun z => h z.1, if_neg h, fr_zero]; rfl
theorem csum_all {v : Ev} (hv : Ok v) : ∀ {fs : List Fl}, (∀ f ∈ fs, F.Ok f) → csum (dus v fs) = M.sum ((fs.map (own1 v)).map (cash v))
  | [], _ => rfl
  | f :: r, h => by
    have ih := csum_all hv (fs := r) fun x hx => h x (List.mem_cons_of_mem _ hx)
    have e : dus v (f :: r) = duO v f ++ dus v r := by unfold dus; rw [List.flatMap_cons]
    rw [e, csum_app, csum_1 hv (h f (List.mem_cons_self ..)), ih]
    rfl
theorem psum_all {v : Ev} (hv : Ok v) : ∀ {fs : List Fl}, (∀ f ∈ fs, F.Ok f) → psum (pos v fs) = M.sum ((fs.map (own1 v)).map (fr v))
  | [], _ => rfl
  | f :: r, h => by
    have ih := psum_all hv (fs := r) fun x hx => h x (List.mem_cons_of_mem _ hx)
    have e : pos v (f :: r) = poO v f ++ pos v r := by unfold pos; rw [List.flatMap_cons]
    rw [e, psum_app, psum_1 hv (h f (List.mem_cons_self ..)), ih]
    rfl
theorem claimed {v : Ev} {fs : List Fl} (hv : Ok v) (hf : ∀ f ∈ fs, F.Ok f) : (csum (dus v fs) ≤ cash v (own v fs) ∧ cash v (own v fs) ≤ csum (dus v fs) + fs.length) ∧ (psum (pos v fs) ≤ fr v (own v fs) ∧ fr v (own v fs) ≤ psum (pos v fs) + fs.length) := by
  have a := near_sum (near_cash v) (fs.map (own1 v))
  have b := near_sum (near_fr hv.2.2.2.1) (fs.map (own1 v))
  rw [List.length_map] at a b
  rw [csum_all hv hf, psum_all hv hf]
  exact ⟨a, b⟩
theorem sum_bd {α : Type} {g : α → Int} {b : Int} : ∀ {l : List α}, (∀ x ∈ l, 0 ≤ g x ∧ g x ≤ b) → 0 ≤ M.sum (l.map g) ∧ M.sum (l.map g) ≤ l.length * b
  | [], _ => by simp [M.sum]
  | x :: r, h => by
    have ih := sum_bd (l := r) fun y hy => h y (List.mem_cons_of_mem _ hy)
    have hx := h x (List.mem_cons_self ..)
    show 0 ≤ g x + M.sum (r.map g) ∧ g x + M.sum (r.map g) ≤ ((r.length + 1 : Nat) : Int) * b
    rw [Int.natCast_add, Int.add_mul]
    omega
theorem snoc_own {v : Ev} {fs : List Fl} {k : Nat} (h : k < fs.length) : own v (fs.take (k + 1)) = own v (fs.take k) + own1 v (fs.getD k default) := by
  unfold own
  rw [List.take_succ_eq_append_getElem h, List.map_append, M.sum_append, ← getD_at h]
  show _ + (own1 v _ + 0) = _
  omega
theorem snoc_csum {l : List Du} {k : Nat} (h : k < l.length) : csum (l.take (k + 1)) = csum (l.take k) + (l.getD k default).am := by
  rw [List.take_succ_eq_append_getElem h, csum_app, ← getD_at h]
  show _ + ((l.getD k default).am + 0) = _
  omega
theorem snoc_psum {l : List Po} {k : Nat} (h : k < l.length) : psum (l.take (k + 1)) = psum (l.take k) + pm (l.getD k default) := by
  rw [List.take_succ_eq_append_getElem h, psum_app, ← getD_at h]
  show _ + (pm (l.getD k default) + 0) = _
  omega
theorem du_bd {v : Ev} {fs : List Fl} (hv : Ok v) (hf : ∀ f ∈ fs, F.Ok f) : ∀ d ∈ dus v fs, 0 ≤ d.am ∧ d.am ≤ 118059162071741130 := fun d hd => by
  obtain ⟨f, h1, h2⟩ := List.mem_flatMap.1 hd
  have cb := cash_bd hv (K.left_bd (hf f h1))
  unfold duO at h2
  split at h2
  · rw [List.mem_singleton.1 h2]; exact cb
  · simp at h2
theorem po_bd {v : Ev} {fs : List Fl} (hv : Ok v) (hf : ∀ f ∈ fs, F.Ok f) : ∀ p ∈ pos v fs, 0 ≤ pm p ∧ pm p ≤ 1073741824000 := fun p hp => by
  obtain ⟨f, h1, h2⟩ := List.mem_flatMap.1 hp
  have cb := fr_bd hv (K.left_bd (hf f h1))
  unfold poO at h2
  split at h2
  · simp only [List.mem_cons, List.not_mem_nil, or_false] at h2
    rcases h2 with rfl | rfl
    · unfold pm; split
      · omega
      · dsimp only at *; omega
    · unfold pm; split
      · omega
      · dsimp only at *; omega
  · simp at h2
end C
end Go.Proofs.Yteblbhbfdfifpaa

/- Plain facts on books: the ones that must be in any case. -/
namespace Go.Proofs.Yteblbhbfdfifpaa
set_option maxRecDepth 100000
set_option linter.unusedVariables false
def l0 : List Po := [⟨2, 0, 5⟩, ⟨1, 0, -8⟩, ⟨3, 0, 3⟩]
def b0 : List Po := [⟨1, 0, -8⟩, ⟨2, 0, 5⟩, ⟨3, 0, 3⟩]
def t0 : List Po := [⟨3, 0, -3⟩, ⟨1, 0, 8⟩, ⟨2, 0, -5⟩]
theorem bg1 : Bk.pE [] l0 = 0 := by kernel_rfl
theorem bg2 : Bk.pL [] l0 = b0 := by kernel_rfl
theorem bg3 : Bk.bE b0 1 0 = 0 ∧ Bk.bV b0 1 0 = -8 := ⟨by kernel_rfl, by kernel_rfl⟩
theorem bg4 : Bk.chk l0 = 0 ∧ Bk.tL l0 = t0 := ⟨by kernel_rfl, by kernel_rfl⟩
theorem bg5 : Bk.pE b0 t0 = 0 ∧ Bk.pL b0 t0 = [] := ⟨by kernel_rfl, by kernel_rfl⟩
theorem bg6 : Bk.tE b0 = 0 ∧ Bk.tV b0 = [8, 0, 0, 0, 0, 0, 0, 0, 0, 0, 0, 0, 0, 0, 0, 0, 0, 0, 0, 0, 0] := ⟨by kernel_rfl, by kernel_rfl⟩
theorem bg7 : Bk.pE b0 (l0.take 2) = 4 ∧ Bk.pL b0 (l0.take 2) = [] := ⟨by kernel_rfl, by kernel_rfl⟩
theorem bg8 : Bk.chk [] = 1 ∧ Bk.lines [] = 0 := ⟨by kernel_rfl, by kernel_rfl⟩
end Go.Proofs.Yteblbhbfdfifpaa

/- A call may be seen over fewer, or weaker, objects. -/
namespace Go.Proofs.Yteblbhbfdfifpaa.V
open Go Go.RowKit
set_option linter.unusedVariables false
theorem NCall.le {P : Program} {f : FuncId} {args : List SV} {obs : Obs} {nx : Nat} {K : SV → Obs → Nat → Prop} (obs' : Obs) (ho : ObsLe (sgm []) obs obs') (hb : obsB nx obs' = true) (h : NCall P f args obs' nx K) : NCall P f args obs nx K := by
  refine ⟨h.b, fun B ρ w xs hC hxs => ?_⟩
  have c := hC.head ho hb (injB_id nx)
  have e : cut nx (via (sgm []) ρ) = ρ := funext fun i => by
    unfold cut via
    split
    · rfl
    · exact (hC.new i (by omega)).symm
  rw [e] at c
  exact h.h B ρ w xs c hxs
theorem fnd_cons2 {α : Type} {i j : Nat} {x : α} {l : List (Nat × α)} {o : α} (h : fnd ((i, x) :: l) j = some o) : (i = j ∧ o = x) ∨ (i ≠ j ∧ fnd l j = some o) := by
  unfold fnd at h
  cases q : Nat.beq i j
  · rw [q] at h
    exact .inr ⟨fun e => by subst e; simp at q, h⟩
  · rw [q] at h
    exact .inl ⟨Nat.eq_of_beq_eq_true q, (Option.some.inj h).symm⟩
theorem Cls.lit {B nx : Nat} {ρ : Rho} {obs : Obs} {w : World} (hC : Cls B ρ obs nx w) {i : Nat} {t : TypeId} {s n : Nat} {rows : List (List At)} {g : Nat → List Value} (hf : fnd obs i = some (.lit t s rows)) (ht : ObTo id (.lit t s rows) (.arr s n g)) : Cls B ρ ((i, .arr s n g) :: obs) nx w := by
  have nf : ∀ b, foot ρ i (.arr s n g) = some b → foot ρ i (.lit t s rows) = some b := fun b hb => by
    unfold foot at hb ⊢
    cases n with
    | zero => cases hb
    | succ n => exact hb
  refine ⟨hC.le, fun j o h => ?_, fun j k o o' b h1 h2 hne hm hb => ?_, hC.new⟩
  · rcases fnd_cons2 h with ⟨rfl, rfl⟩ | ⟨_, h⟩
    · obtain ⟨v, e, hr⟩ := ObTo.ro ht (hC.sat _ _ hf)
      exact ⟨v, e, hr⟩
    · exact hC.sat j o h
  · rcases fnd_cons2 h1 with ⟨rfl, rfl⟩ | ⟨_, h1⟩
    · cases hm
    · rcases fnd_cons2 h2 with ⟨rfl, rfl⟩ | ⟨_, h2⟩
      · exact fun z => hC.apart j _ o _ b h1 hf hne hm hb (nf b z)
      · exact hC.apart j k o o' b h1 h2 hne hm hb
/-- a literal that is only read from here on -/
theorem NCall.lit_ {P : Program} {f : FuncId} {args : List SV} {obs : Obs} {nx : Nat} {K : SV → Obs → Nat → Prop} (i : Nat) {t : TypeId} {s n : Nat} {rows : List (List At)} {g : Nat → List Value} (hf : fnd obs i = some (.lit t s rows)) (ht : ObTo id (.lit t s rows) (.arr s n g)) (h : NCall P f args ((i, .arr s n g) :: obs) nx K) : NCall P f args obs nx K :=
  ⟨h.b, fun B ρ w xs hC hxs => h.h B ρ w xs (hC.lit hf ht) hxs⟩
end Go.Proofs.Yteblbhbfdfifpaa.V

/- What the book's law begins with: it is true. -/
namespace Go.Proofs.Yteblbhbfdfifpaa
open Go Go.Sort Go.RowKit V
set_option maxRecDepth 100000
set_option linter.unusedVariables false
set_option linter.unusedSimpArgs false
set_option maxHeartbeats 4000000
theorem cut2 (k : Nat) (hk : k < 2) : ga encP l0 (0 + k) = ga encP (l0.take 2) k := by rw [Nat.zero_add, ga_take hk (by decide)]
theorem v_bkBegun : V.Fn Try.prog 26 [] [] (.bool true) := by
  have p1 := v_bkPost [] l0 (by decide) (by decide)
  have p2 := v_bkBalance b0 1 0 (by decide)
  have p3 := v_bkTurn l0 (by decide)
  have p4 := v_bkPost b0 t0 (by decide) (by decide)
  have p5 := v_bkTrial b0 (by decide)
  have p6 := v_bkPost b0 (l0.take 2) (by decide) (by decide)
  have p7 := v_bkCheck [] (by decide)
  have p8 := v_bkLines [] (by decide)
  rw [bg1, bg2] at p1
  rw [bg3.1, bg3.2] at p2
  rw [bg4.1, bg4.2] at p3
  rw [bg5.1, bg5.2] at p4
  rw [bg6.1, bg6.2] at p5
  rw [bg7.1, bg7.2] at p6
  rw [bg8.1] at p7
  rw [bg8.2] at p8
  refine V.Fn.mk_ V.Tok V.mixed Try.func26 rfl Try.ntmps26 (by kernel_rfl) rfl rfl ?_
  have s1 := v_sameposts b0 b0 (by decide)
  have s2 := v_sameposts t0 t0 (by decide)
  rw [show decide (b0 = b0) = true from decide_eq_true rfl] at s1
  rw [show decide (t0 = t0) = true from decide_eq_true rfl] at s2
  repeat' ((conv => whnf); first | (refine V.NIf.yes ?_ ?_; · (decide; done)) | (refine V.NIf.no ?_ ?_; · (decide; done)) | refine V.NCond.mk ?_ | refine V.NIf.not_ ?_ | refine V.NIf.dec_ ?_ | refine V.NIf.no (by omega) ?_ | refine V.NIf.yes (by omega) ?_ | refine V.NIf.mk (fun _ => ?_) (fun _ => ?_) | refine V.NWrap.ok (by omega) (by omega) ?_ | refine V.NWrap.u64 (by omega) (by omega) ?_ | refine V.NLt.mk (by omega) ?_ | refine V.NBoth.mk ?_ ?_ | refine V.NTF.yes (by omega) ?_ | refine V.NTF.no (by omega) ?_ | refine V.NTF.dec ?_ | refine V.NDraw.q (by exact rfl) (by kernel_rfl) ?_ | refine V.NApp.one (by first | omega | (simp; omega)) (by first | omega | (simp; omega)) ?_ | (refine NCall.nil_ 0 3 rfl ?_; refine NCall.lit_ (n := 3) (g := ga encP l0) 0 rfl (by repeat' (first | exact rfl | exact Iff.rfl | exact trivial | exact (fun _ _ => rfl) | exact (fun _ h => absurd h (Nat.not_lt_zero _)) | refine ⟨?_, ?_⟩ | exact Iff.rfl | exact congrArg (fun z => V.SV.one (V.At.val (Value.int .i64 z))) (by omega))) ?_) | ((first | refine V.FnR.k_ (p1) [1, 0] rfl ?_ ?_ | refine V.FnR.a_ (p1) [1, 0] rfl ?_ ?_); · ((repeat' (first | exact rfl | exact Iff.rfl | exact trivial | exact (fun _ _ => rfl) | exact (fun _ h => absurd h (Nat.not_lt_zero _)) | refine ⟨?_, ?_⟩ | exact Iff.rfl | exact congrArg (fun z => V.SV.one (V.At.val (Value.int .i64 z))) (by omega))); done)) | ((first | refine V.Fn.k (p2) [2] rfl ?_ ?_ | refine V.Fn.q (p2) [2] rfl ?_ ?_ | refine V.Fn.a (p2) [2] rfl ?_ ?_); · ((repeat' (first | exact rfl | exact Iff.rfl | exact trivial | exact (fun _ _ => rfl) | exact (fun _ h => absurd h (Nat.not_lt_zero _)) | refine ⟨?_, ?_⟩ | exact Iff.rfl | exact congrArg (fun z => V.SV.one (V.At.val (Value.int .i64 z))) (by omega))); done)) | ((first | refine V.FnR.k_ (p3) [0] rfl ?_ ?_ | refine V.FnR.a_ (p3) [0] rfl ?_ ?_); · ((repeat' (first | exact rfl | exact Iff.rfl | exact trivial | exact (fun _ _ => rfl) | exact (fun _ h => absurd h (Nat.not_lt_zero _)) | refine ⟨?_, ?_⟩ | exact Iff.rfl | exact congrArg (fun z => V.SV.one (V.At.val (Value.int .i64 z))) (by omega))); done)) | ((first | refine V.FnR.k_ (p4) [2, 3] rfl ?_ ?_ | refine V.FnR.a_ (p4) [2, 3] rfl ?_ ?_); · ((repeat' (first | exact rfl | exact Iff.rfl | exact trivial | exact (fun _ _ => rfl) | exact (fun _ h => absurd h (Nat.not_lt_zero _)) | refine ⟨?_, ?_⟩ | exact Iff.rfl | exact congrArg (fun z => V.SV.one (V.At.val (Value.int .i64 z))) (by omega))); done)) | ((first | refine V.FnR.k_ (p5) [2] rfl ?_ ?_ | refine V.FnR.a_ (p5) [2] rfl ?_ ?_); · ((repeat' (first | exact rfl | exact Iff.rfl | exact trivial | exact (fun _ _ => rfl) | exact (fun _ h => absurd h (Nat.not_lt_zero _)) | refine ⟨?_, ?_⟩ | exact Iff.rfl | exact congrArg (fun z => V.SV.one (V.At.val (Value.int .i64 z))) (by omega))); done)) | (refine NCut.mk ⟨0, 2, rfl, rfl, by decide, by decide, ?_⟩) | (refine NIdx.mk ⟨0, rfl, by decide, ?_⟩) | (refine V.NLt.mk (by decide) ?_) | ((refine V.FnR.k_ p6 [2, 6] rfl ?_ ?_); · exact ⟨⟨rfl, rfl, fun k hk => rfl⟩, ⟨rfl, rfl, fun k hk => cut2 k hk⟩, trivial⟩) | (refine NCall.nil_ 0 3 rfl ?_) | ((first | refine V.Fn.k (p7) [10] rfl ?_ ?_ | refine V.Fn.q (p7) [10] rfl ?_ ?_ | refine V.Fn.a (p7) [10] rfl ?_ ?_); · ((repeat' (first | exact rfl | exact Iff.rfl | exact trivial | exact (fun _ _ => rfl) | exact (fun _ h => absurd h (Nat.not_lt_zero _)) | refine ⟨?_, ?_⟩ | exact Iff.rfl | exact congrArg (fun z => V.SV.one (V.At.val (Value.int .i64 z))) (by omega))); done)) | ((first | refine V.Fn.k (p8) [11] rfl ?_ ?_ | refine V.Fn.q (p8) [11] rfl ?_ ?_ | refine V.Fn.a (p8) [11] rfl ?_ ?_); · ((repeat' (first | exact rfl | exact Iff.rfl | exact trivial | exact (fun _ _ => rfl) | exact (fun _ h => absurd h (Nat.not_lt_zero _)) | refine ⟨?_, ?_⟩ | exact Iff.rfl | exact congrArg (fun z => V.SV.one (V.At.val (Value.int .i64 z))) (by omega))); done)) | ((first | refine V.Fn.k (s1) [2, 8] rfl ?_ ?_ | refine V.Fn.q (s1) [2, 8] rfl ?_ ?_ | refine V.Fn.a (s1) [2, 8] rfl ?_ ?_); · ((repeat' (first | exact rfl | exact Iff.rfl | exact trivial | exact (fun _ _ => rfl) | exact (fun _ h => absurd h (Nat.not_lt_zero _)) | refine ⟨?_, ?_⟩ | exact Iff.rfl | exact congrArg (fun z => V.SV.one (V.At.val (Value.int .i64 z))) (by omega))); done)) | ((first | refine V.Fn.k (s2) [3, 9] rfl ?_ ?_ | refine V.Fn.q (s2) [3, 9] rfl ?_ ?_ | refine V.Fn.a (s2) [3, 9] rfl ?_ ?_); · ((repeat' (first | exact rfl | exact Iff.rfl | exact trivial | exact (fun _ _ => rfl) | exact (fun _ h => absurd h (Nat.not_lt_zero _)) | refine ⟨?_, ?_⟩ | exact Iff.rfl | exact congrArg (fun z => V.SV.one (V.At.val (Value.int .i64 z))) (by omega))); done)) | (refine V.NDraw.any (by kernel_rfl) ?_) | fail)
  all_goals (conv => whnf)
  exact ⟨true, rfl, iff_of_true rfl rfl⟩
end Go.Proofs.Yteblbhbfdfifpaa

/- How a struct api.Event, and a list of such, are read off an argument. -/
namespace Go.Proofs.Yteblbhbfdfifpaa
open Go Go.RowKit Go.ChangeShapes Go.WideShapes Go.Deep V
set_option linter.unusedVariables false
set_option maxRecDepth 100000
noncomputable def evFields : Array Field := (match Try.prog.underlying 23 with | some (.struct fs) => fs | _ => #[])
theorem evStruct : Try.prog.underlying 23 = some (.struct evFields) := by kernel_rfl
theorem evOne : oneCellFields Try.prog evFields = true := by kernel_rfl
theorem evSize : evFields.size = 4 := by kernel_rfl
theorem evCells : Try.prog.cellsOf 23 = 4 := by kernel_rfl
theorem evInts : (List.range 4).all (fun j => (evFields[j]?).all (fun f => decide (f.type = 3))) = true := by kernel_rfl
theorem evInt (j : Nat) (f : Field) (h : evFields[j]? = some f) : Try.prog.underlying f.type = some (.int .i64) := by
  have hj : j < 4 := by have := (Array.getElem?_eq_some_iff.1 h).1; rw [evSize] at this; exact this
  have := List.all_eq_true.1 evInts j (List.mem_range.2 hj)
  rw [h] at this
  have e : f.type = 3 := by simpa using this
  rw [e]
  exact Try.underlying3
def WfEv (d : Ev) : Prop := ∀ n ∈ [d.pa, d.ca, d.gi, d.fo], (Lit.int .i64 n).wf = true
theorem ev_of {H : Type} {enc : TypeId × Value → H} {w : World} {base : Nat} {spare : Nat → Bool} {held : Bool} {fuel : Nat} {cs : List Value} {x : DataW H × List MemPlace} (h : DataW.trod enc Try.prog w base spare held fuel 23 cs = some x) :
    ∃ f : Ev, cs = encE f ∧ WfEv f := by
  obtain ⟨ns, e, hl, wf⟩ := ints_struct evStruct evOne (evCells.trans evSize.symm) evInt h
  rw [evSize] at hl
  match ns, hl with
  | [a0, a1, a2, a3], _ => exact ⟨⟨a0, a1, a2, a3⟩, by simpa [encE] using e, wf⟩
theorem open_ev {H : Type} {enc : TypeId × Value → H} {W : World} {base : Nat} {spare : Nat → Bool} {held : Bool} {r : Reach} {b0 : Nat} {v : Value} {d : DataW H} {p : List MemPlace} (hv : Value.okWide Try.prog W r b0 23 v) (h : DataW.Trod enc Try.prog W base spare held 23 v d p) :
    ∃ f : Ev, v = .agg #[.int .i64 f.pa, .int .i64 f.ca, .int .i64 f.gi, .int .i64 f.fo] ∧ WfEv f := by
  obtain ⟨cs, rfl, _⟩ := okWide_struct evStruct hv
  obtain ⟨fuel, hf⟩ := h
  obtain ⟨f, e, wf⟩ := ev_of hf
  refine ⟨f, ?_, wf⟩
  obtain ⟨l⟩ := cs
  simp only [Value.cells] at e
  subst e
  rfl
theorem open_evs {H : Type} {enc : TypeId × Value → H} {W : World} {base : Nat} {spare : Nat → Bool} {held : Bool} {r : Reach} {b0 : Nat} {v : Value} {d : DataW H} {p : List MemPlace} {t : Nat} (ht : Try.prog.underlying t = some (.slice 23)) (hv : Value.okWide Try.prog W r b0 t v) (h : DataW.Trod enc Try.prog W base spare held t v d p) :
    ∃ l : List Ev, ArrIs W v 4 l.length (ga encE l) ∧ ∀ f ∈ l, WfEv f :=
  open_list ht evCells (by omega) (fun fuel cs x hx => by
    obtain ⟨f, e, wf⟩ := ev_of hx
    exact ⟨f, e, wf⟩) hv h
end Go.Proofs.Yteblbhbfdfifpaa

/- How a fail, and a list of fails, are read off the arguments. -/
namespace Go.Proofs.Yteblbhbfdfifpaa
set_option maxRecDepth 100000
open Go.RowKit Go.ChangeShapes Go.WideShapes Go.Deep V

noncomputable def failFields : Array Field := (match Try.prog.underlying 48 with | some (.struct fs) => fs | _ => #[])
theorem failStruct : Try.prog.underlying 48 = some (.struct failFields) := by kernel_rfl
theorem failOne : oneCellFields Try.prog failFields = true := by kernel_rfl
theorem failSize : failFields.size = 10 := by kernel_rfl
theorem failCells : Try.prog.cellsOf 48 = 10 := by kernel_rfl
theorem failInts : (List.range 10).all (fun j => (failFields[j]?).all (fun f => decide (f.type = 3))) = true := by kernel_rfl
theorem failInt (j : Nat) (f : Field) (h : failFields[j]? = some f) : Try.prog.underlying f.type = some (.int .i64) := by
  have hj : j < 10 := by have := (Array.getElem?_eq_some_iff.1 h).1; rw [failSize] at this; exact this
  have := List.all_eq_true.1 failInts j (List.mem_range.2 hj)
  rw [h] at this
  have e : f.type = 3 := by simpa using this
  rw [e]
  exact Try.underlying3
def WfF (f : Fl) : Prop := ∀ n ∈ [f.id, f.fr, f.to, f.cl, f.pa, f.day, f.un, f.de, f.bo, f.pd], (Lit.int .i64 n).wf = true
theorem fl_of {H : Type} {enc : TypeId × Value → H} {w : World} {base : Nat} {spare : Nat → Bool} {held : Bool} {fuel : Nat} {cs : List Value} {x : DataW H × List MemPlace} (h : DataW.trod enc Try.prog w base spare held fuel 48 cs = some x) :
    ∃ f : Fl, cs = (#[.int .i64 f.id, .int .i64 f.fr, .int .i64 f.to, .int .i64 f.cl, .int .i64 f.pa, .int .i64 f.day, .int .i64 f.un, .int .i64 f.de, .int .i64 f.bo, .int .i64 f.pd] : Array Value).toList ∧ WfF f := by
  obtain ⟨ns, e, hl, wf⟩ := ints_struct failStruct failOne (failCells.trans failSize.symm) failInt h
  rw [failSize] at hl
  match ns, hl with
  | [a, b, c, d, e', f, g, h', i, j], _ => exact ⟨⟨a, b, c, d, e', f, g, h', i, j⟩, by simpa using e, wf⟩
theorem open_fl {H : Type} {enc : TypeId × Value → H} {W : World} {base : Nat} {spare : Nat → Bool} {held : Bool} {r : Reach} {b0 : Nat} {v : Value} {d : DataW H} {p : List MemPlace} (hv : Value.okWide Try.prog W r b0 48 v) (h : DataW.Trod enc Try.prog W base spare held 48 v d p) :
    ∃ f : Fl, v = .agg #[.int .i64 f.id, .int .i64 f.fr, .int .i64 f.to, .int .i64 f.cl, .int .i64 f.pa, .int .i64 f.day, .int .i64 f.un, .int .i64 f.de, .int .i64 f.bo, .int .i64 f.pd] ∧ WfF f := by
  obtain ⟨cs, rfl, _⟩ := okWide_struct failStruct hv
  obtain ⟨fuel, hf⟩ := h
  obtain ⟨f, e, wf⟩ := fl_of hf
  refine ⟨f, ?_, wf⟩
  obtain ⟨l⟩ := cs
  simp only [Value.cells] at e
  subst e
  rfl
theorem open_fls {H : Type} {enc : TypeId × Value → H} {W : World} {base : Nat} {spare : Nat → Bool} {held : Bool} {r : Reach} {b0 : Nat} {v : Value} {d : DataW H} {p : List MemPlace} (hv : Value.okWide Try.prog W r b0 24 v) (h : DataW.Trod enc Try.prog W base spare held 24 v d p) :
    ∃ l : List Fl, ArrIs W v 10 l.length (ga encF l) ∧ ∀ f ∈ l, WfF f :=
  open_list Try.underlying24 failCells (by omega) (fun fuel cs x hx => by
    obtain ⟨f, e, wf⟩ := fl_of hx
    exact ⟨f, e, wf⟩) hv h
end Go.Proofs.Yteblbhbfdfifpaa
