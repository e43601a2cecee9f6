/- Shared texts, one behind the other: VBook10, VBook11, BookPl5, CompPl, CyPl, VCy, VSlI, VComp, VClaim, VCy2, VCy3, VCy4, VCy5, VPen2, VCy6, VCy7, CyPl2, VCy8, VCy9, VNil2, VPen3, VAgeB, VPenB, PenPl2, CyPl3, VPenC, VCyB, VOpenI, VOpenC, VOpenF, VOpenPo, VOpenTm, VOpenW, CyPl4, CyPl5, CompPl2 -/
import Derived.Test.YtpanlcnoopmchaaGreatY1
import Derived.Test.YtpanlcnoopmchaaGreatY2
import Derived.Test.YtpanlcnoopmchaaGreatY3
import Derived.Test.YtpanlcnoopmchaaGreatY4
import Derived.Test.YtpanlcnoopmchaaGreatY5
set_option linter.unusedVariables false
set_option linter.unusedSimpArgs false
set_option maxRecDepth 100000

namespace Go.Proofs.YtpanlcnoopmchaaGreat
open Go Go.Sort Go.RowKit V
set_option maxHeartbeats 4000000
namespace Bk
def mx (a : Int) : Int := if a < 0 then 0 else a
def up (b : List Po) : List Po := b.map fun p => ⟨p.ac, p.ut, mx p.am⟩
def pos (l : List Int) : List Int := l.filter fun a => decide (0 < a)
def ts (b : List Po) (u : Nat) : Int := M.sum (pos (amu b u))
theorem ws_amt {l : List Po} (hr : ∀ p ∈ l, M.Amt p.am) (k u : Nat) : (ws l k u).1 * 1152921504606846976 + (ws l k u).2 = M.sum (amu (l.take k) u) ∧ (-1152921504606846976 < (ws l k u).2 ∧ (ws l k u).2 < 1152921504606846976) ∧ -(l.length : Int) ≤ (ws l k u).1 ∧ (ws l k u).1 ≤ l.length := by
  obtain ⟨a, b, c⟩ := wst_spec (amu (l.take k) u) (fun a ha => by
    obtain ⟨p, hp, rfl⟩ := List.mem_map.1 ha
    exact hr p (List.mem_of_mem_take (List.mem_filter.1 hp).1))
  have d := amu_len (l.take k) u
  have e : (l.take k).length ≤ l.length := by rw [List.length_take]; omega
  unfold ws
  exact ⟨a, b, by omega, by omega⟩
theorem up_len (b : List Po) : (up b).length = b.length := List.length_map _
theorem up_at {b : List Po} {k : Nat} (h : k < b.length) : (up b).getD k default = ⟨(b.getD k default).ac, (b.getD k default).ut, mx (b.getD k default).am⟩ := by
  rw [getD_at (by rw [up_len]; exact h), getD_at h]
  simp [up]
theorem up_amt {b : List Po} (h : ∀ p ∈ b, Right p) : ∀ p ∈ up b, M.Amt p.am := fun p hp => by
  obtain ⟨q, hq, rfl⟩ := List.mem_map.1 hp
  have := (h q hq).2.1
  unfold M.Amt mx at *
  simp only
  split <;> omega
theorem pos_sum : ∀ l : List Int, M.sum (l.map mx) = M.sum (pos l)
  | [] => rfl
  | a :: r => by
    have i := pos_sum r
    rw [List.map_cons]
    show mx a + M.sum (r.map mx) = M.sum (pos (a :: r))
    rw [i]
    by_cases h : 0 < a
    · rw [show pos (a :: r) = a :: pos r from List.filter_cons_of_pos (decide_eq_true h), show mx a = a from if_neg (by omega)]
      rfl
    · rw [show pos (a :: r) = pos r from List.filter_cons_of_neg (by rw [decide_eq_true_eq]; exact h), show mx a = 0 by unfold mx; split <;> omega]
      omega
theorem up_amu (b : List Po) (u : Nat) : amu (up b) u = (amu b u).map mx := by
  unfold amu up
  rw [List.filter_map, List.map_map, List.map_map]
  rfl
theorem up_ts (b : List Po) (u : Nat) : M.sum (amu (up b) u) = ts b u := by rw [up_amu, pos_sum]; rfl
def tw (b : List Po) : Bool := (List.range 21).any fun u => !decide (M.Amt (ts b u))
def tE (b : List Po) : Int := if lines b ≠ 0 then lines b else if tw b = true then 8 else 0
def tV (b : List Po) : List Int := if tE b = 0 then (List.range 21).map (ts b) else []
theorem tw_yes {b : List Po} {u : Nat} (hu : u < 21) (h : ¬ M.Amt (ts b u)) : tw b = true := List.any_eq_true.2 ⟨u, List.mem_range.2 hu, by simp [h]⟩
theorem tw_no {b : List Po} (h : ∀ u, u < 21 → M.Amt (ts b u)) : tw b = false := by
  cases q : tw b
  · rfl
  · obtain ⟨k, hk, e⟩ := List.any_eq_true.1 q
    have := h k (List.mem_range.1 hk)
    simp [this] at e
def tl (b : List Po) (i : Nat) : List Int := (List.range 21).map fun q => if q < i then ts b q else 0
theorem tl_len (b : List Po) (i : Nat) : (tl b i).length = 21 := by simp [tl]
theorem tl_0 (b : List Po) (q : Nat) (h : q < 21) : ga e1 (tl b 0) q = [.int .i64 0] := by
  unfold ga
  rw [getD_at (by rw [tl_len]; exact h)]
  simp [tl, e1]
theorem tl_set {b : List Po} {i : Nat} (h : i < 21) : (tl b i).set i (ts b i) = tl b (i + 1) := by
  refine List.ext_getElem (by simp [tl]) fun q q1 q2 => ?_
  rw [List.getElem_set]
  simp only [tl, List.getElem_map, List.getElem_range]
  by_cases e : i = q
  · rw [if_pos e, if_pos (by omega), e]
  · rw [if_neg e]
    by_cases z : q < i
    · rw [if_pos z, if_pos (by omega)]
    · rw [if_neg z, if_neg (by omega)]
theorem tl_end (b : List Po) : tl b 21 = (List.range 21).map (ts b) := by
  unfold tl
  refine List.map_congr_left fun q hq => ?_
  rw [if_pos (List.mem_range.1 hq)]
end Bk
theorem v_bkTrial (b : List Po) (hb : b.length ≤ 9223372036854775807) : V.FnR Tryz.prog 86 [.arr 3 b.length (ga encP b)] [.one (.ref 0)] (.tup [.one (.ref 1), .one (.val (.int .i64 (Bk.tE b)))]) [.row 3 1 (Bk.tV b).length (ga e1 (Bk.tV b))] := by
  have c1 := v_bkLines b hb
  have lo := @Bk.lines_0 b
  have x1 : Bk.lines b ≠ 0 → Bk.tE b = Bk.lines b := fun h => if_pos h
  have x2 : Bk.lines b = 0 → Bk.tw b = true → Bk.tE b = 8 := fun h h2 => (if_neg (fun z => z h)).trans (if_pos h2)
  have x3 : Bk.lines b = 0 → Bk.tw b = false → Bk.tE b = 0 := fun h h2 => (if_neg (fun z => z h)).trans (if_neg (by rw [h2]; decide))
  have v0 : Bk.tE b ≠ 0 → Bk.tV b = [] := fun h => if_neg h
  have v1 : Bk.tE b = 0 → Bk.tV b = (List.range 21).map (Bk.ts b) := fun h => if_pos h
  generalize Bk.lines b = L at *
  refine V.FnR.mk_ V.Tok V.mixed Tryz.func86 rfl Tryz.ntmps86 (by kernel_rfl) rfl rfl rfl rfl ?_
  repeat' ((conv => whnf); first | refine V.NCond.mk ?_ | refine V.NPick.l ?_ | refine V.NIf.not_ ?_ | refine V.NIf.dec_ ?_ | refine V.a4 ?_ | refine V.a5 ?_ | refine V.NIf.mk (fun _ => ?_) (fun _ => ?_) | refine V.a7 ?_ | refine V.a8 ?_ | refine V.a9 ?_ | refine V.NBoth.mk ?_ ?_ | refine V.b1 ?_ | refine V.b2 ?_ | refine V.NTF.dec ?_ | refine V.b3 ?_ | refine V.b4 ?_ | ((first | refine V.Fn.k (c1) [0] rfl ?_ ?_ | refine V.Fn.q (c1) [0] rfl ?_ ?_ | refine V.Fn.a (c1) [0] rfl ?_ ?_); · exact V.D_) | (refine V.NDraw.any (by kernel_rfl) ?_) | fail)
  all_goals (conv => whnf)
  · obtain ⟨⟨lb, hr, hs⟩, _⟩ := lo (by assumption)
    have ua := Bk.up_amt hr
    have ul := Bk.up_len b
    refine V.NLoop.auto (fun (k : Nat) => [(19, .one (.val (.int .i64 k)))]) (fun (k : Nat) => [(2, .row 154 2 21 (fun q => [.int .i64 (Bk.ws (Bk.up b) k q).1, .int .i64 (Bk.ws (Bk.up b) k q).2]))]) [] [] (fun (k : Nat) => b.length - k) (fun (k : Nat) => k ≤ b.length) 0 (Nat.zero_le _) V.S_ (by (conv => whnf); exact ⟨⟨rfl, rfl, rfl, fun k hk => (show List.take 2 (List.drop (k * 2) (List.replicate (21 * 2) (Value.int .i64 0))) = _ from arr2 hk)⟩, trivial⟩) (fun _ => ⟨rfl, rfl⟩) ?_; (conv => whnf); refine ⟨⟨rfl, rfl⟩, ?_⟩
    rintro k hk
    by_cases hlt : k < b.length
    · obtain ⟨⟨h1, h2⟩, h3, h4⟩ := hr _ (getD_mem hlt)
      obtain ⟨u, hu⟩ : ∃ u : Nat, (b.getD k default).ut = (u : Int) := ⟨(b.getD k default).ut.toNat, by omega⟩
      obtain ⟨-, ws, wl⟩ := Bk.ws_amt ua k u
      rw [ul] at wl
      have hx := Bk.ws_succ (l := Bk.up b) (by rw [ul]; exact hlt) u (by rw [Bk.up_at hlt]; exact hu)
      rw [show ((Bk.up b).getD k default).am = Bk.mx (b.getD k default).am by rw [Bk.up_at hlt]] at hx
      have hm2 : Bk.mx (b.getD k default).am = 0 ∨ Bk.mx (b.getD k default).am = (b.getD k default).am := by unfold Bk.mx; split <;> simp
      have lb' := lb
      unfold M.Amt at h3
      have dm := Bk.tdm ((Bk.ws (Bk.up b) k u).2 + Bk.mx (b.getD k default).am)
      have hx : ∀ q, Bk.ws (Bk.up b) (k + 1) q = Bk.put (Bk.ws (Bk.up b) k) u ((Bk.ws (Bk.up b) k u).1 + ((Bk.ws (Bk.up b) k u).2 + Bk.mx (b.getD k default).am).tdiv 1152921504606846976, ((Bk.ws (Bk.up b) k u).2 + Bk.mx (b.getD k default).am).tmod 1152921504606846976) q := fun q => hx q
      generalize Bk.ws (Bk.up b) k = W at *
      obtain ⟨A, hA⟩ : ∃ A, A = Bk.put W u ((W u).1, (W u).2 + Bk.mx (b.getD k default).am) := ⟨_, rfl⟩
      have eA : (A u).1 = (W u).1 ∧ (A u).2 = (W u).2 + Bk.mx (b.getD k default).am := by rw [hA, Bk.put_u]; exact ⟨rfl, rfl⟩
      rw [← eA.2] at dm hx
      rw [← eA.1] at hx
      have dq : -2 ≤ (A u).2.tdiv 1152921504606846976 ∧ (A u).2.tdiv 1152921504606846976 ≤ 2 := by omega
      obtain ⟨B, hB⟩ : ∃ B, B = Bk.put A u ((A u).1 + (A u).2.tdiv 1152921504606846976, (A u).2) := ⟨_, rfl⟩
      obtain ⟨C, hC⟩ : ∃ C, C = Bk.put A u ((A u).1, (A u).2.tmod 1152921504606846976) := ⟨_, rfl⟩
      obtain ⟨D, hD⟩ : ∃ D, D = Bk.put A u ((A u).1 + (A u).2.tdiv 1152921504606846976, (A u).2.tmod 1152921504606846976) := ⟨_, rfl⟩
      have eB : (B u).1 = (A u).1 + (A u).2.tdiv 1152921504606846976 ∧ (B u).2 = (A u).2 := by rw [hB, Bk.put_u]; exact ⟨rfl, rfl⟩
      have eC : (C u).1 = (A u).1 ∧ (C u).2 = (A u).2.tmod 1152921504606846976 := by rw [hC, Bk.put_u]; exact ⟨rfl, rfl⟩
      have pA := put_is W A u _ _ hA
      have pB := put_is A B u _ _ hB
      have pC := put_is A C u _ _ hC
      have pD := put_is B D u (B u).1 ((A u).2.tmod 1152921504606846976) (by rw [hD, eB.1, hB, Bk.put_2])
      have pE := put_is C D u ((A u).1 + (A u).2.tdiv 1152921504606846976) (C u).2 (by rw [hD, eC.2, hC, Bk.put_2])
      have hx : ∀ q, Bk.ws (Bk.up b) (k + 1) q = D q := fun q => by rw [hx, hD, hA, Bk.put_2]
      clear hA hB hC hD
      repeat' ((conv => whnf); first | (refine V.NDraw.each (by kernel_rfl) ?_) | (refine V.NWrap.ok (e := (W u).2 + Bk.mx (b.getD k default).am) (by omega) (by omega) ?_) | refine V.NCond.mk ?_ | refine V.NPick.l ?_ | refine V.NIf.not_ ?_ | refine V.NIf.dec_ ?_ | refine V.a4 ?_ | refine V.a5 ?_ | refine V.NIf.mk (fun _ => ?_) (fun _ => ?_) | refine V.a7 ?_ | refine V.a8 ?_ | refine V.a9 ?_ | refine V.NBoth.mk ?_ ?_ | refine V.b1 ?_ | refine V.b2 ?_ | refine V.NTF.dec ?_ | refine V.b3 ?_ | refine V.b4 ?_ | (refine NIdx.mk ⟨k, rfl, by omega, ?_⟩) | (refine NIdx.mk ⟨u, hu, by omega, ?_⟩) | (refine V.NCall.inl (f := 127) V.Tok V.mixed Tryz.func127 rfl Tryz.ntmps127 (by kernel_rfl) rfl ?_) | (refine NQuo.ok (by decide) (by omega) (by omega) ?_) | (refine NRem.mk (by decide) ?_) | (refine ⟨⟨fun q => [.int .i64 (A q).1, .int .i64 (A q).2], fun q hq => pA q, ?_⟩⟩) | (refine ⟨⟨fun q => [.int .i64 (B q).1, .int .i64 (B q).2], fun q hq => pB q, ?_⟩⟩) | (refine ⟨⟨fun q => [.int .i64 (C q).1, .int .i64 (C q).2], fun q hq => pC q, ?_⟩⟩) | (refine ⟨⟨fun q => [.int .i64 (D q).1, .int .i64 (D q).2], fun q hq => pD q, ?_⟩⟩) | (refine ⟨⟨fun q => [.int .i64 (D q).1, .int .i64 (D q).2], fun q hq => pE q, ?_⟩⟩) | (refine V.NDraw.any (by kernel_rfl) ?_) | fail)
      all_goals (conv => whnf)
      all_goals exact V.NBack.at_ (k + 1) [] (by omega) (by omega) V.S_ rfl ⟨⟨rfl, rfl, rfl, fun q _ => by show [_, _] = [_, _]; rw [hx q]⟩, trivial⟩ V.S_ V.S_
    obtain rfl : k = b.length := by omega
    have wsp := fun u => Bk.ws_amt ua b.length u
    rw [← ul, List.take_length] at wsp
    rw [ul] at wsp
    have ws2 := fun u => (wsp u).1.trans (Bk.up_ts b u)
    generalize Bk.ws (Bk.up b) b.length = W at *
    repeat' ((conv => whnf); first | refine V.NCond.mk ?_ | refine V.NPick.l ?_ | refine V.NIf.not_ ?_ | refine V.NIf.dec_ ?_ | refine V.a4 ?_ | refine V.a5 ?_ | refine V.NIf.mk (fun _ => ?_) (fun _ => ?_) | refine V.a7 ?_ | refine V.a8 ?_ | refine V.a9 ?_ | refine V.NBoth.mk ?_ ?_ | refine V.b1 ?_ | refine V.b2 ?_ | refine V.NTF.dec ?_ | refine V.b3 ?_ | refine V.b4 ?_ | (refine NMake.mk ⟨21, 21, rfl, rfl, by omega, by omega, by first | omega | decide | (simp; done) | (simp; omega), ?_⟩) | (refine V.NDraw.any (by kernel_rfl) ?_) | fail)
    all_goals (conv => whnf)
    refine V.NLoop.auto (fun (i : Nat) => [(32, .one (.val (.int .i64 i))), (8, .one (.ref 3))]) (fun (i : Nat) => [(3, .row 3 1 21 (ga e1 (Bk.tl b i)))]) [] [] (fun (i : Nat) => 21 - i) (fun (i : Nat) => i ≤ 21 ∧ ∀ u, u < i → M.Amt (Bk.ts b u)) 0 ⟨Nat.zero_le _, fun u h => absurd h (Nat.not_lt_zero _)⟩ V.S_ (by (conv => whnf); exact ⟨⟨rfl, rfl, rfl, fun q hq => (Bk.tl_0 b q hq).symm⟩, trivial⟩) (fun _ => ⟨rfl, rfl⟩) ?_; (conv => whnf); refine ⟨⟨rfl, rfl⟩, ?_⟩
    rintro i ⟨hi, hJ⟩
    by_cases i1 : i < 21
    · obtain ⟨w1, w2, w3⟩ := wsp i
      have we := ws2 i
      have am : M.Amt (Bk.ts b i) ↔ -1152921504606846976 ≤ (W i).1 * 1152921504606846976 + (W i).2 ∧ (W i).1 * 1152921504606846976 + (W i).2 ≤ 1152921504606846976 := by rw [we]; exact Iff.rfl
      have w8 : ¬ M.Amt (Bk.ts b i) → Bk.tE b = 8 := fun h => x2 (by assumption) (Bk.tw_yes i1 h)
      have ckn := fun n => @M.chk_yes n
      have ckz := fun n (h : M.chk n = 0) => Classical.byContradiction fun (z : ¬ M.Amt n) => by rw [M.chk_no z] at h; omega
      unfold M.Amt at ckz
      have st : (Bk.tl b i).set i ((W i).1 * 1152921504606846976 + (W i).2) = Bk.tl b (i + 1) := by rw [we]; exact Bk.tl_set i1
      have tn := Bk.tl_len b i
      repeat' ((conv => whnf); first | refine V.NCond.mk ?_ | refine V.NPick.l ?_ | refine V.NIf.not_ ?_ | refine V.NIf.dec_ ?_ | refine V.a4 ?_ | refine V.a5 ?_ | refine V.NIf.mk (fun _ => ?_) (fun _ => ?_) | refine V.a7 ?_ | refine V.a8 ?_ | refine V.a9 ?_ | refine V.NBoth.mk ?_ ?_ | refine V.b1 ?_ | refine V.b2 ?_ | refine V.NTF.dec ?_ | refine V.b3 ?_ | refine V.b4 ?_ | (refine NIdx.mk ⟨i, rfl, by omega, ?_⟩) | (refine V.NCall.inl (f := 128) V.Tok V.mixed Tryz.func128 rfl Tryz.ntmps128 (by kernel_rfl) rfl ?_) | (first | refine V.Fn.k0 (v_check _) rfl ?_ | refine V.Fn.q0 (v_check _) rfl ?_ | refine V.Fn.a0 (v_check _) rfl ?_) | (refine NPut.is_ (en := e1) (l := Bk.tl b i) ((W i).1 * 1152921504606846976 + (W i).2) (Bk.tl b (i + 1)) st tn rfl ?_) | (refine V.NDraw.any (by kernel_rfl) ?_) | fail)
      all_goals (conv => whnf)
      · have e := w8 (fun h => by have := am.1 h; omega)
        rw [v0 (by omega), e]
        exact NRet.mk_ [some 4] rfl ⟨rfl, rfl, trivial⟩ ⟨⟨rfl, rfl, rfl, fun k hk => absurd hk (Nat.not_lt_zero _)⟩, trivial⟩
      · have e := w8 (fun h => by have := am.1 h; omega)
        rw [v0 (by omega), e]
        exact NRet.mk_ [some 4] rfl ⟨rfl, rfl, trivial⟩ ⟨⟨rfl, rfl, rfl, fun k hk => absurd hk (Nat.not_lt_zero _)⟩, trivial⟩
      · have hA := am.2 (ckz _ (by assumption))
        exact V.NBack.at_ (i + 1) [] ⟨by omega, fun u hu => (show u < i ∨ u = i by omega).elim (hJ u) (fun e => by rw [e]; exact hA)⟩ (by omega) V.S_ rfl ⟨⟨rfl, rfl, rfl, fun _ _ => rfl⟩, trivial⟩ V.S_ V.S_
      · have e := w8 (fun h => absurd (ckn _ (am.1 h)) (by assumption))
        rw [v0 (by omega), e]
        exact NRet.mk_ [some 4] rfl ⟨rfl, rfl, trivial⟩ ⟨⟨rfl, rfl, rfl, fun k hk => absurd hk (Nat.not_lt_zero _)⟩, trivial⟩
    · obtain rfl : i = 21 := by omega
      have e0 := x3 (by assumption) (Bk.tw_no hJ)
      repeat' ((conv => whnf); first | refine V.NCond.mk ?_ | refine V.NPick.l ?_ | refine V.NIf.not_ ?_ | refine V.NIf.dec_ ?_ | refine V.a4 ?_ | refine V.a5 ?_ | refine V.NIf.mk (fun _ => ?_) (fun _ => ?_) | refine V.a7 ?_ | refine V.a8 ?_ | refine V.a9 ?_ | refine V.NBoth.mk ?_ ?_ | refine V.b1 ?_ | refine V.b2 ?_ | refine V.NTF.dec ?_ | refine V.b3 ?_ | refine V.b4 ?_ | (refine V.NDraw.any (by kernel_rfl) ?_) | fail)
      all_goals (conv => whnf)
      rw [v1 e0, e0, ← Bk.tl_end]
      exact NRet.mk_ [some 3] rfl ⟨rfl, rfl, trivial⟩ ⟨⟨rfl, rfl, (Bk.tl_len b 21).symm, fun k hk => rfl⟩, trivial⟩
  · have e := x1 (by assumption)
    rw [v0 (by omega), e]
    exact NRet.mk_ [some 2] rfl ⟨rfl, rfl, trivial⟩ ⟨⟨rfl, rfl, rfl, fun k hk => absurd hk (Nat.not_lt_zero _)⟩, trivial⟩
end Go.Proofs.YtpanlcnoopmchaaGreat

namespace Go.Proofs.YtpanlcnoopmchaaGreat
open Go Go.Sort Go.RowKit V
set_option maxHeartbeats 4000000
theorem pos_snoc (l : List Int) (a : Int) : Bk.pos (l ++ [a]) = Bk.pos l ++ if 0 < a then [a] else [] := by
  unfold Bk.pos
  rw [List.filter_append]
  congr 1
  by_cases h : 0 < a
  · rw [if_pos h]; exact List.filter_cons_of_pos (decide_eq_true h)
  · rw [if_neg h]; exact List.filter_cons_of_neg (by rw [decide_eq_true_eq]; exact h)
theorem pos_len (l : List Int) : (Bk.pos l).length ≤ l.length := List.length_filter_le _ _
end Go.Proofs.YtpanlcnoopmchaaGreat

namespace Go.Proofs.YtpanlcnoopmchaaGreat
namespace Bk
def kk (a u : Int) : Nat := (21 * a + u).toNat
theorem kk_r {a u : Int} (k : Kn a u) : kk a u < 2121 ∧ ((kk a u : Nat) : Int) = 21 * a + u := by
  obtain ⟨h1, h2⟩ := k
  unfold kk
  omega
theorem kk_key {a u : Int} (k : Kn a u) {p : Po} (h : Right p) : key p = kk a u ↔ p.ac = a ∧ p.ut = u := by
  obtain ⟨⟨h1, h2⟩, _⟩ := h
  obtain ⟨h3, h4⟩ := k
  unfold kk key
  omega
theorem amAt_tot {b : List Po} (h : Lines b) {a u : Int} (k : Kn a u) : amAt b a u = tot b (kk a u) := by
  unfold amAt
  rcases ixf_cases (at? a u) b with ⟨e, al⟩ | ⟨i, e, hi, hp, _⟩
  · rw [e, if_neg (by decide), tot_none fun p hp q => ?_]
    have := al p hp
    unfold at? at this
    rw [decide_eq_false_iff_not] at this
    exact this ((kk_key k (h.r p hp)).1 q)
  · unfold at? at hp
    rw [decide_eq_true_eq] at hp
    rw [e, if_pos (by omega), Int.toNat_natCast, ← (kk_key k (h.r _ (getD_mem hi))).2 hp, tot_in (ne_of_lt (lines_srt h)) (getD_mem hi)]
theorem tot_amt {b : List Po} (h : Lines b) (k : Nat) : M.Amt (tot b k) := by
  by_cases q : ∃ p ∈ b, key p = k
  · obtain ⟨p, hp, rfl⟩ := q
    rw [tot_in (ne_of_lt (lines_srt h)) hp]
    exact (h.r p hp).2.1
  · rw [tot_none fun p hp e => q ⟨p, hp, e⟩]
    unfold M.Amt
    omega
structure Posted (b l : List Po) : Prop where
  bo : Lines b
  be : even b = true
  n : 0 < l.length ∧ l.length ≤ 60
  r : ∀ p ∈ l, Right p
  le : even l = true
  a : ∀ k, k < 2121 → M.Amt (tot (b ++ l) k)
  m : (out (tot (b ++ l)) 2121).length ≤ 400
theorem pE_0 {b l : List Po} : pE b l = 0 ↔ Posted b l := by
  constructor
  · intro h
    rcases pE_cases b l with ⟨a, e⟩ | ⟨_, a, e⟩ | ⟨h1, h2, e⟩
    · rw [h] at e; exact absurd e.symm a
    · rw [h] at e; exact absurd e.symm a
    · obtain ⟨m1, m2⟩ := mE_0 (e.symm.trans h)
      obtain ⟨l1, l2⟩ := lines_0 h1
      obtain ⟨c1, c2, c3⟩ := chk_0 h2
      exact ⟨l1, l2, c1, c2, c3, m1, m2⟩
  · rintro ⟨h1, h2, h3, h4, h5, h6, h7⟩
    rcases pE_cases b l with ⟨a, e⟩ | ⟨_, a, e⟩ | ⟨_, _, e⟩
    · exact absurd (lines_is h1 h2) a
    · exact absurd (chk_is h3 h4 h5) a
    · rw [e, mE_is h6, if_neg (by omega)]
theorem po_pL {b l : List Po} (h : Posted b l) : pL b l = out (tot (b ++ l)) 2121 := if_pos (pE_0.2 h)
theorem po_lines {b l : List Po} (h : Posted b l) : Lines (Bk.pL b l) := by
  rw [po_pL h]
  exact out_lines h.a h.m
theorem po_tot {b l : List Po} (h : Posted b l) {k : Nat} (hk : k < 2121) : tot (Bk.pL b l) k = Bk.tot b k + Bk.tot l k := by
  rw [po_pL h, tot_out hk, tot_app]
theorem po_even {b l : List Po} (h : Posted b l) : even (Bk.pL b l) = true := by
  rw [even_su (po_lines h).r]
  intro u hu
  have e1 := (even_su h.bo.r).1 h.be u hu
  have e2 := (even_su h.r).1 h.le u hu
  rw [su_congr (T := fun k => Bk.tot b k + Bk.tot l k) fun j hj => po_tot h (by omega), su_add, e1, e2]
  rfl
theorem po_ok {b l : List Po} (h : Posted b l) : Bk.lines (Bk.pL b l) = 0 := lines_is (po_lines h) (po_even h)
theorem bE_is {b : List Po} (h : Bk.lines b = 0) (a u : Int) : bE b a u = if Kn a u then 0 else 3 := if_neg (fun z => z h)
theorem bV_is {b : List Po} (h : Lines b) (e : even b = true) {a u : Int} (k : Kn a u) : bV b a u = tot b (kk a u) := by
  unfold bV
  rw [bE_is (lines_is h e), if_pos k, if_pos rfl, amAt_tot h k]
end Bk
end Go.Proofs.YtpanlcnoopmchaaGreat

namespace Go.Proofs.YtpanlcnoopmchaaGreat
namespace Cp
def Ok (u p x : Int) : Prop := (0 ≤ u ∧ u ≤ 1073741824) ∧ P.Ok p ∧ (0 ≤ x ∧ x ≤ 10000)
instance (u p x : Int) : Decidable (Ok u p x) := by unfold Ok; exact inferInstance
def wE (u p x : Int) : Int := if Ok u p x then 0 else 3
def wV (u p x : Int) : Int := if Ok u p x then P.cost u p + P.cost u p * x / 10000 else 0
theorem w_yes {u p x : Int} (h : Ok u p x) : wE u p x = 0 ∧ wV u p x = P.cost u p + P.cost u p * x / 10000 := ⟨if_pos h, if_pos h⟩
theorem w_no {u p x : Int} (h : ¬ Ok u p x) : wE u p x = 3 ∧ wV u p x = 0 := ⟨if_neg h, if_neg h⟩
theorem w_bd {u p x : Int} : 0 ≤ wV u p x ∧ wV u p x ≤ 236118324143482260 := by
  by_cases q : Ok u p x
  · rw [(w_yes q).2]
    have := P.cost_bd q.1 q.2.1
    have := P.rate_bd this.1 q.2.2
    omega
  · rw [(w_no q).2]; omega
def lt (x : Int) (l : List Int) : Nat := l.countP fun y => decide (y < x)
def eq (x : Int) (l : List Int) : Nat := l.countP fun y => decide (y = x)
def le (x : Int) (l : List Int) : Nat := l.countP fun y => decide (y ≤ x)
theorem half {n : Nat} (h : 0 < n) : (n - 1) / 2 < n := by omega
def rk (l : List Int) (i : Nat) : Nat := lt (l.getD i default) l + eq (l.getD i default) (l.take i)
def gt (x : Int) (l : List Int) : Nat := l.countP fun y => decide (x < y)
def bad (l : List Int) : Int := ixf (fun p => decide (¬ P.Ok p)) l
def mE (l : List Int) : Int := if l.length = 0 then 1 else if 40 < l.length then 2 else if ∀ p ∈ l, P.Ok p then 0 else 3
def LOk (p was most : Int) : Prop := P.Ok p ∧ P.Ok was ∧ (0 ≤ most ∧ most ≤ 10000)
instance (p was most : Int) : Decidable (LOk p was most) := by unfold LOk; exact inferInstance
def clamp (p was away : Int) : Int := if (if (if p < was - away then was - away else p) > was + away then was + away else (if p < was - away then was - away else p)) > 1099511627776 then 1099511627776 else (if (if p < was - away then was - away else p) > was + away then was + away else (if p < was - away then was - away else p))
def lV (p was most : Int) : Int := if LOk p was most then clamp p was (was * most / 10000) else 0
def pE (f : Fl) (p x : Int) : Int := if F.less f 1 ≠ 0 then F.less f 1 else wE (F.left f) p x
def pF (f : Fl) (p x : Int) : Fl := if pE f p x = 0 then F.addPd f (F.left f) else F.zero
def pN (f : Fl) (p x : Int) : Int := if pE f p x = 0 then wV (F.left f) p x else 0
def mvd (a b c d : Int) : List Po := [⟨a, c, -d⟩, ⟨b, c, d⟩]
def pL (f : Fl) (p x : Int) : List Po := if pN f p x = 0 then [] else mvd f.fr f.to 0 (pN f p x)
theorem p_1 {f : Fl} {p x : Int} (h : ¬ F.less f 1 = 0) : pE f p x = F.less f 1 ∧ pF f p x = F.zero ∧ pL f p x = [] := by
  have e : pE f p x = F.less f 1 := if_pos h
  exact ⟨e, if_neg (by rw [e]; exact h), if_pos (if_neg (by rw [e]; exact h))⟩
theorem p_2 {f : Fl} {p x : Int} (h : F.less f 1 = 0) (w : ¬ wE (F.left f) p x = 0) : pE f p x = wE (F.left f) p x ∧ pF f p x = F.zero ∧ pL f p x = [] := by
  have e : pE f p x = wE (F.left f) p x := if_neg (fun z => z h)
  exact ⟨e, if_neg (by rw [e]; exact w), if_pos (if_neg (by rw [e]; exact w))⟩
theorem p_3 {f : Fl} {p x : Int} (h : F.less f 1 = 0) (w : wE (F.left f) p x = 0) : pE f p x = 0 ∧ pF f p x = F.addPd f (F.left f) ∧ pN f p x = wV (F.left f) p x := by
  have e : pE f p x = 0 := (if_neg (fun z => z h)).trans w
  exact ⟨e, if_pos e, if_pos e⟩
theorem pL_0 {f : Fl} {p x : Int} (h : pN f p x = 0) : pL f p x = [] := if_pos h
theorem pL_1 {f : Fl} {p x : Int} (h : ¬ pN f p x = 0) : pL f p x = mvd f.fr f.to 0 (pN f p x) := if_neg h
theorem less_1 (f : Fl) : (F.chk f ≠ 0 ∧ F.less f 1 = F.chk f) ∨ (F.chk f = 0 ∧ F.left f = 0 ∧ F.less f 1 = 5) ∨ (F.chk f = 0 ∧ 1 ≤ F.left f ∧ F.less f 1 = 0) := by
  by_cases h : F.chk f = 0
  · have b := F.ok_bounds (F.chk_ok h)
    by_cases q : F.left f = 0
    · exact .inr (.inl ⟨h, q, F.less_3 h (by omega) q⟩)
    · exact .inr (.inr ⟨h, by omega, F.less_5 h (by omega) q (by omega)⟩)
  · exact .inl ⟨h, F.less_1 h⟩
end Cp
end Go.Proofs.YtpanlcnoopmchaaGreat

namespace Go.Proofs.YtpanlcnoopmchaaGreat
structure Wd where
  td : Int
  fs : List Fl
  bk : List Po
namespace Cy
def zw : Wd := ⟨0, [], []⟩
instance : Inhabited Wd := ⟨zw⟩
theorem wd_ext {a b : Wd} (h1 : a.td = b.td) (h2 : a.fs = b.fs) (h3 : a.bk = b.bk) : a = b := by cases a; cases b; simp_all
def rE (c : Cl) (t : List Tm) (x : Int) : Int := if Ca.chk c ≠ 0 then Ca.chk c else if Pn.tE t ≠ 0 then Pn.tE t else if 0 ≤ x ∧ x ≤ 10000 then 0 else 3
theorem rE_1 {c : Cl} {t : List Tm} {x : Int} (h : ¬ Ca.chk c = 0) : rE c t x = Ca.chk c := if_pos h
theorem rE_2 {c : Cl} {t : List Tm} {x : Int} (h : Ca.chk c = 0) (k : ¬ Pn.tE t = 0) : rE c t x = Pn.tE t := (if_neg (by omega)).trans (if_pos k)
theorem rE_3 {c : Cl} {t : List Tm} {x : Int} (h : Ca.chk c = 0) (k : Pn.tE t = 0) (n : ¬ (0 ≤ x ∧ x ≤ 10000)) : rE c t x = 3 := (if_neg (by omega)).trans ((if_neg (by omega)).trans (if_neg n))
theorem rE_4 {c : Cl} {t : List Tm} {x : Int} (h : Ca.chk c = 0) (k : Pn.tE t = 0) (n : 0 ≤ x ∧ x ≤ 10000) : rE c t x = 0 := (if_neg (by omega)).trans ((if_neg (by omega)).trans (if_pos n))
theorem rE_ok {c : Cl} {t : List Tm} {x : Int} (h : rE c t x = 0) : Ca.chk c = 0 ∧ Pn.tE t = 0 ∧ 0 ≤ x ∧ x ≤ 10000 := by
  unfold rE at h
  split at h
  · exact absurd h (by assumption)
  · split at h
    · exact absurd h (by assumption)
    · split at h
      · exact ⟨by omega, by omega, by assumption⟩
      · cases h
def wE (w : Wd) : Int := if D.chk w.td ≠ 0 then D.chk w.td else if F.checks w.fs ≠ 0 then F.checks w.fs else Bk.lines w.bk
theorem wE_1 {w : Wd} (h : ¬ D.chk w.td = 0) : wE w = D.chk w.td := if_pos h
theorem wE_2 {w : Wd} (h : D.chk w.td = 0) (k : ¬ F.checks w.fs = 0) : wE w = F.checks w.fs := (if_neg (by omega)).trans (if_pos k)
theorem wE_3 {w : Wd} (h : D.chk w.td = 0) (k : F.checks w.fs = 0) : wE w = Bk.lines w.bk := (if_neg (by omega)).trans (if_neg (by omega))
theorem wE_of {w : Wd} (h : D.chk w.td = 0) (k : F.checks w.fs = 0) (b : Bk.lines w.bk = 0) : wE w = 0 := (wE_3 h k).trans b
theorem wE_ok {w : Wd} (h : wE w = 0) : D.chk w.td = 0 ∧ F.checks w.fs = 0 ∧ Bk.lines w.bk = 0 := by
  unfold wE at h
  split at h
  · exact absurd h (by assumption)
  · split at h
    · exact absurd h (by assumption)
    · exact ⟨by omega, by omega, h⟩
theorem wE_len {w : Wd} (h : wE w = 0) : w.fs.length ≤ 60 ∧ w.bk.length ≤ 400 := by
  obtain ⟨_, a, b⟩ := wE_ok h
  exact ⟨F.checks_len (by omega), (Bk.lines_0 b).1.le⟩
def at_ (w : Wd) (id : Int) : Nat := (F.idx id w.fs 0).toNat
def fl (w : Wd) (id : Int) : Fl := w.fs.getD (at_ w id) default
def dvE (w : Wd) (id u : Int) : Int := if wE w ≠ 0 then wE w else if F.fndE id w.fs ≠ 0 then F.fndE id w.fs else if F.less (fl w id) u ≠ 0 then F.less (fl w id) u else Bk.pE w.bk (Cp.mvd (fl w id).fr (fl w id).to (fl w id).pa u)
def dvW (w : Wd) (id u : Int) : Wd := if dvE w id u = 0 then ⟨w.td, w.fs.set (at_ w id) (F.addDe (fl w id) u), Bk.pL w.bk (Cp.mvd (fl w id).fr (fl w id).to (fl w id).pa u)⟩ else zw
theorem dv_1 {w : Wd} {id u : Int} (h : ¬ wE w = 0) : dvE w id u = wE w := if_pos h
theorem dv_2 {w : Wd} {id u : Int} (h : wE w = 0) (k : ¬ F.fndE id w.fs = 0) : dvE w id u = F.fndE id w.fs := (if_neg (by omega)).trans (if_pos k)
theorem dv_3 {w : Wd} {id u : Int} (h : wE w = 0) (k : F.fndE id w.fs = 0) (n : ¬ F.less (fl w id) u = 0) : dvE w id u = F.less (fl w id) u := (if_neg (by omega)).trans ((if_neg (by omega)).trans (if_pos n))
theorem dv_4 {w : Wd} {id u : Int} (h : wE w = 0) (k : F.fndE id w.fs = 0) (n : F.less (fl w id) u = 0) : dvE w id u = Bk.pE w.bk (Cp.mvd (fl w id).fr (fl w id).to (fl w id).pa u) := (if_neg (by omega)).trans ((if_neg (by omega)).trans (if_neg (by omega)))
theorem dvW_yes {w : Wd} {id u : Int} (h : dvE w id u = 0) : dvW w id u = ⟨w.td, w.fs.set (at_ w id) (F.addDe (fl w id) u), Bk.pL w.bk (Cp.mvd (fl w id).fr (fl w id).to (fl w id).pa u)⟩ := if_pos h
theorem dvW_no {w : Wd} {id u : Int} (h : ¬ dvE w id u = 0) : dvW w id u = zw := if_neg h
theorem fnd_ok {w : Wd} {id : Int} (h : F.fndE id w.fs = 0) : 0 ≤ F.idx id w.fs 0 ∧ F.fndV id w.fs = F.idx id w.fs 0 ∧ F.checks w.fs = 0 := by
  by_cases a : F.checks w.fs = 0
  · by_cases b : F.idx id w.fs 0 < 0
    · rw [(F.fnd_2 a b).2] at h; cases h
    · exact ⟨by omega, (F.fnd_3 a b).1, a⟩
  · rw [(F.fnd_1 a).2] at h; exact absurd h a
def Fresh (w : Wd) (f : Fl) : Prop := f.de = 0 ∧ f.bo = 0 ∧ f.pd = 0 ∧ f.day ≤ w.td
instance (w : Wd) (f : Fl) : Decidable (Fresh w f) := by unfold Fresh; exact inferInstance
def adE (w : Wd) (f : Fl) : Int := if wE w ≠ 0 then wE w else if ¬ Fresh w f then 4 else F.checks (w.fs ++ [f])
def adW (w : Wd) (f : Fl) : Wd := if adE w f = 0 then ⟨w.td, w.fs ++ [f], w.bk⟩ else zw
theorem ad_1 {w : Wd} {f : Fl} (h : ¬ wE w = 0) : adE w f = wE w := if_pos h
theorem ad_2 {w : Wd} {f : Fl} (h : wE w = 0) (k : ¬ Fresh w f) : adE w f = 4 := (if_neg (by omega)).trans (if_pos k)
theorem ad_3 {w : Wd} {f : Fl} (h : wE w = 0) (k : Fresh w f) : adE w f = F.checks (w.fs ++ [f]) := (if_neg (by omega)).trans (if_neg (fun z => z k))
theorem adW_yes {w : Wd} {f : Fl} (h : adE w f = 0) : adW w f = ⟨w.td, w.fs ++ [f], w.bk⟩ := if_pos h
theorem adW_no {w : Wd} {f : Fl} (h : ¬ adE w f = 0) : adW w f = zw := if_neg h
def opn (l : List Fl) : List Fl := l.filter fun f => decide (0 < F.left f)
def ovr (l : List Fl) : List Fl := l.filter fun f => !decide (0 < F.left f)
theorem opn_snoc {l : List Fl} {k : Nat} (h : k < l.length) : opn (l.take (k + 1)) = opn (l.take k) ++ if 0 < F.left (l.getD k default) then [l.getD k default] else [] := by
  unfold opn
  rw [List.take_succ_eq_append_getElem h, List.filter_append, ← getD_at h]
  by_cases e : 0 < F.left (l.getD k default)
  · rw [if_pos e, List.filter_cons_of_pos (by simpa using e)]; rfl
  · rw [if_neg e, List.filter_cons_of_neg (by simpa using e)]; rfl
theorem ovr_snoc {l : List Fl} {k : Nat} (h : k < l.length) : ovr (l.take (k + 1)) = ovr (l.take k) ++ if 0 < F.left (l.getD k default) then [] else [l.getD k default] := by
  unfold ovr
  rw [List.take_succ_eq_append_getElem h, List.filter_append, ← getD_at h]
  by_cases e : 0 < F.left (l.getD k default)
  · rw [if_pos e, List.filter_cons_of_neg (by simpa using e)]; rfl
  · rw [if_neg e, List.filter_cons_of_pos (by simpa using e)]; rfl
theorem opn_all {l : List Fl} (h : ∀ f ∈ l, 0 < F.left f) : opn l = l ∧ ovr l = [] := by
  unfold opn ovr
  refine ⟨List.filter_eq_self.2 fun f hf => by simpa using h f hf, List.filter_eq_nil_iff.2 fun f hf => by simpa using h f hf⟩
structure TJ (l : List Fl) (j : Nat) (X : List Fl) : Prop where
  le : j ≤ l.length
  len : X.length = l.length
  tk : X.take (opn (l.take j)).length = opn (l.take j)
  rs : ∀ p, j ≤ p → p < l.length → X.getD p default = l.getD p default
  lt : (opn (l.take j)).length < j
theorem TJ.yes {l X : List Fl} {j : Nat} (h : TJ l j X) (hj : j < l.length) (o : 0 < F.left (l.getD j default)) : TJ l (j + 1) (X.set (opn (l.take j)).length (l.getD j default)) := by
  have e : opn (l.take (j + 1)) = opn (l.take j) ++ [l.getD j default] := by rw [opn_snoc hj, if_pos o]
  have n1 := h.lt
  have n2 := h.len
  refine ⟨hj, by rw [List.length_set]; exact h.len, ?_, fun p h1 h2 => ?_, by rw [e, List.length_append]; simp; omega⟩
  · rw [e, List.length_append, List.length_singleton, List.take_succ_eq_append_getElem (by rw [List.length_set]; omega), List.take_set_of_le (Nat.le_refl _), h.tk]
    simp
  · have := h.rs p (by omega) h2
    rw [← this, getD_at (l := X.set _ _) (by rw [List.length_set]; omega), List.getElem_set_ne (by omega)]
    exact (getD_at (by omega)).symm
theorem TJ.no {l X : List Fl} {j : Nat} (h : TJ l j X) (hj : j < l.length) (o : ¬ 0 < F.left (l.getD j default)) : TJ l (j + 1) X := by
  have e : opn (l.take (j + 1)) = opn (l.take j) := by rw [opn_snoc hj, if_neg o, List.append_nil]
  have n1 := h.lt
  exact ⟨hj, h.len, by rw [e]; exact h.tk, fun p h1 h2 => h.rs p (by omega) h2, by rw [e]; omega⟩
theorem TJ.start {l : List Fl} {k : Nat} (hk : k < l.length) (h : ∀ f ∈ l.take k, 0 < F.left f) (o : ¬ 0 < F.left (l.getD k default)) : TJ l (k + 1) l ∧ (opn (l.take (k + 1))).length = k ∧ ovr (l.take (k + 1)) = [l.getD k default] := by
  obtain ⟨a1, a2⟩ := opn_all h
  have e : opn (l.take (k + 1)) = l.take k := by rw [opn_snoc hk, if_neg o, List.append_nil, a1]
  have e2 : ovr (l.take (k + 1)) = [l.getD k default] := by rw [ovr_snoc hk, if_neg o, a2]; rfl
  have n : (l.take k).length = k := by rw [List.length_take]; omega
  exact ⟨⟨hk, rfl, by rw [e, n], fun p _ _ => rfl, by rw [e, n]; omega⟩, by rw [e, n], e2⟩
def tyW (w : Wd) : Wd := if wE w = 0 then ⟨w.td, opn w.fs, w.bk⟩ else zw
def tyO (w : Wd) : List Fl := if wE w = 0 then ovr w.fs else []
theorem ty_yes {w : Wd} (h : wE w = 0) : tyW w = ⟨w.td, opn w.fs, w.bk⟩ ∧ tyO w = ovr w.fs := ⟨if_pos h, if_pos h⟩
theorem ty_no {w : Wd} (h : ¬ wE w = 0) : tyW w = zw ∧ tyO w = [] := ⟨if_neg h, if_neg h⟩
theorem opn_len (l : List Fl) : (opn l).length ≤ l.length := List.length_filter_le _ _
theorem ovr_len (l : List Fl) : (ovr l).length ≤ l.length := List.length_filter_le _ _
structure St where
  out : List Fl
  bk : List Po
  ps : List Po
  e : Int
noncomputable def one (c : Cl) (t : List Tm) (x : Int) (pr : List Int) (td : Int) (s : St) (f : Fl) : St :=
  if s.e ≠ 0 then s
  else if Ag.stg c (Pn.cl t f) f td ≠ 4 then ⟨s.out ++ [f], s.bk, s.ps, 0⟩
  else if Cp.pE f (P.pr pr f.pa) x ≠ 0 then ⟨s.out, s.bk, s.ps, Cp.pE f (P.pr pr f.pa) x⟩
  else if (Cp.pL f (P.pr pr f.pa) x).length = 0 then ⟨s.out ++ [Cp.pF f (P.pr pr f.pa) x], s.bk, s.ps, 0⟩
  else if Bk.pE s.bk (Cp.pL f (P.pr pr f.pa) x) ≠ 0 then ⟨s.out, s.bk, s.ps, Bk.pE s.bk (Cp.pL f (P.pr pr f.pa) x)⟩
  else ⟨s.out ++ [Cp.pF f (P.pr pr f.pa) x], Bk.pL s.bk (Cp.pL f (P.pr pr f.pa) x), s.ps ++ Cp.pL f (P.pr pr f.pa) x, 0⟩
section
variable {c : Cl} {t : List Tm} {x : Int} {pr : List Int} {td : Int} {s : St} {f : Fl}
theorem one_0 (h : ¬ s.e = 0) : one c t x pr td s f = s := if_pos h
theorem one_1 (h : s.e = 0) (k : ¬ Ag.stg c (Pn.cl t f) f td = 4) : one c t x pr td s f = ⟨s.out ++ [f], s.bk, s.ps, 0⟩ := (if_neg (by omega)).trans (if_pos k)
theorem one_2 (h : s.e = 0) (k : Ag.stg c (Pn.cl t f) f td = 4) (p : ¬ Cp.pE f (P.pr pr f.pa) x = 0) : one c t x pr td s f = ⟨s.out, s.bk, s.ps, Cp.pE f (P.pr pr f.pa) x⟩ := (if_neg (by omega)).trans ((if_neg (by omega)).trans (if_pos p))
theorem one_3 (h : s.e = 0) (k : Ag.stg c (Pn.cl t f) f td = 4) (p : Cp.pE f (P.pr pr f.pa) x = 0) (z : (Cp.pL f (P.pr pr f.pa) x).length = 0) : one c t x pr td s f = ⟨s.out ++ [Cp.pF f (P.pr pr f.pa) x], s.bk, s.ps, 0⟩ := (if_neg (by omega)).trans ((if_neg (by omega)).trans ((if_neg (by omega)).trans (if_pos z)))
theorem one_4 (h : s.e = 0) (k : Ag.stg c (Pn.cl t f) f td = 4) (p : Cp.pE f (P.pr pr f.pa) x = 0) (z : ¬ (Cp.pL f (P.pr pr f.pa) x).length = 0) (b : ¬ Bk.pE s.bk (Cp.pL f (P.pr pr f.pa) x) = 0) : one c t x pr td s f = ⟨s.out, s.bk, s.ps, Bk.pE s.bk (Cp.pL f (P.pr pr f.pa) x)⟩ := (if_neg (by omega)).trans ((if_neg (by omega)).trans ((if_neg (by omega)).trans ((if_neg z).trans (if_pos b))))
theorem one_5 (h : s.e = 0) (k : Ag.stg c (Pn.cl t f) f td = 4) (p : Cp.pE f (P.pr pr f.pa) x = 0) (z : ¬ (Cp.pL f (P.pr pr f.pa) x).length = 0) (b : Bk.pE s.bk (Cp.pL f (P.pr pr f.pa) x) = 0) : one c t x pr td s f = ⟨s.out ++ [Cp.pF f (P.pr pr f.pa) x], Bk.pL s.bk (Cp.pL f (P.pr pr f.pa) x), s.ps ++ Cp.pL f (P.pr pr f.pa) x, 0⟩ := (if_neg (by omega)).trans ((if_neg (by omega)).trans ((if_neg (by omega)).trans ((if_neg z).trans (if_neg (by omega)))))
end
noncomputable def run (c : Cl) (t : List Tm) (x : Int) (pr : List Int) (td : Int) (s : St) (l : List Fl) : St := l.foldl (one c t x pr td) s
theorem run_snoc {c : Cl} {t : List Tm} {x : Int} {pr : List Int} {td : Int} {s : St} {l : List Fl} {k : Nat} (h : k < l.length) : run c t x pr td s (l.take (k + 1)) = one c t x pr td (run c t x pr td s (l.take k)) (l.getD k default) := by
  unfold run
  rw [List.take_succ_eq_append_getElem h, List.foldl_append, ← getD_at h]
  rfl
theorem run_e {c : Cl} {t : List Tm} {x : Int} {pr : List Int} {td : Int} : ∀ {l : List Fl} {s : St}, ¬ s.e = 0 → run c t x pr td s l = s
  | [], _, _ => rfl
  | f :: r, s, h => by
    show run c t x pr td (one c t x pr td s f) r = s
    rw [one_0 h]
    exact run_e h
theorem pL_len (f : Fl) (p x : Int) : (Cp.pL f p x).length ≤ 2 := by
  unfold Cp.pL
  split
  · simp
  · exact Nat.le_refl _
noncomputable def nB (c : Cl) (t : List Tm) (x : Int) (w : Wd) (pr : List Int) : Int :=
  if rE c t x ≠ 0 then rE c t x else if wE w ≠ 0 then wE w else if P.chks pr ≠ 0 then P.chks pr else if Ca.op c w.td = 1 then Pn.yD c t w.fs pr w.td else 4
noncomputable def du (c : Cl) (t : List Tm) (w : Wd) (pr : List Int) : List Du := Pn.yL c t w.fs pr w.td
def psE (w : Wd) (d : List Du) : Int := if Pn.suE d ≠ 0 ∧ Pn.suE d ≠ 5 then Pn.suE d else if (Pn.suL d).length = 0 then 0 else Bk.pE w.bk (Pn.suL d)
def psB (w : Wd) (d : List Du) : List Po := if (Pn.suL d).length = 0 then w.bk else Bk.pL w.bk (Pn.suL d)
noncomputable def s0 (c : Cl) (t : List Tm) (x : Int) (w : Wd) (pr : List Int) : St :=
  if nB c t x w pr ≠ 0 then ⟨[], [], [], nB c t x w pr⟩ else if psE w (du c t w pr) ≠ 0 then ⟨[], [], [], psE w (du c t w pr)⟩ else ⟨[], psB w (du c t w pr), Pn.suL (du c t w pr), 0⟩
noncomputable def s1 (c : Cl) (t : List Tm) (x : Int) (w : Wd) (pr : List Int) : St := run c t x pr w.td (s0 c t x w pr) w.fs
noncomputable def nE (c : Cl) (t : List Tm) (x : Int) (w : Wd) (pr : List Int) : Int := if (s1 c t x w pr).e ≠ 0 then (s1 c t x w pr).e else Ca.sE c w.td 1
noncomputable def nW (c : Cl) (t : List Tm) (x : Int) (w : Wd) (pr : List Int) : Wd := open Classical in if nE c t x w pr = 0 then ⟨Ca.sV c w.td 1, (s1 c t x w pr).out, (s1 c t x w pr).bk⟩ else zw
noncomputable def nP (c : Cl) (t : List Tm) (x : Int) (w : Wd) (pr : List Int) : List Po := open Classical in if nE c t x w pr = 0 then (s1 c t x w pr).ps else []
section
variable {c : Cl} {t : List Tm} {x : Int} {w : Wd} {pr : List Int}
theorem nB_1 (h : ¬ rE c t x = 0) : nB c t x w pr = rE c t x := if_pos h
theorem nB_2 (h : rE c t x = 0) (k : ¬ wE w = 0) : nB c t x w pr = wE w := (if_neg (by omega)).trans (if_pos k)
theorem nB_3 (h : rE c t x = 0) (k : wE w = 0) (p : ¬ P.chks pr = 0) : nB c t x w pr = P.chks pr := (if_neg (by omega)).trans ((if_neg (by omega)).trans (if_pos p))
theorem nB_4 (h : rE c t x = 0) (k : wE w = 0) (p : P.chks pr = 0) (o : ¬ Ca.op c w.td = 1) : nB c t x w pr = 4 := (if_neg (by omega)).trans ((if_neg (by omega)).trans ((if_neg (by omega)).trans (if_neg o)))
theorem nB_5 (h : rE c t x = 0) (k : wE w = 0) (p : P.chks pr = 0) (o : Ca.op c w.td = 1) : nB c t x w pr = Pn.yD c t w.fs pr w.td := (if_neg (by omega)).trans ((if_neg (by omega)).trans ((if_neg (by omega)).trans (if_pos o)))
theorem nB_ok (h : nB c t x w pr = 0) : rE c t x = 0 ∧ wE w = 0 ∧ P.chks pr = 0 ∧ Ca.op c w.td = 1 ∧ Pn.yD c t w.fs pr w.td = 0 := by
  by_cases a : rE c t x = 0
  · by_cases b : wE w = 0
    · by_cases p : P.chks pr = 0
      · by_cases o : Ca.op c w.td = 1
        · rw [nB_5 a b p o] at h; exact ⟨a, b, p, o, h⟩
        · rw [nB_4 a b p o] at h; cases h
      · rw [nB_3 a b p] at h; exact absurd h p
    · rw [nB_2 a b] at h; exact absurd h b
  · rw [nB_1 a] at h; exact absurd h a
theorem s0_1 (h : ¬ nB c t x w pr = 0) : s0 c t x w pr = ⟨[], [], [], nB c t x w pr⟩ := if_pos h
theorem s0_2 (h : nB c t x w pr = 0) (k : ¬ psE w (du c t w pr) = 0) : s0 c t x w pr = ⟨[], [], [], psE w (du c t w pr)⟩ := (if_neg (by omega)).trans (if_pos k)
theorem s0_3 (h : nB c t x w pr = 0) (k : psE w (du c t w pr) = 0) : s0 c t x w pr = ⟨[], psB w (du c t w pr), Pn.suL (du c t w pr), 0⟩ := (if_neg (by omega)).trans (if_neg (by omega))
theorem s0_ok (h : (s0 c t x w pr).e = 0) : nB c t x w pr = 0 ∧ psE w (du c t w pr) = 0 ∧ s0 c t x w pr = ⟨[], psB w (du c t w pr), Pn.suL (du c t w pr), 0⟩ := by
  by_cases a : nB c t x w pr = 0
  · by_cases b : psE w (du c t w pr) = 0
    · exact ⟨a, b, s0_3 a b⟩
    · rw [s0_2 a b] at h; exact absurd h b
  · rw [s0_1 a] at h; exact absurd h a
theorem n_bad (h : ¬ (s0 c t x w pr).e = 0) : nE c t x w pr = (s0 c t x w pr).e ∧ nW c t x w pr = zw ∧ nP c t x w pr = [] := by
  have e : s1 c t x w pr = s0 c t x w pr := run_e h
  have e2 : nE c t x w pr = (s0 c t x w pr).e := by unfold nE; rw [e, if_pos h]
  exact ⟨e2, if_neg (by rw [e2]; exact h), if_neg (by rw [e2]; exact h)⟩
theorem n_err (h : ¬ (s1 c t x w pr).e = 0) : nE c t x w pr = (s1 c t x w pr).e ∧ nW c t x w pr = zw ∧ nP c t x w pr = [] := by
  have e2 : nE c t x w pr = (s1 c t x w pr).e := if_pos h
  exact ⟨e2, if_neg (by rw [e2]; exact h), if_neg (by rw [e2]; exact h)⟩
theorem n_end (h : (s1 c t x w pr).e = 0) (k : ¬ Ca.sE c w.td 1 = 0) : nE c t x w pr = Ca.sE c w.td 1 ∧ nW c t x w pr = zw ∧ nP c t x w pr = [] := by
  have e2 : nE c t x w pr = Ca.sE c w.td 1 := if_neg (by omega)
  exact ⟨e2, if_neg (by rw [e2]; exact k), if_neg (by rw [e2]; exact k)⟩
theorem n_yes (h : (s1 c t x w pr).e = 0) (k : Ca.sE c w.td 1 = 0) : nE c t x w pr = 0 ∧ nW c t x w pr = ⟨Ca.sV c w.td 1, (s1 c t x w pr).out, (s1 c t x w pr).bk⟩ ∧ nP c t x w pr = (s1 c t x w pr).ps := by
  have e2 : nE c t x w pr = 0 := (if_neg (by omega)).trans k
  exact ⟨e2, if_pos e2, if_pos e2⟩
end
structure NJ (c : Cl) (t : List Tm) (x : Int) (pr : List Int) (td : Int) (s : St) (fs : List Fl) (k : Nat) (X : List Fl) (b p : List Po) (e : Int) : Prop where
  le : k ≤ fs.length
  xl : X.length = fs.length
  er : (run c t x pr td s (fs.take k)).e = e
  ok : e = 0 → run c t x pr td s (fs.take k) = ⟨X.take k, b, p, 0⟩ ∧ ∀ q, k ≤ q → q < fs.length → X.getD q default = fs.getD q default
  bl : b.length ≤ 2121
  pl : p.length ≤ s.ps.length + 2 * k
section
variable {c : Cl} {t : List Tm} {x : Int} {pr : List Int} {td : Int} {s : St} {fs X : List Fl} {k : Nat} {b p : List Po} {e : Int}
theorem NJ.start (hb : s.bk.length ≤ 2121) (ho : s.out = []) (he : s.e = 0) : NJ c t x pr td s fs 0 fs s.bk s.ps 0 :=
  ⟨Nat.zero_le _, rfl, he, fun _ => ⟨by cases s; simp_all [run], fun _ _ _ => rfl⟩, hb, by omega⟩
theorem NJ.skip (h : NJ c t x pr td s fs k X b p e) (hk : k < fs.length) (he : ¬ e = 0) : NJ c t x pr td s fs (k + 1) X b p e :=
  ⟨hk, h.xl, by rw [run_snoc hk, one_0 (by rw [h.er]; exact he)]; exact h.er, fun z => absurd z he, h.bl, by have := h.pl; omega⟩
theorem take_on (xl : X.length = fs.length) (hk : k < fs.length) : X.take (k + 1) = X.take k ++ [X.getD k default] := by
  rw [List.take_succ_eq_append_getElem (by omega), getD_at (by omega)]
theorem NJ.s1 (h : NJ c t x pr td s fs k X b p 0) (hk : k < fs.length) (g : ¬ Ag.stg c (Pn.cl t (X.getD k default)) (X.getD k default) td = 4) : NJ c t x pr td s fs (k + 1) X b p 0 := by
  obtain ⟨o1, o2⟩ := h.ok rfl
  have ex := o2 k (Nat.le_refl _) hk
  have e1 : run c t x pr td s (fs.take (k + 1)) = ⟨X.take (k + 1), b, p, 0⟩ := by
    rw [run_snoc hk, o1, ← ex, one_1 rfl g, take_on h.xl hk]
  exact ⟨hk, h.xl, by rw [e1], fun _ => ⟨e1, fun q h1 h2 => o2 q (by omega) h2⟩, h.bl, by have := h.pl; omega⟩
theorem NJ.s2 (h : NJ c t x pr td s fs k X b p 0) (hk : k < fs.length) (g : Ag.stg c (Pn.cl t (X.getD k default)) (X.getD k default) td = 4) (q : ¬ Cp.pE (X.getD k default) (P.pr pr (X.getD k default).pa) x = 0) :
    NJ c t x pr td s fs (k + 1) X b p (Cp.pE (X.getD k default) (P.pr pr (X.getD k default).pa) x) := by
  obtain ⟨o1, o2⟩ := h.ok rfl
  have ex := o2 k (Nat.le_refl _) hk
  exact ⟨hk, h.xl, by rw [run_snoc hk, o1, ← ex, one_2 rfl g q], fun z => absurd z q, h.bl, by have := h.pl; omega⟩
theorem set_on (xl : X.length = fs.length) (hk : k < fs.length) (f : Fl) : (X.set k f).take (k + 1) = X.take k ++ [f] := by
  rw [List.take_succ_eq_append_getElem (by rw [List.length_set]; omega), List.take_set_of_le (Nat.le_refl _)]
  simp
theorem set_rest (xl : X.length = fs.length) (o2 : ∀ q, k ≤ q → q < fs.length → X.getD q default = fs.getD q default) (f : Fl) : ∀ q, k + 1 ≤ q → q < fs.length → (X.set k f).getD q default = fs.getD q default := fun q h1 h2 => by
  rw [← o2 q (by omega) h2, getD_at (l := X.set k f) (by rw [List.length_set]; omega), List.getElem_set_ne (by omega)]
  exact (getD_at (by omega)).symm
theorem NJ.s3 (h : NJ c t x pr td s fs k X b p 0) (hk : k < fs.length) (g : Ag.stg c (Pn.cl t (X.getD k default)) (X.getD k default) td = 4) (q : Cp.pE (X.getD k default) (P.pr pr (X.getD k default).pa) x = 0)
    (z : (Cp.pL (X.getD k default) (P.pr pr (X.getD k default).pa) x).length = 0) : NJ c t x pr td s fs (k + 1) (X.set k (Cp.pF (X.getD k default) (P.pr pr (X.getD k default).pa) x)) b p 0 := by
  obtain ⟨o1, o2⟩ := h.ok rfl
  have ex := o2 k (Nat.le_refl _) hk
  have e1 : run c t x pr td s (fs.take (k + 1)) = ⟨(X.set k (Cp.pF (X.getD k default) (P.pr pr (X.getD k default).pa) x)).take (k + 1), b, p, 0⟩ := by
    rw [run_snoc hk, o1, ← ex, one_3 rfl g q z, set_on h.xl hk]
  exact ⟨hk, by rw [List.length_set]; exact h.xl, by rw [e1], fun _ => ⟨e1, set_rest h.xl o2 _⟩, h.bl, by have := h.pl; omega⟩
theorem NJ.s4 (h : NJ c t x pr td s fs k X b p 0) (hk : k < fs.length) (g : Ag.stg c (Pn.cl t (X.getD k default)) (X.getD k default) td = 4) (q : Cp.pE (X.getD k default) (P.pr pr (X.getD k default).pa) x = 0)
    (z : ¬ (Cp.pL (X.getD k default) (P.pr pr (X.getD k default).pa) x).length = 0) (y : ¬ Bk.pE b (Cp.pL (X.getD k default) (P.pr pr (X.getD k default).pa) x) = 0) :
    NJ c t x pr td s fs (k + 1) (X.set k (Cp.pF (X.getD k default) (P.pr pr (X.getD k default).pa) x)) b p (Bk.pE b (Cp.pL (X.getD k default) (P.pr pr (X.getD k default).pa) x)) := by
  obtain ⟨o1, o2⟩ := h.ok rfl
  have ex := o2 k (Nat.le_refl _) hk
  exact ⟨hk, by rw [List.length_set]; exact h.xl, by rw [run_snoc hk, o1, ← ex, one_4 rfl g q z y], fun w => absurd w y, h.bl, by have := h.pl; omega⟩
theorem NJ.s5 (h : NJ c t x pr td s fs k X b p 0) (hk : k < fs.length) (g : Ag.stg c (Pn.cl t (X.getD k default)) (X.getD k default) td = 4) (q : Cp.pE (X.getD k default) (P.pr pr (X.getD k default).pa) x = 0)
    (z : ¬ (Cp.pL (X.getD k default) (P.pr pr (X.getD k default).pa) x).length = 0) (y : Bk.pE b (Cp.pL (X.getD k default) (P.pr pr (X.getD k default).pa) x) = 0) :
    NJ c t x pr td s fs (k + 1) (X.set k (Cp.pF (X.getD k default) (P.pr pr (X.getD k default).pa) x)) (Bk.pL b (Cp.pL (X.getD k default) (P.pr pr (X.getD k default).pa) x)) (p ++ Cp.pL (X.getD k default) (P.pr pr (X.getD k default).pa) x) 0 := by
  obtain ⟨o1, o2⟩ := h.ok rfl
  have ex := o2 k (Nat.le_refl _) hk
  have e1 : run c t x pr td s (fs.take (k + 1)) = ⟨(X.set k (Cp.pF (X.getD k default) (P.pr pr (X.getD k default).pa) x)).take (k + 1), Bk.pL b (Cp.pL (X.getD k default) (P.pr pr (X.getD k default).pa) x), p ++ Cp.pL (X.getD k default) (P.pr pr (X.getD k default).pa) x, 0⟩ := by
    rw [run_snoc hk, o1, ← ex, one_5 rfl g q z y, set_on h.xl hk]
  have l2 := pL_len (X.getD k default) (P.pr pr (X.getD k default).pa) x
  exact ⟨hk, by rw [List.length_set]; exact h.xl, by rw [e1], fun _ => ⟨e1, set_rest h.xl o2 _⟩, by have := (Bk.po_lines (Bk.pE_0.1 y)).le; omega, by have := h.pl; rw [List.length_append]; omega⟩
theorem NJ.fin (h : NJ c t x pr td s fs fs.length X b p e) : (run c t x pr td s fs).e = e ∧ (e = 0 → run c t x pr td s fs = ⟨X, b, p, 0⟩) := by
  have e1 := h.er
  have e2 := h.ok
  rw [List.take_length] at e1 e2
  refine ⟨e1, fun z => ?_⟩
  rw [(e2 z).1, ← h.xl, List.take_length]
end
theorem night_ok {c : Cl} {t : List Tm} {x : Int} {w : Wd} {pr : List Int} (h : (s0 c t x w pr).e = 0) :
    Ca.isV c w.td = true ∧ ((Pn.suL (du c t w pr)).length = 0 → Pn.suE (du c t w pr) = 5 ∨ Pn.suE (du c t w pr) = 0) ∧ (¬ (Pn.suL (du c t w pr)).length = 0 → Pn.suE (du c t w pr) = 0 ∧ Bk.pE w.bk (Pn.suL (du c t w pr)) = 0) ∧ (s0 c t x w pr).bk.length ≤ 2121 ∧ (s0 c t x w pr).out = [] ∧ (s0 c t x w pr).bk = psB w (du c t w pr) ∧ (s0 c t x w pr).ps = Pn.suL (du c t w pr) := by
  obtain ⟨b0, p0, e0⟩ := s0_ok h
  obtain ⟨r0, w0, k0, o0, y0⟩ := nB_ok b0
  obtain ⟨d0, f0, l0⟩ := wE_ok w0
  have hd : Ca.Day w.td := by have z := Ca.dchk w.td; unfold Ca.Day at *; omega
  have i0 : Ca.isV c w.td = true := by rw [Ca.isV_yes (rE_ok r0).1 hd]; exact decide_eq_true o0
  have s5 : Pn.suE (du c t w pr) = 0 ∨ Pn.suE (du c t w pr) = 5 := by
    apply Classical.byContradiction
    intro z
    have : psE w (du c t w pr) = Pn.suE (du c t w pr) := if_pos ⟨fun q => z (.inl q), fun q => z (.inr q)⟩
    omega
  have n4 := (wE_len w0).2
  refine ⟨i0, fun _ => s5.symm, fun q => ?_, ?_, by rw [e0], by rw [e0], by rw [e0]⟩
  · have s0' : Pn.suE (du c t w pr) = 0 := by
      rcases s5 with z | z
      · exact z
      · exact absurd (show (Pn.suL (du c t w pr)).length = 0 by rw [show Pn.suL (du c t w pr) = [] from if_neg (by omega)]; rfl) q
    refine ⟨s0', ?_⟩
    have : psE w (du c t w pr) = Bk.pE w.bk (Pn.suL (du c t w pr)) := (if_neg (by omega)).trans (if_neg q)
    omega
  · rw [e0]
    show (psB w (du c t w pr)).length ≤ 2121
    unfold psB
    split
    · omega
    · unfold Bk.pL
      split
      · exact Bk.out_len _ _
      · exact Nat.zero_le _
end Cy
end Go.Proofs.YtpanlcnoopmchaaGreat

namespace Go.Proofs.YtpanlcnoopmchaaGreat
open Go Go.RowKit V
theorem v_cyRules (c : Cl) (t : List Tm) (x : Int) (hc : c.hs.length ≤ 9223372036854775807) (ht : t.length ≤ 9223372036854775807) : V.Fn Tryz.prog 14 [.arr 1 c.hs.length (ga e1 c.hs), .arr 4 t.length (ga encTm t)] [.agg [.val (.int .i64 c.we), .ref 0, .ref 1, .val (.int .i64 x)]] (.int .i64 (Cy.rE c t x)) := by
  refine V.Fn.mk_ V.Tok V.mixed Tryz.func14 rfl Tryz.ntmps14 (by kernel_rfl) rfl rfl ?_
  repeat' ((conv => whnf); first | refine V.NCond.mk ?_ | refine V.NPick.l ?_ | refine V.NIf.not_ ?_ | refine V.NIf.dec_ ?_ | refine V.a4 ?_ | refine V.a5 ?_ | refine V.NIf.mk (fun _ => ?_) (fun _ => ?_) | refine V.a7 ?_ | refine V.a8 ?_ | refine V.a9 ?_ | refine V.NBoth.mk ?_ ?_ | refine V.b1 ?_ | refine V.b2 ?_ | refine V.NTF.dec ?_ | refine V.b3 ?_ | refine V.b4 ?_ | ((first | refine V.Fn.k (v_caCheck c hc) [0] rfl ?_ ?_ | refine V.Fn.q (v_caCheck c hc) [0] rfl ?_ ?_ | refine V.Fn.a (v_caCheck c hc) [0] rfl ?_ ?_); · exact V.D_) | ((first | refine V.Fn.k (v_pterms t ht) [1] rfl ?_ ?_ | refine V.Fn.q (v_pterms t ht) [1] rfl ?_ ?_ | refine V.Fn.a (v_pterms t ht) [1] rfl ?_ ?_); · exact V.D_) | (refine V.NDraw.any (by kernel_rfl) ?_) | fail)
  all_goals (conv => whnf)
  all_goals first
    | exact V.fin1 (Cy.rE_3 (by assumption) (by assumption) (by omega))
    | exact V.fin1 ((Cy.rE_4 (by assumption) (by assumption) (by omega)).trans (Eq.symm (by assumption)))
    | exact V.fin1 (Cy.rE_4 (by assumption) (by assumption) (by omega))
    | exact V.fin1 (Cy.rE_2 (by assumption) (by assumption))
    | exact V.fin1 (Cy.rE_1 (by assumption))
    | trace_state
theorem v_cyCheck (w : Wd) (hb : w.bk.length ≤ 9223372036854775807) : V.Fn Tryz.prog 16 [.arr 10 w.fs.length (ga encF w.fs), .arr 3 w.bk.length (ga encP w.bk)] [.agg [.val (.int .i64 w.td), .ref 0, .ref 1]] (.int .i64 (Cy.wE w)) := by
  refine V.Fn.mk_ V.Tok V.mixed Tryz.func16 rfl Tryz.ntmps16 (by kernel_rfl) rfl rfl ?_
  repeat' ((conv => whnf); first | refine V.NCond.mk ?_ | refine V.NPick.l ?_ | refine V.NIf.not_ ?_ | refine V.NIf.dec_ ?_ | refine V.a4 ?_ | refine V.a5 ?_ | refine V.NIf.mk (fun _ => ?_) (fun _ => ?_) | refine V.a7 ?_ | refine V.a8 ?_ | refine V.a9 ?_ | refine V.NBoth.mk ?_ ?_ | refine V.b1 ?_ | refine V.b2 ?_ | refine V.NTF.dec ?_ | refine V.b3 ?_ | refine V.b4 ?_ | (first | refine V.Fn.k0 (v_dcheck _) rfl ?_ | refine V.Fn.q0 (v_dcheck _) rfl ?_ | refine V.Fn.a0 (v_dcheck _) rfl ?_) | ((first | refine V.Fn.k (v_fchecks w.fs) [0] rfl ?_ ?_ | refine V.Fn.q (v_fchecks w.fs) [0] rfl ?_ ?_ | refine V.Fn.a (v_fchecks w.fs) [0] rfl ?_ ?_); · exact V.D_) | ((first | refine V.Fn.k (v_bkLines w.bk hb) [1] rfl ?_ ?_ | refine V.Fn.q (v_bkLines w.bk hb) [1] rfl ?_ ?_ | refine V.Fn.a (v_bkLines w.bk hb) [1] rfl ?_ ?_); · exact V.D_) | (refine V.NDraw.any (by kernel_rfl) ?_) | fail)
  all_goals (conv => whnf)
  all_goals first
    | exact V.fin1 (Cy.wE_3 (by assumption) (by assumption))
    | exact V.fin1 (Cy.wE_2 (by assumption) (by assumption))
    | exact V.fin1 (Cy.wE_1 (by assumption))
    | trace_state
instance : DecidableEq Wd := fun a b => decidable_of_iff (a.td = b.td ∧ a.fs = b.fs ∧ a.bk = b.bk) ⟨fun h => Cy.wd_ext h.1 h.2.1 h.2.2, fun h => by subst h; simp⟩
theorem v_sameworld (a b : Wd) (h1 : a.fs.length ≤ 9223372036854775807) (h2 : a.bk.length ≤ 9223372036854775807) : V.Fn Tryz.prog 18 [.arr 10 a.fs.length (ga encF a.fs), .arr 3 a.bk.length (ga encP a.bk), .arr 10 b.fs.length (ga encF b.fs), .arr 3 b.bk.length (ga encP b.bk)] [.agg [.val (.int .i64 a.td), .ref 0, .ref 1], .agg [.val (.int .i64 b.td), .ref 2, .ref 3]] (.bool (decide (a = b))) := by
  have e : a = b ↔ (a.td = b.td ∧ a.fs = b.fs ∧ a.bk = b.bk) := ⟨fun h => by subst h; simp, fun h => Cy.wd_ext h.1 h.2.1 h.2.2⟩
  refine V.Fn.mk_ V.Tok V.mixed Tryz.func18 rfl Tryz.ntmps18 (by kernel_rfl) rfl rfl ?_
  repeat' ((conv => whnf); first | refine V.NCond.mk ?_ | refine V.NPick.l ?_ | refine V.NIf.not_ ?_ | refine V.NIf.dec_ ?_ | refine V.a4 ?_ | refine V.a5 ?_ | refine V.NIf.mk (fun _ => ?_) (fun _ => ?_) | refine V.a7 ?_ | refine V.a8 ?_ | refine V.a9 ?_ | refine V.NBoth.mk ?_ ?_ | refine V.b1 ?_ | refine V.b2 ?_ | refine V.NTF.dec ?_ | refine V.b3 ?_ | refine V.b4 ?_ | ((first | refine V.Fn.k (v_samefails a.fs b.fs h1) [0, 2] rfl ?_ ?_ | refine V.Fn.q (v_samefails a.fs b.fs h1) [0, 2] rfl ?_ ?_ | refine V.Fn.a (v_samefails a.fs b.fs h1) [0, 2] rfl ?_ ?_); · exact V.D_) | ((first | refine V.Fn.k (v_sameposts a.bk b.bk h2) [1, 3] rfl ?_ ?_ | refine V.Fn.q (v_sameposts a.bk b.bk h2) [1, 3] rfl ?_ ?_ | refine V.Fn.a (v_sameposts a.bk b.bk h2) [1, 3] rfl ?_ ?_); · exact V.D_) | (refine V.NDraw.any (by kernel_rfl) ?_) | fail)
  all_goals (conv => whnf)
  all_goals first
    | exact ⟨_, rfl, by rw [decide_eq_true_iff, decide_eq_true_iff, e]; exact ⟨fun z => ⟨by assumption, by assumption, z⟩, fun z => z.2.2⟩⟩
    | exact congrArg Value.bool (decide_eq_decide.2 ⟨fun z => e.2 ⟨by assumption, by assumption, z⟩, fun z => (e.1 z).2.2⟩)
    | exact congrArg Value.bool (decide_eq_false (fun z => absurd (e.1 z).1 (by assumption))).symm
    | exact congrArg Value.bool (decide_eq_false (fun z => absurd (e.1 z).2.1 (by assumption))).symm
    | trace_state
end Go.Proofs.YtpanlcnoopmchaaGreat

namespace Go.Proofs.YtpanlcnoopmchaaGreat
open Go Go.RowKit V
end Go.Proofs.YtpanlcnoopmchaaGreat

namespace Go.Proofs.YtpanlcnoopmchaaGreat
open Go Go.RowKit V
theorem v_cpCost (u p : Int) (hu : 0 ≤ u ∧ u ≤ 1073741824) : (P.Ok p → V.Fn Tryz.prog 158 [] [.one (.val (.int .i64 u)), .one (.val (.int .i64 p))] (.tuple #[.int .i64 (P.cost u p), .int .i64 (M.prR u p 10000), .int .i64 0])) ∧ (¬ P.Ok p → V.Fn Tryz.prog 158 [] [.one (.val (.int .i64 u)), .one (.val (.int .i64 p))] (.tuple #[.int .i64 0, .int .i64 0, .int .i64 3])) := by
  have c := v_cost u p
  refine ⟨fun h => ?_, fun h => ?_⟩
  · obtain ⟨e1, e2⟩ := P.part_cost hu h
    rwa [e1, e2] at c
  · obtain ⟨e1, e2, e3⟩ := M.pr_1 (a := u) (b := p) (c := 10000) (fun k => h (P.pok.1 k).2)
    rwa [e1, e2, e3] at c
theorem v_worth (u p x : Int) : V.Fn Tryz.prog 143 [] [.one (.val (.int .i64 u)), .one (.val (.int .i64 p)), .one (.val (.int .i64 x))] (.tuple #[.int .i64 (Cp.wV u p x), .int .i64 (Cp.wE u p x)]) := by
  by_cases h : Cp.Ok u p x
  · obtain ⟨w1, w2⟩ := Cp.w_yes h
    have vc := (v_cpCost u p h.1).1 h.2.1
    have c := P.cost_bd h.1 h.2.1
    obtain ⟨e3, e4⟩ := P.part_rate (n := P.cost u p) (r := x) (by omega) h.2.2
    have r := P.rate_bd c.1 h.2.2
    have vp := v_part (P.cost u p) x 10000
    rw [e3, e4] at vp
    rw [w1, w2]
    obtain ⟨⟨h1, h2⟩, _, h3, h4⟩ := h
    generalize P.cost u p * x / 10000 = q at *
    generalize P.cost u p = n at *
    refine V.Fn.mk_ V.Tok V.mixed Tryz.func143 rfl Tryz.ntmps143 (by kernel_rfl) rfl rfl ?_
    repeat' ((conv => whnf); first | refine V.NCond.mk ?_ | refine V.NPick.l ?_ | refine V.NIf.not_ ?_ | refine V.NIf.dec_ ?_ | refine V.a4 ?_ | refine V.a5 ?_ | refine V.NIf.mk (fun _ => ?_) (fun _ => ?_) | refine V.a7 ?_ | refine V.a8 ?_ | refine V.a9 ?_ | refine V.NBoth.mk ?_ ?_ | refine V.b1 ?_ | refine V.b2 ?_ | refine V.NTF.dec ?_ | refine V.b3 ?_ | refine V.b4 ?_ | (first | refine V.Fn.k0 (vc) rfl ?_ | refine V.Fn.q0 (vc) rfl ?_ | refine V.Fn.a0 (vc) rfl ?_) | (first | refine V.Fn.k0 (vp) rfl ?_ | refine V.Fn.q0 (vp) rfl ?_ | refine V.Fn.a0 (vp) rfl ?_) | (refine V.NDraw.any (by kernel_rfl) ?_) | fail)
    all_goals (conv => whnf)
    exact V.fin2 ⟨rfl, rfl⟩
  · obtain ⟨w1, w2⟩ := Cp.w_no h
    rw [w1, w2]
    by_cases hu : 0 ≤ u ∧ u ≤ 1073741824
    · by_cases hp : P.Ok p
      · have hx : ¬ (0 ≤ x ∧ x ≤ 10000) := fun z => h ⟨hu, hp, z⟩
        refine V.Fn.mk_ V.Tok V.mixed Tryz.func143 rfl Tryz.ntmps143 (by kernel_rfl) rfl rfl ?_
        repeat' ((conv => whnf); first | refine V.NCond.mk ?_ | refine V.NPick.l ?_ | refine V.NIf.not_ ?_ | refine V.NIf.dec_ ?_ | refine V.a4 ?_ | refine V.a5 ?_ | refine V.NIf.mk (fun _ => ?_) (fun _ => ?_) | refine V.a7 ?_ | refine V.a8 ?_ | refine V.a9 ?_ | refine V.NBoth.mk ?_ ?_ | refine V.b1 ?_ | refine V.b2 ?_ | refine V.NTF.dec ?_ | refine V.b3 ?_ | refine V.b4 ?_ | (refine V.NDraw.any (by kernel_rfl) ?_) | fail)
        all_goals (conv => whnf)
        all_goals exact V.fin2 ⟨rfl, rfl⟩
      · have vc := (v_cpCost u p hu).2 hp
        refine V.Fn.mk_ V.Tok V.mixed Tryz.func143 rfl Tryz.ntmps143 (by kernel_rfl) rfl rfl ?_
        repeat' ((conv => whnf); first | (refine V.NIf.yes ?_ ?_; · (decide; done)) | (refine V.NIf.no ?_ ?_; · (decide; done)) | refine V.NCond.mk ?_ | refine V.NPick.l ?_ | refine V.NIf.not_ ?_ | refine V.NIf.dec_ ?_ | refine V.a4 ?_ | refine V.a5 ?_ | refine V.NIf.mk (fun _ => ?_) (fun _ => ?_) | refine V.a7 ?_ | refine V.a8 ?_ | refine V.a9 ?_ | refine V.NBoth.mk ?_ ?_ | refine V.b1 ?_ | refine V.b2 ?_ | refine V.NTF.dec ?_ | refine V.b3 ?_ | refine V.b4 ?_ | (first | refine V.Fn.k0 (vc) rfl ?_ | refine V.Fn.q0 (vc) rfl ?_ | refine V.Fn.a0 (vc) rfl ?_) | (refine V.NDraw.any (by kernel_rfl) ?_) | fail)
        all_goals (conv => whnf)
        all_goals exact V.fin2 ⟨rfl, rfl⟩
    · refine V.Fn.mk_ V.Tok V.mixed Tryz.func143 rfl Tryz.ntmps143 (by kernel_rfl) rfl rfl ?_
      repeat' ((conv => whnf); first | refine V.NCond.mk ?_ | refine V.NPick.l ?_ | refine V.NIf.not_ ?_ | refine V.NIf.dec_ ?_ | refine V.a4 ?_ | refine V.a5 ?_ | refine V.NIf.mk (fun _ => ?_) (fun _ => ?_) | refine V.a7 ?_ | refine V.a8 ?_ | refine V.a9 ?_ | refine V.NBoth.mk ?_ ?_ | refine V.b1 ?_ | refine V.b2 ?_ | refine V.NTF.dec ?_ | refine V.b3 ?_ | refine V.b4 ?_ | (refine V.NDraw.any (by kernel_rfl) ?_) | fail)
      all_goals (conv => whnf)
      all_goals exact V.fin2 ⟨rfl, rfl⟩
theorem v_cpMoved (a b c d : Int) (hd : 0 ≤ d ∧ d ≤ 1152921504606846976) : V.FnR Tryz.prog 68 [] [.one (.val (.int .i64 a)), .one (.val (.int .i64 b)), .one (.val (.int .i64 c)), .one (.val (.int .i64 d))] (.one (.ref 0)) [.row 65 3 (Cp.mvd a b c d).length (ga encP (Cp.mvd a b c d))] := by
  refine V.FnR.mk_ V.Tok V.mixed Tryz.func68 rfl Tryz.ntmps68 (by kernel_rfl) rfl rfl rfl rfl ?_
  repeat' ((conv => whnf); first | refine V.NCond.mk ?_ | refine V.NPick.l ?_ | refine V.NIf.not_ ?_ | refine V.NIf.dec_ ?_ | refine V.a4 ?_ | refine V.a5 ?_ | refine V.NIf.mk (fun _ => ?_) (fun _ => ?_) | refine V.a7 ?_ | refine V.a8 ?_ | refine V.a9 ?_ | refine V.NBoth.mk ?_ ?_ | refine V.b1 ?_ | refine V.b2 ?_ | refine V.NTF.dec ?_ | refine V.b3 ?_ | refine V.b4 ?_ | (refine V.NDraw.any (by kernel_rfl) ?_) | fail)
  refine NRet.mk_ [some 1] rfl ?_ ?_
  · exact rfl
  · exact ⟨⟨rfl, rfl, rfl, Nat.succ_pos _, by repeat' (first | exact trivial | refine ⟨?_, ?_⟩ | rfl | exact congrArg (Value.int .i64) (show 0 - d = -d by omega))⟩, trivial⟩
theorem v_cpPay (f : Fl) (p x : Int) : V.FnR Tryz.prog 101 [] [.agg [.val (.int .i64 f.id), .val (.int .i64 f.fr), .val (.int .i64 f.to), .val (.int .i64 f.cl), .val (.int .i64 f.pa), .val (.int .i64 f.day), .val (.int .i64 f.un), .val (.int .i64 f.de), .val (.int .i64 f.bo), .val (.int .i64 f.pd)], .one (.val (.int .i64 p)), .one (.val (.int .i64 x))] (.tup [.agg [.val (.int .i64 (Cp.pF f p x).id), .val (.int .i64 (Cp.pF f p x).fr), .val (.int .i64 (Cp.pF f p x).to), .val (.int .i64 (Cp.pF f p x).cl), .val (.int .i64 (Cp.pF f p x).pa), .val (.int .i64 (Cp.pF f p x).day), .val (.int .i64 (Cp.pF f p x).un), .val (.int .i64 (Cp.pF f p x).de), .val (.int .i64 (Cp.pF f p x).bo), .val (.int .i64 (Cp.pF f p x).pd)], .one (.ref 0), .one (.val (.int .i64 (Cp.pE f p x)))]) [.row 65 3 (Cp.pL f p x).length (ga encP (Cp.pL f p x))] := by
  have c1 := v_pay f
  by_cases h : F.less f 1 = 0
  · obtain ⟨e1, e2⟩ := F.pay_yes h
    rw [e1, e2, h] at c1
    have c2 := v_worth (F.left f) p x
    by_cases w : Cp.wE (F.left f) p x = 0
    · obtain ⟨p1, p2, p3⟩ := Cp.p_3 h w
      have bd := @Cp.w_bd (F.left f) p x
      rw [p1, p2]
      rw [w] at c2
      rw [← p3] at c2 bd
      by_cases z : Cp.pN f p x = 0
      · rw [Cp.pL_0 z]
        rw [z] at c2
        refine V.FnR.mk_ V.Tok V.mixed Tryz.func101 rfl Tryz.ntmps101 (by kernel_rfl) rfl rfl rfl rfl ?_
        repeat' ((conv => whnf); first | (refine V.NIf.yes ?_ ?_; · (decide; done)) | (refine V.NIf.no ?_ ?_; · (decide; done)) | refine V.NCond.mk ?_ | refine V.NPick.l ?_ | refine V.NIf.not_ ?_ | refine V.NIf.dec_ ?_ | refine V.a4 ?_ | refine V.a5 ?_ | refine V.NIf.mk (fun _ => ?_) (fun _ => ?_) | refine V.a7 ?_ | refine V.a8 ?_ | refine V.a9 ?_ | refine V.NBoth.mk ?_ ?_ | refine V.b1 ?_ | refine V.b2 ?_ | refine V.NTF.dec ?_ | refine V.b3 ?_ | refine V.b4 ?_ | (first | refine V.Fn.k0 (c1) rfl ?_ | refine V.Fn.q0 (c1) rfl ?_ | refine V.Fn.a0 (c1) rfl ?_) | (first | refine V.Fn.k0 (c2) rfl ?_ | refine V.Fn.q0 (c2) rfl ?_ | refine V.Fn.a0 (c2) rfl ?_) | (refine V.NDraw.any (by kernel_rfl) ?_) | fail)
        all_goals (conv => whnf)
        all_goals (first | exact V.er 0 | exact V.er 1 | exact V.er 2 | exact V.er 3 | exact V.er 4 | exact V.er 5 | exact V.er 6 | exact V.er 7 | exact V.er 8 | exact V.er 9 | exact V.er 10 | exact V.er 11 | exact V.er 12 | exact V.er 13 | exact V.er 14 | exact V.er 15 | exact V.er 16 | exact V.er 17)
      · rw [Cp.pL_1 z]
        have c3 := v_cpMoved f.fr f.to 0 (Cp.pN f p x) (by omega)
        generalize Cp.mvd f.fr f.to 0 (Cp.pN f p x) = L at *
        generalize Cp.pN f p x = n at *
        refine V.FnR.mk_ V.Tok V.mixed Tryz.func101 rfl Tryz.ntmps101 (by kernel_rfl) rfl rfl rfl rfl ?_
        repeat' ((conv => whnf); first | (refine V.NIf.yes ?_ ?_; · (decide; done)) | (refine V.NIf.no ?_ ?_; · (decide; done)) | refine V.NCond.mk ?_ | refine V.NPick.l ?_ | refine V.NIf.not_ ?_ | refine V.NIf.dec_ ?_ | refine V.a4 ?_ | refine V.a5 ?_ | refine V.NIf.mk (fun _ => ?_) (fun _ => ?_) | refine V.a7 ?_ | refine V.a8 ?_ | refine V.a9 ?_ | refine V.NBoth.mk ?_ ?_ | refine V.b1 ?_ | refine V.b2 ?_ | refine V.NTF.dec ?_ | refine V.b3 ?_ | refine V.b4 ?_ | (first | refine V.Fn.k0 (c1) rfl ?_ | refine V.Fn.q0 (c1) rfl ?_ | refine V.Fn.a0 (c1) rfl ?_) | (first | refine V.Fn.k0 (c2) rfl ?_ | refine V.Fn.q0 (c2) rfl ?_ | refine V.Fn.a0 (c2) rfl ?_) | (first | refine V.FnR.k0 (c3) rfl ?_ | refine V.FnR.a0 (c3) rfl ?_) | (refine V.NDraw.any (by kernel_rfl) ?_) | fail)
        all_goals (conv => whnf)
        all_goals (first | (refine NRet.mk_ [some 0] rfl ?_ ?_; (· ((repeat' (first | exact rfl | exact trivial | refine ⟨?_, ?_⟩)); done)); (· (exact ⟨⟨rfl, rfl, rfl, fun _ _ => rfl⟩, trivial⟩; done))) | (refine NRet.mk_ [some 1] rfl ?_ ?_; (· ((repeat' (first | exact rfl | exact trivial | refine ⟨?_, ?_⟩)); done)); (· (exact ⟨⟨rfl, rfl, rfl, fun _ _ => rfl⟩, trivial⟩; done))) | (refine NRet.mk_ [some 2] rfl ?_ ?_; (· ((repeat' (first | exact rfl | exact trivial | refine ⟨?_, ?_⟩)); done)); (· (exact ⟨⟨rfl, rfl, rfl, fun _ _ => rfl⟩, trivial⟩; done))) | (refine NRet.mk_ [some 3] rfl ?_ ?_; (· ((repeat' (first | exact rfl | exact trivial | refine ⟨?_, ?_⟩)); done)); (· (exact ⟨⟨rfl, rfl, rfl, fun _ _ => rfl⟩, trivial⟩; done))) | (refine NRet.mk_ [some 4] rfl ?_ ?_; (· ((repeat' (first | exact rfl | exact trivial | refine ⟨?_, ?_⟩)); done)); (· (exact ⟨⟨rfl, rfl, rfl, fun _ _ => rfl⟩, trivial⟩; done))) | (refine NRet.mk_ [some 5] rfl ?_ ?_; (· ((repeat' (first | exact rfl | exact trivial | refine ⟨?_, ?_⟩)); done)); (· (exact ⟨⟨rfl, rfl, rfl, fun _ _ => rfl⟩, trivial⟩; done))) | (refine NRet.mk_ [some 6] rfl ?_ ?_; (· ((repeat' (first | exact rfl | exact trivial | refine ⟨?_, ?_⟩)); done)); (· (exact ⟨⟨rfl, rfl, rfl, fun _ _ => rfl⟩, trivial⟩; done))) | (refine NRet.mk_ [some 7] rfl ?_ ?_; (· ((repeat' (first | exact rfl | exact trivial | refine ⟨?_, ?_⟩)); done)); (· (exact ⟨⟨rfl, rfl, rfl, fun _ _ => rfl⟩, trivial⟩; done))) | (refine NRet.mk_ [some 8] rfl ?_ ?_; (· ((repeat' (first | exact rfl | exact trivial | refine ⟨?_, ?_⟩)); done)); (· (exact ⟨⟨rfl, rfl, rfl, fun _ _ => rfl⟩, trivial⟩; done))) | (refine NRet.mk_ [some 9] rfl ?_ ?_; (· ((repeat' (first | exact rfl | exact trivial | refine ⟨?_, ?_⟩)); done)); (· (exact ⟨⟨rfl, rfl, rfl, fun _ _ => rfl⟩, trivial⟩; done))) | (refine NRet.mk_ [some 10] rfl ?_ ?_; (· ((repeat' (first | exact rfl | exact trivial | refine ⟨?_, ?_⟩)); done)); (· (exact ⟨⟨rfl, rfl, rfl, fun _ _ => rfl⟩, trivial⟩; done))) | (refine NRet.mk_ [some 11] rfl ?_ ?_; (· ((repeat' (first | exact rfl | exact trivial | refine ⟨?_, ?_⟩)); done)); (· (exact ⟨⟨rfl, rfl, rfl, fun _ _ => rfl⟩, trivial⟩; done))) | (refine NRet.mk_ [some 12] rfl ?_ ?_; (· ((repeat' (first | exact rfl | exact trivial | refine ⟨?_, ?_⟩)); done)); (· (exact ⟨⟨rfl, rfl, rfl, fun _ _ => rfl⟩, trivial⟩; done))) | (refine NRet.mk_ [some 13] rfl ?_ ?_; (· ((repeat' (first | exact rfl | exact trivial | refine ⟨?_, ?_⟩)); done)); (· (exact ⟨⟨rfl, rfl, rfl, fun _ _ => rfl⟩, trivial⟩; done))) | (refine NRet.mk_ [some 14] rfl ?_ ?_; (· ((repeat' (first | exact rfl | exact trivial | refine ⟨?_, ?_⟩)); done)); (· (exact ⟨⟨rfl, rfl, rfl, fun _ _ => rfl⟩, trivial⟩; done))) | (refine NRet.mk_ [some 15] rfl ?_ ?_; (· ((repeat' (first | exact rfl | exact trivial | refine ⟨?_, ?_⟩)); done)); (· (exact ⟨⟨rfl, rfl, rfl, fun _ _ => rfl⟩, trivial⟩; done))) | (refine NRet.mk_ [some 16] rfl ?_ ?_; (· ((repeat' (first | exact rfl | exact trivial | refine ⟨?_, ?_⟩)); done)); (· (exact ⟨⟨rfl, rfl, rfl, fun _ _ => rfl⟩, trivial⟩; done))) | (refine NRet.mk_ [some 17] rfl ?_ ?_; (· ((repeat' (first | exact rfl | exact trivial | refine ⟨?_, ?_⟩)); done)); (· (exact ⟨⟨rfl, rfl, rfl, fun _ _ => rfl⟩, trivial⟩; done))))
    · obtain ⟨p1, p2, p3⟩ := Cp.p_2 h w
      rw [p1, p2, p3]
      generalize Cp.wE (F.left f) p x = e at *
      refine V.FnR.mk_ V.Tok V.mixed Tryz.func101 rfl Tryz.ntmps101 (by kernel_rfl) rfl rfl rfl rfl ?_
      repeat' ((conv => whnf); first | (refine V.NIf.yes ?_ ?_; · (decide; done)) | (refine V.NIf.no ?_ ?_; · (decide; done)) | refine V.NCond.mk ?_ | refine V.NPick.l ?_ | refine V.NIf.not_ ?_ | refine V.NIf.dec_ ?_ | refine V.a4 ?_ | refine V.a5 ?_ | refine V.NIf.mk (fun _ => ?_) (fun _ => ?_) | refine V.a7 ?_ | refine V.a8 ?_ | refine V.a9 ?_ | refine V.NBoth.mk ?_ ?_ | refine V.b1 ?_ | refine V.b2 ?_ | refine V.NTF.dec ?_ | refine V.b3 ?_ | refine V.b4 ?_ | (first | refine V.Fn.k0 (c1) rfl ?_ | refine V.Fn.q0 (c1) rfl ?_ | refine V.Fn.a0 (c1) rfl ?_) | (first | refine V.Fn.k0 (c2) rfl ?_ | refine V.Fn.q0 (c2) rfl ?_ | refine V.Fn.a0 (c2) rfl ?_) | (refine V.NDraw.any (by kernel_rfl) ?_) | fail)
      all_goals (conv => whnf)
      all_goals (first | exact V.er 0 | exact V.er 1 | exact V.er 2 | exact V.er 3 | exact V.er 4 | exact V.er 5 | exact V.er 6 | exact V.er 7 | exact V.er 8 | exact V.er 9 | exact V.er 10 | exact V.er 11 | exact V.er 12 | exact V.er 13 | exact V.er 14 | exact V.er 15 | exact V.er 16 | exact V.er 17)
  · obtain ⟨p1, p2, p3⟩ := Cp.p_1 (p := p) (x := x) h
    rw [p1, p2, p3]
    generalize F.less f 1 = e at *
    refine V.FnR.mk_ V.Tok V.mixed Tryz.func101 rfl Tryz.ntmps101 (by kernel_rfl) rfl rfl rfl rfl ?_
    repeat' ((conv => whnf); first | (refine V.NIf.yes ?_ ?_; · (decide; done)) | (refine V.NIf.no ?_ ?_; · (decide; done)) | refine V.NCond.mk ?_ | refine V.NPick.l ?_ | refine V.NIf.not_ ?_ | refine V.NIf.dec_ ?_ | refine V.a4 ?_ | refine V.a5 ?_ | refine V.NIf.mk (fun _ => ?_) (fun _ => ?_) | refine V.a7 ?_ | refine V.a8 ?_ | refine V.a9 ?_ | refine V.NBoth.mk ?_ ?_ | refine V.b1 ?_ | refine V.b2 ?_ | refine V.NTF.dec ?_ | refine V.b3 ?_ | refine V.b4 ?_ | (first | refine V.Fn.k0 (c1) rfl ?_ | refine V.Fn.q0 (c1) rfl ?_ | refine V.Fn.a0 (c1) rfl ?_) | (refine V.NDraw.any (by kernel_rfl) ?_) | fail)
    all_goals (conv => whnf)
    all_goals (first | exact V.er 0 | exact V.er 1 | exact V.er 2 | exact V.er 3 | exact V.er 4 | exact V.er 5 | exact V.er 6 | exact V.er 7 | exact V.er 8 | exact V.er 9 | exact V.er 10 | exact V.er 11 | exact V.er 12 | exact V.er 13 | exact V.er 14 | exact V.er 15 | exact V.er 16 | exact V.er 17)
end Go.Proofs.YtpanlcnoopmchaaGreat

namespace Go.Proofs.YtpanlcnoopmchaaGreat
open Go Go.RowKit V
theorem v_cloneF (l : List Fl) (hn : l.length ≤ 1759218604390) : V.FnR Tryz.prog 94 [.arr 10 l.length (ga encF l)] [.one (.ref 0)] (.one (.ref 1)) [.row 42 10 l.length (ga encF l)] := by
  refine V.FnR.mk_ V.Tok V.mixed Tryz.func94 rfl Tryz.ntmps94 (by kernel_rfl) rfl rfl rfl rfl ?_
  repeat' ((conv => whnf); first | refine V.NCond.mk ?_ | refine V.NPick.l ?_ | refine V.NIf.not_ ?_ | refine V.NIf.dec_ ?_ | refine V.a4 ?_ | refine V.a5 ?_ | refine V.NIf.mk (fun _ => ?_) (fun _ => ?_) | refine V.a7 ?_ | refine V.a8 ?_ | refine V.a9 ?_ | refine V.NBoth.mk ?_ ?_ | refine V.b1 ?_ | refine V.b2 ?_ | refine V.NTF.dec ?_ | refine V.b3 ?_ | refine V.b4 ?_ | (refine NNil.mk ?_; intro p hp) | (refine NOne.mk ?_ ?_; · (intro k hk; rfl)) | (refine NApp.all_ (by first | omega | (simp; omega)) (by omega) ?_) | (refine V.NDraw.any (by kernel_rfl) ?_) | fail)
  all_goals (conv => whnf)
  · refine NRet.mk_ [some 2] rfl ?_ ?_
    · exact rfl
    · exact ⟨⟨rfl, rfl, (hp (by assumption)).symm, fun k hk => absurd hk (Nat.not_lt_zero _)⟩, trivial⟩
  · refine NRet.mk_ [some 3] rfl ?_ ?_
    · exact rfl
    · exact ⟨⟨rfl, rfl, rfl, fun _ _ => rfl⟩, trivial⟩
end Go.Proofs.YtpanlcnoopmchaaGreat

namespace Go.Proofs.YtpanlcnoopmchaaGreat
open Go Go.RowKit V
set_option maxHeartbeats 4000000 in
theorem v_cyAdd (w : Wd) (f : Fl) (hb : w.bk.length ≤ 9223372036854775807) : V.FnR Tryz.prog 21 [.arr 10 w.fs.length (ga encF w.fs), .arr 3 w.bk.length (ga encP w.bk)] [.agg [.val (.int .i64 w.td), .ref 0, .ref 1], .agg [.val (.int .i64 f.id), .val (.int .i64 f.fr), .val (.int .i64 f.to), .val (.int .i64 f.cl), .val (.int .i64 f.pa), .val (.int .i64 f.day), .val (.int .i64 f.un), .val (.int .i64 f.de), .val (.int .i64 f.bo), .val (.int .i64 f.pd)]] (.tup [.agg [.val (.int .i64 (Cy.adW w f).td), .ref 2, .ref 3], .one (.val (.int .i64 (Cy.adE w f)))]) [.row 42 10 (Cy.adW w f).fs.length (ga encF (Cy.adW w f).fs), .row 65 3 (Cy.adW w f).bk.length (ga encP (Cy.adW w f).bk)] := by
  by_cases hw : Cy.wE w = 0
  · obtain ⟨n60, n400⟩ := Cy.wE_len hw
    have cc := v_cyCheck w hb
    rw [hw] at cc
    by_cases hf : Cy.Fresh w f
    · have e := Cy.ad_3 hw hf
      by_cases hk : F.checks (w.fs ++ [f]) = 0
      · rw [hk] at e
        rw [Cy.adW_yes e, e]
        unfold Cy.Fresh at hf
        have ck := v_fchecks (w.fs ++ [f])
        rw [hk] at ck
        refine V.FnR.mk_ V.Tok V.mixed Tryz.func21 rfl Tryz.ntmps21 (by kernel_rfl) rfl rfl rfl rfl ?_
        repeat' ((conv => whnf); first | (refine V.NIf.yes ?_ ?_; · (decide; done)) | (refine V.NIf.no ?_ ?_; · (decide; done)) | refine V.NCond.mk ?_ | refine V.NPick.l ?_ | refine V.NIf.not_ ?_ | refine V.NIf.dec_ ?_ | refine V.a4 ?_ | refine V.a5 ?_ | refine V.NIf.mk (fun _ => ?_) (fun _ => ?_) | refine V.a7 ?_ | refine V.a8 ?_ | refine V.a9 ?_ | refine V.NBoth.mk ?_ ?_ | refine V.b1 ?_ | refine V.b2 ?_ | refine V.NTF.dec ?_ | refine V.b3 ?_ | refine V.b4 ?_ | ((first | refine V.Fn.k (cc) [0, 1] rfl ?_ ?_ | refine V.Fn.q (cc) [0, 1] rfl ?_ ?_ | refine V.Fn.a (cc) [0, 1] rfl ?_ ?_); · exact V.D_) | (refine V.NCall.inl (f := 37) V.Tok V.mixed Tryz.func37 rfl Tryz.ntmps37 (by kernel_rfl) rfl ?_) | ((first | refine V.FnR.k_ (v_cloneF w.fs (by omega)) [0] rfl ?_ ?_ | refine V.FnR.a_ (v_cloneF w.fs (by omega)) [0] rfl ?_ ?_); · exact V.D_) | ((first | refine V.FnR.k_ (v_cloneP w.bk (by omega)) [1] rfl ?_ ?_ | refine V.FnR.a_ (v_cloneP w.bk (by omega)) [1] rfl ?_ ?_); · exact V.D_) | ((first | refine V.Fn.k (ck) [11] rfl ?_ ?_ | refine V.Fn.q (ck) [11] rfl ?_ ?_ | refine V.Fn.a (ck) [11] rfl ?_ ?_); · exact V.D_) | (refine V.NDraw.any (by kernel_rfl) ?_) | fail)
        all_goals (conv => whnf)
        all_goals first
          | exact V.er2 11 8
          | (exfalso; omega)
          | trace_state
      · have ck := v_fchecks (w.fs ++ [f])
        rw [Cy.adW_no (by rw [e]; exact hk), e]
        unfold Cy.Fresh at hf
        refine V.FnR.mk_ V.Tok V.mixed Tryz.func21 rfl Tryz.ntmps21 (by kernel_rfl) rfl rfl rfl rfl ?_
        repeat' ((conv => whnf); first | (refine V.NIf.yes ?_ ?_; · (decide; done)) | (refine V.NIf.no ?_ ?_; · (decide; done)) | refine V.NCond.mk ?_ | refine V.NPick.l ?_ | refine V.NIf.not_ ?_ | refine V.NIf.dec_ ?_ | refine V.a4 ?_ | refine V.a5 ?_ | refine V.NIf.mk (fun _ => ?_) (fun _ => ?_) | refine V.a7 ?_ | refine V.a8 ?_ | refine V.a9 ?_ | refine V.NBoth.mk ?_ ?_ | refine V.b1 ?_ | refine V.b2 ?_ | refine V.NTF.dec ?_ | refine V.b3 ?_ | refine V.b4 ?_ | ((first | refine V.Fn.k (cc) [0, 1] rfl ?_ ?_ | refine V.Fn.q (cc) [0, 1] rfl ?_ ?_ | refine V.Fn.a (cc) [0, 1] rfl ?_ ?_); · exact V.D_) | (refine V.NCall.inl (f := 37) V.Tok V.mixed Tryz.func37 rfl Tryz.ntmps37 (by kernel_rfl) rfl ?_) | ((first | refine V.FnR.k_ (v_cloneF w.fs (by omega)) [0] rfl ?_ ?_ | refine V.FnR.a_ (v_cloneF w.fs (by omega)) [0] rfl ?_ ?_); · exact V.D_) | ((first | refine V.FnR.k_ (v_cloneP w.bk (by omega)) [1] rfl ?_ ?_ | refine V.FnR.a_ (v_cloneP w.bk (by omega)) [1] rfl ?_ ?_); · exact V.D_) | ((first | refine V.Fn.k (ck) [11] rfl ?_ ?_ | refine V.Fn.q (ck) [11] rfl ?_ ?_ | refine V.Fn.a (ck) [11] rfl ?_ ?_); · exact V.D_) | (refine V.NDraw.any (by kernel_rfl) ?_) | fail)
        all_goals (conv => whnf)
        all_goals first
          | exact V.er00
          | (exfalso; omega)
          | trace_state
    · have e := Cy.ad_2 hw hf
      rw [Cy.adW_no (by rw [e]; decide), e]
      unfold Cy.Fresh at hf
      refine V.FnR.mk_ V.Tok V.mixed Tryz.func21 rfl Tryz.ntmps21 (by kernel_rfl) rfl rfl rfl rfl ?_
      repeat' ((conv => whnf); first | (refine V.NIf.yes ?_ ?_; · (decide; done)) | (refine V.NIf.no ?_ ?_; · (decide; done)) | refine V.NCond.mk ?_ | refine V.NPick.l ?_ | refine V.NIf.not_ ?_ | refine V.NIf.dec_ ?_ | refine V.a4 ?_ | refine V.a5 ?_ | refine V.NIf.mk (fun _ => ?_) (fun _ => ?_) | refine V.a7 ?_ | refine V.a8 ?_ | refine V.a9 ?_ | refine V.NBoth.mk ?_ ?_ | refine V.b1 ?_ | refine V.b2 ?_ | refine V.NTF.dec ?_ | refine V.b3 ?_ | refine V.b4 ?_ | ((first | refine V.Fn.k (cc) [0, 1] rfl ?_ ?_ | refine V.Fn.q (cc) [0, 1] rfl ?_ ?_ | refine V.Fn.a (cc) [0, 1] rfl ?_ ?_); · exact V.D_) | (refine V.NCall.inl (f := 37) V.Tok V.mixed Tryz.func37 rfl Tryz.ntmps37 (by kernel_rfl) rfl ?_) | ((first | refine V.FnR.k_ (v_cloneF w.fs (by omega)) [0] rfl ?_ ?_ | refine V.FnR.a_ (v_cloneF w.fs (by omega)) [0] rfl ?_ ?_); · exact V.D_) | ((first | refine V.FnR.k_ (v_cloneP w.bk (by omega)) [1] rfl ?_ ?_ | refine V.FnR.a_ (v_cloneP w.bk (by omega)) [1] rfl ?_ ?_); · exact V.D_) | (refine V.NDraw.any (by kernel_rfl) ?_) | fail)
      all_goals (conv => whnf)
      all_goals first
        | exact V.er00
        | (exfalso; omega)
        | trace_state
  · have cc := v_cyCheck w hb
    have e := Cy.ad_1 (f := f) hw
    rw [Cy.adW_no (by rw [e]; exact hw), e]
    refine V.FnR.mk_ V.Tok V.mixed Tryz.func21 rfl Tryz.ntmps21 (by kernel_rfl) rfl rfl rfl rfl ?_
    repeat' ((conv => whnf); first | (refine V.NIf.yes ?_ ?_; · (decide; done)) | (refine V.NIf.no ?_ ?_; · (decide; done)) | refine V.NCond.mk ?_ | refine V.NPick.l ?_ | refine V.NIf.not_ ?_ | refine V.NIf.dec_ ?_ | refine V.a4 ?_ | refine V.a5 ?_ | refine V.NIf.mk (fun _ => ?_) (fun _ => ?_) | refine V.a7 ?_ | refine V.a8 ?_ | refine V.a9 ?_ | refine V.NBoth.mk ?_ ?_ | refine V.b1 ?_ | refine V.b2 ?_ | refine V.NTF.dec ?_ | refine V.b3 ?_ | refine V.b4 ?_ | ((first | refine V.Fn.k (cc) [0, 1] rfl ?_ ?_ | refine V.Fn.q (cc) [0, 1] rfl ?_ ?_ | refine V.Fn.a (cc) [0, 1] rfl ?_ ?_); · exact V.D_) | (refine V.NDraw.any (by kernel_rfl) ?_) | fail)
    all_goals (conv => whnf)
    all_goals first
      | exact V.er00
      | trace_state
end Go.Proofs.YtpanlcnoopmchaaGreat

namespace Go.Proofs.YtpanlcnoopmchaaGreat
open Go Go.RowKit V
set_option maxHeartbeats 4000000 in
theorem v_cyDeliver (w : Wd) (id u : Int) (hb : w.bk.length ≤ 9223372036854775807) : V.FnR Tryz.prog 20 [.arr 10 w.fs.length (ga encF w.fs), .arr 3 w.bk.length (ga encP w.bk)] [.agg [.val (.int .i64 w.td), .ref 0, .ref 1], .one (.val (.int .i64 id)), .one (.val (.int .i64 u))] (.tup [.agg [.val (.int .i64 (Cy.dvW w id u).td), .ref 2, .ref 3], .one (.val (.int .i64 (Cy.dvE w id u)))]) [.row 42 10 (Cy.dvW w id u).fs.length (ga encF (Cy.dvW w id u).fs), .row 65 3 (Cy.dvW w id u).bk.length (ga encP (Cy.dvW w id u).bk)] := by
  have cc := v_cyCheck w hb
  by_cases hw : Cy.wE w = 0
  · obtain ⟨n60, n400⟩ := Cy.wE_len hw
    rw [hw] at cc
    have cf := v_ffind w.fs id
    by_cases hf : F.fndE id w.fs = 0
    · obtain ⟨i0, i1, hk⟩ := Cy.fnd_ok hf
      have ix := F.idx_lt id w.fs 0
      rw [hf, i1] at cf
      have cd := v_deliver (Cy.fl w id) u
      have ei : F.idx id w.fs 0 = (Cy.at_ w id : Int) := by unfold Cy.at_; omega
      have hlt : Cy.at_ w id < w.fs.length := by omega
      have e1 : w.fs.getD (Cy.at_ w id) default = Cy.fl w id := rfl
      rw [ei] at cf
      by_cases hl : F.less (Cy.fl w id) u = 0
      · obtain ⟨o, l1, l2, l3⟩ := F.less_ok hl
        have e := Cy.dv_4 hw hf hl
        have cm := v_cpMoved (Cy.fl w id).fr (Cy.fl w id).to (Cy.fl w id).pa u (by omega)
        have cp := v_bkPost w.bk (Cp.mvd (Cy.fl w id).fr (Cy.fl w id).to (Cy.fl w id).pa u) (by omega) (Nat.le_trans (show _ ≤ 2 from Nat.le_refl _) (by decide))
        rw [hl, F.deliver_yes hl] at cd
        have m2 : (Cp.mvd (Cy.fl w id).fr (Cy.fl w id).to (Cy.fl w id).pa u).length = 2 := rfl
        by_cases hp : Bk.pE w.bk (Cp.mvd (Cy.fl w id).fr (Cy.fl w id).to (Cy.fl w id).pa u) = 0
        · rw [hp] at e cp
          rw [Cy.dvW_yes e, e]
          have pl : (Bk.pL w.bk (Cp.mvd (Cy.fl w id).fr (Cy.fl w id).to (Cy.fl w id).pa u)).length ≤ 400 := (Bk.po_lines (Bk.pE_0.1 hp)).le
          have sl : (w.fs.set (Cy.at_ w id) (F.addDe (Cy.fl w id) u)).length = w.fs.length := List.length_set
          clear hw hf hl hp e hk o
          generalize Bk.pL w.bk (Cp.mvd (Cy.fl w id).fr (Cy.fl w id).to (Cy.fl w id).pa u) = PL at *
          generalize Cp.mvd (Cy.fl w id).fr (Cy.fl w id).to (Cy.fl w id).pa u = ML at *
          generalize Cy.at_ w id = k at *
          rw [← e1] at cm cd sl ⊢
          refine V.FnR.mk_ V.Tok V.mixed Tryz.func20 rfl Tryz.ntmps20 (by kernel_rfl) rfl rfl rfl rfl ?_
          repeat' ((conv => whnf); first | (refine V.NIf.yes ?_ ?_; · (decide; done)) | (refine V.NIf.no ?_ ?_; · (decide; done)) | refine V.NCond.mk ?_ | refine V.NPick.l ?_ | refine V.NIf.not_ ?_ | refine V.NIf.dec_ ?_ | refine V.a4 ?_ | refine V.a5 ?_ | refine V.NIf.mk (fun _ => ?_) (fun _ => ?_) | refine V.a7 ?_ | refine V.a8 ?_ | refine V.a9 ?_ | refine V.NBoth.mk ?_ ?_ | refine V.b1 ?_ | refine V.b2 ?_ | refine V.NTF.dec ?_ | refine V.b3 ?_ | refine V.b4 ?_ | ((first | refine V.Fn.k (cc) [0, 1] rfl ?_ ?_ | refine V.Fn.q (cc) [0, 1] rfl ?_ ?_ | refine V.Fn.a (cc) [0, 1] rfl ?_ ?_); · exact V.D_) | ((first | refine V.Fn.k (cf) [0] rfl ?_ ?_ | refine V.Fn.q (cf) [0] rfl ?_ ?_ | refine V.Fn.a (cf) [0] rfl ?_ ?_); · exact V.D_) | (first | refine V.Fn.k0 (cd) rfl ?_ | refine V.Fn.q0 (cd) rfl ?_ | refine V.Fn.a0 (cd) rfl ?_) | (refine NIdx.mk ⟨k, rfl, by omega, ?_⟩) | (refine V.NCall.inl (f := 37) V.Tok V.mixed Tryz.func37 rfl Tryz.ntmps37 (by kernel_rfl) rfl ?_) | ((first | refine V.FnR.k_ (v_cloneF w.fs (by omega)) [0] rfl ?_ ?_ | refine V.FnR.a_ (v_cloneF w.fs (by omega)) [0] rfl ?_ ?_); · exact V.D_) | ((first | refine V.FnR.k_ (v_cloneP w.bk (by omega)) [1] rfl ?_ ?_ | refine V.FnR.a_ (v_cloneP w.bk (by omega)) [1] rfl ?_ ?_); · exact V.D_) | (refine NPut.to (en := encF) (F.addDe (w.fs.getD k default) u) rfl rfl ?_) | (first | refine V.FnR.k0 (cm) rfl ?_ | refine V.FnR.a0 (cm) rfl ?_) | (refine V.NCall.inl (f := 67) V.Tok V.mixed Tryz.func67 rfl Tryz.ntmps67 (by kernel_rfl) rfl ?_) | (refine V.NCall.inl (f := 38) V.Tok V.mixed Tryz.func38 rfl Tryz.ntmps38 (by kernel_rfl) rfl ?_) | (refine V.NCall.inl (f := 44) V.Tok V.mixed Tryz.func44 rfl Tryz.ntmps44 (by kernel_rfl) rfl ?_) | ((first | refine V.FnR.k_ (cp) [8, 10] rfl ?_ ?_ | refine V.FnR.a_ (cp) [8, 10] rfl ?_ ?_); · exact V.D_) | (refine NOne.mk ?_ ?_; · (intro k hk; rfl)) | (refine NApp.all_ (by first | omega | (simp; omega)) (by omega) ?_) | (refine V.NDraw.any (by kernel_rfl) ?_) | fail)
          all_goals (conv => whnf)
          all_goals first
            | exact V.er2 7 11 (h2 := ⟨⟨rfl, rfl, sl.symm, fun _ _ => rfl⟩, ⟨rfl, rfl, rfl, fun _ _ => rfl⟩, trivial⟩)
            | (exfalso; omega)
            | trace_state
        · rw [Cy.dvW_no (by rw [e]; exact hp), e]
          have z : Bk.pL w.bk (Cp.mvd (Cy.fl w id).fr (Cy.fl w id).to (Cy.fl w id).pa u) = [] := if_neg hp
          rw [z] at cp
          clear hw hf hl e hk o z
          generalize Bk.pE w.bk (Cp.mvd (Cy.fl w id).fr (Cy.fl w id).to (Cy.fl w id).pa u) = PE at *
          generalize Cp.mvd (Cy.fl w id).fr (Cy.fl w id).to (Cy.fl w id).pa u = ML at *
          generalize Cy.at_ w id = k at *
          rw [← e1] at cm cd
          refine V.FnR.mk_ V.Tok V.mixed Tryz.func20 rfl Tryz.ntmps20 (by kernel_rfl) rfl rfl rfl rfl ?_
          repeat' ((conv => whnf); first | (refine V.NIf.yes ?_ ?_; · (decide; done)) | (refine V.NIf.no ?_ ?_; · (decide; done)) | refine V.NCond.mk ?_ | refine V.NPick.l ?_ | refine V.NIf.not_ ?_ | refine V.NIf.dec_ ?_ | refine V.a4 ?_ | refine V.a5 ?_ | refine V.NIf.mk (fun _ => ?_) (fun _ => ?_) | refine V.a7 ?_ | refine V.a8 ?_ | refine V.a9 ?_ | refine V.NBoth.mk ?_ ?_ | refine V.b1 ?_ | refine V.b2 ?_ | refine V.NTF.dec ?_ | refine V.b3 ?_ | refine V.b4 ?_ | ((first | refine V.Fn.k (cc) [0, 1] rfl ?_ ?_ | refine V.Fn.q (cc) [0, 1] rfl ?_ ?_ | refine V.Fn.a (cc) [0, 1] rfl ?_ ?_); · exact V.D_) | ((first | refine V.Fn.k (cf) [0] rfl ?_ ?_ | refine V.Fn.q (cf) [0] rfl ?_ ?_ | refine V.Fn.a (cf) [0] rfl ?_ ?_); · exact V.D_) | (first | refine V.Fn.k0 (cd) rfl ?_ | refine V.Fn.q0 (cd) rfl ?_ | refine V.Fn.a0 (cd) rfl ?_) | (refine NIdx.mk ⟨k, rfl, by omega, ?_⟩) | (refine V.NCall.inl (f := 37) V.Tok V.mixed Tryz.func37 rfl Tryz.ntmps37 (by kernel_rfl) rfl ?_) | ((first | refine V.FnR.k_ (v_cloneF w.fs (by omega)) [0] rfl ?_ ?_ | refine V.FnR.a_ (v_cloneF w.fs (by omega)) [0] rfl ?_ ?_); · exact V.D_) | ((first | refine V.FnR.k_ (v_cloneP w.bk (by omega)) [1] rfl ?_ ?_ | refine V.FnR.a_ (v_cloneP w.bk (by omega)) [1] rfl ?_ ?_); · exact V.D_) | (refine NPut.to (en := encF) (F.addDe (w.fs.getD k default) u) rfl rfl ?_) | (first | refine V.FnR.k0 (cm) rfl ?_ | refine V.FnR.a0 (cm) rfl ?_) | (refine V.NCall.inl (f := 67) V.Tok V.mixed Tryz.func67 rfl Tryz.ntmps67 (by kernel_rfl) rfl ?_) | (refine V.NCall.inl (f := 38) V.Tok V.mixed Tryz.func38 rfl Tryz.ntmps38 (by kernel_rfl) rfl ?_) | (refine V.NCall.inl (f := 44) V.Tok V.mixed Tryz.func44 rfl Tryz.ntmps44 (by kernel_rfl) rfl ?_) | ((first | refine V.FnR.k_ (cp) [8, 10] rfl ?_ ?_ | refine V.FnR.a_ (cp) [8, 10] rfl ?_ ?_); · exact V.D_) | (refine V.NDraw.any (by kernel_rfl) ?_) | fail)
          all_goals (conv => whnf)
          all_goals first
            | exact V.er00
            | (exfalso; omega)
            | trace_state
      · have e := Cy.dv_3 hw hf hl
        rw [Cy.dvW_no (by rw [e]; exact hl), e]
        clear hw hf e hk
        generalize F.less (Cy.fl w id) u = LE at *
        generalize F.deliver (Cy.fl w id) u = DF at *
        generalize Cy.at_ w id = k at *
        rw [← e1] at cd
        refine V.FnR.mk_ V.Tok V.mixed Tryz.func20 rfl Tryz.ntmps20 (by kernel_rfl) rfl rfl rfl rfl ?_
        repeat' ((conv => whnf); first | (refine V.NIf.yes ?_ ?_; · (decide; done)) | (refine V.NIf.no ?_ ?_; · (decide; done)) | refine V.NCond.mk ?_ | refine V.NPick.l ?_ | refine V.NIf.not_ ?_ | refine V.NIf.dec_ ?_ | refine V.a4 ?_ | refine V.a5 ?_ | refine V.NIf.mk (fun _ => ?_) (fun _ => ?_) | refine V.a7 ?_ | refine V.a8 ?_ | refine V.a9 ?_ | refine V.NBoth.mk ?_ ?_ | refine V.b1 ?_ | refine V.b2 ?_ | refine V.NTF.dec ?_ | refine V.b3 ?_ | refine V.b4 ?_ | ((first | refine V.Fn.k (cc) [0, 1] rfl ?_ ?_ | refine V.Fn.q (cc) [0, 1] rfl ?_ ?_ | refine V.Fn.a (cc) [0, 1] rfl ?_ ?_); · exact V.D_) | ((first | refine V.Fn.k (cf) [0] rfl ?_ ?_ | refine V.Fn.q (cf) [0] rfl ?_ ?_ | refine V.Fn.a (cf) [0] rfl ?_ ?_); · exact V.D_) | (first | refine V.Fn.k0 (cd) rfl ?_ | refine V.Fn.q0 (cd) rfl ?_ | refine V.Fn.a0 (cd) rfl ?_) | (refine NIdx.mk ⟨k, rfl, by omega, ?_⟩) | (refine V.NDraw.any (by kernel_rfl) ?_) | fail)
        all_goals (conv => whnf)
        all_goals first
          | exact V.er00
          | (exfalso; omega)
          | trace_state
    · have e := Cy.dv_2 (u := u) hw hf
      rw [Cy.dvW_no (by rw [e]; exact hf), e]
      refine V.FnR.mk_ V.Tok V.mixed Tryz.func20 rfl Tryz.ntmps20 (by kernel_rfl) rfl rfl rfl rfl ?_
      repeat' ((conv => whnf); first | (refine V.NIf.yes ?_ ?_; · (decide; done)) | (refine V.NIf.no ?_ ?_; · (decide; done)) | refine V.NCond.mk ?_ | refine V.NPick.l ?_ | refine V.NIf.not_ ?_ | refine V.NIf.dec_ ?_ | refine V.a4 ?_ | refine V.a5 ?_ | refine V.NIf.mk (fun _ => ?_) (fun _ => ?_) | refine V.a7 ?_ | refine V.a8 ?_ | refine V.a9 ?_ | refine V.NBoth.mk ?_ ?_ | refine V.b1 ?_ | refine V.b2 ?_ | refine V.NTF.dec ?_ | refine V.b3 ?_ | refine V.b4 ?_ | ((first | refine V.Fn.k (cc) [0, 1] rfl ?_ ?_ | refine V.Fn.q (cc) [0, 1] rfl ?_ ?_ | refine V.Fn.a (cc) [0, 1] rfl ?_ ?_); · exact V.D_) | ((first | refine V.Fn.k (cf) [0] rfl ?_ ?_ | refine V.Fn.q (cf) [0] rfl ?_ ?_ | refine V.Fn.a (cf) [0] rfl ?_ ?_); · exact V.D_) | (refine V.NDraw.any (by kernel_rfl) ?_) | fail)
      all_goals (conv => whnf)
      all_goals first
        | exact V.er00
        | (exfalso; omega)
        | trace_state
  · have e := Cy.dv_1 (id := id) (u := u) hw
    rw [Cy.dvW_no (by rw [e]; exact hw), e]
    refine V.FnR.mk_ V.Tok V.mixed Tryz.func20 rfl Tryz.ntmps20 (by kernel_rfl) rfl rfl rfl rfl ?_
    repeat' ((conv => whnf); first | (refine V.NIf.yes ?_ ?_; · (decide; done)) | (refine V.NIf.no ?_ ?_; · (decide; done)) | refine V.NCond.mk ?_ | refine V.NPick.l ?_ | refine V.NIf.not_ ?_ | refine V.NIf.dec_ ?_ | refine V.a4 ?_ | refine V.a5 ?_ | refine V.NIf.mk (fun _ => ?_) (fun _ => ?_) | refine V.a7 ?_ | refine V.a8 ?_ | refine V.a9 ?_ | refine V.NBoth.mk ?_ ?_ | refine V.b1 ?_ | refine V.b2 ?_ | refine V.NTF.dec ?_ | refine V.b3 ?_ | refine V.b4 ?_ | ((first | refine V.Fn.k (cc) [0, 1] rfl ?_ ?_ | refine V.Fn.q (cc) [0, 1] rfl ?_ ?_ | refine V.Fn.a (cc) [0, 1] rfl ?_ ?_); · exact V.D_) | (refine V.NDraw.any (by kernel_rfl) ?_) | fail)
    all_goals (conv => whnf)
    all_goals first
      | exact V.er00
      | (exfalso; omega)
      | trace_state
end Go.Proofs.YtpanlcnoopmchaaGreat

namespace Go.Proofs.YtpanlcnoopmchaaGreat
open Go Go.RowKit V
set_option maxHeartbeats 4000000 in
theorem v_cyTidy (w : Wd) (hb : w.bk.length ≤ 9223372036854775807) : V.FnR Tryz.prog 22 [.arr 10 w.fs.length (ga encF w.fs), .arr 3 w.bk.length (ga encP w.bk)] [.agg [.val (.int .i64 w.td), .ref 0, .ref 1]] (.tup [.agg [.val (.int .i64 (Cy.tyW w).td), .ref 2, .ref 3], .one (.ref 4), .one (.val (.int .i64 (Cy.wE w)))]) [.row 42 10 (Cy.tyW w).fs.length (ga encF (Cy.tyW w).fs), .row 65 3 (Cy.tyW w).bk.length (ga encP (Cy.tyW w).bk), .row 42 10 (Cy.tyO w).length (ga encF (Cy.tyO w))] := by
  have cc := v_cyCheck w hb
  by_cases hw : Cy.wE w = 0
  · obtain ⟨n60, n400⟩ := Cy.wE_len hw
    obtain ⟨hw1, hw2, hw3⟩ := Cy.wE_ok hw
    obtain ⟨t1, t2⟩ := Cy.ty_yes hw
    have ok := Pn.all_ok hw2
    rw [hw] at cc
    rw [t1, t2, hw]
    refine V.FnR.mk_ V.Tok V.mixed Tryz.func22 rfl Tryz.ntmps22 (by kernel_rfl) rfl rfl rfl rfl ?_
    repeat' ((conv => whnf); first | (refine V.NIf.yes ?_ ?_; · (decide; done)) | (refine V.NIf.no ?_ ?_; · (decide; done)) | refine V.NCond.mk ?_ | refine V.NPick.l ?_ | refine V.NIf.not_ ?_ | refine V.NIf.dec_ ?_ | refine V.a4 ?_ | refine V.a5 ?_ | refine V.NIf.mk (fun _ => ?_) (fun _ => ?_) | refine V.a7 ?_ | refine V.a8 ?_ | refine V.a9 ?_ | refine V.NBoth.mk ?_ ?_ | refine V.b1 ?_ | refine V.b2 ?_ | refine V.NTF.dec ?_ | refine V.b3 ?_ | refine V.b4 ?_ | ((first | refine V.Fn.k (cc) [0, 1] rfl ?_ ?_ | refine V.Fn.q (cc) [0, 1] rfl ?_ ?_ | refine V.Fn.a (cc) [0, 1] rfl ?_ ?_); · exact V.D_) | (refine V.NCall.inl (f := 37) V.Tok V.mixed Tryz.func37 rfl Tryz.ntmps37 (by kernel_rfl) rfl ?_) | ((first | refine V.FnR.k_ (v_cloneF w.fs (by omega)) [0] rfl ?_ ?_ | refine V.FnR.a_ (v_cloneF w.fs (by omega)) [0] rfl ?_ ?_); · exact V.D_) | ((first | refine V.FnR.k_ (v_cloneP w.bk (by omega)) [1] rfl ?_ ?_ | refine V.FnR.a_ (v_cloneP w.bk (by omega)) [1] rfl ?_ ?_); · exact V.D_) | (refine V.NCall.inl (f := 69) V.Tok V.mixed Tryz.func69 rfl Tryz.ntmps69 (by kernel_rfl) rfl ?_) | (refine V.NCall.inl (f := 77) V.Tok V.mixed Tryz.func77 rfl Tryz.ntmps77 (by kernel_rfl) rfl ?_) | (refine V.NDraw.any (by kernel_rfl) ?_) | fail)
    all_goals (conv => whnf)
    refine V.NLoop.auto (fun (k : Nat) => [(8, .one (.val (.int .i64 k)))]) (fun (k : Nat) => []) [] [] (fun (k : Nat) => w.fs.length - k) (fun (k : Nat) => k ≤ w.fs.length ∧ ∀ f ∈ w.fs.take k, 0 < F.left f) 0 ⟨Nat.zero_le _, by simp⟩ V.S_ V.S_ (fun _ => ⟨rfl, rfl⟩) ?_; (conv => whnf); refine ⟨⟨rfl, rfl⟩, ?_⟩
    rintro k ⟨hk, hJ⟩
    by_cases hlt : k < w.fs.length
    · have o := ok _ (getD_mem hlt)
      repeat' ((conv => whnf); first | (refine V.NIf.yes ?_ ?_; · (decide; done)) | (refine V.NIf.no ?_ ?_; · (decide; done)) | refine V.NCond.mk ?_ | refine V.NPick.l ?_ | refine V.NIf.not_ ?_ | refine V.NIf.dec_ ?_ | refine V.a4 ?_ | refine V.a5 ?_ | refine V.NIf.mk (fun _ => ?_) (fun _ => ?_) | refine V.a7 ?_ | refine V.a8 ?_ | refine V.a9 ?_ | refine V.NBoth.mk ?_ ?_ | refine V.b1 ?_ | refine V.b2 ?_ | refine V.NTF.dec ?_ | refine V.b3 ?_ | refine V.b4 ?_ | (refine NIdx.mk ⟨k, rfl, by omega, ?_⟩) | (refine V.NCall.inl (f := 70) V.Tok V.mixed Tryz.func70 rfl Tryz.ntmps70 (by kernel_rfl) rfl ?_) | (first | refine V.Fn.k0 (v_fleft _ o) rfl ?_ | refine V.Fn.q0 (v_fleft _ o) rfl ?_ | refine V.Fn.a0 (v_fleft _ o) rfl ?_) | (refine NApp.first (en := encF) (x := w.fs.getD k default) (by first | omega | (simp; done) | decide) ?_) | (refine V.NDraw.any (by kernel_rfl) ?_) | fail)
      all_goals (conv => whnf)
      · exact V.NBack.at_ (k + 1) [] ⟨by omega, all_snoc hlt hJ (by assumption)⟩ (by omega) V.S_ rfl V.S_ V.S_ V.S_
      have hn : ¬ 0 < F.left (w.fs.getD k default) := by assumption
      obtain ⟨j0, j1, j2⟩ := Cy.TJ.start hlt hJ hn
      refine V.NLoop.auto (fun (s : Nat × List Fl) => [(6, .one (.val (.int .i64 s.1))), (5, .one (.val (.int .i64 (Cy.opn (w.fs.take s.1)).length))), (0, .one (.ref 7))]) (fun (s : Nat × List Fl) => [(7, .row 42 10 s.2.length (ga encF s.2)), (15, .row 42 10 (Cy.ovr (w.fs.take s.1)).length (ga encF (Cy.ovr (w.fs.take s.1)))), (11, .box 28 [.ref 15])]) [] [] (fun (s : Nat × List Fl) => w.fs.length - s.1) (fun (s : Nat × List Fl) => Cy.TJ w.fs s.1 s.2) (k + 1, w.fs) j0 (by (conv => whnf); exact ⟨rfl, congrArg (fun z => V.SV.one (V.At.val (Value.int .i64 z))) (by dsimp only; omega), rfl, trivial⟩) (by (conv => whnf); exact ⟨⟨rfl, rfl, rfl, fun _ _ => rfl⟩, ObLe.as_ j2, rfl, trivial⟩) (fun _ => ⟨rfl, rfl⟩) ?_; (conv => whnf); refine ⟨⟨rfl, rfl⟩, ?_⟩
      clear hJ hn j0 j1 j2 hlt o
      rintro s hs
      generalize s.1 = j at *
      generalize s.2 = X at *
      have xl := hs.len
      have xt := hs.lt
      have xe := hs.le
      by_cases hlt : j < w.fs.length
      · have ex := hs.rs j (Nat.le_refl _) hlt
        have o : F.Ok (X.getD j default) := by rw [ex]; exact ok _ (getD_mem hlt)
        have yo := hs.yes hlt
        have no := hs.no hlt
        have so := Cy.opn_snoc hlt
        have sv := Cy.ovr_snoc hlt
        have vl := Cy.ovr_len (w.fs.take j)
        rw [List.length_take] at vl
        rw [← ex] at yo no so sv
        have so1 : 0 < F.left (X.getD j default) → (Cy.opn (w.fs.take (j + 1))).length = (Cy.opn (w.fs.take j)).length + 1 := fun q => by rw [so, if_pos q, List.length_append]; rfl
        have so2 : ¬ 0 < F.left (X.getD j default) → (Cy.opn (w.fs.take (j + 1))).length = (Cy.opn (w.fs.take j)).length := fun q => by rw [so, if_neg q, List.append_nil]
        repeat' ((conv => whnf); first | (refine V.NIf.yes ?_ ?_; · (decide; done)) | (refine V.NIf.no ?_ ?_; · (decide; done)) | (refine NApp.one (en := encF) (l := Cy.ovr (w.fs.take j)) (x := X.getD j default) (by first | omega | (simp; omega)) (by omega) ?_) | refine V.NCond.mk ?_ | refine V.NPick.l ?_ | refine V.NIf.not_ ?_ | refine V.NIf.dec_ ?_ | refine V.a4 ?_ | refine V.a5 ?_ | refine V.NIf.mk (fun _ => ?_) (fun _ => ?_) | refine V.a7 ?_ | refine V.a8 ?_ | refine V.a9 ?_ | refine V.NBoth.mk ?_ ?_ | refine V.b1 ?_ | refine V.b2 ?_ | refine V.NTF.dec ?_ | refine V.b3 ?_ | refine V.b4 ?_ | (refine NIdx.mk ⟨j, rfl, by omega, ?_⟩) | (refine NIdx.mk ⟨(Cy.opn (w.fs.take j)).length, rfl, by omega, ?_⟩) | (refine V.NCall.inl (f := 70) V.Tok V.mixed Tryz.func70 rfl Tryz.ntmps70 (by kernel_rfl) rfl ?_) | (first | refine V.Fn.k0 (v_fleft _ o) rfl ?_ | refine V.Fn.q0 (v_fleft _ o) rfl ?_ | refine V.Fn.a0 (v_fleft _ o) rfl ?_) | (refine NPut.to (en := encF) (X.getD j default) rfl rfl ?_) | (refine V.NDraw.any (by kernel_rfl) ?_) | fail)
        all_goals (conv => whnf)
        all_goals first
          | (have q : 0 < F.left (X.getD j default) := by assumption
             exact V.NBack.at_ (j + 1, X.set (Cy.opn (w.fs.take j)).length (X.getD j default)) [] (yo q) (by dsimp only; omega) ⟨congrArg (fun z => V.SV.one (V.At.val (Value.int .i64 z))) (by dsimp only; omega), congrArg (fun z => V.SV.one (V.At.val (Value.int .i64 z))) (by have := so1 q; dsimp only; omega), rfl, trivial⟩ rfl ⟨ObLe.is_ rfl (by rw [List.length_set]), ObLe.as_ (by dsimp only; rw [sv, if_pos q, List.append_nil]), rfl, trivial⟩ V.S_ V.S_)
          | (have q : ¬ 0 < F.left (X.getD j default) := by assumption
             exact V.NBack.at_ (j + 1, X) [(15, 19)] (no q) (by dsimp only; omega) ⟨congrArg (fun z => V.SV.one (V.At.val (Value.int .i64 z))) (by dsimp only; omega), congrArg (fun z => V.SV.one (V.At.val (Value.int .i64 z))) (by have := so2 q; dsimp only; omega), rfl, trivial⟩ rfl ⟨ObLe.as_ rfl, ObLe.as_ (by dsimp only; rw [sv, if_neg q]), rfl, trivial⟩ V.S_ V.S_)
          | trace_state
      · obtain rfl : j = w.fs.length := by omega
        rw [List.take_length] at *
        have fin : ∀ p, p < (Cy.opn w.fs).length → ga encF X p = ga encF (Cy.opn w.fs) p := fun p hp => by
          have tk := hs.tk
          rw [List.take_length] at tk
          rw [← V.ga_take (l := X) (i := (Cy.opn w.fs).length) hp (by omega), tk]
        repeat' ((conv => whnf); first | (refine V.NIf.yes ?_ ?_; · (decide; done)) | (refine V.NIf.no ?_ ?_; · (decide; done)) | (refine V.NPick.r ?_; (conv => whnf); refine V.NPick.l ?_; (conv => whnf); refine NCut.mk ⟨(Cy.opn w.fs).length, X.length, rfl, rfl, by omega, by omega, ?_⟩; (conv => whnf); refine ⟨by omega, rfl, ?_⟩) | (refine V.NPick.r ?_; (conv => whnf); refine V.NPick.r ?_; (conv => whnf); refine NCut.mk ⟨0, (Cy.opn w.fs).length, rfl, rfl, by omega, by omega, ?_⟩; (conv => whnf); refine ⟨rfl, ?_⟩) | refine V.NCond.mk ?_ | refine V.NPick.l ?_ | refine V.NIf.not_ ?_ | refine V.NIf.dec_ ?_ | refine V.a4 ?_ | refine V.a5 ?_ | refine V.NIf.mk (fun _ => ?_) (fun _ => ?_) | refine V.a7 ?_ | refine V.a8 ?_ | refine V.a9 ?_ | refine V.NBoth.mk ?_ ?_ | refine V.b1 ?_ | refine V.b2 ?_ | refine V.NTF.dec ?_ | refine V.b3 ?_ | refine V.b4 ?_ | (refine V.NDraw.any (by kernel_rfl) ?_) | fail)
        all_goals (conv => whnf)
        all_goals exact V.er3 17 8 15 (h2 := ⟨⟨rfl, rfl, rfl, fun p hp => (if_pos hp).trans (fin p hp)⟩, ⟨rfl, rfl, rfl, fun _ _ => rfl⟩, ⟨rfl, rfl, rfl, fun _ _ => rfl⟩, trivial⟩)
    · obtain rfl : k = w.fs.length := by omega
      rw [List.take_length] at hJ
      obtain ⟨o1, o2⟩ := Cy.opn_all hJ
      rw [o1, o2]
      repeat' ((conv => whnf); first | (refine V.NIf.yes ?_ ?_; · (decide; done)) | (refine V.NIf.no ?_ ?_; · (decide; done)) | refine V.NCond.mk ?_ | refine V.NPick.l ?_ | refine V.NIf.not_ ?_ | refine V.NIf.dec_ ?_ | refine V.a4 ?_ | refine V.a5 ?_ | refine V.NIf.mk (fun _ => ?_) (fun _ => ?_) | refine V.a7 ?_ | refine V.a8 ?_ | refine V.a9 ?_ | refine V.NBoth.mk ?_ ?_ | refine V.b1 ?_ | refine V.b2 ?_ | refine V.NTF.dec ?_ | refine V.b3 ?_ | refine V.b4 ?_ | (refine V.NDraw.any (by kernel_rfl) ?_) | fail)
      all_goals (conv => whnf)
      all_goals first
        | exact V.er3 7 8 10 (h2 := ⟨⟨rfl, rfl, rfl, fun _ _ => rfl⟩, ⟨rfl, rfl, rfl, fun _ _ => rfl⟩, ⟨rfl, rfl, rfl, fun k hk => absurd hk (Nat.not_lt_zero _)⟩, trivial⟩)
        | trace_state
  · obtain ⟨t1, t2⟩ := Cy.ty_no hw
    rw [t1, t2]
    refine V.FnR.mk_ V.Tok V.mixed Tryz.func22 rfl Tryz.ntmps22 (by kernel_rfl) rfl rfl rfl rfl ?_
    repeat' ((conv => whnf); first | (refine V.NIf.yes ?_ ?_; · (decide; done)) | (refine V.NIf.no ?_ ?_; · (decide; done)) | refine V.NCond.mk ?_ | refine V.NPick.l ?_ | refine V.NIf.not_ ?_ | refine V.NIf.dec_ ?_ | refine V.a4 ?_ | refine V.a5 ?_ | refine V.NIf.mk (fun _ => ?_) (fun _ => ?_) | refine V.a7 ?_ | refine V.a8 ?_ | refine V.a9 ?_ | refine V.NBoth.mk ?_ ?_ | refine V.b1 ?_ | refine V.b2 ?_ | refine V.NTF.dec ?_ | refine V.b3 ?_ | refine V.b4 ?_ | ((first | refine V.Fn.k (cc) [0, 1] rfl ?_ ?_ | refine V.Fn.q (cc) [0, 1] rfl ?_ ?_ | refine V.Fn.a (cc) [0, 1] rfl ?_ ?_); · exact V.D_) | (refine V.NDraw.any (by kernel_rfl) ?_) | fail)
    all_goals (conv => whnf)
    all_goals first
      | exact V.er001 5
      | exact V.er001 6
      | exact V.er001 7
      | (exfalso; omega)
      | trace_state
end Go.Proofs.YtpanlcnoopmchaaGreat

namespace Go.Proofs.YtpanlcnoopmchaaGreat
open Go Go.RowKit V
end Go.Proofs.YtpanlcnoopmchaaGreat

namespace Go.Proofs.YtpanlcnoopmchaaGreat
open Go Go.RowKit V
set_option maxHeartbeats 4000000 in
theorem v_day (c : Cl) (t : List Tm) (l : List Fl) (ps : List Int) (n : Int) (hc : c.hs.length ≤ 9223372036854775807) (ht : t.length ≤ 9223372036854775807) (hp : ps.length ≤ 9223372036854775807) :
    V.FnR Tryz.prog 99 (penO c t l ps) [.agg [.val (.int .i64 c.we), .ref 0], .one (.ref 1), .one (.ref 2), .one (.ref 3), .one (.val (.int .i64 n))] (.tup [.one (.ref 4), .one (.val (.int .i64 (Pn.yD c t l ps n)))]) [.row 137 3 (Pn.yL c t l ps n).length (ga encD (Pn.yL c t l ps n))] := by
  refine V.FnR.mk_ V.Tok V.mixed Tryz.func99 rfl Tryz.ntmps99 (by kernel_rfl) rfl rfl rfl rfl ?_
  repeat' ((conv => whnf); first | refine V.NCond.mk ?_ | refine V.NPick.l ?_ | refine V.NIf.not_ ?_ | refine V.NIf.dec_ ?_ | refine V.a4 ?_ | refine V.a5 ?_ | refine V.NIf.mk (fun _ => ?_) (fun _ => ?_) | refine V.a7 ?_ | refine V.a8 ?_ | refine V.a9 ?_ | refine V.NBoth.mk ?_ ?_ | refine V.b1 ?_ | refine V.b2 ?_ | refine V.NTF.dec ?_ | refine V.b3 ?_ | refine V.b4 ?_ | (refine V.NCall.inl (f := 134) V.Tok V.mixed Tryz.func134 rfl Tryz.ntmps134 (by kernel_rfl) rfl ?_) | (refine V.NDraw.any (by kernel_rfl) ?_) | fail)
  all_goals (conv => whnf)
  refine V.NLoop.auto (fun (k : Nat) => [(8, .one (.val (.int .i64 k)))]) (fun (k : Nat) => []) [] [] (fun (k : Nat) => 5 - k) (fun (k : Nat) => k ≤ 5 ∧ (1 ≤ k → Ca.chk c = 0) ∧ (2 ≤ k → Pn.tE t = 0) ∧ (3 ≤ k → F.checks l = 0) ∧ (4 ≤ k → P.chks ps = 0) ∧ (5 ≤ k → Pn.oE c n = 0)) 0 ⟨by omega, by omega, by omega, by omega, by omega, by omega⟩ V.S_ V.S_ (fun _ => ⟨rfl, rfl⟩) ?_; (conv => whnf); refine ⟨⟨rfl, rfl⟩, ?_⟩
  rintro k ⟨hk, j1, j2, j3, j4, j5⟩
  have hk6 : k = 0 ∨ k = 1 ∨ k = 2 ∨ k = 3 ∨ k = 4 ∨ k = 5 := by omega
  rcases hk6 with rfl | rfl | rfl | rfl | rfl | rfl
  · repeat' ((conv => whnf); first | (refine V.NIf.yes ?_ ?_; · (simp; done)) | refine V.NCond.mk ?_ | refine V.NPick.l ?_ | refine V.NIf.not_ ?_ | refine V.NIf.dec_ ?_ | refine V.a4 ?_ | refine V.a5 ?_ | refine V.NIf.mk (fun _ => ?_) (fun _ => ?_) | refine V.a7 ?_ | refine V.a8 ?_ | refine V.a9 ?_ | refine V.NBoth.mk ?_ ?_ | refine V.b1 ?_ | refine V.b2 ?_ | refine V.NTF.dec ?_ | refine V.b3 ?_ | refine V.b4 ?_ | (refine NIdx.mk ⟨0, rfl, by simp, ?_⟩) | (refine V.NCall.inl (f := 135) V.Tok V.mixed Tryz.func135 rfl Tryz.ntmps135 (by kernel_rfl) rfl ?_) | ((first | refine V.Fn.k (v_caCheck c hc) [0] rfl ?_ ?_ | refine V.Fn.q (v_caCheck c hc) [0] rfl ?_ ?_ | refine V.Fn.a (v_caCheck c hc) [0] rfl ?_ ?_); · exact V.D_) | (refine V.NDraw.any (by kernel_rfl) ?_) | fail)
    all_goals (conv => whnf)
    · exact V.NBack.at_ 1 [] ⟨by omega, fun _ => by assumption, by omega, by omega, by omega, by omega⟩ (by omega) V.S_ rfl V.S_ V.S_ V.S_
    · have e := Pn.yE_1 (c := c) (t := t) (l := l) (ps := ps) (n := n)  (by assumption)
      have y := Pn.y_no (c := c) (t := t) (l := l) (ps := ps) (n := n) (by rw [e]; assumption)
      rw [y.1, y.2, e]
      (first | exact V.er 0 | exact V.er 1 | exact V.er 2 | exact V.er 3 | exact V.er 4 | exact V.er 5 | exact V.er 6 | exact V.er 7 | exact V.er 8 | exact V.er 9 | exact V.er 10 | exact V.er 11 | exact V.er 12 | exact V.er 13 | exact V.er 14 | exact V.er 15 | exact V.er 16 | exact V.er 17)
  · repeat' ((conv => whnf); first | (refine V.NIf.yes ?_ ?_; · (simp; done)) | refine V.NCond.mk ?_ | refine V.NPick.l ?_ | refine V.NIf.not_ ?_ | refine V.NIf.dec_ ?_ | refine V.a4 ?_ | refine V.a5 ?_ | refine V.NIf.mk (fun _ => ?_) (fun _ => ?_) | refine V.a7 ?_ | refine V.a8 ?_ | refine V.a9 ?_ | refine V.NBoth.mk ?_ ?_ | refine V.b1 ?_ | refine V.b2 ?_ | refine V.NTF.dec ?_ | refine V.b3 ?_ | refine V.b4 ?_ | (refine NIdx.mk ⟨1, rfl, by simp, ?_⟩) | (refine V.NCall.inl (f := 136) V.Tok V.mixed Tryz.func136 rfl Tryz.ntmps136 (by kernel_rfl) rfl ?_) | ((first | refine V.Fn.k (v_pterms t ht) [1] rfl ?_ ?_ | refine V.Fn.q (v_pterms t ht) [1] rfl ?_ ?_ | refine V.Fn.a (v_pterms t ht) [1] rfl ?_ ?_); · exact V.D_) | (refine V.NDraw.any (by kernel_rfl) ?_) | fail)
    all_goals (conv => whnf)
    · exact V.NBack.at_ 2 [] ⟨by omega, fun _ => j1 (by omega), fun _ => by assumption, by omega, by omega, by omega⟩ (by omega) V.S_ rfl V.S_ V.S_ V.S_
    · have e := Pn.yE_2 (c := c) (t := t) (l := l) (ps := ps) (n := n) (j1 (by omega)) (by assumption)
      have y := Pn.y_no (c := c) (t := t) (l := l) (ps := ps) (n := n) (by rw [e]; assumption)
      rw [y.1, y.2, e]
      (first | exact V.er 0 | exact V.er 1 | exact V.er 2 | exact V.er 3 | exact V.er 4 | exact V.er 5 | exact V.er 6 | exact V.er 7 | exact V.er 8 | exact V.er 9 | exact V.er 10 | exact V.er 11 | exact V.er 12 | exact V.er 13 | exact V.er 14 | exact V.er 15 | exact V.er 16 | exact V.er 17)
  · repeat' ((conv => whnf); first | (refine V.NIf.yes ?_ ?_; · (simp; done)) | refine V.NCond.mk ?_ | refine V.NPick.l ?_ | refine V.NIf.not_ ?_ | refine V.NIf.dec_ ?_ | refine V.a4 ?_ | refine V.a5 ?_ | refine V.NIf.mk (fun _ => ?_) (fun _ => ?_) | refine V.a7 ?_ | refine V.a8 ?_ | refine V.a9 ?_ | refine V.NBoth.mk ?_ ?_ | refine V.b1 ?_ | refine V.b2 ?_ | refine V.NTF.dec ?_ | refine V.b3 ?_ | refine V.b4 ?_ | (refine NIdx.mk ⟨2, rfl, by simp, ?_⟩) | (refine V.NCall.inl (f := 137) V.Tok V.mixed Tryz.func137 rfl Tryz.ntmps137 (by kernel_rfl) rfl ?_) | ((first | refine V.Fn.k (v_fchecks l) [2] rfl ?_ ?_ | refine V.Fn.q (v_fchecks l) [2] rfl ?_ ?_ | refine V.Fn.a (v_fchecks l) [2] rfl ?_ ?_); · exact V.D_) | (refine V.NDraw.any (by kernel_rfl) ?_) | fail)
    all_goals (conv => whnf)
    · exact V.NBack.at_ 3 [] ⟨by omega, fun _ => j1 (by omega), fun _ => j2 (by omega), fun _ => by assumption, by omega, by omega⟩ (by omega) V.S_ rfl V.S_ V.S_ V.S_
    · have e := Pn.yE_3 (c := c) (t := t) (l := l) (ps := ps) (n := n) (j1 (by omega)) (j2 (by omega)) (by assumption)
      have y := Pn.y_no (c := c) (t := t) (l := l) (ps := ps) (n := n) (by rw [e]; assumption)
      rw [y.1, y.2, e]
      (first | exact V.er 0 | exact V.er 1 | exact V.er 2 | exact V.er 3 | exact V.er 4 | exact V.er 5 | exact V.er 6 | exact V.er 7 | exact V.er 8 | exact V.er 9 | exact V.er 10 | exact V.er 11 | exact V.er 12 | exact V.er 13 | exact V.er 14 | exact V.er 15 | exact V.er 16 | exact V.er 17)
  · repeat' ((conv => whnf); first | (refine V.NIf.yes ?_ ?_; · (simp; done)) | refine V.NCond.mk ?_ | refine V.NPick.l ?_ | refine V.NIf.not_ ?_ | refine V.NIf.dec_ ?_ | refine V.a4 ?_ | refine V.a5 ?_ | refine V.NIf.mk (fun _ => ?_) (fun _ => ?_) | refine V.a7 ?_ | refine V.a8 ?_ | refine V.a9 ?_ | refine V.NBoth.mk ?_ ?_ | refine V.b1 ?_ | refine V.b2 ?_ | refine V.NTF.dec ?_ | refine V.b3 ?_ | refine V.b4 ?_ | (refine NIdx.mk ⟨3, rfl, by simp, ?_⟩) | (refine V.NCall.inl (f := 138) V.Tok V.mixed Tryz.func138 rfl Tryz.ntmps138 (by kernel_rfl) rfl ?_) | ((first | refine V.Fn.k (v_prices ps hp) [3] rfl ?_ ?_ | refine V.Fn.q (v_prices ps hp) [3] rfl ?_ ?_ | refine V.Fn.a (v_prices ps hp) [3] rfl ?_ ?_); · exact V.D_) | (refine V.NDraw.any (by kernel_rfl) ?_) | fail)
    all_goals (conv => whnf)
    · exact V.NBack.at_ 4 [] ⟨by omega, fun _ => j1 (by omega), fun _ => j2 (by omega), fun _ => j3 (by omega), fun _ => by assumption, by omega⟩ (by omega) V.S_ rfl V.S_ V.S_ V.S_
    · have e := Pn.yE_4 (c := c) (t := t) (l := l) (ps := ps) (n := n) (j1 (by omega)) (j2 (by omega)) (j3 (by omega)) (by assumption)
      have y := Pn.y_no (c := c) (t := t) (l := l) (ps := ps) (n := n) (by rw [e]; assumption)
      rw [y.1, y.2, e]
      (first | exact V.er 0 | exact V.er 1 | exact V.er 2 | exact V.er 3 | exact V.er 4 | exact V.er 5 | exact V.er 6 | exact V.er 7 | exact V.er 8 | exact V.er 9 | exact V.er 10 | exact V.er 11 | exact V.er 12 | exact V.er 13 | exact V.er 14 | exact V.er 15 | exact V.er 16 | exact V.er 17)
  · repeat' ((conv => whnf); first | (refine V.NIf.yes ?_ ?_; · (simp; done)) | refine V.NCond.mk ?_ | refine V.NPick.l ?_ | refine V.NIf.not_ ?_ | refine V.NIf.dec_ ?_ | refine V.a4 ?_ | refine V.a5 ?_ | refine V.NIf.mk (fun _ => ?_) (fun _ => ?_) | refine V.a7 ?_ | refine V.a8 ?_ | refine V.a9 ?_ | refine V.NBoth.mk ?_ ?_ | refine V.b1 ?_ | refine V.b2 ?_ | refine V.NTF.dec ?_ | refine V.b3 ?_ | refine V.b4 ?_ | (refine NIdx.mk ⟨4, rfl, by simp, ?_⟩) | (refine V.NCall.inl (f := 139) V.Tok V.mixed Tryz.func139 rfl Tryz.ntmps139 (by kernel_rfl) rfl ?_) | ((first | refine V.Fn.k (v_popen c n hc) [0] rfl ?_ ?_ | refine V.Fn.q (v_popen c n hc) [0] rfl ?_ ?_ | refine V.Fn.a (v_popen c n hc) [0] rfl ?_ ?_); · exact V.D_) | (refine V.NDraw.any (by kernel_rfl) ?_) | fail)
    all_goals (conv => whnf)
    · exact V.NBack.at_ 5 [] ⟨by omega, fun _ => j1 (by omega), fun _ => j2 (by omega), fun _ => j3 (by omega), fun _ => j4 (by omega), fun _ => by assumption⟩ (by omega) V.S_ rfl V.S_ V.S_ V.S_
    · have e := Pn.yE_5 (c := c) (t := t) (l := l) (ps := ps) (n := n) (j1 (by omega)) (j2 (by omega)) (j3 (by omega)) (j4 (by omega))
      have y := Pn.y_no (c := c) (t := t) (l := l) (ps := ps) (n := n) (by rw [e]; assumption)
      rw [y.1, y.2, e]
      (first | exact V.er 0 | exact V.er 1 | exact V.er 2 | exact V.er 3 | exact V.er 4 | exact V.er 5 | exact V.er 6 | exact V.er 7 | exact V.er 8 | exact V.er 9 | exact V.er 10 | exact V.er 11 | exact V.er 12 | exact V.er 13 | exact V.er 14 | exact V.er 15 | exact V.er 16 | exact V.er 17)
  repeat' ((conv => whnf); first | (refine V.NIf.no ?_ ?_; · (simp; done)) | refine V.NCond.mk ?_ | refine V.NPick.l ?_ | refine V.NIf.not_ ?_ | refine V.NIf.dec_ ?_ | refine V.a4 ?_ | refine V.a5 ?_ | refine V.NIf.mk (fun _ => ?_) (fun _ => ?_) | refine V.a7 ?_ | refine V.a8 ?_ | refine V.a9 ?_ | refine V.NBoth.mk ?_ ?_ | refine V.b1 ?_ | refine V.b2 ?_ | refine V.NTF.dec ?_ | refine V.b3 ?_ | refine V.b4 ?_ | (refine V.NDraw.any (by kernel_rfl) ?_) | fail)
  all_goals (conv => whnf)
  have hR : Pn.Right c t l ps n := ⟨j1 (by omega), j2 (by omega), j3 (by omega), j4 (by omega), j5 (by omega)⟩
  have l60 := F.checks_len (l := l) (by have := hR.kl; omega)
  refine V.NLoop.auto (fun (k : Nat) => [(31, .one (.val (.int .i64 k))), (13, .one (.ref 11))]) (fun (k : Nat) => [(11, .row 137 3 (Pn.dus c t ps n (l.take k)).length (ga encD (Pn.dus c t ps n (l.take k))))]) [] [] (fun (k : Nat) => l.length - k) (fun (k : Nat) => k ≤ l.length ∧ ∀ f ∈ l.take k, Pn.eF c t n f = 0) 0 ⟨by omega, by simp⟩ V.S_ V.S_ (fun _ => ⟨rfl, rfl⟩) ?_; (conv => whnf); refine ⟨⟨rfl, rfl⟩, ?_⟩
  rintro k ⟨hk, hJ⟩
  by_cases hlt : k < l.length
  · have hf : F.Ok (l.getD k default) := Pn.all_ok hR.kl _ (getD_mem hlt)
    obtain ⟨ht6, htw⟩ := Pn.tE_ok hR.kt
    obtain ⟨hp20, _⟩ := P.chks_ok hR.kp
    have qk := Pn.qF_ok hR.kt hR.kp hf
    have qd := Pn.d_yes qk
    have dl := Pn.dus_len c t ps n (l.take k)
    have ds := Pn.dus_snoc (c := c) (t := t) (ps := ps) (n := n) hlt
    rw [List.length_take] at dl
    obtain ⟨⟨_, _, _, hcl, hpa, _⟩, _⟩ := id hf
    have qv : Pn.dV (F.left (l.getD k default)) (ps.getD ((l.getD k default).pa - 1).toNat default) (t.getD (l.getD k default).cl.toNat default).ra = Pn.qF t ps (l.getD k default) := qd.2
    have qe : Pn.dE (F.left (l.getD k default)) (ps.getD ((l.getD k default).pa - 1).toNat default) (t.getD (l.getD k default).cl.toNat default).ra = 0 := qd.1
    repeat' ((conv => whnf); first | (refine NApp.one (en := encD) (l := Pn.dus c t ps n (l.take k)) (x := ⟨(l.getD k default).fr, (l.getD k default).to, Pn.dV (F.left (l.getD k default)) (ps.getD ((l.getD k default).pa - 1).toNat default) (t.getD (l.getD k default).cl.toNat default).ra⟩) (by simp; omega) (by simp; omega) ?_) | refine V.NCond.mk ?_ | refine V.NPick.l ?_ | refine V.NIf.not_ ?_ | refine V.NIf.dec_ ?_ | refine V.a4 ?_ | refine V.a5 ?_ | refine V.NIf.mk (fun _ => ?_) (fun _ => ?_) | refine V.a7 ?_ | refine V.a8 ?_ | refine V.a9 ?_ | refine V.NBoth.mk ?_ ?_ | refine V.b1 ?_ | refine V.b2 ?_ | refine V.NTF.dec ?_ | refine V.b3 ?_ | refine V.b4 ?_ | (refine NIdx.mk ⟨_, rfl, by omega, ?_⟩) | (refine NIdx.mk ⟨(l.getD k default).cl.toNat, by omega, by omega, ?_⟩) | (refine NIdx.mk ⟨((l.getD k default).pa - 1).toNat, by omega, by omega, ?_⟩) | ((first | refine V.Fn.k (v_agStage c (Pn.cl t (l.getD k default)) (l.getD k default) n hc) [0] rfl ?_ ?_ | refine V.Fn.q (v_agStage c (Pn.cl t (l.getD k default)) (l.getD k default) n hc) [0] rfl ?_ ?_ | refine V.Fn.a (v_agStage c (Pn.cl t (l.getD k default)) (l.getD k default) n hc) [0] rfl ?_ ?_); · exact V.D_) | (first | refine V.Fn.k0 (v_fleft (l.getD k default) hf) rfl ?_ | refine V.Fn.q0 (v_fleft (l.getD k default) hf) rfl ?_ | refine V.Fn.a0 (v_fleft (l.getD k default) hf) rfl ?_) | (first | refine V.Fn.k0 (v_daily _ _ _) rfl ?_ | refine V.Fn.q0 (v_daily _ _ _) rfl ?_ | refine V.Fn.a0 (v_daily _ _ _) rfl ?_) | (refine V.NDraw.any (by kernel_rfl) ?_) | fail)
    all_goals (conv => whnf)
    · exact V.NBack.at_ (k + 1) [] ⟨by omega, all_snoc hlt hJ (by assumption)⟩ (by omega) V.S_ rfl ⟨ObLe.as_ (ds.trans (by rw [Pn.du1_no (fun z => absurd (by assumption) z.1.1), List.append_nil])), trivial⟩ V.S_ V.S_
    · exact V.NBack.at_ (k + 1) [] ⟨by omega, all_snoc hlt hJ (by assumption)⟩ (by omega) V.S_ rfl ⟨ObLe.as_ (ds.trans (by rw [Pn.du1_no (fun z => absurd (by assumption) z.1.2), List.append_nil])), trivial⟩ V.S_ V.S_
    · rename_i g1 g2 g3 g4 g5
      exact V.NBack.at_ (k + 1) [(11, 14)] ⟨by omega, all_snoc hlt hJ (by assumption)⟩ (by omega) V.S_ rfl ⟨ObLe.as_ (ds.trans (by rw [Pn.du1_yes ⟨by assumption, by assumption⟩ (by rw [← qv]; exact g5), qv])), trivial⟩ V.S_ V.S_
    · rename_i g1 g2 g3 g4 g5
      exact V.NBack.at_ (k + 1) [] ⟨by omega, all_snoc hlt hJ (by assumption)⟩ (by omega) V.S_ rfl ⟨ObLe.as_ (ds.trans (by rw [Pn.du1_no (fun z => g5 (by rw [qv]; exact z.2)), List.append_nil])), trivial⟩ V.S_ V.S_
    · have e := fb_get (f := Pn.eF c t n) hlt hJ (by assumption)
      have y := Pn.y_bad (c := c) (t := t) (l := l) (ps := ps) (n := n) (Pn.yE_of hR) (by rw [e]; assumption)
      rw [y.1, y.2, e]
      (first | exact V.er 0 | exact V.er 1 | exact V.er 2 | exact V.er 3 | exact V.er 4 | exact V.er 5 | exact V.er 6 | exact V.er 7 | exact V.er 8 | exact V.er 9 | exact V.er 10 | exact V.er 11 | exact V.er 12 | exact V.er 13 | exact V.er 14 | exact V.er 15 | exact V.er 16 | exact V.er 17)
  obtain rfl : k = l.length := by omega
  have y := Pn.y_yes (c := c) (t := t) (l := l) (ps := ps) (n := n) (Pn.yE_of hR) (fb_end (by omega) hJ)
  rw [y.1, y.2]
  rw [show l.take l.length = l from List.take_length]
  repeat' ((conv => whnf); first | refine V.NCond.mk ?_ | refine V.NPick.l ?_ | refine V.NIf.not_ ?_ | refine V.NIf.dec_ ?_ | refine V.a4 ?_ | refine V.a5 ?_ | refine V.NIf.mk (fun _ => ?_) (fun _ => ?_) | refine V.a7 ?_ | refine V.a8 ?_ | refine V.a9 ?_ | refine V.NBoth.mk ?_ ?_ | refine V.b1 ?_ | refine V.b2 ?_ | refine V.NTF.dec ?_ | refine V.b3 ?_ | refine V.b4 ?_ | (refine V.NDraw.any (by kernel_rfl) ?_) | fail)
  all_goals (conv => whnf)
  (first | exact V.erf 0 | exact V.erf 1 | exact V.erf 2 | exact V.erf 3 | exact V.erf 4 | exact V.erf 5 | exact V.erf 6 | exact V.erf 7 | exact V.erf 8 | exact V.erf 9 | exact V.erf 10 | exact V.erf 11 | exact V.erf 12 | exact V.erf 13 | exact V.erf 14 | exact V.erf 15 | exact V.erf 16 | exact V.erf 17)
end Go.Proofs.YtpanlcnoopmchaaGreat

namespace Go.Proofs.YtpanlcnoopmchaaGreat
open Go Go.RowKit V
abbrev nightO (c : Cl) (t : List Tm) (w : Wd) (pr : List Int) : List Ob := [.arr 1 c.hs.length (ga e1 c.hs), .arr 4 t.length (ga encTm t), .arr 10 w.fs.length (ga encF w.fs), .arr 3 w.bk.length (ga encP w.bk), .arr 1 pr.length (ga e1 pr)]
abbrev ruV (c : Cl) (x : Int) : SV := .agg [.val (.int .i64 c.we), .ref 0, .ref 1, .val (.int .i64 x)]
theorem v_cyOwn (w : Wd) (h1 : w.fs.length ≤ 1759218604390) (h2 : w.bk.length ≤ 5864062014634) : V.FnR Tryz.prog 37 [.arr 10 w.fs.length (ga encF w.fs), .arr 3 w.bk.length (ga encP w.bk)] [.agg [.val (.int .i64 w.td), .ref 0, .ref 1]] (.agg [.val (.int .i64 w.td), .ref 2, .ref 3]) [.row 42 10 w.fs.length (ga encF w.fs), .row 65 3 w.bk.length (ga encP w.bk)] := by
  refine V.FnR.mk_ V.Tok V.mixed Tryz.func37 rfl Tryz.ntmps37 (by kernel_rfl) rfl rfl rfl rfl ?_
  repeat' ((conv => whnf); first | refine V.NCond.mk ?_ | refine V.NPick.l ?_ | refine V.NIf.not_ ?_ | refine V.NIf.dec_ ?_ | refine V.a4 ?_ | refine V.a5 ?_ | refine V.NIf.mk (fun _ => ?_) (fun _ => ?_) | refine V.a7 ?_ | refine V.a8 ?_ | refine V.a9 ?_ | refine V.NBoth.mk ?_ ?_ | refine V.b1 ?_ | refine V.b2 ?_ | refine V.NTF.dec ?_ | refine V.b3 ?_ | refine V.b4 ?_ | ((first | refine V.FnR.k_ (v_cloneF w.fs h1) [0] rfl ?_ ?_ | refine V.FnR.a_ (v_cloneF w.fs h1) [0] rfl ?_ ?_); · exact V.D_) | ((first | refine V.FnR.k_ (v_cloneP w.bk h2) [1] rfl ?_ ?_ | refine V.FnR.a_ (v_cloneP w.bk h2) [1] rfl ?_ ?_); · exact V.D_) | (refine V.NDraw.any (by kernel_rfl) ?_) | fail)
  all_goals (conv => whnf)
  all_goals first
    | exact V.er2 4 5
    | exact V.er2 5 4
    | trace_state
set_option maxHeartbeats 8000000 in
theorem v_night_b (c : Cl) (t : List Tm) (x : Int) (w : Wd) (pr : List Int) (hc : c.hs.length ≤ 9223372036854775807) (ht : t.length ≤ 9223372036854775807) (hb : w.bk.length ≤ 9223372036854775807) (hp : pr.length ≤ 9223372036854775807)
    (h0 : (Cy.s0 c t x w pr).e = 0) (hS : ¬ (Pn.suL (Cy.du c t w pr)).length = 0) :
    V.FnR Tryz.prog 11 (nightO c t w pr) [ruV c x, .agg [.val (.int .i64 w.td), .ref 2, .ref 3], .one (.ref 4)] (.tup [.agg [.val (.int .i64 (Cy.nW c t x w pr).td), .ref 5, .ref 6], .one (.ref 7), .one (.val (.int .i64 (Cy.nE c t x w pr)))]) [.row 42 10 (Cy.nW c t x w pr).fs.length (ga encF (Cy.nW c t x w pr).fs), .row 65 3 (Cy.nW c t x w pr).bk.length (ga encP (Cy.nW c t x w pr).bk), .row 65 3 (Cy.nP c t x w pr).length (ga encP (Cy.nP c t x w pr))] := by
  obtain ⟨b0, p0, s0⟩ := Cy.s0_ok h0
  obtain ⟨r0, w0, k0, o0, y0⟩ := Cy.nB_ok b0
  obtain ⟨n60, n400⟩ := Cy.wE_len w0
  have cR := v_cyRules c t x hc ht
  rw [r0] at cR
  have cW := v_cyCheck w hb
  rw [w0] at cW
  have cP := v_prices pr hp
  rw [k0] at cP
  have cI := v_caIs c w.td hc
  obtain ⟨i0, _, q5, hbl, hou, hbk, hps⟩ := Cy.night_ok h0
  obtain ⟨e5, pE0⟩ := q5 hS
  rw [i0] at cI
  have cD := v_day c t w.fs pr w.td hc ht hp
  rw [y0, show Pn.yL c t w.fs pr w.td = Cy.du c t w pr from rfl] at cD
  have cS := v_psum (Cy.du c t w pr) (by have := Pn.yL_len c t w.fs pr w.td; unfold Cy.du; omega)
  rw [e5] at cS
  have sl : (Pn.suL (Cy.du c t w pr)).length ≤ 31 := by
    unfold Pn.suL
    split
    all_goals first | exact Pn.pos_len _ _ | exact Nat.zero_le _
  have cB := v_bkPost w.bk (Pn.suL (Cy.du c t w pr)) hb (by omega)
  rw [pE0] at cB
  have kc := (Cy.rE_ok r0).1
  obtain ⟨ht6, htw⟩ := Pn.tE_ok (Cy.rE_ok r0).2.1
  obtain ⟨hp20, _⟩ := P.chks_ok k0
  obtain ⟨_, hx, _⟩ := Cy.wE_ok w0
  have ok := Pn.all_ok hx
  obtain ⟨_, ef, _⟩ := Pn.y_ok y0
  have st0 := Cy.NJ.start (c := c) (t := t) (x := x) (pr := pr) (td := w.td) (fs := w.fs) hbl hou h0
  have res1 := fun z => @Cy.n_err c t x w pr z
  have res2 := fun z z' => @Cy.n_end c t x w pr z z'
  have res3 := fun z z' => @Cy.n_yes c t x w pr z z'
  rw [show Cy.s1 c t x w pr = Cy.run c t x pr w.td (Cy.s0 c t x w pr) w.fs from rfl] at res1 res2 res3
  have hbk1 : (Cy.s0 c t x w pr).bk = Bk.pL w.bk (Pn.suL (Cy.du c t w pr)) := hbk.trans (if_neg hS)
  rw [hbk1, hps] at st0
  have hsp : (Cy.s0 c t x w pr).ps.length ≤ 31 := by rw [hps]; exact sl
  clear b0 p0 s0 r0 w0 k0 o0 y0 h0 q5 i0 e5 pE0 hbl hou hbk hps hbk1
  generalize Cy.s0 c t x w pr = S0 at *
  generalize Pn.suL (Cy.du c t w pr) = S at *
  generalize Cy.du c t w pr = D at *
  generalize Bk.pL w.bk S = B1 at *
  have cT := v_caStep c w.td 1 hc
  generalize Cy.nE c t x w pr = NE at *
  generalize Cy.nW c t x w pr = NW at *
  generalize Cy.nP c t x w pr = NP at *
  refine V.FnR.mk_ V.Tok V.mixed Tryz.func11 rfl Tryz.ntmps11 (by kernel_rfl) rfl rfl rfl rfl ?_
  repeat' ((conv => whnf); first | (refine V.NDraw.any (by kernel_rfl) ?_) | (refine V.NIf.yes ?_ ?_; · (decide; done)) | (refine V.NIf.no ?_ ?_; · (decide; done)) | refine V.NCond.mk ?_ | refine V.NPick.l ?_ | refine V.NIf.not_ ?_ | refine V.NIf.dec_ ?_ | refine V.a4 ?_ | refine V.a5 ?_ | refine V.NIf.mk (fun _ => ?_) (fun _ => ?_) | refine V.a7 ?_ | refine V.a8 ?_ | refine V.a9 ?_ | refine V.NBoth.mk ?_ ?_ | refine V.b1 ?_ | refine V.b2 ?_ | refine V.NTF.dec ?_ | refine V.b3 ?_ | refine V.b4 ?_ | ((first | refine V.FnR.k_ (v_cyOwn w (by omega) (by omega)) [2, 3] rfl ?_ ?_ | refine V.FnR.a_ (v_cyOwn w (by omega) (by omega)) [2, 3] rfl ?_ ?_); · exact V.D_) | ((first | refine V.Fn.k (cR) [0, 1] rfl ?_ ?_ | refine V.Fn.q (cR) [0, 1] rfl ?_ ?_ | refine V.Fn.a (cR) [0, 1] rfl ?_ ?_); · exact V.D_) | ((first | refine V.Fn.k (cW) [2, 3] rfl ?_ ?_ | refine V.Fn.q (cW) [2, 3] rfl ?_ ?_ | refine V.Fn.a (cW) [2, 3] rfl ?_ ?_); · exact V.D_) | ((first | refine V.Fn.k (cP) [4] rfl ?_ ?_ | refine V.Fn.q (cP) [4] rfl ?_ ?_ | refine V.Fn.a (cP) [4] rfl ?_ ?_); · exact V.D_) | ((first | refine V.Fn.k (cI) [0] rfl ?_ ?_ | refine V.Fn.q (cI) [0] rfl ?_ ?_ | refine V.Fn.a (cI) [0] rfl ?_ ?_); · exact V.D_) | (refine V.NCall.inl (f := 38) V.Tok V.mixed Tryz.func38 rfl Tryz.ntmps38 (by kernel_rfl) rfl ?_) | (refine V.NCall.inl (f := 41) V.Tok V.mixed Tryz.func41 rfl Tryz.ntmps41 (by kernel_rfl) rfl ?_) | (refine V.NCall.inl (f := 67) V.Tok V.mixed Tryz.func67 rfl Tryz.ntmps67 (by kernel_rfl) rfl ?_) | ((first | refine V.FnR.k_ (cD) [0, 1, 9, 4] rfl ?_ ?_ | refine V.FnR.a_ (cD) [0, 1, 9, 4] rfl ?_ ?_); · exact V.D_) | ((first | refine V.FnR.k_ (cS) [12] rfl ?_ ?_ | refine V.FnR.a_ (cS) [12] rfl ?_ ?_); · exact V.D_) | ((first | refine V.FnR.k_ (cB) [10, 13] rfl ?_ ?_ | refine V.FnR.a_ (cB) [10, 13] rfl ?_ ?_); · exact V.D_) | (refine NOne.mk ?_ ?_; · (intro k hk; rfl)) | (refine NApp.all_ (by first | omega | (simp; omega)) (by omega) ?_) | (refine V.NDraw.any (by kernel_rfl) ?_) | fail)
  all_goals (conv => whnf)
  clear cR cW cP cI cD cS cB
  refine V.NLoop.auto (fun (s : Nat × List Fl × List Po × List Po × Int) => [(62, .one (.val (.int .i64 s.1)))]) (fun (s : Nat × List Fl × List Po × List Po × Int) => [(9, .row 42 10 s.2.1.length (ga encF s.2.1)), (14, .row 65 3 s.2.2.1.length (ga encP s.2.2.1)), (15, .row 65 3 s.2.2.2.1.length (ga encP s.2.2.2.1)), (11, .box 73 [.val (.int .i64 w.td), .ref 9, .ref 14, .val (.int .i64 c.we), .ref 0, .ref 1, .val (.int .i64 x), .ref 15, .val (.int .i64 s.2.2.2.2)])]) [] [] (fun (s : Nat × List Fl × List Po × List Po × Int) => w.fs.length - s.1) (fun (s : Nat × List Fl × List Po × List Po × Int) => Cy.NJ c t x pr w.td S0 w.fs s.1 s.2.1 s.2.2.1 s.2.2.2.1 s.2.2.2.2) (0, w.fs, B1, S, 0) st0 V.S_ V.S_ (fun _ => ⟨rfl, rfl⟩) ?_; (conv => whnf); refine ⟨⟨rfl, rfl⟩, ?_⟩
  rintro s hs
  generalize s.1 = k at *
  generalize s.2.1 = X at *
  generalize s.2.2.1 = b at *
  generalize s.2.2.2.1 = p at *
  generalize s.2.2.2.2 = e at *
  have xl := hs.xl
  have kl := hs.le
  by_cases hlt : k < w.fs.length
  · by_cases he : e = 0
    · subst he
      have o2 := (hs.ok rfl).2 k (Nat.le_refl _) hlt
      have o : F.Ok (X.getD k default) := by rw [o2]; exact ok _ (getD_mem hlt)
      obtain ⟨⟨_, _, _, hcl, hpa, _⟩, _⟩ := id o
      have sE : Ag.sE c (Pn.cl t (X.getD k default)) (X.getD k default) w.td = 0 := by rw [o2]; exact ef _ (getD_mem hlt)
      have cst := v_agStage c (Pn.cl t (X.getD k default)) (X.getD k default) w.td hc
      rw [sE, Ag.sV_yes sE] at cst
      have n1 := hs.s1 hlt
      have n2 := hs.s2 hlt
      have n3 := hs.s3 hlt
      have n4 := hs.s4 hlt
      have n5 := hs.s5 hlt
      have bl := hs.bl
      have pl := hs.pl
      rw [show P.pr pr (X.getD k default).pa = pr.getD ((X.getD k default).pa - 1).toNat default from rfl] at n2 n3 n4 n5
      have l2 := Cy.pL_len (X.getD k default) (pr.getD ((X.getD k default).pa - 1).toNat default) x
      have cpy := v_cpPay (X.getD k default) (pr.getD ((X.getD k default).pa - 1).toNat default) x
      have cbp := v_bkPost b (Cp.pL (X.getD k default) (pr.getD ((X.getD k default).pa - 1).toNat default) x) (by omega) (by omega)
      have bl2 : (Bk.pL b (Cp.pL (X.getD k default) (pr.getD ((X.getD k default).pa - 1).toNat default) x)).length ≤ 2121 := by
        unfold Bk.pL
        split
        · exact Bk.out_len _ _
        · exact Nat.zero_le _
      clear hs res1 res2 res3 cT st0 sE o2 ef ok o
      generalize Ag.stg c (Pn.cl t (X.getD k default)) (X.getD k default) w.td = G at *
      generalize Bk.pE b (Cp.pL (X.getD k default) (pr.getD ((X.getD k default).pa - 1).toNat default) x) = BE at *
      generalize Bk.pL b (Cp.pL (X.getD k default) (pr.getD ((X.getD k default).pa - 1).toNat default) x) = BL at *
      generalize Cp.pE (X.getD k default) (pr.getD ((X.getD k default).pa - 1).toNat default) x = PE at *
      generalize Cp.pL (X.getD k default) (pr.getD ((X.getD k default).pa - 1).toNat default) x = PL at *
      generalize hPF : Cp.pF (X.getD k default) (pr.getD ((X.getD k default).pa - 1).toNat default) x = PF at *
      clear hPF
      repeat' ((conv => whnf); first | (refine V.NDraw.any (by kernel_rfl) ?_) | (refine V.NIf.yes ?_ ?_; · (decide; done)) | (refine V.NIf.no ?_ ?_; · (decide; done)) | refine V.NCond.mk ?_ | refine V.NPick.l ?_ | refine V.NIf.not_ ?_ | refine V.NIf.dec_ ?_ | refine V.a4 ?_ | refine V.a5 ?_ | refine V.NIf.mk (fun _ => ?_) (fun _ => ?_) | refine V.a7 ?_ | refine V.a8 ?_ | refine V.a9 ?_ | refine V.NBoth.mk ?_ ?_ | refine V.b1 ?_ | refine V.b2 ?_ | refine V.NTF.dec ?_ | refine V.b3 ?_ | refine V.b4 ?_ | (refine V.NCall.inl (f := 42) V.Tok V.mixed Tryz.func42 rfl Tryz.ntmps42 (by kernel_rfl) rfl ?_) | (refine V.NCall.inl (f := 38) V.Tok V.mixed Tryz.func38 rfl Tryz.ntmps38 (by kernel_rfl) rfl ?_) | (refine V.NCall.inl (f := 67) V.Tok V.mixed Tryz.func67 rfl Tryz.ntmps67 (by kernel_rfl) rfl ?_) | (refine NIdx.mk ⟨k, rfl, by omega, ?_⟩) | (refine NIdx.mk ⟨(X.getD k default).cl.toNat, by omega, by omega, ?_⟩) | (refine NIdx.mk ⟨((X.getD k default).pa - 1).toNat, by omega, by omega, ?_⟩) | ((first | refine V.Fn.k (cst) [0] rfl ?_ ?_ | refine V.Fn.q (cst) [0] rfl ?_ ?_ | refine V.Fn.a (cst) [0] rfl ?_ ?_); · exact V.D_) | (first | refine V.FnR.k0 (cpy) rfl ?_ | refine V.FnR.a0 (cpy) rfl ?_) | (refine NPut.to (en := encF) PF rfl rfl ?_) | ((first | refine V.FnR.k_ (cbp) [14, 17] rfl ?_ ?_ | refine V.FnR.a_ (cbp) [14, 17] rfl ?_ ?_); · exact V.D_) | ((first | refine V.FnR.k_ (cbp) [14, 18] rfl ?_ ?_ | refine V.FnR.a_ (cbp) [14, 18] rfl ?_ ?_); · exact V.D_) | (refine NOne.mk ?_ ?_; · (intro k hk; rfl)) | (refine NApp.list (by first | omega | (simp; omega)) (by omega) ?_) | (refine V.NDraw.any (by kernel_rfl) ?_) | fail)
      all_goals (conv => whnf)
      all_goals first
        | exact V.NBack.at_ (k + 1, X, b, p, 0) [] (n1 (by assumption)) (by dsimp only; omega) V.S_ rfl ⟨ObLe.as_ rfl, ObLe.as_ rfl, ObLe.as_ rfl, rfl, trivial⟩ V.S_ V.S_
        | exact V.NBack.at_ (k + 1, X, b, p, PE) [] (n2 (by assumption) (by assumption)) (by dsimp only; omega) V.S_ rfl ⟨ObLe.as_ rfl, ObLe.as_ rfl, ObLe.as_ rfl, rfl, trivial⟩ V.S_ V.S_
        | (obtain rfl : PE = 0 := by assumption
           exact V.NBack.at_ (k + 1, X.set k PF, b, p, 0) [] (n3 (by assumption) rfl (by omega)) (by dsimp only; omega) V.S_ rfl ⟨ObLe.is_ rfl (by rw [List.length_set]), ObLe.as_ rfl, ObLe.as_ rfl, rfl, trivial⟩ V.S_ V.S_)
        | (obtain rfl : PE = 0 := by assumption
           exact V.NBack.at_ (k + 1, X.set k PF, b, p, BE) [] (n4 (by assumption) rfl (by omega) (by assumption)) (by dsimp only; omega) V.S_ rfl ⟨ObLe.is_ rfl (by rw [List.length_set]), ObLe.as_ rfl, ObLe.as_ rfl, rfl, trivial⟩ V.S_ V.S_)
        | (obtain rfl : PE = 0 := by assumption
           obtain rfl : BE = 0 := by assumption
           exact V.NBack.at_ (k + 1, X.set k PF, BL, p ++ PL, 0) [(14, 19), (15, 20)] (n5 (by assumption) rfl (by omega) rfl) (by dsimp only; omega) V.S_ rfl ⟨ObLe.is_ rfl (by rw [List.length_set]), ObLe.as_ rfl, ObLe.as_ rfl, rfl, trivial⟩ V.S_ V.S_)
        | trace_state
    · have hs' := hs.skip hlt he
      repeat' ((conv => whnf); first | (refine V.NIf.no ?_ ?_; · (assumption; done)) | refine V.NCond.mk ?_ | refine V.NPick.l ?_ | refine V.NIf.not_ ?_ | refine V.NIf.dec_ ?_ | refine V.a4 ?_ | refine V.a5 ?_ | refine V.NIf.mk (fun _ => ?_) (fun _ => ?_) | refine V.a7 ?_ | refine V.a8 ?_ | refine V.a9 ?_ | refine V.NBoth.mk ?_ ?_ | refine V.b1 ?_ | refine V.b2 ?_ | refine V.NTF.dec ?_ | refine V.b3 ?_ | refine V.b4 ?_ | (refine V.NDraw.any (by kernel_rfl) ?_) | fail)
      all_goals (conv => whnf)
      all_goals exact V.NBack.at_ (k + 1, X, b, p, e) [] hs' (by dsimp only; omega) V.S_ rfl ⟨ObLe.as_ rfl, ObLe.as_ rfl, ObLe.as_ rfl, rfl, trivial⟩ V.S_ V.S_
  · obtain rfl : k = w.fs.length := by omega
    obtain ⟨f1, f2⟩ := hs.fin
    by_cases he : e = 0
    · subst he
      have f3 := f2 rfl
      by_cases hT : Ca.sE c w.td 1 = 0
      · obtain ⟨r1, r2, r3⟩ := res3 f1 hT
        rw [f3] at r2 r3
        rw [r1, r2, r3]
        rw [hT] at cT
        repeat' ((conv => whnf); first | (refine V.NIf.yes ?_ ?_; · (decide; done)) | (refine V.NIf.no ?_ ?_; · (decide; done)) | refine V.NCond.mk ?_ | refine V.NPick.l ?_ | refine V.NIf.not_ ?_ | refine V.NIf.dec_ ?_ | refine V.a4 ?_ | refine V.a5 ?_ | refine V.NIf.mk (fun _ => ?_) (fun _ => ?_) | refine V.a7 ?_ | refine V.a8 ?_ | refine V.a9 ?_ | refine V.NBoth.mk ?_ ?_ | refine V.b1 ?_ | refine V.b2 ?_ | refine V.NTF.dec ?_ | refine V.b3 ?_ | refine V.b4 ?_ | ((first | refine V.Fn.k (cT) [0] rfl ?_ ?_ | refine V.Fn.q (cT) [0] rfl ?_ ?_ | refine V.Fn.a (cT) [0] rfl ?_ ?_); · exact V.D_) | (refine V.NCall.inl (f := 38) V.Tok V.mixed Tryz.func38 rfl Tryz.ntmps38 (by kernel_rfl) rfl ?_) | (refine V.NCall.inl (f := 44) V.Tok V.mixed Tryz.func44 rfl Tryz.ntmps44 (by kernel_rfl) rfl ?_) | (refine V.NDraw.any (by kernel_rfl) ?_) | fail)
        all_goals (conv => whnf)
        all_goals first
          | exact V.er3 9 14 15
          | trace_state
      · obtain ⟨r1, r2, r3⟩ := res2 f1 hT
        rw [r1, r2, r3]
        repeat' ((conv => whnf); first | (refine V.NIf.yes ?_ ?_; · (decide; done)) | (refine V.NIf.no ?_ ?_; · (assumption; done)) | (refine V.NIf.no ?_ ?_; · (decide; done)) | refine V.NCond.mk ?_ | refine V.NPick.l ?_ | refine V.NIf.not_ ?_ | refine V.NIf.dec_ ?_ | refine V.a4 ?_ | refine V.a5 ?_ | refine V.NIf.mk (fun _ => ?_) (fun _ => ?_) | refine V.a7 ?_ | refine V.a8 ?_ | refine V.a9 ?_ | refine V.NBoth.mk ?_ ?_ | refine V.b1 ?_ | refine V.b2 ?_ | refine V.NTF.dec ?_ | refine V.b3 ?_ | refine V.b4 ?_ | ((first | refine V.Fn.k (cT) [0] rfl ?_ ?_ | refine V.Fn.q (cT) [0] rfl ?_ ?_ | refine V.Fn.a (cT) [0] rfl ?_ ?_); · exact V.D_) | (refine V.NCall.inl (f := 38) V.Tok V.mixed Tryz.func38 rfl Tryz.ntmps38 (by kernel_rfl) rfl ?_) | (refine V.NCall.inl (f := 44) V.Tok V.mixed Tryz.func44 rfl Tryz.ntmps44 (by kernel_rfl) rfl ?_) | (refine V.NDraw.any (by kernel_rfl) ?_) | fail)
        all_goals (conv => whnf)
        all_goals first
          | exact V.er000
          | trace_state
    · obtain ⟨r1, r2, r3⟩ := res1 (by rw [f1]; exact he)
      rw [f1] at r1
      rw [r1, r2, r3]
      repeat' ((conv => whnf); first | (refine V.NIf.no ?_ ?_; · (assumption; done)) | (refine V.NIf.no ?_ ?_; · (decide; done)) | refine V.NCond.mk ?_ | refine V.NPick.l ?_ | refine V.NIf.not_ ?_ | refine V.NIf.dec_ ?_ | refine V.a4 ?_ | refine V.a5 ?_ | refine V.NIf.mk (fun _ => ?_) (fun _ => ?_) | refine V.a7 ?_ | refine V.a8 ?_ | refine V.a9 ?_ | refine V.NBoth.mk ?_ ?_ | refine V.b1 ?_ | refine V.b2 ?_ | refine V.NTF.dec ?_ | refine V.b3 ?_ | refine V.b4 ?_ | (refine V.NCall.inl (f := 44) V.Tok V.mixed Tryz.func44 rfl Tryz.ntmps44 (by kernel_rfl) rfl ?_) | (refine V.NDraw.any (by kernel_rfl) ?_) | fail)
      all_goals (conv => whnf)
      all_goals first
        | exact V.er000
        | trace_state
end Go.Proofs.YtpanlcnoopmchaaGreat

namespace Go.Proofs.YtpanlcnoopmchaaGreat
open Go Go.RowKit V
def psO (o : Option (List Po)) (l : Obs) : Obs := match o with
  | none => l
  | some p => (12, .row 65 3 p.length (ga encP p)) :: l
def psA (o : Option (List Po)) : At := match o with
  | none => .val (.slice none 0 0)
  | some _ => .ref 12
set_option maxHeartbeats 8000000 in
theorem v_night_a (c : Cl) (t : List Tm) (x : Int) (w : Wd) (pr : List Int) (hc : c.hs.length ≤ 9223372036854775807) (ht : t.length ≤ 9223372036854775807) (hb : w.bk.length ≤ 9223372036854775807) (hp : pr.length ≤ 9223372036854775807)
    (h0 : (Cy.s0 c t x w pr).e = 0) (hS : (Pn.suL (Cy.du c t w pr)).length = 0) :
    V.FnR Tryz.prog 11 (nightO c t w pr) [ruV c x, .agg [.val (.int .i64 w.td), .ref 2, .ref 3], .one (.ref 4)] (.tup [.agg [.val (.int .i64 (Cy.nW c t x w pr).td), .ref 5, .ref 6], .one (.ref 7), .one (.val (.int .i64 (Cy.nE c t x w pr)))]) [.row 42 10 (Cy.nW c t x w pr).fs.length (ga encF (Cy.nW c t x w pr).fs), .row 65 3 (Cy.nW c t x w pr).bk.length (ga encP (Cy.nW c t x w pr).bk), .row 65 3 (Cy.nP c t x w pr).length (ga encP (Cy.nP c t x w pr))] := by
  obtain ⟨b0, p0, s0⟩ := Cy.s0_ok h0
  obtain ⟨r0, w0, k0, o0, y0⟩ := Cy.nB_ok b0
  obtain ⟨n60, n400⟩ := Cy.wE_len w0
  have cR := v_cyRules c t x hc ht
  rw [r0] at cR
  have cW := v_cyCheck w hb
  rw [w0] at cW
  have cP := v_prices pr hp
  rw [k0] at cP
  have cI := v_caIs c w.td hc
  obtain ⟨i0, q5, _, hbl, hou, hbk, hps⟩ := Cy.night_ok h0
  have q5 : Pn.suE (Cy.du c t w pr) = 5 := by
    rcases q5 hS with z | z
    · exact z
    · obtain ⟨_, a, b⟩ := Pn.su_ok z
      rw [b] at hS
      exact absurd hS a
  rw [i0] at cI
  have cD := v_day c t w.fs pr w.td hc ht hp
  rw [y0, show Pn.yL c t w.fs pr w.td = Cy.du c t w pr from rfl] at cD
  have cS := v_psum (Cy.du c t w pr) (by have := Pn.yL_len c t w.fs pr w.td; unfold Cy.du; omega)
  have sl : (Pn.suL (Cy.du c t w pr)).length ≤ 31 := by
    unfold Pn.suL
    split
    all_goals first | exact Pn.pos_len _ _ | exact Nat.zero_le _
  have kc := (Cy.rE_ok r0).1
  obtain ⟨ht6, htw⟩ := Pn.tE_ok (Cy.rE_ok r0).2.1
  obtain ⟨hp20, _⟩ := P.chks_ok k0
  obtain ⟨_, hx, _⟩ := Cy.wE_ok w0
  have ok := Pn.all_ok hx
  obtain ⟨_, ef, _⟩ := Pn.y_ok y0
  have st0 := Cy.NJ.start (c := c) (t := t) (x := x) (pr := pr) (td := w.td) (fs := w.fs) hbl hou h0
  have res1 := fun z => @Cy.n_err c t x w pr z
  have res2 := fun z z' => @Cy.n_end c t x w pr z z'
  have res3 := fun z z' => @Cy.n_yes c t x w pr z z'
  rw [show Cy.s1 c t x w pr = Cy.run c t x pr w.td (Cy.s0 c t x w pr) w.fs from rfl] at res1 res2 res3
  have hbk1 : (Cy.s0 c t x w pr).bk = w.bk := hbk.trans (if_pos hS)
  have hS0 : Pn.suL (Cy.du c t w pr) = [] := List.length_eq_zero_iff.1 hS
  rw [hbk1, hps, hS0] at st0
  rw [hS0, q5] at cS
  have hsp : (Cy.s0 c t x w pr).ps.length ≤ 31 := by rw [hps]; exact sl
  clear b0 p0 s0 r0 w0 k0 o0 y0 h0 i0 hbl hou hbk hps hbk1 hS0 hS sl
  clear q5
  generalize Cy.s0 c t x w pr = S0 at *
  generalize Cy.du c t w pr = D at *
  have cT := v_caStep c w.td 1 hc
  generalize Cy.nE c t x w pr = NE at *
  generalize Cy.nW c t x w pr = NW at *
  generalize Cy.nP c t x w pr = NP at *
  refine V.FnR.mk_ V.Tok V.mixed Tryz.func11 rfl Tryz.ntmps11 (by kernel_rfl) rfl rfl rfl rfl ?_
  repeat' ((conv => whnf); first | (refine V.NDraw.any (by kernel_rfl) ?_) | (refine V.NIf.yes ?_ ?_; · (decide; done)) | (refine V.NIf.no ?_ ?_; · (decide; done)) | refine V.NCond.mk ?_ | refine V.NPick.l ?_ | refine V.NIf.not_ ?_ | refine V.NIf.dec_ ?_ | refine V.a4 ?_ | refine V.a5 ?_ | refine V.NIf.mk (fun _ => ?_) (fun _ => ?_) | refine V.a7 ?_ | refine V.a8 ?_ | refine V.a9 ?_ | refine V.NBoth.mk ?_ ?_ | refine V.b1 ?_ | refine V.b2 ?_ | refine V.NTF.dec ?_ | refine V.b3 ?_ | refine V.b4 ?_ | ((first | refine V.FnR.k_ (v_cyOwn w (by omega) (by omega)) [2, 3] rfl ?_ ?_ | refine V.FnR.a_ (v_cyOwn w (by omega) (by omega)) [2, 3] rfl ?_ ?_); · exact V.D_) | ((first | refine V.Fn.k (cR) [0, 1] rfl ?_ ?_ | refine V.Fn.q (cR) [0, 1] rfl ?_ ?_ | refine V.Fn.a (cR) [0, 1] rfl ?_ ?_); · exact V.D_) | ((first | refine V.Fn.k (cW) [2, 3] rfl ?_ ?_ | refine V.Fn.q (cW) [2, 3] rfl ?_ ?_ | refine V.Fn.a (cW) [2, 3] rfl ?_ ?_); · exact V.D_) | ((first | refine V.Fn.k (cP) [4] rfl ?_ ?_ | refine V.Fn.q (cP) [4] rfl ?_ ?_ | refine V.Fn.a (cP) [4] rfl ?_ ?_); · exact V.D_) | ((first | refine V.Fn.k (cI) [0] rfl ?_ ?_ | refine V.Fn.q (cI) [0] rfl ?_ ?_ | refine V.Fn.a (cI) [0] rfl ?_ ?_); · exact V.D_) | (refine V.NCall.inl (f := 38) V.Tok V.mixed Tryz.func38 rfl Tryz.ntmps38 (by kernel_rfl) rfl ?_) | (refine V.NCall.inl (f := 41) V.Tok V.mixed Tryz.func41 rfl Tryz.ntmps41 (by kernel_rfl) rfl ?_) | (refine V.NCall.inl (f := 67) V.Tok V.mixed Tryz.func67 rfl Tryz.ntmps67 (by kernel_rfl) rfl ?_) | ((first | refine V.FnR.k_ (cD) [0, 1, 9, 4] rfl ?_ ?_ | refine V.FnR.a_ (cD) [0, 1, 9, 4] rfl ?_ ?_); · exact V.D_) | ((first | refine V.FnR.k_ (cS) [12] rfl ?_ ?_ | refine V.FnR.a_ (cS) [12] rfl ?_ ?_); · exact V.D_) | (refine V.NDraw.any (by kernel_rfl) ?_) | fail)
  all_goals (conv => whnf)
  all_goals refine V.NLoop.auto (fun (s : Nat × List Fl × List Po × Option (List Po) × Int) => [(62, .one (.val (.int .i64 s.1)))]) (fun (s : Nat × List Fl × List Po × Option (List Po) × Int) => [(9, .row 42 10 s.2.1.length (ga encF s.2.1)), (10, .row 65 3 s.2.2.1.length (ga encP s.2.2.1)), (11, .box 73 [.val (.int .i64 w.td), .ref 9, .ref 10, .val (.int .i64 c.we), .ref 0, .ref 1, .val (.int .i64 x), psA s.2.2.2.1, .val (.int .i64 s.2.2.2.2)])] ++ psO s.2.2.2.1 []) [16, 18] [12] (fun s => w.fs.length - s.1) (fun s => Cy.NJ c t x pr w.td S0 w.fs s.1 s.2.1 s.2.2.1 (s.2.2.2.1.getD []) s.2.2.2.2) (0, w.fs, w.bk, none, 0) st0 V.S_ V.S_ (fun s => by obtain ⟨_, _, _, o, _⟩ := s; cases o <;> exact ⟨rfl, rfl⟩) ?_; (conv => whnf); refine ⟨⟨rfl, rfl⟩, ?_⟩
  rintro s hs
  generalize s.1 = k at *
  generalize s.2.1 = X at *
  generalize s.2.2.1 = b at *
  generalize s.2.2.2.1 = o at *
  generalize s.2.2.2.2 = e at *
  rcases o with _ | p
  · skip
    have hs : Cy.NJ c t x pr w.td S0 w.fs k X b [] e := hs
    have xl := hs.xl
    have kl := hs.le
    by_cases hlt : k < w.fs.length
    · by_cases he : e = 0
      · subst he
        have o2 := (hs.ok rfl).2 k (Nat.le_refl _) hlt
        have o : F.Ok (X.getD k default) := by rw [o2]; exact ok _ (getD_mem hlt)
        obtain ⟨⟨_, _, _, hcl, hpa, _⟩, _⟩ := id o
        have sE : Ag.sE c (Pn.cl t (X.getD k default)) (X.getD k default) w.td = 0 := by rw [o2]; exact ef _ (getD_mem hlt)
        have cst := v_agStage c (Pn.cl t (X.getD k default)) (X.getD k default) w.td hc
        rw [sE, Ag.sV_yes sE] at cst
        have n1 := hs.s1 hlt
        have n2 := hs.s2 hlt
        have n3 := hs.s3 hlt
        have n4 := hs.s4 hlt
        have n5 := hs.s5 hlt
        have bl := hs.bl
        have pl := hs.pl
        rw [show P.pr pr (X.getD k default).pa = pr.getD ((X.getD k default).pa - 1).toNat default from rfl] at n2 n3 n4 n5
        have l2 := Cy.pL_len (X.getD k default) (pr.getD ((X.getD k default).pa - 1).toNat default) x
        have cpy := v_cpPay (X.getD k default) (pr.getD ((X.getD k default).pa - 1).toNat default) x
        have cbp := v_bkPost b (Cp.pL (X.getD k default) (pr.getD ((X.getD k default).pa - 1).toNat default) x) (by omega) (by omega)
        have bl2 : (Bk.pL b (Cp.pL (X.getD k default) (pr.getD ((X.getD k default).pa - 1).toNat default) x)).length ≤ 2121 := by
          unfold Bk.pL
          split
          · exact Bk.out_len _ _
          · exact Nat.zero_le _
        clear hs res1 res2 res3 cT st0 sE o2 ef ok o
        generalize Ag.stg c (Pn.cl t (X.getD k default)) (X.getD k default) w.td = G at *
        generalize Bk.pE b (Cp.pL (X.getD k default) (pr.getD ((X.getD k default).pa - 1).toNat default) x) = BE at *
        generalize Bk.pL b (Cp.pL (X.getD k default) (pr.getD ((X.getD k default).pa - 1).toNat default) x) = BL at *
        generalize Cp.pE (X.getD k default) (pr.getD ((X.getD k default).pa - 1).toNat default) x = PE at *
        generalize Cp.pL (X.getD k default) (pr.getD ((X.getD k default).pa - 1).toNat default) x = PL at *
        generalize hPF : Cp.pF (X.getD k default) (pr.getD ((X.getD k default).pa - 1).toNat default) x = PF at *
        clear hPF
        repeat' ((conv => whnf); first | (refine V.NDraw.any (by kernel_rfl) ?_) | (refine V.NIf.yes ?_ ?_; · (decide; done)) | (refine V.NIf.no ?_ ?_; · (decide; done)) | refine V.NCond.mk ?_ | refine V.NPick.l ?_ | refine V.NIf.not_ ?_ | refine V.NIf.dec_ ?_ | refine V.a4 ?_ | refine V.a5 ?_ | refine V.NIf.mk (fun _ => ?_) (fun _ => ?_) | refine V.a7 ?_ | refine V.a8 ?_ | refine V.a9 ?_ | refine V.NBoth.mk ?_ ?_ | refine V.b1 ?_ | refine V.b2 ?_ | refine V.NTF.dec ?_ | refine V.b3 ?_ | refine V.b4 ?_ | (refine V.NCall.inl (f := 42) V.Tok V.mixed Tryz.func42 rfl Tryz.ntmps42 (by kernel_rfl) rfl ?_) | (refine V.NCall.inl (f := 38) V.Tok V.mixed Tryz.func38 rfl Tryz.ntmps38 (by kernel_rfl) rfl ?_) | (refine V.NCall.inl (f := 67) V.Tok V.mixed Tryz.func67 rfl Tryz.ntmps67 (by kernel_rfl) rfl ?_) | (refine NIdx.mk ⟨k, rfl, by omega, ?_⟩) | (refine NIdx.mk ⟨(X.getD k default).cl.toNat, by omega, by omega, ?_⟩) | (refine NIdx.mk ⟨((X.getD k default).pa - 1).toNat, by omega, by omega, ?_⟩) | ((first | refine V.Fn.k (cst) [0] rfl ?_ ?_ | refine V.Fn.q (cst) [0] rfl ?_ ?_ | refine V.Fn.a (cst) [0] rfl ?_ ?_); · exact V.D_) | (first | refine V.FnR.k0 (cpy) rfl ?_ | refine V.FnR.a0 (cpy) rfl ?_) | (refine NPut.to (en := encF) PF rfl rfl ?_) | ((first | refine V.FnR.k_ (cbp) [10, 15] rfl ?_ ?_ | refine V.FnR.a_ (cbp) [10, 15] rfl ?_ ?_); · exact V.D_) | ((first | refine V.FnR.k_ (cbp) [10, 16] rfl ?_ ?_ | refine V.FnR.a_ (cbp) [10, 16] rfl ?_ ?_); · exact V.D_) | (refine NOne.mk ?_ ?_; · (intro k hk; rfl)) | (refine NApp.all_ (by first | omega | (simp; omega)) (by omega) ?_) | (refine V.NDraw.any (by kernel_rfl) ?_) | fail)
        all_goals (conv => whnf)
        all_goals first
          | exact V.NBack.at_ (k + 1, X, b, none, 0) [] (n1 (by assumption)) (by dsimp only; omega) V.S_ rfl ⟨ObLe.as_ rfl, ObLe.as_ rfl, rfl, trivial⟩ V.S_ V.S_
          | exact V.NBack.at_ (k + 1, X, b, none, PE) [] (n2 (by assumption) (by assumption)) (by dsimp only; omega) V.S_ rfl ⟨ObLe.as_ rfl, ObLe.as_ rfl, rfl, trivial⟩ V.S_ V.S_
          | (obtain rfl : PE = 0 := by assumption
             exact V.NBack.at_ (k + 1, X.set k PF, b, none, 0) [] (n3 (by assumption) rfl (by omega)) (by dsimp only; omega) V.S_ rfl ⟨ObLe.is_ rfl (by rw [List.length_set]), ObLe.as_ rfl, rfl, trivial⟩ V.S_ V.S_)
          | (obtain rfl : PE = 0 := by assumption
             exact V.NBack.at_ (k + 1, X.set k PF, b, none, BE) [] (n4 (by assumption) rfl (by omega) (by assumption)) (by dsimp only; omega) V.S_ rfl ⟨ObLe.is_ rfl (by rw [List.length_set]), ObLe.as_ rfl, rfl, trivial⟩ V.S_ V.S_)
          | (obtain rfl : PE = 0 := by assumption
             obtain rfl : BE = 0 := by assumption
             exact V.NBack.at_ (k + 1, X.set k PF, BL, some PL, 0) [(10, 17), (12, 18)] (n5 (by assumption) rfl (by omega) rfl) (by dsimp only; omega) V.S_ rfl ⟨ObLe.is_ rfl (by rw [List.length_set]), ObLe.as_ rfl, rfl, ObLe.as_ rfl, trivial⟩ V.S_ V.S_)
          | trace_state
      · have hs' := hs.skip hlt he
        repeat' ((conv => whnf); first | (refine V.NIf.no ?_ ?_; · (assumption; done)) | refine V.NCond.mk ?_ | refine V.NPick.l ?_ | refine V.NIf.not_ ?_ | refine V.NIf.dec_ ?_ | refine V.a4 ?_ | refine V.a5 ?_ | refine V.NIf.mk (fun _ => ?_) (fun _ => ?_) | refine V.a7 ?_ | refine V.a8 ?_ | refine V.a9 ?_ | refine V.NBoth.mk ?_ ?_ | refine V.b1 ?_ | refine V.b2 ?_ | refine V.NTF.dec ?_ | refine V.b3 ?_ | refine V.b4 ?_ | (refine V.NDraw.any (by kernel_rfl) ?_) | fail)
        all_goals (conv => whnf)
        all_goals exact V.NBack.at_ (k + 1, X, b, none, e) [] hs' (by dsimp only; omega) V.S_ rfl ⟨ObLe.as_ rfl, ObLe.as_ rfl, rfl, trivial⟩ V.S_ V.S_
    · obtain rfl : k = w.fs.length := by omega
      obtain ⟨f1, f2⟩ := hs.fin
      by_cases he : e = 0
      · subst he
        have f3 := f2 rfl
        by_cases hT : Ca.sE c w.td 1 = 0
        · obtain ⟨r1, r2, r3⟩ := res3 f1 hT
          rw [f3] at r2 r3
          rw [r1, r2, r3]
          rw [hT] at cT
          repeat' ((conv => whnf); first | (refine V.NIf.yes ?_ ?_; · (decide; done)) | (refine V.NIf.no ?_ ?_; · (decide; done)) | refine V.NCond.mk ?_ | refine V.NPick.l ?_ | refine V.NIf.not_ ?_ | refine V.NIf.dec_ ?_ | refine V.a4 ?_ | refine V.a5 ?_ | refine V.NIf.mk (fun _ => ?_) (fun _ => ?_) | refine V.a7 ?_ | refine V.a8 ?_ | refine V.a9 ?_ | refine V.NBoth.mk ?_ ?_ | refine V.b1 ?_ | refine V.b2 ?_ | refine V.NTF.dec ?_ | refine V.b3 ?_ | refine V.b4 ?_ | ((first | refine V.Fn.k (cT) [0] rfl ?_ ?_ | refine V.Fn.q (cT) [0] rfl ?_ ?_ | refine V.Fn.a (cT) [0] rfl ?_ ?_); · exact V.D_) | (refine V.NCall.inl (f := 38) V.Tok V.mixed Tryz.func38 rfl Tryz.ntmps38 (by kernel_rfl) rfl ?_) | (refine V.NCall.inl (f := 44) V.Tok V.mixed Tryz.func44 rfl Tryz.ntmps44 (by kernel_rfl) rfl ?_) | (refine V.NDraw.any (by kernel_rfl) ?_) | fail)
          all_goals (conv => whnf)
          all_goals first
            | exact .mk_ [some 9, some 10, none] rfl (by (repeat' (first | exact rfl | exact trivial | exact Nat.le_of_ble_eq_true rfl | refine ⟨?_, ?_⟩))) ⟨⟨rfl, rfl, rfl, fun _ _ => rfl⟩, ⟨rfl, rfl, rfl, fun _ _ => rfl⟩, rfl, trivial⟩
            | trace_state
        · obtain ⟨r1, r2, r3⟩ := res2 f1 hT
          rw [r1, r2, r3]
          repeat' ((conv => whnf); first | (refine V.NIf.yes ?_ ?_; · (decide; done)) | (refine V.NIf.no ?_ ?_; · (assumption; done)) | (refine V.NIf.no ?_ ?_; · (decide; done)) | refine V.NCond.mk ?_ | refine V.NPick.l ?_ | refine V.NIf.not_ ?_ | refine V.NIf.dec_ ?_ | refine V.a4 ?_ | refine V.a5 ?_ | refine V.NIf.mk (fun _ => ?_) (fun _ => ?_) | refine V.a7 ?_ | refine V.a8 ?_ | refine V.a9 ?_ | refine V.NBoth.mk ?_ ?_ | refine V.b1 ?_ | refine V.b2 ?_ | refine V.NTF.dec ?_ | refine V.b3 ?_ | refine V.b4 ?_ | ((first | refine V.Fn.k (cT) [0] rfl ?_ ?_ | refine V.Fn.q (cT) [0] rfl ?_ ?_ | refine V.Fn.a (cT) [0] rfl ?_ ?_); · exact V.D_) | (refine V.NCall.inl (f := 38) V.Tok V.mixed Tryz.func38 rfl Tryz.ntmps38 (by kernel_rfl) rfl ?_) | (refine V.NCall.inl (f := 44) V.Tok V.mixed Tryz.func44 rfl Tryz.ntmps44 (by kernel_rfl) rfl ?_) | (refine V.NDraw.any (by kernel_rfl) ?_) | fail)
          all_goals (conv => whnf)
          all_goals first
            | exact V.er000
            | trace_state
      · obtain ⟨r1, r2, r3⟩ := res1 (by rw [f1]; exact he)
        rw [f1] at r1
        rw [r1, r2, r3]
        repeat' ((conv => whnf); first | (refine V.NIf.no ?_ ?_; · (assumption; done)) | (refine V.NIf.no ?_ ?_; · (decide; done)) | refine V.NCond.mk ?_ | refine V.NPick.l ?_ | refine V.NIf.not_ ?_ | refine V.NIf.dec_ ?_ | refine V.a4 ?_ | refine V.a5 ?_ | refine V.NIf.mk (fun _ => ?_) (fun _ => ?_) | refine V.a7 ?_ | refine V.a8 ?_ | refine V.a9 ?_ | refine V.NBoth.mk ?_ ?_ | refine V.b1 ?_ | refine V.b2 ?_ | refine V.NTF.dec ?_ | refine V.b3 ?_ | refine V.b4 ?_ | (refine V.NCall.inl (f := 44) V.Tok V.mixed Tryz.func44 rfl Tryz.ntmps44 (by kernel_rfl) rfl ?_) | (refine V.NDraw.any (by kernel_rfl) ?_) | fail)
        all_goals (conv => whnf)
        all_goals first
          | exact V.er000
          | trace_state
  · skip
    have hs : Cy.NJ c t x pr w.td S0 w.fs k X b p e := hs
    have xl := hs.xl
    have kl := hs.le
    by_cases hlt : k < w.fs.length
    · by_cases he : e = 0
      · subst he
        have o2 := (hs.ok rfl).2 k (Nat.le_refl _) hlt
        have o : F.Ok (X.getD k default) := by rw [o2]; exact ok _ (getD_mem hlt)
        obtain ⟨⟨_, _, _, hcl, hpa, _⟩, _⟩ := id o
        have sE : Ag.sE c (Pn.cl t (X.getD k default)) (X.getD k default) w.td = 0 := by rw [o2]; exact ef _ (getD_mem hlt)
        have cst := v_agStage c (Pn.cl t (X.getD k default)) (X.getD k default) w.td hc
        rw [sE, Ag.sV_yes sE] at cst
        have n1 := hs.s1 hlt
        have n2 := hs.s2 hlt
        have n3 := hs.s3 hlt
        have n4 := hs.s4 hlt
        have n5 := hs.s5 hlt
        have bl := hs.bl
        have pl := hs.pl
        rw [show P.pr pr (X.getD k default).pa = pr.getD ((X.getD k default).pa - 1).toNat default from rfl] at n2 n3 n4 n5
        have l2 := Cy.pL_len (X.getD k default) (pr.getD ((X.getD k default).pa - 1).toNat default) x
        have cpy := v_cpPay (X.getD k default) (pr.getD ((X.getD k default).pa - 1).toNat default) x
        have cbp := v_bkPost b (Cp.pL (X.getD k default) (pr.getD ((X.getD k default).pa - 1).toNat default) x) (by omega) (by omega)
        have bl2 : (Bk.pL b (Cp.pL (X.getD k default) (pr.getD ((X.getD k default).pa - 1).toNat default) x)).length ≤ 2121 := by
          unfold Bk.pL
          split
          · exact Bk.out_len _ _
          · exact Nat.zero_le _
        clear hs res1 res2 res3 cT st0 sE o2 ef ok o
        generalize Ag.stg c (Pn.cl t (X.getD k default)) (X.getD k default) w.td = G at *
        generalize Bk.pE b (Cp.pL (X.getD k default) (pr.getD ((X.getD k default).pa - 1).toNat default) x) = BE at *
        generalize Bk.pL b (Cp.pL (X.getD k default) (pr.getD ((X.getD k default).pa - 1).toNat default) x) = BL at *
        generalize Cp.pE (X.getD k default) (pr.getD ((X.getD k default).pa - 1).toNat default) x = PE at *
        generalize Cp.pL (X.getD k default) (pr.getD ((X.getD k default).pa - 1).toNat default) x = PL at *
        generalize hPF : Cp.pF (X.getD k default) (pr.getD ((X.getD k default).pa - 1).toNat default) x = PF at *
        clear hPF
        repeat' ((conv => whnf); first | (refine V.NDraw.any (by kernel_rfl) ?_) | (refine V.NIf.yes ?_ ?_; · (decide; done)) | (refine V.NIf.no ?_ ?_; · (decide; done)) | refine V.NCond.mk ?_ | refine V.NPick.l ?_ | refine V.NIf.not_ ?_ | refine V.NIf.dec_ ?_ | refine V.a4 ?_ | refine V.a5 ?_ | refine V.NIf.mk (fun _ => ?_) (fun _ => ?_) | refine V.a7 ?_ | refine V.a8 ?_ | refine V.a9 ?_ | refine V.NBoth.mk ?_ ?_ | refine V.b1 ?_ | refine V.b2 ?_ | refine V.NTF.dec ?_ | refine V.b3 ?_ | refine V.b4 ?_ | (refine V.NCall.inl (f := 42) V.Tok V.mixed Tryz.func42 rfl Tryz.ntmps42 (by kernel_rfl) rfl ?_) | (refine V.NCall.inl (f := 38) V.Tok V.mixed Tryz.func38 rfl Tryz.ntmps38 (by kernel_rfl) rfl ?_) | (refine V.NCall.inl (f := 67) V.Tok V.mixed Tryz.func67 rfl Tryz.ntmps67 (by kernel_rfl) rfl ?_) | (refine NIdx.mk ⟨k, rfl, by omega, ?_⟩) | (refine NIdx.mk ⟨(X.getD k default).cl.toNat, by omega, by omega, ?_⟩) | (refine NIdx.mk ⟨((X.getD k default).pa - 1).toNat, by omega, by omega, ?_⟩) | ((first | refine V.Fn.k (cst) [0] rfl ?_ ?_ | refine V.Fn.q (cst) [0] rfl ?_ ?_ | refine V.Fn.a (cst) [0] rfl ?_ ?_); · exact V.D_) | (first | refine V.FnR.k0 (cpy) rfl ?_ | refine V.FnR.a0 (cpy) rfl ?_) | (refine NPut.to (en := encF) PF rfl rfl ?_) | ((first | refine V.FnR.k_ (cbp) [10, 15] rfl ?_ ?_ | refine V.FnR.a_ (cbp) [10, 15] rfl ?_ ?_); · exact V.D_) | ((first | refine V.FnR.k_ (cbp) [10, 16] rfl ?_ ?_ | refine V.FnR.a_ (cbp) [10, 16] rfl ?_ ?_); · exact V.D_) | (refine NOne.mk ?_ ?_; · (intro k hk; rfl)) | (refine NApp.list (by first | omega | (simp; omega)) (by omega) ?_) | (refine V.NDraw.any (by kernel_rfl) ?_) | fail)
        all_goals (conv => whnf)
        all_goals first
          | exact V.NBack.at_ (k + 1, X, b, some p, 0) [] (n1 (by assumption)) (by dsimp only; omega) V.S_ rfl ⟨ObLe.as_ rfl, ObLe.as_ rfl, rfl, ObLe.as_ rfl, trivial⟩ V.S_ V.S_
          | exact V.NBack.at_ (k + 1, X, b, some p, PE) [] (n2 (by assumption) (by assumption)) (by dsimp only; omega) V.S_ rfl ⟨ObLe.as_ rfl, ObLe.as_ rfl, rfl, ObLe.as_ rfl, trivial⟩ V.S_ V.S_
          | (obtain rfl : PE = 0 := by assumption
             exact V.NBack.at_ (k + 1, X.set k PF, b, some p, 0) [] (n3 (by assumption) rfl (by omega)) (by dsimp only; omega) V.S_ rfl ⟨ObLe.is_ rfl (by rw [List.length_set]), ObLe.as_ rfl, rfl, ObLe.as_ rfl, trivial⟩ V.S_ V.S_)
          | (obtain rfl : PE = 0 := by assumption
             exact V.NBack.at_ (k + 1, X.set k PF, b, some p, BE) [] (n4 (by assumption) rfl (by omega) (by assumption)) (by dsimp only; omega) V.S_ rfl ⟨ObLe.is_ rfl (by rw [List.length_set]), ObLe.as_ rfl, rfl, ObLe.as_ rfl, trivial⟩ V.S_ V.S_)
          | (obtain rfl : PE = 0 := by assumption
             obtain rfl : BE = 0 := by assumption
             exact V.NBack.at_ (k + 1, X.set k PF, BL, some (p ++ PL), 0) [(10, 17), (12, 18)] (n5 (by assumption) rfl (by omega) rfl) (by dsimp only; omega) V.S_ rfl ⟨ObLe.is_ rfl (by rw [List.length_set]), ObLe.as_ rfl, rfl, ObLe.as_ rfl, trivial⟩ V.S_ V.S_)
          | trace_state
      · have hs' := hs.skip hlt he
        repeat' ((conv => whnf); first | (refine V.NIf.no ?_ ?_; · (assumption; done)) | refine V.NCond.mk ?_ | refine V.NPick.l ?_ | refine V.NIf.not_ ?_ | refine V.NIf.dec_ ?_ | refine V.a4 ?_ | refine V.a5 ?_ | refine V.NIf.mk (fun _ => ?_) (fun _ => ?_) | refine V.a7 ?_ | refine V.a8 ?_ | refine V.a9 ?_ | refine V.NBoth.mk ?_ ?_ | refine V.b1 ?_ | refine V.b2 ?_ | refine V.NTF.dec ?_ | refine V.b3 ?_ | refine V.b4 ?_ | (refine V.NDraw.any (by kernel_rfl) ?_) | fail)
        all_goals (conv => whnf)
        all_goals exact V.NBack.at_ (k + 1, X, b, some p, e) [] hs' (by dsimp only; omega) V.S_ rfl ⟨ObLe.as_ rfl, ObLe.as_ rfl, rfl, ObLe.as_ rfl, trivial⟩ V.S_ V.S_
    · obtain rfl : k = w.fs.length := by omega
      obtain ⟨f1, f2⟩ := hs.fin
      by_cases he : e = 0
      · subst he
        have f3 := f2 rfl
        by_cases hT : Ca.sE c w.td 1 = 0
        · obtain ⟨r1, r2, r3⟩ := res3 f1 hT
          rw [f3] at r2 r3
          rw [r1, r2, r3]
          rw [hT] at cT
          repeat' ((conv => whnf); first | (refine V.NIf.yes ?_ ?_; · (decide; done)) | (refine V.NIf.no ?_ ?_; · (decide; done)) | refine V.NCond.mk ?_ | refine V.NPick.l ?_ | refine V.NIf.not_ ?_ | refine V.NIf.dec_ ?_ | refine V.a4 ?_ | refine V.a5 ?_ | refine V.NIf.mk (fun _ => ?_) (fun _ => ?_) | refine V.a7 ?_ | refine V.a8 ?_ | refine V.a9 ?_ | refine V.NBoth.mk ?_ ?_ | refine V.b1 ?_ | refine V.b2 ?_ | refine V.NTF.dec ?_ | refine V.b3 ?_ | refine V.b4 ?_ | ((first | refine V.Fn.k (cT) [0] rfl ?_ ?_ | refine V.Fn.q (cT) [0] rfl ?_ ?_ | refine V.Fn.a (cT) [0] rfl ?_ ?_); · exact V.D_) | (refine V.NCall.inl (f := 38) V.Tok V.mixed Tryz.func38 rfl Tryz.ntmps38 (by kernel_rfl) rfl ?_) | (refine V.NCall.inl (f := 44) V.Tok V.mixed Tryz.func44 rfl Tryz.ntmps44 (by kernel_rfl) rfl ?_) | (refine V.NDraw.any (by kernel_rfl) ?_) | fail)
          all_goals (conv => whnf)
          all_goals first
            | exact V.er3 9 10 12
            | trace_state
        · obtain ⟨r1, r2, r3⟩ := res2 f1 hT
          rw [r1, r2, r3]
          repeat' ((conv => whnf); first | (refine V.NIf.yes ?_ ?_; · (decide; done)) | (refine V.NIf.no ?_ ?_; · (assumption; done)) | (refine V.NIf.no ?_ ?_; · (decide; done)) | refine V.NCond.mk ?_ | refine V.NPick.l ?_ | refine V.NIf.not_ ?_ | refine V.NIf.dec_ ?_ | refine V.a4 ?_ | refine V.a5 ?_ | refine V.NIf.mk (fun _ => ?_) (fun _ => ?_) | refine V.a7 ?_ | refine V.a8 ?_ | refine V.a9 ?_ | refine V.NBoth.mk ?_ ?_ | refine V.b1 ?_ | refine V.b2 ?_ | refine V.NTF.dec ?_ | refine V.b3 ?_ | refine V.b4 ?_ | ((first | refine V.Fn.k (cT) [0] rfl ?_ ?_ | refine V.Fn.q (cT) [0] rfl ?_ ?_ | refine V.Fn.a (cT) [0] rfl ?_ ?_); · exact V.D_) | (refine V.NCall.inl (f := 38) V.Tok V.mixed Tryz.func38 rfl Tryz.ntmps38 (by kernel_rfl) rfl ?_) | (refine V.NCall.inl (f := 44) V.Tok V.mixed Tryz.func44 rfl Tryz.ntmps44 (by kernel_rfl) rfl ?_) | (refine V.NDraw.any (by kernel_rfl) ?_) | fail)
          all_goals (conv => whnf)
          all_goals first
            | exact V.er000
            | trace_state
      · obtain ⟨r1, r2, r3⟩ := res1 (by rw [f1]; exact he)
        rw [f1] at r1
        rw [r1, r2, r3]
        repeat' ((conv => whnf); first | (refine V.NIf.no ?_ ?_; · (assumption; done)) | (refine V.NIf.no ?_ ?_; · (decide; done)) | refine V.NCond.mk ?_ | refine V.NPick.l ?_ | refine V.NIf.not_ ?_ | refine V.NIf.dec_ ?_ | refine V.a4 ?_ | refine V.a5 ?_ | refine V.NIf.mk (fun _ => ?_) (fun _ => ?_) | refine V.a7 ?_ | refine V.a8 ?_ | refine V.a9 ?_ | refine V.NBoth.mk ?_ ?_ | refine V.b1 ?_ | refine V.b2 ?_ | refine V.NTF.dec ?_ | refine V.b3 ?_ | refine V.b4 ?_ | (refine V.NCall.inl (f := 44) V.Tok V.mixed Tryz.func44 rfl Tryz.ntmps44 (by kernel_rfl) rfl ?_) | (refine V.NDraw.any (by kernel_rfl) ?_) | fail)
        all_goals (conv => whnf)
        all_goals first
          | exact V.er000
          | trace_state
end Go.Proofs.YtpanlcnoopmchaaGreat

namespace Go.Proofs.YtpanlcnoopmchaaGreat
namespace Cy
section
variable {c : Cl} {t : List Tm} {x : Int} {w : Wd} {pr : List Int}
theorem e_1 (h : ¬ rE c t x = 0) : (s0 c t x w pr).e = rE c t x := by rw [s0_1 (by rw [nB_1 h]; exact h)]; exact nB_1 h
theorem e_2 (h : rE c t x = 0) (k : ¬ wE w = 0) : (s0 c t x w pr).e = wE w := by rw [s0_1 (by rw [nB_2 h k]; exact k)]; exact nB_2 h k
theorem e_3 (h : rE c t x = 0) (k : wE w = 0) (p : ¬ P.chks pr = 0) : (s0 c t x w pr).e = P.chks pr := by rw [s0_1 (by rw [nB_3 h k p]; exact p)]; exact nB_3 h k p
theorem is_op {c : Cl} {w : Wd} (h : Ca.chk c = 0) (k : wE w = 0) : Ca.isV c w.td = decide (Ca.op c w.td = 1) := by
  obtain ⟨d0, _⟩ := wE_ok k
  exact Ca.isV_yes h (by have z := Ca.dchk w.td; unfold Ca.Day at *; omega)
theorem e_4 (h : rE c t x = 0) (k : wE w = 0) (p : P.chks pr = 0) (o : ¬ Ca.isV c w.td = true) : (s0 c t x w pr).e = 4 := by
  have o' : ¬ Ca.op c w.td = 1 := fun z => o (by rw [is_op (rE_ok h).1 k]; exact decide_eq_true z)
  rw [s0_1 (by rw [nB_4 h k p o']; decide)]; exact nB_4 h k p o'
theorem e_o (h : rE c t x = 0) (k : wE w = 0) (o : Ca.isV c w.td = true) : Ca.op c w.td = 1 := by
  rw [is_op (rE_ok h).1 k] at o
  exact of_decide_eq_true o
theorem e_5 (h : rE c t x = 0) (k : wE w = 0) (p : P.chks pr = 0) (o : Ca.isV c w.td = true) (y : ¬ Pn.yD c t w.fs pr w.td = 0) : (s0 c t x w pr).e = Pn.yD c t w.fs pr w.td := by
  have e := nB_5 h k p (e_o h k o)
  rw [s0_1 (by rw [e]; exact y)]; exact e
theorem e_6 (h : rE c t x = 0) (k : wE w = 0) (p : P.chks pr = 0) (o : Ca.isV c w.td = true) (y : Pn.yD c t w.fs pr w.td = 0) (s : ¬ Pn.suE (du c t w pr) = 0) (s' : ¬ Pn.suE (du c t w pr) = 5) : (s0 c t x w pr).e = Pn.suE (du c t w pr) := by
  have e := (nB_5 (pr := pr) h k p (e_o h k o)).trans y
  have q : psE w (du c t w pr) = Pn.suE (du c t w pr) := if_pos ⟨s, s'⟩
  rw [s0_2 e (by rw [q]; exact s)]; exact q
theorem e_7 (h : rE c t x = 0) (k : wE w = 0) (p : P.chks pr = 0) (o : Ca.isV c w.td = true) (y : Pn.yD c t w.fs pr w.td = 0) (s : Pn.suE (du c t w pr) = 0 ∨ Pn.suE (du c t w pr) = 5) (l : ¬ (Pn.suL (du c t w pr)).length = 0) (b : ¬ Bk.pE w.bk (Pn.suL (du c t w pr)) = 0) : (s0 c t x w pr).e = Bk.pE w.bk (Pn.suL (du c t w pr)) := by
  have e := (nB_5 (pr := pr) h k p (e_o h k o)).trans y
  have q : psE w (du c t w pr) = Bk.pE w.bk (Pn.suL (du c t w pr)) := (if_neg (by omega)).trans (if_neg l)
  rw [s0_2 e (by rw [q]; exact b)]; exact q
theorem e_8 (h : rE c t x = 0) (k : wE w = 0) (p : P.chks pr = 0) (o : Ca.isV c w.td = true) (y : Pn.yD c t w.fs pr w.td = 0) (s : Pn.suE (du c t w pr) = 0 ∨ Pn.suE (du c t w pr) = 5) (l : (Pn.suL (du c t w pr)).length = 0 ∨ Bk.pE w.bk (Pn.suL (du c t w pr)) = 0) : (s0 c t x w pr).e = 0 := by
  have e := (nB_5 (pr := pr) h k p (e_o h k o)).trans y
  have q : psE w (du c t w pr) = 0 := by
    unfold psE
    rw [if_neg (by omega)]
    split
    · rfl
    · rcases l with z | z
      · exact absurd z (by assumption)
      · exact z
  rw [s0_3 e q]
end
end Cy
end Go.Proofs.YtpanlcnoopmchaaGreat

namespace Go.Proofs.YtpanlcnoopmchaaGreat
open Go Go.RowKit V
set_option maxHeartbeats 8000000 in
theorem v_night_e (c : Cl) (t : List Tm) (x : Int) (w : Wd) (pr : List Int) (hc : c.hs.length ≤ 9223372036854775807) (ht : t.length ≤ 9223372036854775807) (hb : w.bk.length ≤ 9223372036854775807) (hp : pr.length ≤ 9223372036854775807)
    (hf1 : w.fs.length ≤ 1759218604390) (hb1 : w.bk.length ≤ 5864062014634) (h0 : ¬ (Cy.s0 c t x w pr).e = 0) :
    V.FnR Tryz.prog 11 (nightO c t w pr) [ruV c x, .agg [.val (.int .i64 w.td), .ref 2, .ref 3], .one (.ref 4)] (.tup [.agg [.val (.int .i64 (Cy.nW c t x w pr).td), .ref 5, .ref 6], .one (.ref 7), .one (.val (.int .i64 (Cy.nE c t x w pr)))]) [.row 42 10 (Cy.nW c t x w pr).fs.length (ga encF (Cy.nW c t x w pr).fs), .row 65 3 (Cy.nW c t x w pr).bk.length (ga encP (Cy.nW c t x w pr).bk), .row 65 3 (Cy.nP c t x w pr).length (ga encP (Cy.nP c t x w pr))] := by
  obtain ⟨r1, r2, r3⟩ := Cy.n_bad h0
  rw [r1, r2, r3]
  have cR := v_cyRules c t x hc ht
  have cW := v_cyCheck w hb
  have cP := v_prices pr hp
  have cI := v_caIs c w.td hc
  have cD := v_day c t w.fs pr w.td hc ht hp
  rw [show Pn.yL c t w.fs pr w.td = Cy.du c t w pr from rfl] at cD
  have cS := v_psum (Cy.du c t w pr) (by have := Pn.yL_len c t w.fs pr w.td; unfold Cy.du; omega)
  have sl : (Pn.suL (Cy.du c t w pr)).length ≤ 31 := by
    unfold Pn.suL
    split
    all_goals first | exact Pn.pos_len _ _ | exact Nat.zero_le _
  have cB := v_bkPost w.bk (Pn.suL (Cy.du c t w pr)) hb (by omega)
  have e1 := Cy.e_1 (c := c) (t := t) (x := x) (w := w) (pr := pr)
  have e2 := Cy.e_2 (c := c) (t := t) (x := x) (w := w) (pr := pr)
  have e3 := Cy.e_3 (c := c) (t := t) (x := x) (w := w) (pr := pr)
  have e4 := Cy.e_4 (c := c) (t := t) (x := x) (w := w) (pr := pr)
  have e5 := Cy.e_5 (c := c) (t := t) (x := x) (w := w) (pr := pr)
  have e6 := Cy.e_6 (c := c) (t := t) (x := x) (w := w) (pr := pr)
  have e7 := Cy.e_7 (c := c) (t := t) (x := x) (w := w) (pr := pr)
  have e8 := Cy.e_8 (c := c) (t := t) (x := x) (w := w) (pr := pr)
  generalize Pn.suE (Cy.du c t w pr) = SE at *
  generalize Pn.suL (Cy.du c t w pr) = S at *
  generalize Cy.du c t w pr = D at *
  generalize Bk.pE w.bk S = BE at *
  generalize Bk.pL w.bk S = B1 at *
  generalize Pn.yD c t w.fs pr w.td = YD at *
  generalize Cy.rE c t x = RE at *
  generalize Cy.wE w = WE at *
  generalize P.chks pr = CE at *
  generalize Ca.isV c w.td = IV at *
  generalize (Cy.s0 c t x w pr).e = E0 at *
  by_cases hse : SE = 0
  all_goals (
    refine V.FnR.mk_ V.Tok V.mixed Tryz.func11 rfl Tryz.ntmps11 (by kernel_rfl) rfl rfl rfl rfl ?_
    repeat' ((conv => whnf); first | (refine V.NDraw.any (by kernel_rfl) ?_) | (refine V.NIf.yes ?_ ?_; · (assumption; done)) | (refine V.NIf.no ?_ ?_; · (assumption; done)) | (refine V.NIf.yes ?_ ?_; · (decide; done)) | (refine V.NIf.no ?_ ?_; · (decide; done)) | refine V.NCond.mk ?_ | refine V.NPick.l ?_ | refine V.NIf.not_ ?_ | refine V.NIf.dec_ ?_ | refine V.a4 ?_ | refine V.a5 ?_ | refine V.NIf.mk (fun _ => ?_) (fun _ => ?_) | refine V.a7 ?_ | refine V.a8 ?_ | refine V.a9 ?_ | refine V.NBoth.mk ?_ ?_ | refine V.b1 ?_ | refine V.b2 ?_ | refine V.NTF.dec ?_ | refine V.b3 ?_ | refine V.b4 ?_ | ((first | refine V.FnR.k_ (v_cyOwn w hf1 hb1) [2, 3] rfl ?_ ?_ | refine V.FnR.a_ (v_cyOwn w hf1 hb1) [2, 3] rfl ?_ ?_); · exact V.D_) | ((first | refine V.Fn.k (cR) [0, 1] rfl ?_ ?_ | refine V.Fn.q (cR) [0, 1] rfl ?_ ?_ | refine V.Fn.a (cR) [0, 1] rfl ?_ ?_); · exact V.D_) | ((first | refine V.Fn.k (cW) [2, 3] rfl ?_ ?_ | refine V.Fn.q (cW) [2, 3] rfl ?_ ?_ | refine V.Fn.a (cW) [2, 3] rfl ?_ ?_); · exact V.D_) | ((first | refine V.Fn.k (cP) [4] rfl ?_ ?_ | refine V.Fn.q (cP) [4] rfl ?_ ?_ | refine V.Fn.a (cP) [4] rfl ?_ ?_); · exact V.D_) | ((first | refine V.Fn.k (cI) [0] rfl ?_ ?_ | refine V.Fn.q (cI) [0] rfl ?_ ?_ | refine V.Fn.a (cI) [0] rfl ?_ ?_); · exact V.D_) | (refine V.NCall.inl (f := 38) V.Tok V.mixed Tryz.func38 rfl Tryz.ntmps38 (by kernel_rfl) rfl ?_) | (refine V.NCall.inl (f := 41) V.Tok V.mixed Tryz.func41 rfl Tryz.ntmps41 (by kernel_rfl) rfl ?_) | (refine V.NCall.inl (f := 67) V.Tok V.mixed Tryz.func67 rfl Tryz.ntmps67 (by kernel_rfl) rfl ?_) | ((first | refine V.FnR.k_ (cD) [0, 1, 9, 4] rfl ?_ ?_ | refine V.FnR.a_ (cD) [0, 1, 9, 4] rfl ?_ ?_); · exact V.D_) | ((first | refine V.FnR.k_ (cS) [12] rfl ?_ ?_ | refine V.FnR.a_ (cS) [12] rfl ?_ ?_); · exact V.D_) | ((first | refine V.FnR.k_ (cB) [10, 13] rfl ?_ ?_ | refine V.FnR.a_ (cB) [10, 13] rfl ?_ ?_); · exact V.D_) | (refine NOne.mk ?_ ?_; · (intro k hk; rfl)) | (refine NApp.all_ (by first | omega | (simp; omega)) (by omega) ?_) | (refine V.NDraw.any (by kernel_rfl) ?_) | fail)
    all_goals (conv => whnf)
    all_goals clear cR cW cP cI cD cS cB
    all_goals first
      | exact absurd (e8 (by assumption) (by assumption) (by assumption) (by assumption) (by assumption) (by omega) (by omega)) h0
      | rw [e1 (by assumption)]
      | rw [e2 (by assumption) (by assumption)]
      | rw [e3 (by assumption) (by assumption) (by assumption)]
      | rw [e4 (by assumption) (by assumption) (by assumption) (by assumption)]
      | rw [e5 (by assumption) (by assumption) (by assumption) (by assumption) (by assumption)]
      | rw [e6 (by assumption) (by assumption) (by assumption) (by assumption) (by assumption) (by assumption) (by assumption)]
      | rw [e7 (by assumption) (by assumption) (by assumption) (by assumption) (by assumption) (by omega) (by omega) (by assumption)]
      | trace_state
    all_goals clear e1 e2 e3 e4 e5 e6 e7 e8 h0
    all_goals (
      refine V.NLoop.auto (fun (k : Nat) => [(62, .one (.val (.int .i64 k)))]) (fun (k : Nat) => []) [] [] (fun (k : Nat) => w.fs.length - k) (fun (k : Nat) => k ≤ w.fs.length) 0 (Nat.zero_le _) V.S_ V.S_ (fun _ => ⟨rfl, rfl⟩) ?_; (conv => whnf); refine ⟨⟨rfl, rfl⟩, ?_⟩
      rintro k hk
      by_cases hlt : k < w.fs.length
      · repeat' ((conv => whnf); first | (refine V.NIf.no ?_ ?_; · (assumption; done)) | (refine V.NIf.no ?_ ?_; · (decide; done)) | refine V.NCond.mk ?_ | refine V.NPick.l ?_ | refine V.NIf.not_ ?_ | refine V.NIf.dec_ ?_ | refine V.a4 ?_ | refine V.a5 ?_ | refine V.NIf.mk (fun _ => ?_) (fun _ => ?_) | refine V.a7 ?_ | refine V.a8 ?_ | refine V.a9 ?_ | refine V.NBoth.mk ?_ ?_ | refine V.b1 ?_ | refine V.b2 ?_ | refine V.NTF.dec ?_ | refine V.b3 ?_ | refine V.b4 ?_ | (refine V.NDraw.any (by kernel_rfl) ?_) | fail)
        all_goals (conv => whnf)
        all_goals first
          | exact V.NBack.at_ (k + 1) [] (by omega) (by omega) V.S_ rfl V.S_ V.S_ V.S_
          | trace_state
      · obtain rfl : k = w.fs.length := by omega
        repeat' ((conv => whnf); first | (refine V.NIf.no ?_ ?_; · (assumption; done)) | (refine V.NIf.no ?_ ?_; · (decide; done)) | refine V.NCond.mk ?_ | refine V.NPick.l ?_ | refine V.NIf.not_ ?_ | refine V.NIf.dec_ ?_ | refine V.a4 ?_ | refine V.a5 ?_ | refine V.NIf.mk (fun _ => ?_) (fun _ => ?_) | refine V.a7 ?_ | refine V.a8 ?_ | refine V.a9 ?_ | refine V.NBoth.mk ?_ ?_ | refine V.b1 ?_ | refine V.b2 ?_ | refine V.NTF.dec ?_ | refine V.b3 ?_ | refine V.b4 ?_ | (refine V.NCall.inl (f := 44) V.Tok V.mixed Tryz.func44 rfl Tryz.ntmps44 (by kernel_rfl) rfl ?_) | (refine V.NDraw.any (by kernel_rfl) ?_) | fail)
        all_goals (conv => whnf)
        all_goals first
          | exact V.er000
          | trace_state))
end Go.Proofs.YtpanlcnoopmchaaGreat

namespace Go.Proofs.YtpanlcnoopmchaaGreat
open Go Go.RowKit V
theorem v_night (c : Cl) (t : List Tm) (x : Int) (w : Wd) (pr : List Int) (hc : c.hs.length ≤ 9223372036854775807) (ht : t.length ≤ 9223372036854775807) (hp : pr.length ≤ 9223372036854775807) (hf1 : w.fs.length ≤ 1759218604390) (hb1 : w.bk.length ≤ 5864062014634) :
    V.FnR Tryz.prog 11 (nightO c t w pr) [ruV c x, .agg [.val (.int .i64 w.td), .ref 2, .ref 3], .one (.ref 4)] (.tup [.agg [.val (.int .i64 (Cy.nW c t x w pr).td), .ref 5, .ref 6], .one (.ref 7), .one (.val (.int .i64 (Cy.nE c t x w pr)))]) [.row 42 10 (Cy.nW c t x w pr).fs.length (ga encF (Cy.nW c t x w pr).fs), .row 65 3 (Cy.nW c t x w pr).bk.length (ga encP (Cy.nW c t x w pr).bk), .row 65 3 (Cy.nP c t x w pr).length (ga encP (Cy.nP c t x w pr))] := by
  by_cases h0 : (Cy.s0 c t x w pr).e = 0
  · by_cases hS : (Pn.suL (Cy.du c t w pr)).length = 0
    · exact v_night_a c t x w pr hc ht (by omega) hp h0 hS
    · exact v_night_b c t x w pr hc ht (by omega) hp h0 hS
  · exact v_night_e c t x w pr hc ht (by omega) hp hf1 hb1 h0
end Go.Proofs.YtpanlcnoopmchaaGreat

namespace Go.Proofs.YtpanlcnoopmchaaGreat.V
open Go Go.RowKit
theorem Ats.nilf {ρ : Rho} {nx : Nat} (hx : ρ nx = none) : ∀ {l : List At} {cs : List Value} {i : Nat}, l[i]? = some (.val (.slice none 0 0)) → Ats ρ l cs → Ats (upd ρ nx (.slice none 0 0)) (l.set i (.ref nx)) cs
  | [], _, i, h, _ => by simp at h
  | a :: l, _, 0, h, ⟨u, r, e, ha, hr⟩ => by
    have ea : a = .val (.slice none 0 0) := by simpa using h
    subst ea
    have eu : u = .slice none 0 0 := ha
    subst eu
    exact ⟨_, r, e, ⟨upd_same _ _ _, rfl⟩, hr.ext (ext_upd hx)⟩
  | a :: l, _, i + 1, h, ⟨u, r, e, ha, hr⟩ => ⟨u, r, e, At.is_ext (ext_upd hx) ha, Ats.nilf hx (by simpa using h) hr⟩
theorem Svs.nilf {ρ : Rho} {nx : Nat} (hx : ρ nx = none) {c : List At} {i : Nat} (hi : c[i]? = some (.val (.slice none 0 0))) : ∀ {args : List SV} {xs : List Value} {j : Nat}, args[j]? = some (.agg c) → Svs ρ args xs → Svs (upd ρ nx (.slice none 0 0)) (args.set j (.agg (c.set i (.ref nx)))) xs
  | [], _, j, h, _ => by simp at h
  | a :: l, _, 0, h, ⟨u, r, e, ha, hr⟩ => by
    have ea : a = .agg c := by simpa using h
    subst ea
    obtain ⟨cs, hc, ex⟩ := ha
    exact ⟨u, r, e, ⟨cs, Ats.nilf hx hi hc, ex⟩, Svs.ext (ext_upd hx) hr⟩
  | a :: l, _, j + 1, h, ⟨u, r, e, ha, hr⟩ => ⟨u, r, e, SV.is1_ext (ext_upd hx) ha, Svs.nilf hx hi (by simpa using h) hr⟩
theorem NCall.nilf {P : Program} {f : FuncId} {args : List SV} {obs : Obs} {nx : Nat} {K : SV → Obs → Nat → Prop} (j i s : Nat) (c : List At) (e : args[j]? = some (.agg c)) (hi : c[i]? = some (.val (.slice none 0 0))) (h : NCall P f (args.set j (.agg (c.set i (.ref nx)))) ((nx, .arr s 0 fun _ => []) :: obs) (nx + 1) K) : NCall P f args obs nx K := by
  refine ⟨h.b, fun B ρ w xs hC ha => ?_⟩
  have hx := hC.new nx (Nat.le_refl _)
  have hC' := hC.more (v := .slice none 0 0) (o := .arr s 0 fun _ => []) (Below.refl _ _) ⟨_, upd_same _ _ _, none, 0, rfl, by omega, by omega, fun k hk => by omega⟩ (fun b hf => by simp [foot] at hf)
  refine (h.h B _ w xs hC' (Svs.nilf hx hi e ha)).mono ?_
  rintro e w' ⟨v, obs', nx', ρ', x, hK, hE, r⟩
  exact ⟨v, obs', nx', ρ', x, hK, fun i y hy => hE i y (by have : i ≠ nx := fun q => (by rw [q, hx] at hy; cases hy); simpa [upd, this] using hy), r⟩
end Go.Proofs.YtpanlcnoopmchaaGreat.V

namespace Go.Proofs.YtpanlcnoopmchaaGreat
open Go Go.RowKit V
end Go.Proofs.YtpanlcnoopmchaaGreat

namespace Go.Proofs.YtpanlcnoopmchaaGreat
open Go Go.RowKit V
theorem v_someTerms : V.Fn Tryz.prog 80 [] [] (.agg #[.int .i64 4, .int .i64 7, .int .i64 2, .int .i64 100]) := by
  refine V.Fn.mk_ V.Tok V.mixed Tryz.func80 rfl Tryz.ntmps80 (by kernel_rfl) rfl rfl ?_
  repeat' ((conv => whnf); first | refine V.NCond.mk ?_ | refine V.NPick.l ?_ | refine V.NIf.not_ ?_ | refine V.NIf.dec_ ?_ | refine V.a4 ?_ | refine V.a5 ?_ | refine V.NIf.mk (fun _ => ?_) (fun _ => ?_) | refine V.a7 ?_ | refine V.a8 ?_ | refine V.a9 ?_ | refine V.NBoth.mk ?_ ?_ | refine V.b1 ?_ | refine V.b2 ?_ | refine V.NTF.dec ?_ | refine V.b3 ?_ | refine V.b4 ?_ | (refine V.NDraw.any (by kernel_rfl) ?_) | fail)
  all_goals (conv => whnf)
  all_goals exact ⟨rfl, rfl, rfl, rfl, trivial⟩
theorem v_ageBegun : V.Fn Tryz.prog 30 [] [] (.bool true) := by
  have c1 := v_agDays Ca.W Ag.A 739935 (by decide)
  rw [Ag.a_days.1, Ag.a_days.2.1, Ag.a_days.2.2.1, Ag.a_days.2.2.2] at c1
  have c2 := v_agStage Ca.W Ag.A F.s0 739942 (by decide)
  rw [Ag.a_s1.1, Ag.a_s1.2] at c2
  have c3 := v_agStage Ca.W Ag.A F.s0 739943 (by decide)
  rw [Ag.a_s2.1, Ag.a_s2.2] at c3
  have c4 := v_agLeft Ca.W Ag.A F.s0 739953 (by decide)
  rw [Ag.a_l.1, Ag.a_l.2] at c4
  have c5 := v_agStage Ca.W ⟨0, 101, 0, 0⟩ F.s0 1 (by decide)
  rw [Ag.a_b] at c5
  refine V.Fn.mk_ V.Tok V.mixed Tryz.func30 rfl Tryz.ntmps30 (by kernel_rfl) rfl rfl ?_
  repeat' ((conv => whnf); first | (refine V.NIf.yes ?_ ?_; · (decide; done)) | (refine V.NIf.no ?_ ?_; · (decide; done)) | refine V.NCond.mk ?_ | refine V.NPick.l ?_ | refine V.NIf.not_ ?_ | refine V.NIf.dec_ ?_ | refine V.a4 ?_ | refine V.a5 ?_ | refine V.NIf.mk (fun _ => ?_) (fun _ => ?_) | refine V.a7 ?_ | refine V.a8 ?_ | refine V.a9 ?_ | refine V.NBoth.mk ?_ ?_ | refine V.b1 ?_ | refine V.b2 ?_ | refine V.NTF.dec ?_ | refine V.b3 ?_ | refine V.b4 ?_ | (refine V.NCall.inl (f := 79) V.Tok V.mixed Tryz.func79 rfl Tryz.ntmps79 (by kernel_rfl) rfl ?_) | (first | refine V.Fn.k0 (v_someTerms) rfl ?_ | refine V.Fn.q0 (v_someTerms) rfl ?_ | refine V.Fn.a0 (v_someTerms) rfl ?_) | (first | refine V.Fn.k0 (v_some) rfl ?_ | refine V.Fn.q0 (v_some) rfl ?_ | refine V.Fn.a0 (v_some) rfl ?_) | ((first | refine V.Fn.k (c1) [1] rfl ?_ ?_ | refine V.Fn.q (c1) [1] rfl ?_ ?_ | refine V.Fn.a (c1) [1] rfl ?_ ?_); · exact V.D_) | ((first | refine V.Fn.k (c2) [3] rfl ?_ ?_ | refine V.Fn.q (c2) [3] rfl ?_ ?_ | refine V.Fn.a (c2) [3] rfl ?_ ?_); · exact V.D_) | ((first | refine V.Fn.k (c3) [5] rfl ?_ ?_ | refine V.Fn.q (c3) [5] rfl ?_ ?_ | refine V.Fn.a (c3) [5] rfl ?_ ?_); · exact V.D_) | ((first | refine V.Fn.k (c4) [7] rfl ?_ ?_ | refine V.Fn.q (c4) [7] rfl ?_ ?_ | refine V.Fn.a (c4) [7] rfl ?_ ?_); · exact V.D_) | ((first | refine V.Fn.k (c5) [9] rfl ?_ ?_ | refine V.Fn.q (c5) [9] rfl ?_ ?_ | refine V.Fn.a (c5) [9] rfl ?_ ?_); · exact V.D_) | (refine V.NDraw.any (by kernel_rfl) ?_) | fail)
  all_goals (conv => whnf)
  all_goals first
    | exact ⟨true, rfl, iff_of_true rfl rfl⟩
    | trace_state
end Go.Proofs.YtpanlcnoopmchaaGreat

namespace Go.Proofs.YtpanlcnoopmchaaGreat
open Go Go.RowKit V
def tm0 : Tm := ⟨4, 7, 2, 100⟩
namespace Pn
def cls : List Tm := List.replicate 6 tm0
def tens : List Int := List.replicate 20 100000
theorem rep_at {α : Type} (x d : α) {n j : Nat} (h : j < n) : (List.replicate n x).getD j d = x := by simp [List.getD, h]
end Pn
theorem v_classes : V.FnR Tryz.prog 114 [] [] (.one (.ref 0)) [.row 60 4 6 (ga encTm Pn.cls)] := by
  refine V.FnR.mk_ V.Tok V.mixed Tryz.func114 rfl Tryz.ntmps114 (by kernel_rfl) rfl rfl rfl rfl ?_
  repeat' ((conv => whnf); first | refine V.NCond.mk ?_ | refine V.NPick.l ?_ | refine V.NIf.not_ ?_ | refine V.NIf.dec_ ?_ | refine V.a4 ?_ | refine V.a5 ?_ | refine V.NIf.mk (fun _ => ?_) (fun _ => ?_) | refine V.a7 ?_ | refine V.a8 ?_ | refine V.a9 ?_ | refine V.NBoth.mk ?_ ?_ | refine V.b1 ?_ | refine V.b2 ?_ | refine V.NTF.dec ?_ | refine V.b3 ?_ | refine V.b4 ?_ | (refine NMake.mk ⟨6, 6, rfl, rfl, by omega, by omega, by first | omega | decide | (simp; done) | (simp; omega), ?_⟩) | (refine V.NDraw.any (by kernel_rfl) ?_) | fail)
  all_goals (conv => whnf)
  refine V.NLoop.auto (fun (k : Nat) => [(2, .one (.val (.int .i64 k))), (1, .one (.ref 1))]) (fun (k : Nat) => [(1, .row 60 4 6 fun j => encTm (if j < k then tm0 else (⟨0, 0, 0, 0⟩ : Tm)))]) [] [] (fun (k : Nat) => 6 - k) (fun (k : Nat) => k ≤ 6) 0 (Nat.zero_le _) V.S_ (by (conv => whnf); exact ⟨⟨rfl, rfl, rfl, fun j hj => (congrArg encTm (show (if j < 0 then tm0 else (⟨0, 0, 0, 0⟩ : Tm)) = ⟨0, 0, 0, 0⟩ from if_neg (Nat.not_lt_zero j))).symm⟩, trivial⟩) (fun _ => ⟨rfl, rfl⟩) ?_; (conv => whnf); refine ⟨⟨rfl, rfl⟩, ?_⟩
  rintro k hk
  by_cases hlt : k < 6
  · repeat' ((conv => whnf); first | refine V.NCond.mk ?_ | refine V.NPick.l ?_ | refine V.NIf.not_ ?_ | refine V.NIf.dec_ ?_ | refine V.a4 ?_ | refine V.a5 ?_ | refine V.NIf.mk (fun _ => ?_) (fun _ => ?_) | refine V.a7 ?_ | refine V.a8 ?_ | refine V.a9 ?_ | refine V.NBoth.mk ?_ ?_ | refine V.b1 ?_ | refine V.b2 ?_ | refine V.NTF.dec ?_ | refine V.b3 ?_ | refine V.b4 ?_ | (first | refine V.Fn.k0 (v_someTerms) rfl ?_ | refine V.Fn.q0 (v_someTerms) rfl ?_ | refine V.Fn.a0 (v_someTerms) rfl ?_) | (refine NIdx.mk ⟨k, rfl, by omega, ?_⟩) | (refine NPut.mk ⟨fun j => encTm (if j < k + 1 then tm0 else (⟨0, 0, 0, 0⟩ : Tm)), ?_, ?_⟩) | (refine V.NDraw.any (by kernel_rfl) ?_) | fail)
    all_goals (conv => whnf)
    · intro j hj
      by_cases e : j = k
      · rw [if_pos e]; exact congrArg encTm (if_pos (by omega))
      · rw [if_neg e]
        by_cases e2 : j < k
        · exact congrArg encTm ((if_pos (by omega)).trans (if_pos e2).symm)
        · exact congrArg encTm ((if_neg (by omega)).trans (if_neg e2).symm)
    · exact V.NBack.at_ (k + 1) [] (by omega) (by omega) V.S_ rfl ⟨⟨rfl, rfl, rfl, fun _ _ => rfl⟩, trivial⟩ V.S_ V.S_
  obtain rfl : k = 6 := by omega
  repeat' ((conv => whnf); first | refine V.NCond.mk ?_ | refine V.NPick.l ?_ | refine V.NIf.not_ ?_ | refine V.NIf.dec_ ?_ | refine V.a4 ?_ | refine V.a5 ?_ | refine V.NIf.mk (fun _ => ?_) (fun _ => ?_) | refine V.a7 ?_ | refine V.a8 ?_ | refine V.a9 ?_ | refine V.NBoth.mk ?_ ?_ | refine V.b1 ?_ | refine V.b2 ?_ | refine V.NTF.dec ?_ | refine V.b3 ?_ | refine V.b4 ?_ | (refine V.NDraw.any (by kernel_rfl) ?_) | fail)
  all_goals (conv => whnf)
  exact NRet.mk_ [some 1] rfl rfl ⟨⟨rfl, rfl, rfl, fun j hj => congrArg encTm ((if_pos hj).trans (Pn.rep_at tm0 default hj).symm)⟩, trivial⟩
theorem v_tenEach : V.FnR Tryz.prog 55 [] [] (.one (.ref 0)) [.row 3 1 20 (ga e1 Pn.tens)] := by
  refine V.FnR.mk_ V.Tok V.mixed Tryz.func55 rfl Tryz.ntmps55 (by kernel_rfl) rfl rfl rfl rfl ?_
  repeat' ((conv => whnf); first | refine V.NCond.mk ?_ | refine V.NPick.l ?_ | refine V.NIf.not_ ?_ | refine V.NIf.dec_ ?_ | refine V.a4 ?_ | refine V.a5 ?_ | refine V.NIf.mk (fun _ => ?_) (fun _ => ?_) | refine V.a7 ?_ | refine V.a8 ?_ | refine V.a9 ?_ | refine V.NBoth.mk ?_ ?_ | refine V.b1 ?_ | refine V.b2 ?_ | refine V.NTF.dec ?_ | refine V.b3 ?_ | refine V.b4 ?_ | (refine NMake.mk ⟨20, 20, rfl, rfl, by omega, by omega, by first | omega | decide | (simp; done) | (simp; omega), ?_⟩) | (refine V.NDraw.any (by kernel_rfl) ?_) | fail)
  all_goals (conv => whnf)
  refine V.NLoop.auto (fun (k : Nat) => [(2, .one (.val (.int .i64 k))), (1, .one (.ref 1))]) (fun (k : Nat) => [(1, .row 3 1 20 fun j => e1 (if j < k then 100000 else 0))]) [] [] (fun (k : Nat) => 20 - k) (fun (k : Nat) => k ≤ 20) 0 (Nat.zero_le _) V.S_ (by (conv => whnf); exact ⟨⟨rfl, rfl, rfl, fun j hj => (congrArg e1 (if_neg (Nat.not_lt_zero j))).symm⟩, trivial⟩) (fun _ => ⟨rfl, rfl⟩) ?_; (conv => whnf); refine ⟨⟨rfl, rfl⟩, ?_⟩
  rintro k hk
  by_cases hlt : k < 20
  · repeat' ((conv => whnf); first | refine V.NCond.mk ?_ | refine V.NPick.l ?_ | refine V.NIf.not_ ?_ | refine V.NIf.dec_ ?_ | refine V.a4 ?_ | refine V.a5 ?_ | refine V.NIf.mk (fun _ => ?_) (fun _ => ?_) | refine V.a7 ?_ | refine V.a8 ?_ | refine V.a9 ?_ | refine V.NBoth.mk ?_ ?_ | refine V.b1 ?_ | refine V.b2 ?_ | refine V.NTF.dec ?_ | refine V.b3 ?_ | refine V.b4 ?_ | (refine NIdx.mk ⟨k, rfl, by omega, ?_⟩) | (refine NPut.mk ⟨fun j => e1 (if j < k + 1 then 100000 else 0), ?_, ?_⟩) | (refine V.NDraw.any (by kernel_rfl) ?_) | fail)
    all_goals (conv => whnf)
    · intro j hj
      by_cases e : j = k
      · rw [if_pos e]; exact congrArg e1 (if_pos (by omega))
      · rw [if_neg e]
        by_cases e2 : j < k
        · exact congrArg e1 ((if_pos (by omega)).trans (if_pos e2).symm)
        · exact congrArg e1 ((if_neg (by omega)).trans (if_neg e2).symm)
    · exact V.NBack.at_ (k + 1) [] (by omega) (by omega) V.S_ rfl ⟨⟨rfl, rfl, rfl, fun _ _ => rfl⟩, trivial⟩ V.S_ V.S_
  obtain rfl : k = 20 := by omega
  repeat' ((conv => whnf); first | refine V.NCond.mk ?_ | refine V.NPick.l ?_ | refine V.NIf.not_ ?_ | refine V.NIf.dec_ ?_ | refine V.a4 ?_ | refine V.a5 ?_ | refine V.NIf.mk (fun _ => ?_) (fun _ => ?_) | refine V.a7 ?_ | refine V.a8 ?_ | refine V.a9 ?_ | refine V.NBoth.mk ?_ ?_ | refine V.b1 ?_ | refine V.b2 ?_ | refine V.NTF.dec ?_ | refine V.b3 ?_ | refine V.b4 ?_ | (refine V.NDraw.any (by kernel_rfl) ?_) | fail)
  all_goals (conv => whnf)
  exact NRet.mk_ [some 1] rfl rfl ⟨⟨rfl, rfl, rfl, fun j hj => congrArg e1 ((if_pos hj).trans (Pn.rep_at 100000 default hj).symm)⟩, trivial⟩
end Go.Proofs.YtpanlcnoopmchaaGreat

namespace Go.Proofs.YtpanlcnoopmchaaGreat
namespace Pn
def f1 : Fl := ⟨7, 1, 2, 0, 3, 739935, 3000, 0, 0, 0⟩
def d1 : List Du := [⟨1, 2, 3⟩]
theorem t_cls : tE cls = 0 := tE_of (by decide) fun x hx => by rw [List.eq_of_mem_replicate hx]; decide
theorem p_tens : P.chks tens = 0 := P.chks_of (by decide) fun p hp => by rw [List.eq_of_mem_replicate hp]; decide
theorem w_chk : Ca.chk Ca.W = 0 := by decide
theorem o_yes : oE Ca.W 739937 = 0 := oE_yes w_chk ⟨by decide, by decide⟩
end Pn
end Go.Proofs.YtpanlcnoopmchaaGreat

namespace Go.Proofs.YtpanlcnoopmchaaGreat
namespace Cy
open Pn (f1 cls tens)
def w0 : Wd := ⟨739935, [], []⟩
def w1 : Wd := ⟨739935, [f1], []⟩
def f2 : Fl := ⟨7, 1, 2, 0, 3, 739935, 3000, 1000, 0, 0⟩
def f3 : Fl := ⟨7, 1, 2, 0, 3, 739935, 3000, 1000, 0, 2000⟩
def k2 : List Po := [⟨1, 3, -1000⟩, ⟨2, 3, 1000⟩]
def k3 : List Po := [⟨1, 0, -2⟩, ⟨1, 3, -1000⟩, ⟨2, 0, 2⟩, ⟨2, 3, 1000⟩]
def k4 : List Po := [⟨1, 0, -4⟩, ⟨1, 3, -1000⟩, ⟨2, 0, 4⟩, ⟨2, 3, 1000⟩]
def k5 : List Po := [⟨1, 0, -20004⟩, ⟨1, 3, -1000⟩, ⟨2, 0, 20004⟩, ⟨2, 3, 1000⟩]
def w3 : Wd := ⟨739937, [f2], k2⟩
def w4 : Wd := ⟨739956, [f2], k3⟩
def w5 : Wd := ⟨739957, [f3], k5⟩
def du0 : List Du := [⟨1, 2, 2⟩]
def su0 : List Po := [⟨1, 0, -2⟩, ⟨2, 0, 2⟩]
theorem b_add : adE w0 f1 = 0 := by kernel_rfl
theorem b_addW : adW w0 f1 = w1 := adW_yes b_add
theorem b_dv : dvE w1 7 1000 = 0 := by kernel_rfl
theorem b_dvK : Bk.pL [] (Cp.mvd 1 2 3 1000) = k2 := by kernel_rfl
theorem b_dvW : dvW w1 7 1000 = ⟨739935, [f2], k2⟩ := (dvW_yes b_dv).trans (wd_ext rfl rfl b_dvK)
theorem b_dn : dvE w1 8 1 = 5 := by kernel_rfl
theorem b_wz : wE zw = 0 := by kernel_rfl
theorem b_rz : rE ⟨0, []⟩ [] 0 = 1 := by kernel_rfl
theorem b_w3 : wE w3 = 0 := by kernel_rfl
theorem b_w4 : wE w4 = 0 := by kernel_rfl
theorem b_w5 : wE w5 = 0 := by kernel_rfl
theorem b_r : rE Ca.W cls 0 = 0 := rE_4 Pn.w_chk Pn.t_cls (by decide)
theorem b_o3 : Ca.op Ca.W 739937 = 1 := by decide
theorem b_o4 : Ca.op Ca.W 739956 = 1 := by decide
theorem b_cl : Pn.cl cls f2 = Ag.A := Pn.rep_at tm0 default (by decide)
theorem b_e3 : Ag.sE Ca.W Ag.A f2 739937 = 0 := Ag.sE_of (by decide) (by decide) (by decide) (by decide) (by exact Ag.a_th)
theorem b_e4 : Ag.sE Ca.W Ag.A f2 739956 = 0 := Ag.sE_of (by decide) (by decide) (by decide) (by decide) (by exact Ag.a_th)
theorem b_s3 : Ag.stg Ca.W Ag.A f2 739937 = 1 := ((Ag.stg_is b_e3).2 (by decide)).2.1 (by decide) (by rw [show f2.day = 739935 from rfl, Ag.a_1]; decide)
theorem b_q : Pn.qF cls tens f2 = 2 := by
  show Pn.cs (F.left f2) (P.pr tens f2.pa) (Pn.cl cls f2).ra = 2
  rw [show F.left f2 = 2000 by decide, show P.pr tens f2.pa = 100000 from Pn.rep_at 100000 default (by decide), b_cl]
  decide
theorem b_s4 : Ag.stg Ca.W Ag.A f2 739956 = 4 := ((Ag.stg_is b_e4).2 (by decide)).2.2.2.2 (by rw [show f2.day = 739935 from rfl, Ag.a_3]; decide)
theorem b_su : Pn.suE du0 = 0 ∧ Pn.suL du0 = su0 := by decide
theorem b_y (n : Int) (h : Ca.Day n) (o : Ca.op Ca.W n = 1) (s : Ag.sE Ca.W Ag.A f2 n = 0) (g : 1 ≤ Ag.stg Ca.W Ag.A f2 n ∧ Ag.stg Ca.W Ag.A f2 n ≤ 4) : Pn.yD Ca.W cls [f2] tens n = 0 ∧ Pn.yL Ca.W cls [f2] tens n = du0 := by
  have e : Pn.eF Ca.W cls n f2 = 0 := by show Ag.sE Ca.W (Pn.cl cls f2) f2 n = 0; rw [b_cl]; exact s
  have y := Pn.y_yes (c := Ca.W) (t := cls) (l := [f2]) (ps := tens) (n := n) (Pn.yE_of ⟨Pn.w_chk, Pn.t_cls, by decide, Pn.p_tens, Pn.oE_yes Pn.w_chk ⟨h, o⟩⟩) (fb_yes fun d hd => by rw [List.mem_singleton] at hd; rw [hd]; exact e)
  refine ⟨y.1, y.2.trans ?_⟩
  show Pn.du1 Ca.W cls tens n f2 ++ [] = du0
  rw [Pn.du1_yes (by rw [b_cl]; exact (Pn.late_iff s).2 g) (by rw [b_q]; decide), b_q]
  rfl
theorem b_s0 (w : Wd) (K : List Po) (hw : wE w = 0) (hf : w.fs = [f2]) (o : Ca.op Ca.W w.td = 1) (s : Ag.sE Ca.W Ag.A f2 w.td = 0) (g : 1 ≤ Ag.stg Ca.W Ag.A f2 w.td ∧ Ag.stg Ca.W Ag.A f2 w.td ≤ 4) (h : Ca.Day w.td) (e : Bk.pE w.bk su0 = 0) (k : Bk.pL w.bk su0 = K) : s0 Ca.W cls 0 w tens = ⟨[], K, su0, 0⟩ := by
  obtain ⟨y1, y2⟩ := b_y w.td h o s g
  have d : du Ca.W cls w tens = du0 := by unfold du; rw [hf]; exact y2
  have n : nB Ca.W cls 0 w tens = 0 := (nB_5 b_r hw Pn.p_tens o).trans (by rw [hf]; exact y1)
  have p : psE w (du Ca.W cls w tens) = 0 := by
    rw [d]
    unfold psE
    rw [b_su.1, b_su.2, if_neg (by decide), if_neg (by decide)]
    exact e
  rw [s0_3 n p, d]
  unfold psB
  rw [b_su.2, if_neg (by decide), k]
theorem b_pE3 : Bk.pE k2 su0 = 0 := by kernel_rfl
theorem b_pL3 : Bk.pL k2 su0 = k3 := by kernel_rfl
theorem b_pE4 : Bk.pE k3 su0 = 0 := by kernel_rfl
theorem b_pL4 : Bk.pL k3 su0 = k4 := by kernel_rfl
theorem b_pay : Cp.pE f2 100000 0 = 0 ∧ Cp.pF f2 100000 0 = f3 ∧ Cp.pL f2 100000 0 = [⟨1, 0, -20000⟩, ⟨2, 0, 20000⟩] := ⟨by decide, by kernel_rfl, by decide⟩
theorem b_pE5 : Bk.pE k4 [⟨1, 0, -20000⟩, ⟨2, 0, 20000⟩] = 0 := by kernel_rfl
theorem b_pL5 : Bk.pL k4 [⟨1, 0, -20000⟩, ⟨2, 0, 20000⟩] = k5 := by kernel_rfl
theorem b_st3 : Ca.sV Ca.W 739937 1 = 739938 ∧ Ca.sE Ca.W 739937 1 = 0 := by
  have s : Ca.stp Ca.W 739937 1 = 739938 := (Ca.stp_p (by decide)).trans (Ca.stU_is (by unfold Ca.Up; decide))
  obtain ⟨a, b⟩ := Ca.sE_of (c := Ca.W) (n := 739937) (m := 1) Ca.w0 (by decide) (by decide) (by rw [s]; decide)
  exact ⟨b.trans s, a⟩
theorem b_st4 : Ca.sV Ca.W 739956 1 = 739957 ∧ Ca.sE Ca.W 739956 1 = 0 := by
  have s : Ca.stp Ca.W 739956 1 = 739957 := (Ca.stp_p (by decide)).trans (Ca.stU_is (by unfold Ca.Up; decide))
  obtain ⟨a, b⟩ := Ca.sE_of (c := Ca.W) (n := 739956) (m := 1) Ca.w0 (by decide) (by decide) (by rw [s]; decide)
  exact ⟨b.trans s, a⟩
theorem b_n3 : nE Ca.W cls 0 w3 tens = 0 ∧ nW Ca.W cls 0 w3 tens = ⟨739938, [f2], k3⟩ ∧ nP Ca.W cls 0 w3 tens = su0 := by
  have a := b_s0 w3 k3 b_w3 rfl b_o3 b_e3 (by rw [show w3.td = 739937 from rfl, b_s3]; decide) (by decide) b_pE3 b_pL3
  have r : s1 Ca.W cls 0 w3 tens = ⟨[f2], k3, su0, 0⟩ := by
    unfold s1
    rw [a]
    show one Ca.W cls 0 tens 739937 ⟨[], k3, su0, 0⟩ f2 = _
    rw [one_1 rfl (by rw [b_cl, b_s3]; decide)]
    rfl
  obtain ⟨x1, x2, x3⟩ := n_yes (c := Ca.W) (t := cls) (x := 0) (w := w3) (pr := tens) (by rw [r]) b_st3.2
  rw [r] at x2 x3
  exact ⟨x1, x2.trans (wd_ext b_st3.1 rfl rfl), x3⟩
theorem b_n4 : nE Ca.W cls 0 w4 tens = 0 ∧ nW Ca.W cls 0 w4 tens = w5 ∧ nP Ca.W cls 0 w4 tens = su0 ++ [⟨1, 0, -20000⟩, ⟨2, 0, 20000⟩] := by
  have a := b_s0 w4 k4 b_w4 rfl b_o4 b_e4 (by rw [show w4.td = 739956 from rfl, b_s4]; decide) (by decide) b_pE4 b_pL4
  have pr3 : P.pr tens f2.pa = 100000 := Pn.rep_at 100000 default (by decide)
  have r : s1 Ca.W cls 0 w4 tens = ⟨[f3], k5, su0 ++ [⟨1, 0, -20000⟩, ⟨2, 0, 20000⟩], 0⟩ := by
    unfold s1
    rw [a]
    show one Ca.W cls 0 tens 739956 ⟨[], k4, su0, 0⟩ f2 = _
    rw [one_5 rfl (by rw [b_cl]; exact b_s4) (by rw [pr3]; exact b_pay.1) (by rw [pr3, b_pay.2.2]; decide) (by rw [pr3, b_pay.2.2]; exact b_pE5), pr3, b_pay.2.1, b_pay.2.2, b_pL5]
    rfl
  obtain ⟨x1, x2, x3⟩ := n_yes (c := Ca.W) (t := cls) (x := 0) (w := w4) (pr := tens) (by rw [r]) b_st4.2
  rw [r] at x2 x3
  exact ⟨x1, x2.trans (wd_ext b_st4.1 rfl rfl), x3⟩
theorem b_ty : tyW w5 = ⟨739957, [], k5⟩ ∧ tyO w5 = [f3] := by
  obtain ⟨a, b⟩ := ty_yes b_w5
  exact ⟨a.trans (wd_ext rfl (by decide) rfl), b.trans (by decide)⟩
end Cy
end Go.Proofs.YtpanlcnoopmchaaGreat

namespace Go.Proofs.YtpanlcnoopmchaaGreat
open Go Go.RowKit V
theorem v_week : V.FnR Tryz.prog 79 [] [] (.agg [.val (.int .i64 96), .ref 0]) [.row 3 1 1 (ga e1 [739936])] := by
  refine V.FnR.mk_ V.Tok V.mixed Tryz.func79 rfl Tryz.ntmps79 (by kernel_rfl) rfl rfl rfl rfl ?_
  repeat' ((conv => whnf); first | refine V.NCond.mk ?_ | refine V.NPick.l ?_ | refine V.NIf.not_ ?_ | refine V.NIf.dec_ ?_ | refine V.a4 ?_ | refine V.a5 ?_ | refine V.NIf.mk (fun _ => ?_) (fun _ => ?_) | refine V.a7 ?_ | refine V.a8 ?_ | refine V.a9 ?_ | refine V.NBoth.mk ?_ ?_ | refine V.b1 ?_ | refine V.b2 ?_ | refine V.NTF.dec ?_ | refine V.b3 ?_ | refine V.b4 ?_ | (refine V.NDraw.any (by kernel_rfl) ?_) | fail)
  all_goals (conv => whnf)
  exact NRet.mk_ [some 1] rfl ⟨rfl, rfl, trivial⟩ ⟨⟨rfl, rfl, rfl, Nat.one_pos, V.S_⟩, trivial⟩
end Go.Proofs.YtpanlcnoopmchaaGreat

namespace Go.Proofs.YtpanlcnoopmchaaGreat
open Go Go.RowKit V
theorem v_someRules : V.FnR Tryz.prog 54 [] [] (.agg [.val (.int .i64 96), .ref 0, .ref 1, .val (.int .i64 0)]) [.row 3 1 1 (ga e1 [739936]), .row 60 4 6 (ga encTm Pn.cls)] := by
  refine V.FnR.mk_ V.Tok V.mixed Tryz.func54 rfl Tryz.ntmps54 (by kernel_rfl) rfl rfl rfl rfl ?_
  repeat' ((conv => whnf); first | refine V.NCond.mk ?_ | refine V.NPick.l ?_ | refine V.NIf.not_ ?_ | refine V.NIf.dec_ ?_ | refine V.a4 ?_ | refine V.a5 ?_ | refine V.NIf.mk (fun _ => ?_) (fun _ => ?_) | refine V.a7 ?_ | refine V.a8 ?_ | refine V.a9 ?_ | refine V.NBoth.mk ?_ ?_ | refine V.b1 ?_ | refine V.b2 ?_ | refine V.NTF.dec ?_ | refine V.b3 ?_ | refine V.b4 ?_ | (first | refine V.FnR.k0 (v_week) rfl ?_ | refine V.FnR.a0 (v_week) rfl ?_) | (first | refine V.FnR.k0 (v_classes) rfl ?_ | refine V.FnR.a0 (v_classes) rfl ?_) | (refine V.NDraw.any (by kernel_rfl) ?_) | fail)
  all_goals (conv => whnf)
  all_goals first
    | exact V.er2 1 2
    | exact V.er2 2 1
    | trace_state
set_option maxHeartbeats 8000000 in
theorem v_cyBegun : V.Fn Tryz.prog 13 [] [] (.bool true) := by
  have cA := v_cyAdd Cy.w0 Pn.f1 (by decide)
  rw [Cy.b_add, Cy.b_addW] at cA
  have cD := v_cyDeliver Cy.w1 7 1000 (by decide)
  rw [Cy.b_dv, Cy.b_dvW] at cD
  have cN := v_night Ca.W Pn.cls 0 Cy.w3 Pn.tens (by decide) (by decide) (by decide) (by decide) (by decide)
  rw [Cy.b_n3.1, Cy.b_n3.2.1, Cy.b_n3.2.2] at cN
  have cM := v_night Ca.W Pn.cls 0 Cy.w4 Pn.tens (by decide) (by decide) (by decide) (by decide) (by decide)
  rw [Cy.b_n4.1, Cy.b_n4.2.1, Cy.b_n4.2.2] at cM
  have cT := v_cyTidy Cy.w5 (by decide)
  rw [Cy.b_ty.1, Cy.b_ty.2, Cy.b_w5] at cT
  have cE := v_cyDeliver Cy.w1 8 1 (by decide)
  rw [Cy.b_dn, Cy.dvW_no (by rw [Cy.b_dn]; decide)] at cE
  have cS := v_sameposts Cy.su0 Cy.su0 (by decide)
  rw [show decide (Cy.su0 = Cy.su0) = true from decide_eq_true rfl] at cS
  have cC := v_cyCheck Cy.zw (by decide)
  rw [Cy.b_wz] at cC
  have cR := v_cyRules ⟨0, []⟩ [] 0 (by decide) (by decide)
  rw [Cy.b_rz] at cR
  refine V.Fn.mk_ V.Tok V.mixed Tryz.func13 rfl Tryz.ntmps13 (by kernel_rfl) rfl rfl ?_
  repeat' ((conv => whnf); first | (refine V.NDraw.any (by kernel_rfl) ?_) | (refine V.NIf.yes ?_ ?_; · (decide; done)) | (refine V.NIf.no ?_ ?_; · (decide; done)) | refine V.NCond.mk ?_ | refine V.NPick.l ?_ | refine V.NIf.not_ ?_ | refine V.NIf.dec_ ?_ | refine V.a4 ?_ | refine V.a5 ?_ | refine V.NIf.mk (fun _ => ?_) (fun _ => ?_) | refine V.a7 ?_ | refine V.a8 ?_ | refine V.a9 ?_ | refine V.NBoth.mk ?_ ?_ | refine V.b1 ?_ | refine V.b2 ?_ | refine V.NTF.dec ?_ | refine V.b3 ?_ | refine V.b4 ?_ | (first | refine V.Fn.k0 (v_some) rfl ?_ | refine V.Fn.q0 (v_some) rfl ?_ | refine V.Fn.a0 (v_some) rfl ?_) | (refine V.NCall.nilf (f := 21) 0 1 10 _ rfl rfl ?_) | (refine V.NCall.nilf (f := 21) 0 2 3 _ rfl rfl ?_) | ((first | refine V.FnR.k_ (cA) [1, 2] rfl ?_ ?_ | refine V.FnR.a_ (cA) [1, 2] rfl ?_ ?_); · exact V.D_) | ((first | refine V.FnR.k_ (cD) [3, 4] rfl ?_ ?_ | refine V.FnR.a_ (cD) [3, 4] rfl ?_ ?_); · exact V.D_) | (first | refine V.FnR.k0 (v_someRules) rfl ?_ | refine V.FnR.a0 (v_someRules) rfl ?_) | (first | refine V.FnR.k0 (v_tenEach) rfl ?_ | refine V.FnR.a0 (v_tenEach) rfl ?_) | ((first | refine V.FnR.k_ (cN) [9, 10, 6, 7, 11] rfl ?_ ?_ | refine V.FnR.a_ (cN) [9, 10, 6, 7, 11] rfl ?_ ?_); · exact V.D_) | ((first | refine V.FnR.k_ (cN) [9, 10, 6, 7, 12] rfl ?_ ?_ | refine V.FnR.a_ (cN) [9, 10, 6, 7, 12] rfl ?_ ?_); · exact V.D_) | ((first | refine V.FnR.k_ (cN) [10, 11, 6, 7, 9] rfl ?_ ?_ | refine V.FnR.a_ (cN) [10, 11, 6, 7, 9] rfl ?_ ?_); · exact V.D_) | ((first | refine V.FnR.k_ (cN) [11, 12, 6, 7, 9] rfl ?_ ?_ | refine V.FnR.a_ (cN) [11, 12, 6, 7, 9] rfl ?_ ?_); · exact V.D_) | ((first | refine V.FnR.k_ (cN) [10, 11, 6, 7, 12] rfl ?_ ?_ | refine V.FnR.a_ (cN) [10, 11, 6, 7, 12] rfl ?_ ?_); · exact V.D_) | ((first | refine V.FnR.k_ (cN) [11, 12, 6, 7, 10] rfl ?_ ?_ | refine V.FnR.a_ (cN) [11, 12, 6, 7, 10] rfl ?_ ?_); · exact V.D_) | ((first | refine V.FnR.k_ (cM) [16, 17, 12, 13, 18] rfl ?_ ?_ | refine V.FnR.a_ (cM) [16, 17, 12, 13, 18] rfl ?_ ?_); · exact V.D_) | ((first | refine V.FnR.k_ (cM) [16, 17, 12, 13, 19] rfl ?_ ?_ | refine V.FnR.a_ (cM) [16, 17, 12, 13, 19] rfl ?_ ?_); · exact V.D_) | ((first | refine V.FnR.k_ (cM) [17, 18, 12, 13, 16] rfl ?_ ?_ | refine V.FnR.a_ (cM) [17, 18, 12, 13, 16] rfl ?_ ?_); · exact V.D_) | ((first | refine V.FnR.k_ (cM) [18, 19, 12, 13, 16] rfl ?_ ?_ | refine V.FnR.a_ (cM) [18, 19, 12, 13, 16] rfl ?_ ?_); · exact V.D_) | ((first | refine V.FnR.k_ (cM) [17, 18, 12, 13, 19] rfl ?_ ?_ | refine V.FnR.a_ (cM) [17, 18, 12, 13, 19] rfl ?_ ?_); · exact V.D_) | ((first | refine V.FnR.k_ (cM) [18, 19, 12, 13, 17] rfl ?_ ?_ | refine V.FnR.a_ (cM) [18, 19, 12, 13, 17] rfl ?_ ?_); · exact V.D_) | ((first | refine V.FnR.k_ (cM) [16, 17, 13, 14, 18] rfl ?_ ?_ | refine V.FnR.a_ (cM) [16, 17, 13, 14, 18] rfl ?_ ?_); · exact V.D_) | ((first | refine V.FnR.k_ (cM) [16, 17, 13, 14, 19] rfl ?_ ?_ | refine V.FnR.a_ (cM) [16, 17, 13, 14, 19] rfl ?_ ?_); · exact V.D_) | ((first | refine V.FnR.k_ (cM) [17, 18, 13, 14, 16] rfl ?_ ?_ | refine V.FnR.a_ (cM) [17, 18, 13, 14, 16] rfl ?_ ?_); · exact V.D_) | ((first | refine V.FnR.k_ (cM) [18, 19, 13, 14, 16] rfl ?_ ?_ | refine V.FnR.a_ (cM) [18, 19, 13, 14, 16] rfl ?_ ?_); · exact V.D_) | ((first | refine V.FnR.k_ (cM) [17, 18, 13, 14, 19] rfl ?_ ?_ | refine V.FnR.a_ (cM) [17, 18, 13, 14, 19] rfl ?_ ?_); · exact V.D_) | ((first | refine V.FnR.k_ (cM) [18, 19, 13, 14, 17] rfl ?_ ?_ | refine V.FnR.a_ (cM) [18, 19, 13, 14, 17] rfl ?_ ?_); · exact V.D_) | ((first | refine V.FnR.k_ (cT) [19, 20] rfl ?_ ?_ | refine V.FnR.a_ (cT) [19, 20] rfl ?_ ?_); · exact V.D_) | ((first | refine V.FnR.k_ (cT) [20, 21] rfl ?_ ?_ | refine V.FnR.a_ (cT) [20, 21] rfl ?_ ?_); · exact V.D_) | ((first | refine V.FnR.k_ (cE) [3, 4] rfl ?_ ?_ | refine V.FnR.a_ (cE) [3, 4] rfl ?_ ?_); · exact V.D_) | (refine NIdx.mk ⟨0, rfl, Nat.zero_lt_succ _, ?_⟩) | (refine NIdx.mk ⟨3, rfl, by decide, ?_⟩) | (refine V.NLt.mk (by decide) ?_) | ((first | refine V.Fn.k (cS) [14, 30] rfl ?_ ?_ | refine V.Fn.q (cS) [14, 30] rfl ?_ ?_ | refine V.Fn.a (cS) [14, 30] rfl ?_ ?_); · exact V.D_) | ((first | refine V.Fn.k (cS) [14, 31] rfl ?_ ?_ | refine V.Fn.q (cS) [14, 31] rfl ?_ ?_ | refine V.Fn.a (cS) [14, 31] rfl ?_ ?_); · exact V.D_) | ((first | refine V.Fn.k (cS) [14, 32] rfl ?_ ?_ | refine V.Fn.q (cS) [14, 32] rfl ?_ ?_ | refine V.Fn.a (cS) [14, 32] rfl ?_ ?_); · exact V.D_) | ((first | refine V.Fn.k (cS) [14, 33] rfl ?_ ?_ | refine V.Fn.q (cS) [14, 33] rfl ?_ ?_ | refine V.Fn.a (cS) [14, 33] rfl ?_ ?_); · exact V.D_) | ((first | refine V.Fn.k (cS) [13, 30] rfl ?_ ?_ | refine V.Fn.q (cS) [13, 30] rfl ?_ ?_ | refine V.Fn.a (cS) [13, 30] rfl ?_ ?_); · exact V.D_) | ((first | refine V.Fn.k (cS) [13, 31] rfl ?_ ?_ | refine V.Fn.q (cS) [13, 31] rfl ?_ ?_ | refine V.Fn.a (cS) [13, 31] rfl ?_ ?_); · exact V.D_) | ((first | refine V.Fn.k (cS) [13, 32] rfl ?_ ?_ | refine V.Fn.q (cS) [13, 32] rfl ?_ ?_ | refine V.Fn.a (cS) [13, 32] rfl ?_ ?_); · exact V.D_) | ((first | refine V.Fn.k (cS) [15, 30] rfl ?_ ?_ | refine V.Fn.q (cS) [15, 30] rfl ?_ ?_ | refine V.Fn.a (cS) [15, 30] rfl ?_ ?_); · exact V.D_) | ((first | refine V.Fn.k (cS) [15, 31] rfl ?_ ?_ | refine V.Fn.q (cS) [15, 31] rfl ?_ ?_ | refine V.Fn.a (cS) [15, 31] rfl ?_ ?_); · exact V.D_) | ((first | refine V.Fn.k (cS) [15, 32] rfl ?_ ?_ | refine V.Fn.q (cS) [15, 32] rfl ?_ ?_ | refine V.Fn.a (cS) [15, 32] rfl ?_ ?_); · exact V.D_) | ((first | refine V.Fn.k (cS) [15, 33] rfl ?_ ?_ | refine V.Fn.q (cS) [15, 33] rfl ?_ ?_ | refine V.Fn.a (cS) [15, 33] rfl ?_ ?_); · exact V.D_) | (refine V.NCall.nilf (f := 16) 0 1 10 _ rfl rfl ?_) | (refine V.NCall.nilf (f := 16) 0 2 3 _ rfl rfl ?_) | (refine V.NCall.nilf (f := 14) 0 1 1 _ rfl rfl ?_) | (refine V.NCall.nilf (f := 14) 0 2 4 _ rfl rfl ?_) | ((first | refine V.Fn.k (cC) [30, 31] rfl ?_ ?_ | refine V.Fn.q (cC) [30, 31] rfl ?_ ?_ | refine V.Fn.a (cC) [30, 31] rfl ?_ ?_); · exact V.D_) | ((first | refine V.Fn.k (cC) [31, 32] rfl ?_ ?_ | refine V.Fn.q (cC) [31, 32] rfl ?_ ?_ | refine V.Fn.a (cC) [31, 32] rfl ?_ ?_); · exact V.D_) | ((first | refine V.Fn.k (cC) [32, 33] rfl ?_ ?_ | refine V.Fn.q (cC) [32, 33] rfl ?_ ?_ | refine V.Fn.a (cC) [32, 33] rfl ?_ ?_); · exact V.D_) | ((first | refine V.Fn.k (cC) [33, 34] rfl ?_ ?_ | refine V.Fn.q (cC) [33, 34] rfl ?_ ?_ | refine V.Fn.a (cC) [33, 34] rfl ?_ ?_); · exact V.D_) | ((first | refine V.Fn.k (cC) [34, 35] rfl ?_ ?_ | refine V.Fn.q (cC) [34, 35] rfl ?_ ?_ | refine V.Fn.a (cC) [34, 35] rfl ?_ ?_); · exact V.D_) | ((first | refine V.Fn.k (cC) [35, 36] rfl ?_ ?_ | refine V.Fn.q (cC) [35, 36] rfl ?_ ?_ | refine V.Fn.a (cC) [35, 36] rfl ?_ ?_); · exact V.D_) | ((first | refine V.Fn.k (cR) [32, 33] rfl ?_ ?_ | refine V.Fn.q (cR) [32, 33] rfl ?_ ?_ | refine V.Fn.a (cR) [32, 33] rfl ?_ ?_); · exact V.D_) | ((first | refine V.Fn.k (cR) [33, 34] rfl ?_ ?_ | refine V.Fn.q (cR) [33, 34] rfl ?_ ?_ | refine V.Fn.a (cR) [33, 34] rfl ?_ ?_); · exact V.D_) | ((first | refine V.Fn.k (cR) [34, 35] rfl ?_ ?_ | refine V.Fn.q (cR) [34, 35] rfl ?_ ?_ | refine V.Fn.a (cR) [34, 35] rfl ?_ ?_); · exact V.D_) | ((first | refine V.Fn.k (cR) [35, 36] rfl ?_ ?_ | refine V.Fn.q (cR) [35, 36] rfl ?_ ?_ | refine V.Fn.a (cR) [35, 36] rfl ?_ ?_); · exact V.D_) | ((first | refine V.Fn.k (cR) [36, 37] rfl ?_ ?_ | refine V.Fn.q (cR) [36, 37] rfl ?_ ?_ | refine V.Fn.a (cR) [36, 37] rfl ?_ ?_); · exact V.D_) | ((first | refine V.Fn.k (cR) [37, 38] rfl ?_ ?_ | refine V.Fn.q (cR) [37, 38] rfl ?_ ?_ | refine V.Fn.a (cR) [37, 38] rfl ?_ ?_); · exact V.D_) | ((first | refine V.Fn.k (cR) [38, 39] rfl ?_ ?_ | refine V.Fn.q (cR) [38, 39] rfl ?_ ?_ | refine V.Fn.a (cR) [38, 39] rfl ?_ ?_); · exact V.D_) | (refine V.NDraw.any (by kernel_rfl) ?_) | fail)
  all_goals (conv => whnf)
  all_goals first
    | exact ⟨true, rfl, iff_of_true rfl rfl⟩
    | exact ⟨true, rfl, iff_of_true (by decide) rfl⟩
    | trace_state
end Go.Proofs.YtpanlcnoopmchaaGreat

namespace Go.Proofs.YtpanlcnoopmchaaGreat
open Go Go.RowKit Go.ChangeShapes Go.WideShapes Go.Deep V
theorem intCells : Tryz.prog.cellsOf 3 = 1 := by kernel_rfl
theorem open_il {H : Type} {enc : TypeId × Value → H} {W : World} {base : Nat} {spare : Nat → Bool} {held : Bool} {r : Reach} {b0 : Nat} {v : Value} {d : DataW H} {p : List MemPlace} (hv : Value.okWide Tryz.prog W r b0 22 v) (h : DataW.Trod enc Tryz.prog W base spare held 22 v d p) :
    ∃ l : List Int, ArrIs W v 1 l.length (ga e1 l) ∧ ∀ f ∈ l, (Lit.int .i64 f).wf = true :=
  open_ints_ Tryz.underlying22 Tryz.underlying3 intCells hv h
end Go.Proofs.YtpanlcnoopmchaaGreat

namespace Go.Proofs.YtpanlcnoopmchaaGreat
open Go Go.RowKit Go.ChangeShapes Go.WideShapes Go.Deep V
namespace V
section
variable {H : Type} {enc : TypeId × Value → H} {P : Program} {w : World} {base : Nat} {spare : Nat → Bool} {held : Bool}
theorem list_trod {α : Type} [Inhabited α] {en : α → List Value} {Wf : α → Prop} {t e s fuel : Nat} {cs : List Value} {x : DataW H × List MemPlace} (hu : P.underlying t = some (.slice e)) (hs : P.cellsOf e = s) (hs0 : 0 < s)
    (hel : ∀ fuel cs x, DataW.trod enc P w base spare held fuel e cs = some x → ∃ f : α, cs = en f ∧ Wf f) (hf : DataW.trod enc P w base spare held fuel t cs = some x) :
    ∃ v, cs = [v] ∧ ∃ l : List α, ArrIs w v s l.length (ga en l) ∧ ∀ f ∈ l, Wf f := by
  rcases Go.Deep.open_slice hu hf with ⟨hcs, _⟩ | ⟨a, len', cap', m, n, D, Pl, hcs, _, hl, hm, hmm, _, hi⟩
  · exact ⟨_, hcs, [], ⟨none, 0, rfl, by simp, by simp, fun k hk => absurd hk (by simp)⟩, by simp⟩
  · refine ⟨_, hcs, ?_⟩
    have hml : len' ≤ m := by rw [hmm]; split <;> omega
    have all : ∀ i, i < len' → ∃ f : α, (en f).length = s ∧ (∀ j u, (en f)[j]? = some u → w.cell? (a.add (i * s + j)) = some u) ∧ Wf f := by
      intro i hi'
      obtain ⟨cs', hc, ht'⟩ := hi i (by omega)
      rw [hs] at hc
      obtain ⟨f, e, wf⟩ := hel _ _ _ ht'
      obtain ⟨_, hcl, hat⟩ := World.cells?_some hc
      refine ⟨f, by rw [← e]; exact hcl, fun j u hu => ?_, wf⟩
      rw [← e] at hu
      have hj : j < s := by have := (List.getElem?_eq_some_iff.1 hu).1; omega
      have h1 := hat j hj
      rw [add_of_add] at h1
      rw [h1]; exact hu
    obtain ⟨l, hl2, hp⟩ := list_of len' all
    refine ⟨l, ⟨some a, cap', by rw [hl2], by unfold maxLen at hm; omega, by omega, fun k hk => ?_⟩, fun f hf' => ?_⟩
    · obtain ⟨e1, e2, _⟩ := hp k hk
      rw [ga_at hk]
      have h0 : (en l[k])[0]? = some ((en l[k])[0]'(by omega)) := List.getElem?_eq_getElem _
      have := cell_lt (e2 0 _ h0)
      rw [block_of_add] at this
      exact ⟨a, rfl, this, e1, e2⟩
    · obtain ⟨i, hi', rfl⟩ := List.getElem_of_mem hf'
      exact (hp i hi').2.2
end
end V
noncomputable def clFields : Array Field := (match Tryz.prog.underlying 24 with | some (.struct fs) => fs | _ => #[])
theorem clStruct : Tryz.prog.underlying 24 = some (.struct clFields) := by kernel_rfl
theorem clCells : Tryz.prog.cellsOf 24 = 2 := by kernel_rfl
theorem ilCells : Tryz.prog.cellsOf 22 = 1 := by kernel_rfl
theorem cl0 : (clFields[0]?).map (fun f => (f.type, f.offset)) = some (3, 0) := by kernel_rfl
theorem cl1 : (clFields[1]?).map (fun f => (f.type, f.offset)) = some (22, 1) := by kernel_rfl
theorem clSize : clFields.size = 2 := by kernel_rfl
def WfCl (c : Cl) : Prop := (Lit.int .i64 c.we).wf = true ∧ ∀ n ∈ c.hs, (Lit.int .i64 n).wf = true
theorem cl_of {H : Type} {enc : TypeId × Value → H} {w : World} {base : Nat} {spare : Nat → Bool} {held : Bool} {fuel : Nat} {cs : List Value} {x : DataW H × List MemPlace} (h : DataW.trod enc Tryz.prog w base spare held fuel 24 cs = some x) :
    ∃ (c : Cl) (v : Value), cs = [.int .i64 c.we, v] ∧ ArrIs w v 1 c.hs.length (ga e1 c.hs) ∧ WfCl c := by
  obtain ⟨xs, n, _, _, hl, hlen, hg⟩ := DataW.trod_struct clStruct h
  rw [clCells] at hl
  rw [clSize] at hlen
  match cs, hl with
  | [a, b], _ =>
    obtain ⟨f0, h0, e0⟩ := Option.map_eq_some_iff.1 cl0
    obtain ⟨f1, h1, e1'⟩ := Option.map_eq_some_iff.1 cl1
    injection e0 with t0 o0
    injection e1' with t1 o1
    have g0 := hg 0 f0 h0
    have g1 := hg 1 f1 h1
    rw [o0, t0, intCells, List.getElem?_eq_getElem (by omega)] at g0
    rw [o1, t1, ilCells, List.getElem?_eq_getElem (by omega)] at g1
    obtain ⟨m, e2, _, wf⟩ := DataW.trod_int Tryz.underlying3 g0
    obtain ⟨v, e3, l, hl, wl⟩ := V.list_trod (en := e1) (Wf := fun n => (Lit.int .i64 n).wf = true) Tryz.underlying22 intCells (by omega) (fun fuel cs x hx => by
      obtain ⟨m, e2, _, wf⟩ := DataW.trod_int Tryz.underlying3 hx
      exact ⟨m, e2, wf⟩) g1
    have e2 : a = .int .i64 m := by simpa using e2
    obtain rfl : b = v := by
      have e3 : [b] = [v] := e3
      injection e3
    subst e2
    exact ⟨⟨m, l⟩, _, rfl, hl, wf, wl⟩
end Go.Proofs.YtpanlcnoopmchaaGreat

namespace Go.Proofs.YtpanlcnoopmchaaGreat
open Go.RowKit Go.ChangeShapes Go.WideShapes Go.Deep V
noncomputable def failFields : Array Field := (match Tryz.prog.underlying 42 with | some (.struct fs) => fs | _ => #[])
theorem failStruct : Tryz.prog.underlying 42 = some (.struct failFields) := by kernel_rfl
theorem failOne : oneCellFields Tryz.prog failFields = true := by kernel_rfl
theorem failSize : failFields.size = 10 := by kernel_rfl
theorem failCells : Tryz.prog.cellsOf 42 = 10 := by kernel_rfl
theorem failInts : (List.range 10).all (fun j => (failFields[j]?).all (fun f => decide (f.type = 3))) = true := by kernel_rfl
theorem failInt (j : Nat) (f : Field) (h : failFields[j]? = some f) : Tryz.prog.underlying f.type = some (.int .i64) := by
  have hj : j < 10 := by have := (Array.getElem?_eq_some_iff.1 h).1; rw [failSize] at this; exact this
  have := List.all_eq_true.1 failInts j (List.mem_range.2 hj)
  rw [h] at this
  have e : f.type = 3 := by simpa using this
  rw [e]
  exact Tryz.underlying3
def WfF (f : Fl) : Prop := ∀ n ∈ [f.id, f.fr, f.to, f.cl, f.pa, f.day, f.un, f.de, f.bo, f.pd], (Lit.int .i64 n).wf = true
theorem fl_of {H : Type} {enc : TypeId × Value → H} {w : World} {base : Nat} {spare : Nat → Bool} {held : Bool} {fuel : Nat} {cs : List Value} {x : DataW H × List MemPlace} (h : DataW.trod enc Tryz.prog w base spare held fuel 42 cs = some x) :
    ∃ f : Fl, cs = (#[.int .i64 f.id, .int .i64 f.fr, .int .i64 f.to, .int .i64 f.cl, .int .i64 f.pa, .int .i64 f.day, .int .i64 f.un, .int .i64 f.de, .int .i64 f.bo, .int .i64 f.pd] : Array Value).toList ∧ WfF f := by
  obtain ⟨ns, e, hl, wf⟩ := ints_struct failStruct failOne (failCells.trans failSize.symm) failInt h
  rw [failSize] at hl
  match ns, hl with
  | [a, b, c, d, e', f, g, h', i, j], _ => exact ⟨⟨a, b, c, d, e', f, g, h', i, j⟩, by simpa using e, wf⟩
end Go.Proofs.YtpanlcnoopmchaaGreat

namespace Go.Proofs.YtpanlcnoopmchaaGreat
open Go Go.RowKit Go.ChangeShapes Go.WideShapes Go.Deep V
noncomputable def poFields : Array Field := (match Tryz.prog.underlying 65 with | some (.struct fs) => fs | _ => #[])
theorem poStruct : Tryz.prog.underlying 65 = some (.struct poFields) := by kernel_rfl
theorem poOne : oneCellFields Tryz.prog poFields = true := by kernel_rfl
theorem poSize : poFields.size = 3 := by kernel_rfl
theorem poCells : Tryz.prog.cellsOf 65 = 3 := by kernel_rfl
theorem poInts : (List.range 3).all (fun j => (poFields[j]?).all (fun f => decide (f.type = 3))) = true := by kernel_rfl
theorem poInt (j : Nat) (f : Field) (h : poFields[j]? = some f) : Tryz.prog.underlying f.type = some (.int .i64) := by
  have hj : j < 3 := by have := (Array.getElem?_eq_some_iff.1 h).1; rw [poSize] at this; exact this
  have := List.all_eq_true.1 poInts j (List.mem_range.2 hj)
  rw [h] at this
  have e : f.type = 3 := by simpa using this
  rw [e]
  exact Tryz.underlying3
def WfPo (d : Po) : Prop := ∀ n ∈ [d.ac, d.ut, d.am], (Lit.int .i64 n).wf = true
theorem po_of {H : Type} {enc : TypeId × Value → H} {w : World} {base : Nat} {spare : Nat → Bool} {held : Bool} {fuel : Nat} {cs : List Value} {x : DataW H × List MemPlace} (h : DataW.trod enc Tryz.prog w base spare held fuel 65 cs = some x) :
    ∃ f : Po, cs = encP f ∧ WfPo f := by
  obtain ⟨ns, e, hl, wf⟩ := ints_struct poStruct poOne (poCells.trans poSize.symm) poInt h
  rw [poSize] at hl
  match ns, hl with
  | [a0, a1, a2], _ => exact ⟨⟨a0, a1, a2⟩, by simpa [encP] using e, wf⟩
end Go.Proofs.YtpanlcnoopmchaaGreat

namespace Go.Proofs.YtpanlcnoopmchaaGreat
open Go Go.RowKit Go.ChangeShapes Go.WideShapes Go.Deep V
noncomputable def tmFields : Array Field := (match Tryz.prog.underlying 60 with | some (.struct fs) => fs | _ => #[])
theorem tmStruct : Tryz.prog.underlying 60 = some (.struct tmFields) := by kernel_rfl
theorem tmOne : oneCellFields Tryz.prog tmFields = true := by kernel_rfl
theorem tmSize : tmFields.size = 4 := by kernel_rfl
theorem tmCells : Tryz.prog.cellsOf 60 = 4 := by kernel_rfl
theorem tmInts : (List.range 4).all (fun j => (tmFields[j]?).all (fun f => decide (f.type = 3))) = true := by kernel_rfl
theorem tmInt (j : Nat) (f : Field) (h : tmFields[j]? = some f) : Tryz.prog.underlying f.type = some (.int .i64) := by
  have hj : j < 4 := by have := (Array.getElem?_eq_some_iff.1 h).1; rw [tmSize] at this; exact this
  have := List.all_eq_true.1 tmInts j (List.mem_range.2 hj)
  rw [h] at this
  have e : f.type = 3 := by simpa using this
  rw [e]
  exact Tryz.underlying3
def WfTm (d : Tm) : Prop := ∀ n ∈ [d.ex, d.bu, d.de, d.ra], (Lit.int .i64 n).wf = true
theorem tm_of {H : Type} {enc : TypeId × Value → H} {w : World} {base : Nat} {spare : Nat → Bool} {held : Bool} {fuel : Nat} {cs : List Value} {x : DataW H × List MemPlace} (h : DataW.trod enc Tryz.prog w base spare held fuel 60 cs = some x) :
    ∃ f : Tm, cs = encTm f ∧ WfTm f := by
  obtain ⟨ns, e, hl, wf⟩ := ints_struct tmStruct tmOne (tmCells.trans tmSize.symm) tmInt h
  rw [tmSize] at hl
  match ns, hl with
  | [a0, a1, a2, a3], _ => exact ⟨⟨a0, a1, a2, a3⟩, by simpa [encTm] using e, wf⟩
end Go.Proofs.YtpanlcnoopmchaaGreat

namespace Go.Proofs.YtpanlcnoopmchaaGreat
open Go Go.RowKit Go.ChangeShapes Go.WideShapes Go.Deep V
noncomputable def wdFields : Array Field := (match Tryz.prog.underlying 31 with | some (.struct fs) => fs | _ => #[])
theorem wdStruct : Tryz.prog.underlying 31 = some (.struct wdFields) := by kernel_rfl
theorem wdCells : Tryz.prog.cellsOf 31 = 3 := by kernel_rfl
theorem flsCells : Tryz.prog.cellsOf 28 = 1 := by kernel_rfl
theorem posCells : Tryz.prog.cellsOf 29 = 1 := by kernel_rfl
theorem wd0 : (wdFields[0]?).map (fun f => (f.type, f.offset)) = some (3, 0) := by kernel_rfl
theorem wd1 : (wdFields[1]?).map (fun f => (f.type, f.offset)) = some (28, 1) := by kernel_rfl
theorem wd2 : (wdFields[2]?).map (fun f => (f.type, f.offset)) = some (29, 2) := by kernel_rfl
theorem wdSize : wdFields.size = 3 := by kernel_rfl
def WfWd (w : Wd) : Prop := (Lit.int .i64 w.td).wf = true ∧ (∀ f ∈ w.fs, WfF f) ∧ ∀ f ∈ w.bk, WfPo f
theorem wd_of {H : Type} {enc : TypeId × Value → H} {w : World} {base : Nat} {spare : Nat → Bool} {held : Bool} {fuel : Nat} {cs : List Value} {x : DataW H × List MemPlace} (h : DataW.trod enc Tryz.prog w base spare held fuel 31 cs = some x) :
    ∃ (c : Wd) (v u : Value), cs = [.int .i64 c.td, v, u] ∧ ArrIs w v 10 c.fs.length (ga encF c.fs) ∧ ArrIs w u 3 c.bk.length (ga encP c.bk) ∧ WfWd c := by
  obtain ⟨xs, n, _, _, hl, hlen, hg⟩ := DataW.trod_struct wdStruct h
  rw [wdCells] at hl
  rw [wdSize] at hlen
  match cs, hl with
  | [a, b, d], _ =>
    obtain ⟨f0, h0, e0⟩ := Option.map_eq_some_iff.1 wd0
    obtain ⟨f1, h1, e1'⟩ := Option.map_eq_some_iff.1 wd1
    obtain ⟨f2, h2, e2'⟩ := Option.map_eq_some_iff.1 wd2
    injection e0 with t0 o0
    injection e1' with t1 o1
    injection e2' with t2 o2
    have g0 := hg 0 f0 h0
    have g1 := hg 1 f1 h1
    have g2 := hg 2 f2 h2
    rw [o0, t0, intCells, List.getElem?_eq_getElem (by omega)] at g0
    rw [o1, t1, flsCells, List.getElem?_eq_getElem (by omega)] at g1
    rw [o2, t2, posCells, List.getElem?_eq_getElem (by omega)] at g2
    obtain ⟨m, e2, _, wf⟩ := DataW.trod_int Tryz.underlying3 g0
    obtain ⟨v, e3, l, hl, wl⟩ := V.list_trod (en := encF) (Wf := WfF) Tryz.underlying28 failCells (by omega) (fun fuel cs x hx => fl_of hx) g1
    obtain ⟨u, e4, k, hk, wk⟩ := V.list_trod (en := encP) (Wf := WfPo) Tryz.underlying29 poCells (by omega) (fun fuel cs x hx => po_of hx) g2
    have e2 : a = .int .i64 m := by simpa using e2
    obtain rfl : b = v := by
      have e3 : [b] = [v] := e3
      injection e3
    obtain rfl : d = u := by
      have e4 : [d] = [u] := e4
      injection e4
    subst e2
    exact ⟨⟨m, l, k⟩, _, _, rfl, hl, hk, wf, wl, wk⟩
theorem open_wd {H : Type} {enc : TypeId × Value → H} {W : World} {base : Nat} {spare : Nat → Bool} {held : Bool} {r : Reach} {b0 : Nat} {v : Value} {d : DataW H} {p : List MemPlace} (hv : Value.okWide Tryz.prog W r b0 31 v) (h : DataW.Trod enc Tryz.prog W base spare held 31 v d p) :
    ∃ (c : Wd) (u u' : Value), v = .agg #[.int .i64 c.td, u, u'] ∧ ArrIs W u 10 c.fs.length (ga encF c.fs) ∧ ArrIs W u' 3 c.bk.length (ga encP c.bk) ∧ WfWd c := by
  obtain ⟨cs, rfl, _⟩ := okWide_struct wdStruct hv
  obtain ⟨fuel, hf⟩ := h
  obtain ⟨c, u, u', e, h1, h2, wf⟩ := wd_of hf
  refine ⟨c, u, u', ?_, h1, h2, wf⟩
  obtain ⟨l⟩ := cs
  simp only [Value.cells] at e
  subst e
  rfl
noncomputable def ruFields : Array Field := (match Tryz.prog.underlying 27 with | some (.struct fs) => fs | _ => #[])
theorem ruStruct : Tryz.prog.underlying 27 = some (.struct ruFields) := by kernel_rfl
theorem ruCells : Tryz.prog.cellsOf 27 = 4 := by kernel_rfl
theorem tmsCells : Tryz.prog.cellsOf 25 = 1 := by kernel_rfl
theorem ru0 : (ruFields[0]?).map (fun f => (f.type, f.offset)) = some (24, 0) := by kernel_rfl
theorem ru1 : (ruFields[1]?).map (fun f => (f.type, f.offset)) = some (25, 2) := by kernel_rfl
theorem ru2 : (ruFields[2]?).map (fun f => (f.type, f.offset)) = some (3, 3) := by kernel_rfl
theorem ruSize : ruFields.size = 3 := by kernel_rfl
structure Ru0 where
  c : Cl
  ts : List Tm
  ex : Int
def WfRu (d : Ru0) : Prop := WfCl d.c ∧ (∀ f ∈ d.ts, WfTm f) ∧ (Lit.int .i64 d.ex).wf = true
theorem ru_of {H : Type} {enc : TypeId × Value → H} {w : World} {base : Nat} {spare : Nat → Bool} {held : Bool} {fuel : Nat} {cs : List Value} {x : DataW H × List MemPlace} (h : DataW.trod enc Tryz.prog w base spare held fuel 27 cs = some x) :
    ∃ (d : Ru0) (v u : Value), cs = [.int .i64 d.c.we, v, u, .int .i64 d.ex] ∧ ArrIs w v 1 d.c.hs.length (ga e1 d.c.hs) ∧ ArrIs w u 4 d.ts.length (ga encTm d.ts) ∧ WfRu d := by
  obtain ⟨xs, n, _, _, hl, hlen, hg⟩ := DataW.trod_struct ruStruct h
  rw [ruCells] at hl
  rw [ruSize] at hlen
  match cs, hl with
  | [a, a', b, d], _ =>
    obtain ⟨f0, h0, e0⟩ := Option.map_eq_some_iff.1 ru0
    obtain ⟨f1, h1, e1'⟩ := Option.map_eq_some_iff.1 ru1
    obtain ⟨f2, h2, e2'⟩ := Option.map_eq_some_iff.1 ru2
    injection e0 with t0 o0
    injection e1' with t1 o1
    injection e2' with t2 o2
    have g0 := hg 0 f0 h0
    have g1 := hg 1 f1 h1
    have g2 := hg 2 f2 h2
    rw [o0, t0, clCells, List.getElem?_eq_getElem (by omega)] at g0
    rw [o1, t1, tmsCells, List.getElem?_eq_getElem (by omega)] at g1
    rw [o2, t2, intCells, List.getElem?_eq_getElem (by omega)] at g2
    obtain ⟨c, v, e2, hl, wl⟩ := cl_of g0
    obtain ⟨u, e3, k, hk, wk⟩ := V.list_trod (en := encTm) (Wf := WfTm) Tryz.underlying25 tmCells (by omega) (fun fuel cs x hx => tm_of hx) g1
    obtain ⟨m, e4, _, wf⟩ := DataW.trod_int Tryz.underlying3 g2
    have e2 : [a, a'] = [.int .i64 c.we, v] := e2
    obtain rfl : b = u := by
      have e3 : [b] = [u] := e3
      injection e3
    have e4 : d = .int .i64 m := by
      have e4 : [d] = [.int .i64 m] := e4
      injection e4
    injection e2 with e5 e6
    injection e6 with e6 _
    subst e4 e5 e6
    exact ⟨⟨c, k, m⟩, _, _, rfl, hl, hk, wl, wk, wf⟩
theorem open_ru {H : Type} {enc : TypeId × Value → H} {W : World} {base : Nat} {spare : Nat → Bool} {held : Bool} {r : Reach} {b0 : Nat} {v : Value} {d : DataW H} {p : List MemPlace} (hv : Value.okWide Tryz.prog W r b0 27 v) (h : DataW.Trod enc Tryz.prog W base spare held 27 v d p) :
    ∃ (c : Ru0) (u u' : Value), v = .agg #[.int .i64 c.c.we, u, u', .int .i64 c.ex] ∧ ArrIs W u 1 c.c.hs.length (ga e1 c.c.hs) ∧ ArrIs W u' 4 c.ts.length (ga encTm c.ts) ∧ WfRu c := by
  obtain ⟨cs, rfl, _⟩ := okWide_struct ruStruct hv
  obtain ⟨fuel, hf⟩ := h
  obtain ⟨c, u, u', e, h1, h2, wf⟩ := ru_of hf
  refine ⟨c, u, u', ?_, h1, h2, wf⟩
  obtain ⟨l⟩ := cs
  simp only [Value.cells] at e
  subst e
  rfl
end Go.Proofs.YtpanlcnoopmchaaGreat

namespace Go.Proofs.YtpanlcnoopmchaaGreat.Cy
open Go Go.RowKit
theorem opn_checks {l : List Fl} (h : F.checks l = 0) : F.checks (opn l) = 0 := by
  obtain ⟨a, b, c⟩ := K.checks_all h
  have := opn_len l
  refine K.checks_of (by omega) (fun f hf => b f (List.mem_filter.1 hf).1) ?_
  exact List.Nodup.sublist (List.Sublist.map _ List.filter_sublist) c
end Go.Proofs.YtpanlcnoopmchaaGreat.Cy

namespace Go.Proofs.YtpanlcnoopmchaaGreat.Cy
open Go Go.RowKit
end Go.Proofs.YtpanlcnoopmchaaGreat.Cy

namespace Go.Proofs.YtpanlcnoopmchaaGreat
namespace Bk
theorem cnt_one (a : Nat) : ∀ n, (List.range n).countP (fun k => decide (k = a)) ≤ 1
  | 0 => by simp
  | n + 1 => by
    rw [List.range_succ, List.countP_append]
    have ih := cnt_one a n
    by_cases h : n = a
    · have z : (List.range n).countP (fun k => decide (k = a)) = 0 := List.countP_eq_zero.2 fun k hk => by have := List.mem_range.1 hk; simp; omega
      rw [z]; simp [h]
    · simp [h]; omega
end Bk
namespace Cp
theorem tot_nil (k : Nat) : Bk.tot [] k = 0 := Bk.tot_none fun p hp => by simp at hp
theorem paid {f : Fl} (h : F.Ok f) : F.chk (F.addPd f (F.left f)) = 0 ∧ F.left (F.addPd f (F.left f)) = 0 ∧ F.opn (F.addPd f (F.left f)) = 0 := by
  have b := F.ok_bounds h
  obtain ⟨k, n, ⟨⟨p1, p2⟩, ⟨p3, p4⟩, p5, p6⟩, d⟩ := id h
  have l : F.left (F.addPd f (F.left f)) = 0 := by
    show f.un - f.de - f.bo - (f.pd + F.left f) = 0
    unfold F.left; omega
  have e : F.left f = f.un - f.de - f.bo - f.pd := rfl
  have c : F.chk (F.addPd f (F.left f)) = 0 := F.chk_of ⟨k, n, ⟨⟨p1, p2⟩, ⟨p3, p4⟩, by show 0 ≤ f.pd + F.left f; omega, by show f.pd + F.left f ≤ f.un; omega⟩, by show f.de + f.bo + (f.pd + F.left f) ≤ f.un; omega⟩
  exact ⟨c, l, (F.opn_yes c).trans l⟩
end Cp
end Go.Proofs.YtpanlcnoopmchaaGreat
