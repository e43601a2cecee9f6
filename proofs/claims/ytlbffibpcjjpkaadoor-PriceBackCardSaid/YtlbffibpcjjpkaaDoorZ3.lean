/- Shared texts, one behind the other: VTailD, VCode, VFn, VT, VAns, Lists, VRef, VRet, VOpen, MoneyPl, DivPl, DivPl2, DivPl3, Shelf -/
import Derived.Deep.Slices
import Derived.Deep.Fields
import Derived.OpenShut
import Derived.Lib.SmallJoins
import Derived.Lib.BitFns
import Derived.Shelf.Strings.Trim
import Derived.Shelf.Small.Utf8
import Derived.Shelf.Small.Bits
import Derived.Shelf.Small.Strs
import Derived.Shelf.Strconv.Atoi
import Derived.Shelf.Strconv.Itoa0
import Derived.Shelf.Strconv.Itoa1
import Derived.Shelf.LaysM
import Derived.Shelf.Strconv.Itoa2
import Derived.Shelf.Strconv.Itoa3
import Derived.Shelf.Strconv.AtoiErrFast
import Derived.Shelf.Strconv.ParseIntEmpty
import Derived.Shelf.Strconv.AtoiFail
import Derived.Shelf.Strconv.Clone
import Derived.Shelf.Strconv.SyntaxError
import Derived.Shelf.Strconv.Lower
import Derived.Shelf.Strconv.ParseUint10
import Derived.Shelf.Strconv.ParseUint10Empty
import Derived.Shelf.Strconv.RangeError
import Derived.Shelf.Strconv.ParseUintEmpty
import Derived.Shelf.Strconv.ParseUint10b64
import Derived.Shelf.Strconv.ParseUint10b32
import Derived.Shelf.Strconv.ParseUint10b16
import Derived.Shelf.Strconv.ParseUint10b8
import Derived.Shelf.Strings.Search1
import Derived.Shelf.Strings.Search2
import Derived.Shelf.Strings.Cut
import Derived.Shelf.Strings.Shaped
import Derived.Shelf.Strings.Prefix
import Derived.Shelf.Unicode.Decode
import Derived.Shelf.Strings.Runes
import Derived.Shelf.Strings.AsciiSet
import Derived.Shelf.Bits.Mul64
import Derived.Shelf.Unicode.DecodeSlow
import Derived.Shelf.Unicode.DecodeAny
import Derived.Shelf.Unicode.DecodeLast
import Derived.Test.YtlbffibpcjjpkaaDoorProg
import Derived.Test.YtlbffibpcjjpkaaDoorZ1
import Derived.Test.YtlbffibpcjjpkaaDoorZ2
set_option linter.unusedVariables false
set_option linter.unusedSimpArgs false
set_option linter.unusedSectionVars false
set_option maxRecDepth 100000

namespace Go.Proofs.YtlbffibpcjjpkaaDoor.V
open Go Go.RowKit
set_option linter.unusedSectionVars false
theorem opG.toIn {P : Program} {pre ops : Array Oper} {i : Nat} {K : Act → World → Prop} {Q : Exit → Act → World → Prop} {a : Act} {w : World} {ro : Option Nat} {n : Nat} {o : Oper} (h : opG P pre i K a w) (h1 : pre[i]? = some o) (h2 : ops[i]? = some o)
    (hw : Region.wanted o (yielded pre a.tmps) = Region.wanted o (yielded ops a.tmps)) (hd : ro = none ∨ ∀ c, o.op ≠ .defer c) : wpOpIn (Fz ro) n P ops Q i K a w := by
  unfold opG at h
  unfold wpOpIn
  simp only [h1] at h
  simp only [h2]
  rw [← hw]
  split
  · rename_i q
    rw [if_pos q] at h
    exact op_in hd (wp_noQ h)
  · rename_i q
    rw [if_neg q] at h
    exact ⟨fun _ _ => fz_fn _ _, h⟩
theorem lowL_spec : ∀ {l : List Oper} {n i j : Nat} {o : Oper}, lowL n i l = true → l[j]? = some o → (∀ e ∈ o.after, Region.binds .any e = true → e.on < i + j) ∧ ∀ g b, o.guard = some (g, b) → g < i + j
  | [], _, _, _, _, _, h => by simp at h
  | x :: r, n, i, j, o, hl, h => by
    simp only [lowL, Bool.and_eq_true] at hl
    obtain ⟨⟨h1, h2⟩, h3⟩ := hl
    cases j with
    | zero =>
      have e : x = o := by simpa using h
      subst e
      refine ⟨fun e he hb => ?_, fun g b hg => ?_⟩
      · have := List.all_eq_true.1 h1 e (by simpa using he)
        rw [hb] at this
        simpa [Nat.blt_eq] using this
      · rw [hg] at h2
        simpa [Nat.blt_eq] using h2
    | succ j =>
      have := lowL_spec (i := i + 1) (j := j) h3 (by simpa using h)
      rw [show i + 1 + j = i + (j + 1) by omega] at this
      exact this
theorem allB_all {p : Nat → Bool} : ∀ {n : Nat}, allB p n = true → ∀ k, k < n → p k = true
  | 0, _, k, hk => absurd hk (Nat.not_lt_zero _)
  | n + 1, h, k, hk => by
    unfold allB at h
    cases hp : p n <;> rw [hp] at h
    · cases h
    · rcases Nat.lt_or_ge k n with q | q
      · exact allB_all h k q
      · obtain rfl : k = n := by omega
        exact hp
theorem tailB_spec {all : List Oper} {m : Nat} (h : tailB all m = true) : m ≤ all.length ∧ lowL 0 0 all = true ∧ ∀ i k, m ≤ i → i < all.length → k < i → Anc .any all.toArray k i := by
  unfold tailB at h
  simp only [Bool.and_eq_true] at h
  obtain ⟨⟨h1, h2⟩, h3⟩ := h
  refine ⟨Nat.le_of_ble_eq_true h1, h2, fun i k hm hi hk => ?_⟩
  have q := allB_all h3 i hi
  rw [Bool.or_eq_true] at q
  rcases q with q | q
  · have := Nat.blt_eq.mp q; omega
  · have r := allB_all q k (by omega)
    rw [Bool.or_eq_true] at r
    rcases r with r | r
    · have := Nat.le_of_ble_eq_true r; omega
    · exact ancB_spec r
section
variable {P : Program} {all : List Oper} {m : Nat} {Q : Exit → Act → World → Prop} {ro : Option Nat} {n : Nat} (hd : ro = none ∨ noDef all = true)
include hd
theorem tail_end (hT : tailB all m = true) : ∀ (t fuel j : Nat) (L : Array Bool) (a : Act) (w : World), j + t = all.length → m ≤ j → L.size = all.length → (∀ i, L.getD i false = true ↔ i < j) → t ≤ fuel → Down .any all.toArray L → wpListIn (Fz ro) n P all.toArray Q (all.drop j) a w → wpAnyIn (Fz ro) n P .any all.toArray Q fuel L a w := by
  obtain ⟨hm, hlow, hanc⟩ := tailB_spec hT
  intro t
  induction t with
  | zero =>
    intro fuel j L a w hj hmj hs hL hf hD h
    have hnone : Region.ready .any all.toArray L = [] := List.eq_nil_iff_forall_not_mem.2 fun i hi => by
      obtain ⟨h1, o, ho, _⟩ := mem_ready.1 hi
      have hlt : i < all.length := by have := (Array.getElem?_eq_some_iff.1 ho).1; simpa using this
      have := (hL i).2 (by omega)
      simp [hs, hlt] at h1 this
      rw [h1] at this; cases this
    rw [List.drop_eq_nil_of_le (by omega)] at h
    cases fuel with
    | zero => exact ⟨hnone, h⟩
    | succ f => exact ⟨fun _ => h, fun i hi => by rw [hnone] at hi; cases hi⟩
  | succ t ih =>
    intro fuel j L a w hj hmj hs hL hf hD h
    have hjl : j < all.length := by omega
    obtain ⟨f, rfl⟩ : ∃ f, fuel = f + 1 := ⟨fuel - 1, by omega⟩
    have unl : ∀ i, i < all.length → (L.getD i true = false ↔ j ≤ i) := fun i hi => by
      have := hL i
      have e : ∀ d, L.getD i d = L[i]'(by omega) := fun d => by simp [hs, hi]
      rw [e] at this ⊢
      constructor
      · intro q; rw [q] at this
        rcases Nat.lt_or_ge i j with r | r
        · cases this.2 r
        · exact r
      · intro q
        cases hb : L[i]'(by omega)
        · rfl
        · have := this.1 hb; omega
    have hjr : j ∈ Region.ready .any all.toArray L := mem_ready.2 ⟨(unl j hjl).2 (Nat.le_refl _), all[j], by simp [hjl], fun e he hb => by
      have := (lowL_spec hlow (List.getElem?_eq_getElem hjl)).1 e he hb
      exact (hL _).2 (by omega)⟩
    rw [List.drop_eq_getElem_cons hjl] at h
    refine ⟨fun q => (by rw [q] at hjr; cases hjr), fun i hi => ?_⟩
    obtain ⟨h1, o, ho, h2⟩ := mem_ready.1 hi
    have hlt : i < all.length := by have := (Array.getElem?_eq_some_iff.1 ho).1; simpa using this
    have hji := (unl i hlt).1 h1
    obtain rfl : i = j := by
      rcases Nat.lt_or_ge j i with r | r
      · exfalso
        have := (hanc i j (by omega) hlt r).listed hD ⟨o, ho, h2⟩
        have := (hL j).1 this
        omega
      · omega
    have hD' := hD.set hi
    have go : ∀ a w, wpListIn (Fz ro) n P all.toArray Q (all.drop (i + 1)) a w → wpAnyIn (Fz ro) n P .any all.toArray Q f (L.setIfInBounds i true) a w := fun a w hq => ih f (i + 1) _ a w (by omega) (by omega) (by simp [hs]) (fun k => by
      by_cases e : i = k
      · subst e
        simp [hs, hlt]
      · rw [getD_set_ne false e, hL k]; omega) (by omega) hD' hq
    unfold wpOpIn
    have ho' : all.toArray[i]? = some all[i] := by simp [hlt]
    simp only [ho']
    unfold wpListIn at h
    split
    · rename_i q
      rw [if_pos q] at h
      exact Oper.wpIn_mono go h
    · rename_i q
      rw [if_neg q] at h
      exact ⟨h.1, go _ _ h.2⟩
theorem wpX_tail (hT : tailB all m = true) {S : Nat → Prop} {Z : World → Prop} {R : Act → World → Prop} (hR : ∀ a w, R a w → wpListIn (Fz ro) n P all.toArray Q (all.drop m) a w) : ∀ (f : Nat) (listed L : Array Bool) (a : Act) (w : World) (C : Nat → World → Prop), listed.size = m → L.size = all.length → (∀ i, L.getD i false = true ↔ i < m ∧ listed.getD i false = true) → Down .any all.toArray L →
    wpX P .any (all.take m).toArray S Z R f listed a w C → wpAnyIn (Fz ro) n P .any all.toArray Q (f + (all.length - m)) L a w := by
  obtain ⟨hm, hlow, hanc⟩ := tailB_spec hT
  have pre_at : ∀ i, i < m → (all.take m).toArray[i]? = all[i]? := fun i hi => by simp [List.getElem?_take, hi]
  have full : ∀ {listed L : Array Bool}, listed.size = m → (∀ i, L.getD i false = true ↔ i < m ∧ listed.getD i false = true) → Region.ready .any (all.take m).toArray listed = [] → ∀ i, L.getD i false = true ↔ i < m := fun {listed L} hs hL hr => by
    have all_ : ∀ i, i < m → listed.getD i false = true := fun i => by
      induction i using Nat.strongRecOn with
      | ind i ih =>
        intro hi
        cases hb : listed.getD i false
        · exfalso
          have hil : i < all.length := by omega
          have : i ∈ Region.ready .any (all.take m).toArray listed := mem_ready.2 ⟨by simpa [hs, hi] using hb, all[i], by rw [pre_at i hi]; simp [hil], fun e he hb' => by
            have := (lowL_spec hlow (List.getElem?_eq_getElem hil)).1 e he hb'
            exact ih e.on (by omega) (by omega)⟩
          rw [hr] at this; cases this
        · rfl
    intro i
    rw [hL i]
    exact ⟨fun q => q.1, fun q => ⟨q, all_ i q⟩⟩
  intro f
  induction f with
  | zero =>
    intro listed L a w C hs hLs hL hD h
    obtain ⟨_, hr, h⟩ := h
    exact tail_end hd hT (all.length - m) _ m L a w (by omega) (Nat.le_refl _) hLs (full hs hL hr) (by omega) hD (hR a w h)
  | succ f ih =>
    intro listed L a w C hs hLs hL hD h
    obtain ⟨_, h0, h⟩ := h
    by_cases hr : Region.ready .any (all.take m).toArray listed = []
    · exact tail_end hd hT (all.length - m) _ m L a w (by omega) (Nat.le_refl _) hLs (full hs hL hr) (by omega) hD (hR a w (h0 hr))
    · obtain ⟨k0, hk0⟩ := List.exists_mem_of_ne_nil _ hr
      obtain ⟨k1, ok, hok, k2⟩ := mem_ready.1 hk0
      have hk0m : k0 < m := by have := (Array.getElem?_eq_some_iff.1 hok).1; simp at this; omega
      have hk0f : listed.getD k0 false = false := by
        simp [hs, hk0m] at k1 ⊢; exact k1
      have unl0 : ¬ L.getD k0 false = true := fun q => by rw [(hL k0).1 q |>.2] at hk0f; cases hk0f
      have getL : ∀ i, i < all.length → ∀ d d', L.getD i d = L.getD i d' := fun i hi d d' => by simp [hLs, hi]
      have toL : ∀ i, i ∈ Region.ready .any (all.take m).toArray listed → i ∈ Region.ready .any all.toArray L := fun i hi => by
        obtain ⟨q1, o, q2, q3⟩ := mem_ready.1 hi
        have him : i < m := by have := (Array.getElem?_eq_some_iff.1 q2).1; simp at this; omega
        have q1' : listed.getD i false = false := by simp [hs, him] at q1 ⊢; exact q1
        rw [pre_at i him] at q2
        refine mem_ready.2 ⟨?_, o, by simpa using q2, fun e he hb => ?_⟩
        · rw [getL i (by omega) true false]
          cases hb : L.getD i false
          · rfl
          · rw [((hL i).1 hb).2] at q1'; cases q1'
        · have := (lowL_spec hlow q2).1 e he hb
          exact (hL _).2 ⟨by omega, q3 e he hb⟩
      rw [show f + 1 + (all.length - m) = (f + (all.length - m)) + 1 by omega]
      refine ⟨fun q => (by have := toL k0 hk0; rw [q] at this; cases this), fun i hi => ?_⟩
      obtain ⟨q1, o, q2, q3⟩ := mem_ready.1 hi
      have hlt : i < all.length := by have := (Array.getElem?_eq_some_iff.1 q2).1; simpa using this
      have him : i < m := by
        rcases Nat.lt_or_ge i m with r | r
        · exact r
        · exfalso
          exact unl0 ((hanc i k0 r hlt (by omega)).listed hD ⟨o, q2, q3⟩)
      have q2' : all[i]? = some o := by simpa using q2
      have hir : i ∈ Region.ready .any (all.take m).toArray listed := mem_ready.2 ⟨(by
          cases hb : listed.getD i false
          · simp [hs, him] at hb ⊢; exact hb
          · have := (hL i).2 ⟨him, hb⟩
            rw [getL i hlt true false, this] at q1; cases q1), o, by rw [pre_at i him]; exact q2', fun e he hb => ((hL _).1 (q3 e he hb)).2⟩
      have hw : Region.wanted o (yielded (all.take m).toArray a.tmps) = Region.wanted o (yielded all.toArray a.tmps) := by
        rw [wanted_eq, wanted_eq]
        unfold asked
        cases hg : o.guard with
        | none => rfl
        | some gb =>
          obtain ⟨g, b⟩ := gb
          have := (lowL_spec hlow q2').2 g b hg
          simp only [yielded]
          rw [pre_at g (by omega)]
          simp
      refine opG.toIn (o := o) (opG_mono (fun a' w' ⟨C', _, hx⟩ => ?_) (h i hir)) (by rw [pre_at i him]; exact q2') q2 hw (hd.imp (fun q => q) fun q => noDef_spec q (List.mem_of_getElem? q2'))
      refine ih _ _ a' w' C' (by simp [hs]) (by simp [hLs]) (fun k => ?_) (hD.set hi) hx
      by_cases e : i = k
      · subst e
        simp [hLs, hs, hlt, him]
      · rw [getD_set_ne false e, getD_set_ne false e]; exact hL k
end
end Go.Proofs.YtlbffibpcjjpkaaDoor.V

namespace Go.Proofs.YtlbffibpcjjpkaaDoor.V
open Go Go.RowKit
variable [Dr]
set_option linter.unusedSectionVars false
def cut (nx : Nat) (ρ : Rho) : Rho := fun i => if i < nx then ρ i else none
theorem cut_lt {nx i : Nat} {ρ : Rho} (h : i < nx) : cut nx ρ i = ρ i := if_pos h
theorem CapsAre.cut {nx : Nat} {ρ : Rho} : ∀ {l : List Nat} {x : List Value}, (l.all fun i => Nat.blt i nx) = true → CapsAre ρ l x → CapsAre (V.cut nx ρ) l x
  | [], _, _, h => h
  | i :: l, _, hb, ⟨a, r, e, hx, hr⟩ => by
    simp only [List.all_cons, Bool.and_eq_true] at hb
    exact ⟨a, r, by rw [base_eq (cut_lt (by simpa [Nat.blt_eq] using hb.1))]; exact e, hx, CapsAre.cut hb.2 hr⟩
theorem At.is_cut {nx : Nat} {ρ : Rho} {a : At} {x : Value} (hb : atB nx a = true) (h : a.is ρ x) : a.is (cut nx ρ) x := by
  cases a with
  | val v => exact h
  | tf b => exact h
  | prop p => exact h
  | ptr i k j s =>
    obtain ⟨a, e, hx⟩ := h
    exact ⟨a, by rw [base_eq (cut_lt (by simpa [atB, Nat.blt_eq] using hb))]; exact e, hx⟩
  | ref i => exact ⟨by rw [cut_lt (by simpa [atB, Nat.blt_eq] using hb)]; exact h.1, h.2⟩
  | clo f l => obtain ⟨c, e, hx⟩ := h; exact ⟨c, e.cut hb, hx⟩
theorem Ats.cut {nx : Nat} {ρ : Rho} : ∀ {l : List At} {x : List Value}, l.all (atB nx) = true → Ats ρ l x → Ats (V.cut nx ρ) l x
  | [], _, _, h => h
  | a :: l, _, hb, ⟨u, r, hx, ha, hr⟩ => by
    simp only [List.all_cons, Bool.and_eq_true] at hb
    exact ⟨u, r, hx, At.is_cut hb.1 ha, Ats.cut hb.2 hr⟩
theorem SV.is_cut {nx : Nat} {ρ : Rho} {v : SV} {x : Value} (hb : svB nx v = true) (h : v.is ρ x) : v.is (cut nx ρ) x := by
  cases v with
  | one a => exact At.is_cut (a := a) hb h
  | agg l => obtain ⟨c, e, hx⟩ := h; exact ⟨c, e.cut hb, hx⟩
  | tup l =>
    have : l = [] := by simpa [svB] using hb
    subst this
    exact h
theorem fnd_all {α : Type} {p : Nat × α → Bool} : ∀ {l : List (Nat × α)} {t : Nat} {v : α}, l.all p = true → fnd l t = some v → p (t, v) = true
  | [], _, _, _, h => by cases h
  | (u, x) :: r, t, v, hp, h => by
    simp only [List.all_cons, Bool.and_eq_true] at hp
    rcases fnd_cons h with ⟨rfl, rfl⟩ | ⟨_, h⟩
    · exact hp.1
    · exact fnd_all hp.2 h
theorem EnvR.cut {sz nx : Nat} {ρ : Rho} {env : Env} {a : Act} (hb : (env.all fun p => svB nx p.2) = true) (h : EnvR sz ρ env a) : EnvR sz (V.cut nx ρ) env a :=
  ⟨h.size, fun t v ht => let ⟨x, e, hv⟩ := h.env t v ht; ⟨x, e, SV.is_cut (fnd_all (p := fun p => svB nx p.2) hb ht) hv⟩⟩
theorem Sat.cut {B nx : Nat} {ρ : Rho} {w : World} {i : Nat} {o : Ob} (hi : i < nx) (hb : obB nx o = true) (h : Sat B ρ w i o) : Sat B (V.cut nx ρ) w i o := by
  cases o with
  | box t l => obtain ⟨b, cs, e, hB, hl, hh⟩ := h; exact ⟨b, cs, by rw [cut_lt hi]; exact e, hB, hl.cut hb, hh⟩
  | lit t s rows => obtain ⟨b, cs, e, hB, hs, hn, hl, hh⟩ := h; exact ⟨b, cs, by rw [cut_lt hi]; exact e, hB, hs, hn, hl.cut (by simpa [obB] using hb), hh⟩
  | arr s n get => obtain ⟨v, e, r⟩ := h; exact ⟨v, by rw [cut_lt hi]; exact e, r⟩
  | cel l => obtain ⟨v, cs, e, hl, r⟩ := h; exact ⟨v, cs, by rw [cut_lt hi]; exact e, hl.cut hb, r⟩
  | row t s n get => obtain ⟨v, e, r⟩ := h; exact ⟨v, by rw [cut_lt hi]; exact e, r⟩
  | tab g l => obtain ⟨e, r⟩ := h; exact ⟨by rw [cut_lt hi]; exact e, r⟩
  | lp L env st => obtain ⟨l, fn, tmps, D, e, hB, hh, r⟩ := h; exact ⟨l, fn, tmps, D, by rw [cut_lt hi]; exact e, hB, hh, r.cut hb⟩
  | rov v t s n get => exact ⟨by rw [cut_lt hi]; exact h.1, h.2⟩
  | rws t e s N vs xs => obtain ⟨⟨v, e, hr⟩, r⟩ := h; exact ⟨⟨v, by rw [cut_lt hi]; exact e, hr⟩, r⟩
  | vw r a s => obtain ⟨A, n, c, e1, h1, e2⟩ := h; exact ⟨A, n, c, by rw [cut_lt (Nat.blt_eq.mp (show Nat.blt r nx = true from hb))]; exact e1, h1, by rw [cut_lt hi]; exact e2⟩
  | dee s n vs xs => obtain ⟨v, e, r⟩ := h; exact ⟨v, by rw [cut_lt hi]; exact e, r⟩
  | eqv j v => exact ⟨by rw [cut_lt (Nat.blt_eq.mp (show Nat.blt j nx = true from hb))]; exact h.1, by rw [cut_lt hi]; exact h.2.1, h.2.2⟩
  | vh r b => obtain ⟨A, n, c, e1, h1, e2⟩ := h; exact ⟨A, n, c, by rw [cut_lt (Nat.blt_eq.mp (show Nat.blt r nx = true from hb))]; exact e1, h1, by rw [cut_lt hi]; exact e2⟩
  | gone => trivial
theorem CapsAre.map {σ : Nat → Nat} {ρ : Rho} : ∀ {l : List Nat} {x : List Value}, CapsAre ρ (l.map σ) x → CapsAre (fun i => ρ (σ i)) l x
  | [], _, h => h
  | i :: l, _, ⟨a, r, e, hx, hr⟩ => ⟨a, r, e, hx, CapsAre.map hr⟩
theorem SameA.is_ {σ : Nat → Nat} {ρ : Rho} {a b : At} {x : Value} (h : SameA σ a b) (hb : b.is ρ x) : a.is (fun i => ρ (σ i)) x := by
  cases a with
  | val v =>
    cases b with
    | val v' => exact Eq.trans hb (Eq.symm h)
    | tf b => (cases v <;> first | exact Eq.trans hb (Eq.symm h) | cases h)
    | prop p =>
      cases v <;> try exact (show False from h).elim
      obtain ⟨c, rfl, hc⟩ := hb
      rename_i b
      show Value.bool c = .bool b
      congr 1
      rw [Bool.eq_iff_iff, hc]
      exact (show b = true ↔ p from h).symm
    | _ => exact (by cases v <;> exact (show False from h).elim)
  | tf q =>
    cases b with
    | tf c => exact Eq.trans hb (congrArg Value.bool (Eq.symm h))
    | _ => exact (show False from h).elim
  | prop p =>
    cases b with
    | prop q =>
      obtain ⟨c, rfl, hc⟩ := hb
      exact ⟨c, rfl, hc.trans (Iff.symm h)⟩
    | _ => exact (show False from h).elim
  | ptr i k j s =>
    cases b with
    | ptr i' k' j' s' =>
      obtain ⟨rfl, rfl, rfl, rfl⟩ := h
      exact hb
    | _ => exact (show False from h).elim
  | ref i =>
    cases b with
    | ref i' =>
      have e : σ i = i' := h
      subst e
      exact hb
    | _ => exact (show False from h).elim
  | clo f l =>
    cases b with
    | clo f' l' =>
      obtain ⟨rfl, rfl⟩ := h
      obtain ⟨cs, hc, e⟩ := hb
      exact ⟨cs, hc.map, e⟩
    | _ => exact (show False from h).elim
theorem SameAs.is_ {σ : Nat → Nat} {ρ : Rho} : ∀ {l m : List At} {x : List Value}, SameAs σ l m → Ats ρ m x → Ats (fun i => ρ (σ i)) l x
  | [], [], _, _, h => h
  | [], _ :: _, _, h, _ => h.elim
  | _ :: _, [], _, h, _ => h.elim
  | a :: l, b :: m, _, ⟨h1, h2⟩, ⟨u, r, hx, hu, hr⟩ => ⟨u, r, hx, h1.is_ hu, h2.is_ hr⟩
theorem SameA.ren (σ : Nat → Nat) (a : At) : SameA σ a (renA σ a) := by
  cases a with
  | val v => exact rfl
  | tf b => exact rfl
  | prop p => exact Iff.rfl
  | ptr i k j s => exact ⟨rfl, rfl, rfl, rfl⟩
  | ref i => exact rfl
  | clo f l => exact ⟨rfl, rfl⟩
theorem SameAs.ren (σ : Nat → Nat) : ∀ l : List At, SameAs σ l (l.map (renA σ))
  | [] => trivial
  | a :: l => ⟨SameA.ren σ a, SameAs.ren σ l⟩
theorem SLe.is_ {ρ : Rho} {u v : SV} {x : Value} (h : SLe u v) (hu : u.is ρ x) : v.is ρ x := by
  unfold SLe at h
  split at h
  · rename_i b p; exact ⟨b, hu, h⟩
  · rename_i p b
    obtain ⟨c, rfl, hc⟩ := hu
    show Value.bool c = Value.bool b
    congr 1; rw [Bool.eq_iff_iff, hc]; exact h
  · rename_i p q
    obtain ⟨c, rfl, hc⟩ := hu
    exact ⟨c, rfl, hc.trans h⟩
  · exact Eq.trans hu h.symm
  · obtain ⟨b, rfl, hb⟩ := h; exact ⟨b, hu, hb⟩
  · obtain ⟨b, rfl, hb⟩ := h
    obtain ⟨c, rfl, hc⟩ := hu
    show Value.bool c = Value.bool b
    congr 1; rw [Bool.eq_iff_iff, hc, hb]
  · exact Eq.trans hu h
  · subst h; exact hu
theorem EnvLe.get {σ : Nat → Nat} {env : Env} : ∀ {l : Env}, EnvLe σ env l → ∀ t v, fnd l t = some v → ∃ u, fnd env t = some u ∧ SLe u (renS σ v)
  | [], _, _, _, h => by cases h
  | (u, x) :: r, hl, t, v, h => by
    rcases fnd_cons h with ⟨rfl, rfl⟩ | ⟨_, h⟩
    · exact fndK_spec hl.1
    · exact EnvLe.get hl.2 t v h
theorem ObsLe.get {σ : Nat → Nat} {obs : Obs} : ∀ {l : Obs}, ObsLe σ obs l → ∀ t o, fnd l t = some o → ∃ u, fnd obs (σ t) = some u ∧ ObLe u (renO σ o)
  | [], _, _, _, h => by cases h
  | (u, x) :: r, hl, t, v, h => by
    rcases fnd_cons h with ⟨rfl, rfl⟩ | ⟨_, h⟩
    · exact fndK_spec hl.1
    · exact ObsLe.get hl.2 t v h
theorem mem_iot {i : Nat} : ∀ {n : Nat}, i < n → i ∈ iot n
  | 0, h => by omega
  | n + 1, h => by
    unfold iot
    by_cases e : i = n
    · simp [e]
    · simp [mem_iot (show i < n by omega)]
theorem memB_of {x : Nat} : ∀ {l : List Nat}, x ∈ l → memB x l = true
  | [], h => by simp at h
  | y :: r, h => by
    unfold memB
    cases hb : Nat.beq x y
    · rcases List.mem_cons.1 h with rfl | h
      · rw [Nat.beq_refl] at hb; cases hb
      · exact memB_of h
    · rfl
theorem injB_spec {σ : Nat → Nat} : ∀ {n : Nat}, injB σ n = true → ∀ i j, i < n → j < n → σ i = σ j → i = j
  | 0, _, i, j, hi, _, _ => by omega
  | n + 1, h, i, j, hi, hj, e => by
    unfold injB iot at h
    rw [List.map_cons] at h
    unfold nodB at h
    cases hb : memB (σ n) ((iot n).map σ) <;> simp only [hb] at h
    · have no : ∀ k, k < n → σ k ≠ σ n := fun k hk q => by
        have : memB (σ n) ((iot n).map σ) = true := memB_of (List.mem_map.2 ⟨k, mem_iot hk, q⟩)
        rw [hb] at this; cases this
      by_cases h1 : i = n
      · by_cases h2 : j = n
        · omega
        · subst h1; exact absurd e.symm (no j (by omega))
      · by_cases h2 : j = n
        · subst h2; exact absurd e (no i (by omega))
        · exact injB_spec (n := n) h i j (by omega) (by omega) e
    · cases h
def via (σ : Nat → Nat) (ρ : Rho) : Rho := fun i => ρ (σ i)
theorem Ats.via {σ : Nat → Nat} {ρ : Rho} {l : List At} {x : List Value} (h : Ats ρ (l.map (renA σ)) x) : Ats (V.via σ ρ) l x := (SameAs.ren σ l).is_ h
theorem SV.is_via {σ : Nat → Nat} {ρ : Rho} {nx : Nat} {v : SV} {x : Value} (hb : svB nx v = true) (h : (renS σ v).is ρ x) : v.is (via σ ρ) x := by
  cases v with
  | one a => exact SameA.is_ (σ := σ) (ρ := ρ) (SameA.ren σ a) h
  | agg l => obtain ⟨c, e, hx⟩ := h; exact ⟨c, e.via, hx⟩
  | tup l =>
    have : l = [] := by simpa [svB] using hb
    subst this
    exact h
theorem fnd_ren {σ : Nat → Nat} : ∀ {env : Env} {t : Nat} {v : SV}, fnd env t = some v → fnd (env.map fun p => (p.1, renS σ p.2)) t = some (renS σ v)
  | [], _, _, h => by cases h
  | (u, x) :: r, t, v, h => by
    rw [List.map_cons]
    unfold fnd at h ⊢
    cases hb : Nat.beq u t <;> simp only [hb] at h ⊢
    · exact fnd_ren h
    · injection h with h; rw [h]
theorem EnvR.via {sz nx : Nat} {σ : Nat → Nat} {ρ : Rho} {env : Env} {a : Act} (hb : (env.all fun p => svB nx p.2) = true) (h : EnvR sz ρ (env.map fun p => (p.1, renS σ p.2)) a) : EnvR sz (V.via σ ρ) env a :=
  ⟨h.size, fun t v ht => let ⟨x, e, hv⟩ := h.env t _ (fnd_ren ht); ⟨x, e, SV.is_via (fnd_all (p := fun p => svB nx p.2) hb ht) hv⟩⟩
theorem Sat.via {nx : Nat} {B : Nat} {σ : Nat → Nat} {ρ : Rho} {w : World} {i : Nat} {o : Ob} (hb : obB nx o = true) (h : Sat B ρ w (σ i) (renO σ o)) : Sat B (V.via σ ρ) w i o := by
  cases o with
  | box t l => obtain ⟨b, cs, e, hB, hl, hh⟩ := h; exact ⟨b, cs, e, hB, hl.via, hh⟩
  | lit t s rows =>
    obtain ⟨b, cs, e, hB, hs, hn, hl, hh⟩ := h
    rw [List.length_map] at e hn
    refine ⟨b, cs, e, hB, fun r hr => ?_, hn, ?_, hh⟩
    · have := hs (r.map (renA σ)) (List.mem_map.2 ⟨r, hr, rfl⟩)
      simpa using this
    · refine Ats.via (l := rows.flatten) ?_
      rw [List.map_flatten]
      exact hl
  | arr s n get => exact h
  | cel l => obtain ⟨v, cs, e, hl, r⟩ := h; exact ⟨v, cs, e, hl.via, r⟩
  | row t s n get => exact h
  | tab g l => exact h
  | lp L env st => obtain ⟨l, fn, tmps, D, e, hB, hh, r⟩ := h; exact ⟨l, fn, tmps, D, e, hB, hh, r.via hb⟩
  | rov v t s n get => exact h
  | rws t e s N vs xs => exact h
  | vw r a s => exact h
  | dee s n vs xs => exact h
  | eqv j v => exact h
  | vh r b => exact h
  | gone => trivial
theorem foot_via {σ : Nat → Nat} {ρ : Rho} {i : Nat} {o : Ob} : foot (via σ ρ) i o = foot ρ (σ i) (renO σ o) := by
  cases o <;> rfl
theorem renO_mut {σ : Nat → Nat} {o : Ob} : (renO σ o).mut = o.mut := by cases o <;> rfl
theorem flat_congr {get get' : Nat → List Value} : ∀ {n : Nat}, (∀ k, k < n → get k = get' k) → flat get n = flat get' n
  | 0, _ => rfl
  | n + 1, h => by
    have e : ∀ g : Nat → List Value, flat g (n + 1) = flat g n ++ g n := fun g => by unfold flat; rw [List.range_succ, List.flatMap_append]; simp
    rw [e, e, flat_congr (fun k hk => h k (by omega)), h n (by omega)]
theorem sub_renO {σ : Nat → Nat} {o : Ob} {b : Nat} : sub (renO σ o) b = sub o b := by cases o <;> rfl
theorem ObLe.sub {o o' : Ob} (hl : ObLe o o') {b : Nat} (h : sub o' b) : sub o b := by
  cases o' with
  | rws t' e' s' n' vs' xs' =>
    obtain ⟨k, ⟨m, g⟩, h1, h2, h3⟩ := h
    cases o with
    | rws t e s n vs xs =>
      obtain ⟨rfl, rfl, rfl, rfl, hk⟩ := hl
      obtain ⟨e1, e2⟩ := hk k h1
      obtain ⟨g0, e3, _⟩ := e2 m g h2
      exact ⟨k, _, h1, e3, by rw [e1]; exact h3⟩
    | row t s n get =>
      obtain ⟨rfl, rfl, rfl, hk⟩ := hl
      obtain ⟨_, e2⟩ := hk k h1
      rw [(e2 m g h2).1] at h3
      simp [footV] at h3
    | _ => cases hl
  | _ => exact h.elim
theorem ObLe.sat {B : Nat} {ρ : Rho} {w : World} {i : Nat} {o o' : Ob} (hl : ObLe o o') (h : Sat B ρ w i o) : Sat B ρ w i o' ∧ (∀ b, foot ρ i o' = some b → foot ρ i o = some b) ∧ (o'.mut = true → o.mut = true) := by
  cases o with
  | arr s n get =>
    cases o' with
    | arr s' n' get' =>
      obtain ⟨rfl, rfl, hg⟩ := hl
      obtain ⟨v, e, A, c, ev, hn, hc, hh⟩ := h
      refine ⟨⟨v, e, A, c, ev, hn, hc, fun k hk => ?_⟩, fun _ h => h, fun h => h⟩
      rw [← hg k hk]; exact hh k hk
    | _ => cases hl
  | row t s n get =>
    cases o' with
    | row t' s' n' get' =>
      obtain ⟨rfl, rfl, rfl, hg⟩ := hl
      obtain ⟨v, e, hr⟩ := h
      exact ⟨⟨v, e, hr.congr fun k hk => (hg k hk).symm⟩, fun _ h => h, fun h => h⟩
    | arr s' n' get' =>
      obtain ⟨rfl, rfl, hg⟩ := hl
      obtain ⟨v, e, hr⟩ := h
      refine ⟨⟨v, e, (hr.congr fun k hk => (hg k hk).symm).arr⟩, fun b hb => ?_, fun h => nomatch h⟩
      obtain ⟨A, c, rfl, _, _, hc⟩ := hr
      unfold foot at hb ⊢
      rw [e]
      cases n with
      | zero => cases hb
      | succ n =>
        have hc0 : c ≠ 0 := by rcases hc with ⟨h, _⟩ | ⟨_, _, _, _, _, _, h, _⟩ <;> omega
        cases c with
        | zero => exact absurd rfl hc0
        | succ c => exact hb
    | rws t' e' s' n' vs xs =>
      obtain ⟨rfl, rfl, rfl, hg⟩ := hl
      obtain ⟨v, e, hr⟩ := h
      refine ⟨⟨⟨v, e, hr.congr fun k hk => ((hg k hk).1).symm⟩, fun k m g h1 h2 => ?_, fun j k x y b h1 h2 hne h3 h4 h5 => ?_⟩, fun _ h => h, fun _ => rfl⟩
      · obtain ⟨e1, rfl⟩ := (hg k h1).2 m g h2
        rw [e1]
        exact ⟨none, 0, rfl, by omega, fun k hk => by omega, .inl ⟨rfl, rfl⟩⟩
      · obtain ⟨e1, _⟩ := (hg j h1).2 x.1 x.2 h3
        rw [e1] at h5
        simp [footV] at h5
    | _ => cases hl
  | rws t e s n vs xs =>
    cases o' with
    | rws t' e' s' n' vs' xs' =>
      obtain ⟨rfl, rfl, rfl, rfl, hk⟩ := hl
      obtain ⟨⟨v, e, hr⟩, hs, hd⟩ := h
      refine ⟨⟨⟨v, e, hr.congr fun k h1 => by rw [(hk k h1).1]⟩, fun k m g h1 h2 => ?_, fun j k x y b h1 h2 hne h3 h4 h5 => ?_⟩, fun _ h => h, fun _ => rfl⟩
      · obtain ⟨e1, e2⟩ := hk k h1
        obtain ⟨g0, e3, e4⟩ := e2 m g h2
        rw [← e1]
        exact (hs k m g0 h1 e3).congr fun q hq => (e4 q hq).symm
      · obtain ⟨e1, e2⟩ := hk j h1
        obtain ⟨g0, e3, _⟩ := e2 x.1 x.2 h3
        obtain ⟨f1, f2⟩ := hk k h2
        obtain ⟨g1, f3, _⟩ := f2 y.1 y.2 h4
        rw [← e1] at h5
        rw [← f1]
        exact hd j k _ _ b h1 h2 hne e3 f3 h5
    | _ => cases hl
  | _ =>
    have e : _ = o' := hl
    subst e
    exact ⟨h, fun _ h => h, fun h => h⟩
theorem EnvR.head {σ : Nat → Nat} {sz nx : Nat} {ρ : Rho} {env l : Env} {a : Act} (hE : EnvR sz ρ env a) (hl : EnvLe σ env l) (hb : envB nx l = true) : EnvR sz (V.cut nx (V.via σ ρ)) l a :=
  ⟨hE.size, fun t v h => by
    obtain ⟨u, hu, hle⟩ := hl.get t v h
    obtain ⟨x, e, hv⟩ := hE.env t _ hu
    have hv := hle.is_ hv
    have hvb := fnd_all (p := fun p => svB nx p.2) hb h
    exact ⟨x, e, SV.is_cut hvb (SV.is_via hvb hv)⟩⟩
theorem Cls.head {σ : Nat → Nat} {B nx nx1 : Nat} {ρ : Rho} {obs l : Obs} {w : World} (hC : Cls B ρ obs nx1 w) (hl : ObsLe σ obs l) (hb : obsB nx l = true) (hi : injB σ nx = true) : Cls B (cut nx (via σ ρ)) l nx w := by
  have lt : ∀ i o, fnd l i = some o → i < nx ∧ obB nx o = true := fun i o h => by
    have := fnd_all (p := fun p => Nat.blt p.1 nx && obB nx p.2) hb h
    simpa [Nat.blt_eq] using this
  refine ⟨hC.le, fun i o h => ?_, fun i j o o' b h1 h2 hne hm hf => ?_, fun i hi => if_neg (by omega), fun i j o o' b h1 h2 hs => ?_⟩
  rotate_left 2
  · obtain ⟨u, hu, hl1⟩ := hl.get i o h1
    obtain ⟨u', hu', hl2⟩ := hl.get j o' h2
    have s1 : sub u b := hl1.sub (by rw [sub_renO]; exact hs)
    obtain ⟨_, f2, _⟩ := hl2.sat (hC.sat _ u' hu')
    rw [foot_eq (cut_lt (lt j o' h2).1), foot_via]
    refine ⟨fun q => (hC.apx _ _ u u' b hu hu' s1).1 (f2 b q), fun hne z => ?_⟩
    exact (hC.apx _ _ u u' b hu hu' s1).2 (fun q => hne (injB_spec hi i j (lt i o h1).1 (lt j o' h2).1 q)) (hl2.sub (by rw [sub_renO]; exact z))
  · obtain ⟨u, hu, hl'⟩ := hl.get i o h
    exact ((hl'.sat (hC.sat _ u hu)).1.via (lt i o h).2).cut (lt i o h).1 (lt i o h).2
  · obtain ⟨u, hu, hl1⟩ := hl.get i o h1
    obtain ⟨u', hu', hl2⟩ := hl.get j o' h2
    obtain ⟨_, f1, m1⟩ := hl1.sat (hC.sat _ u hu)
    obtain ⟨_, f2, m2⟩ := hl2.sat (hC.sat _ u' hu')
    rw [foot_eq (cut_lt (lt i o h1).1), foot_via] at hf
    rw [foot_eq (cut_lt (lt j o' h2).1), foot_via]
    exact fun q => hC.apart _ _ u u' b hu hu' (fun q => hne (injB_spec hi i j (lt i o h1).1 (lt j o' h2).1 q)) (m1 (by rw [renO_mut]; exact hm)) (f1 b hf) (f2 b q)
theorem sgm_pin {pin : Nat} : ∀ {l : List (Nat × Nat)}, pinB pin l = true → ∀ i, i < pin → sgm l i = i
  | [], _, _, _ => rfl
  | (a, b) :: r, h, i, hi => by
    simp only [pinB, List.all_cons, Bool.and_eq_true] at h
    have ha : pin ≤ a := by simpa using h.1
    have hr := sgm_pin (l := r) h.2 i hi
    unfold sgm fnd
    cases hb : Nat.beq a i
    · exact hr
    · have := Nat.eq_of_beq_eq_true hb; omega
theorem Wy.head {B m : Nat} {s : St} {ρ : Rho} {ds : List Deferred} {w : World} (h : Wy B s ρ ds w) (hm : s.pin ≤ m) {l : List (Nat × Nat)} (hl : pinB s.pin l = true) : Wy B s (cut m (via (sgm l) ρ)) ds w :=
  ⟨h.b, h.o, fun i y hi hy => by
    have e : cut m (via (sgm l) ρ) i = ρ (sgm l i) := cut_lt (by omega)
    rw [e, sgm_pin hl i hi]; exact h.e i y hi hy, h.m⟩
theorem calm_region {id : Nat} {ops : Array Oper} {b : Bool} (h : calm (.region id ops b) = true) : noDef ops.toList = true := h
theorem no_out {B : Nat} {w0 : St} {sz : Nat} {K : Kon} : ¬ LetsOut (QK B w0 sz K) := fun ⟨_, _, q⟩ => q
theorem region_any_in {P : Program} {id : Nat} {ops : Array Oper} {Q : Exit → Act → World → Prop} {a : Act} {w : World} {ro : Option Nat} {n : Nat} (hm : P.follows .mixedOrders = true) (hd : ro = none ∨ noDef ops.toList = true) (hQ : ¬ LetsOut Q)
    (h : wpAny P .any ops Q ops.size (Array.replicate ops.size false) a { w with drawn := w.drawn + 1 }) : (Code.region id ops true).wpIn (Fz ro) n P Q a w :=
  wpIn_region_any hm (any_in hd hQ _ _ _ _ h)
theorem region_quiet_in {P : Program} {id : Nat} {ops : Array Oper} {Q : Exit → Act → World → Prop} {C : World → Prop} {a : Act} {w : World} {ro : Option Nat} {n : Nat} (hm : P.follows .mixedOrders = true) (hd : ro = none ∨ noDef ops.toList = true) (hQ : ¬ LetsOut Q)
    (hB : Region.lexB .any ops = true) (hC : C { w with drawn := w.drawn + 1 }) (h : wpQuiet P ops C (fun a' => ∀ w', C w' → Q .normal a' w') ops.toList a) : (Code.region id ops true).wpIn (Fz ro) n P Q a w := by
  simp only [Region.lexB, Bool.and_eq_true] at hB
  refine region_any_in hm hd hQ (wpAny_of_quiet (Q := fun a' => ∀ w', C w' → Q .normal a' w') (fun _ w' hw' h => h w' hw') _ _ _ _ hC ?_)
  have := wpAnyQ_lex (C := C) (md := .any) hB.1 ops.toList 0 (Array.replicate ops.size false) a (by simp) (by simpa using hB.2) h
  simpa using this
section
variable {P : Program} {T : TT} {sz : Nat} {B : Nat} {w0 : St} (hT : TTok P T) (hm : P.follows .mixedOrders = true)
include hT hm
omit hT hm in
theorem vc_cond {pin : Nat} {c : Operand} {x y : Code} {env : Env} {obs : Obs} {nx : Nat} {K : Kon} : vc P T sz pin (.cond c x y) env obs nx K = evK env c fun v => match v with
      | .one (.tf true) => vc P T sz pin x env obs nx K
      | .one (.tf false) => vc P T sz pin y env obs nx K
      | .one (.prop p) => NCond p (wr x ++ wr y) pin (vc P T sz pin x env obs nx) (vc P T sz pin y env obs nx) env obs nx K
      | .one (.val (.bool q)) => NCond (q = true) (wr x ++ wr y) pin (vc P T sz pin x env obs nx) (vc P T sz pin y env obs nx) env obs nx K
      | _ => False := rfl
theorem vc_sound {ro : Option Nat} {n : Nat} : ∀ (c : Code) {env : Env} {obs : Obs} {nx : Nat} {K : Kon} {ρ : Rho} {a : Act} {w : World}, (ro = none ∨ calm c = true) → vc P T sz w0.pin c env obs nx K → EnvR sz ρ env a → Cls B ρ obs nx w → Wy B w0 ρ a.defers w → c.wpIn (Fz ro) n P (QK B w0 sz K) a w
  | .skip, env, obs, nx, K, ρ, a, w, hcm, h, hE, hC, hW => wpIn_skip ⟨ρ, env, obs, nx, h, hE, hC, hW⟩
  | .label _, env, obs, nx, K, ρ, a, w, hcm, h, hE, hC, hW => wpIn_label ⟨ρ, env, obs, nx, h, hE, hC, hW⟩
  | .region id ops false, env, obs, nx, K, ρ, a, w, hcm, h, hE, hC, hW => by
    have h1 := ops_sound (ro := ro) (n := n) (Q := QK B w0 sz K) hT (fun a w q => q) ops.toList hE hC hW h
    exact wpIn_region_list (by simpa using h1)
  | .region id ops true, env, obs, nx, K, ρ, a, w, hcm, h, hE, hC, hW => by
    have hC1 : Cls B ρ obs nx { w with drawn := w.drawn + 1 } := hC.drawn _
    have hW1 : Wy B w0 ρ a.defers { w with drawn := w.drawn + 1 } := hW.trans ⟨⟨rfl, rfl, rfl, Nat.le_refl _, fun _ _ => rfl⟩, fun _ => Nat.le_succ _⟩ (fun _ _ h => h)
    have go : ∀ (g rc : Bool) (K' : Env → Obs → Nat → Prop) {ρ : Rho} {env : Env} {obs : Obs} {nx : Nat}, EnvR sz ρ env a → Cls B ρ obs nx { w with drawn := w.drawn + 1 } → Wy B w0 ρ a.defers { w with drawn := w.drawn + 1 } → freeB ops.toList = true → explK g rc P T sz ops.toList ops.toList.length [] env obs nx K' → (∀ a w, Nx B w0 sz K' a w → QK B w0 sz K .normal a w) → (Code.region id ops true).wpIn (Fz ro) n P (QK B w0 sz K) a w := fun g rc K' {ρ env obs nx} hE hC1 hW1 hf hx hR => by
      refine region_any_in hm (hcm.imp (fun q => q) calm_region) no_out ?_
      have := (expl_sound hT hf ops.toList.length [] (listed := Array.replicate ops.size false) (fun _ _ => True) ⟨by simp, fun j => by
        rw [show memB j [] = false from rfl]
        rcases Nat.lt_or_ge j ops.size with h | h
        · simp [h]
        · simp [Array.getElem?_eq_none, h]⟩ (down_start _) hE hC1 hW1 (fun _ _ _ => ⟨fun _ _ => trivial, .inl fun _ => trivial⟩) hx).any (Q := QK B w0 sz K) hR
      simpa using this
    replace h : NDraw P T sz w0.pin ops.toList env obs nx (fun e o n => K .nrm e o n) := h
    cases h with
    | mk h2 h1 =>
      have h1 := ops_quiet (Q := fun a' => ∀ w', (Cls B ρ obs nx w' ∧ Wy B w0 ρ a.defers w') → QK B w0 sz K .normal a' w') hT hC hW (fun a2 env' hd hE' hK w' hw' => ⟨ρ, env', obs, nx, hK, hE', hw'.1, by rw [hd]; exact hw'.2⟩) ops.toList rfl hE h1
      exact region_quiet_in (C := fun w' => Cls B ρ obs nx w' ∧ Wy B w0 ρ a.defers w') hm (hcm.imp (fun q => q) calm_region) no_out (by simpa using h2) ⟨hC1, hW1⟩ (by simpa using h1)
    | pre_ g rc hf env' obs' nx' hr hx =>
      obtain ⟨ρ', hx', hE', hC'⟩ := hr.h B ρ _ a hE hC1
      exact go g rc _ hE' hC' (hW1.ext hx') hf hx fun a w h => h
    | tail_ g rc m hc hx =>
      rw [Bool.and_eq_true] at hc
      obtain ⟨hf, ht⟩ := hc
      have hd := hcm.imp (fun q => q) calm_region
      have hl := (tailB_spec ht).1
      refine wpIn_region_any hm ?_
      have lt : (ops.toList.take m).length = m := List.length_take.trans (Nat.min_eq_left hl)
      have := wpX_tail (n := n) (Q := QK B w0 sz K) hd ht (R := Nx B w0 sz fun e o n => opsK P T sz false ops.toList (ops.toList.drop m) e o n fun e o n => K .nrm e o n) (fun a w q => by
          obtain ⟨ρ1, env1, obs1, nx1, h1, hE1, hC1, hW1⟩ := q
          exact ops_sound hT (fun _ _ q => q) _ hE1 hC1 hW1 h1) (ops.toList.take m).length (Array.replicate m false) (Array.replicate ops.size false) a { w with drawn := w.drawn + 1 } (fun _ _ => True) (by simp) (by simp) (fun i => by
            rcases Nat.lt_or_ge i m with q | q
            · rcases Nat.lt_or_ge i ops.size with r | r
              · simp [q, r]
              · simp [q, Array.getElem?_eq_none, r]
            · rcases Nat.lt_or_ge i ops.size with r | r
              · simp [r]; intro h; omega
              · simp [Array.getElem?_eq_none, r]; intro h; omega) (down_start _) (expl_sound hT hf _ [] (listed := Array.replicate m false) (fun _ _ => True) ⟨by simp [lt], fun j => by
                rw [show memB j [] = false from rfl]
                rcases Nat.lt_or_ge j m with h | h
                · simp [h]
                · simp [Array.getElem?_eq_none, h]⟩ (down_start _) hE hC1 hW1 (fun _ _ _ => ⟨fun _ _ => trivial, .inl fun _ => trivial⟩) hx)
      rw [lt, show m + (ops.toList.length - m) = ops.size by simp at hl ⊢; omega] at this
      simpa using this
    | any_ g rc hf hx => exact go g rc _ hE hC1 hW1 hf hx fun a w h => h
    | join_ g rc hf E O m hx hp hb hk =>
      refine go g rc _ hE hC1 hW1 hf hx ?_
      rintro a1 w1 ⟨ρ1, env1, obs1, nx1, ⟨⟨l, hl, hi, he, ho⟩⟩, hE1, hC1, hW1⟩
      exact ⟨cut m (via (sgm l) ρ1), E, O, m, hk, hE1.head he hb.1, hC1.head ho hb.2 hi, hW1.head (Nat.le_of_ble_eq_true hp) hl⟩
  | .seq x y, env, obs, nx, K, ρ, a, w, hcm, h, hE, hC, hW => by
    have hx : ro = none ∨ calm x = true := hcm.imp (fun q => q) fun q => (by unfold calm at q; simp only [Bool.and_eq_true] at q; exact q.1)
    have hy : ro = none ∨ calm y = true := hcm.imp (fun q => q) fun q => (by unfold calm at q; simp only [Bool.and_eq_true] at q; exact q.2)
    have h1 := vc_sound (n := n) x hx h hE hC hW
    refine wpIn_seq (wpIn_mono h1 ?_)
    intro e a1 w1 q
    cases e with
    | normal =>
      obtain ⟨ρ1, env1, obs1, nx1, hk, hE1, hC1, hW1⟩ := q
      exact vc_sound y hy hk hE1 hC1 hW1
    | exit i => exact q
    | ret => exact q
    | goto l => exact q
    | panic c => exact q
    | outgrown => exact q
  | .cond c x y, env, obs, nx, K, ρ, a, w, hcm, h, hE, hC, hW => by
    rw [vc_cond] at h
    have hx : ro = none ∨ calm x = true := hcm.imp (fun q => q) fun q => (by unfold calm at q; simp only [Bool.and_eq_true] at q; exact q.1)
    have hy : ro = none ∨ calm y = true := hcm.imp (fun q => q) fun q => (by unfold calm at q; simp only [Bool.and_eq_true] at q; exact q.2)
    have two : ∀ (p : Prop) (b : Bool), a.eval c = .bool b → (b = true ↔ p) → NCond p (wr x ++ wr y) w0.pin (vc P T sz w0.pin x env obs nx) (vc P T sz w0.pin y env obs nx) env obs nx K → (Code.cond c x y).wpIn (Fz ro) n P (QK B w0 sz K) a w := fun p b hb hp h => by
      have one : ∀ K', NIf p (vc P T sz w0.pin x env obs nx K') (vc P T sz w0.pin y env obs nx K') → (Code.cond c x y).wpIn (Fz ro) n P (QK B w0 sz K') a w := fun K' h => by
        cases b with
        | true => exact wpIn_cond_true hb (vc_sound x hx (h.t (hp.1 rfl)) hE hC hW)
        | false => exact wpIn_cond_false hb (vc_sound y hy (h.f (fun q => by have := hp.2 q; cases this)) hE hC hW)
      cases h with
      | mk h => exact one K h
      | join ι S m J hpm hsb h k =>
        refine wpIn_mono (one _ h) ?_
        intro e a1 w1 q
        cases e with
        | normal =>
          obtain ⟨ρ1, env1, obs1, nx1, ⟨i, l, hj, hl, hi, he, ho⟩, hE1, hC1, hW1⟩ := q
          exact ⟨cut m (via (sgm l) ρ1), (S i).1, (S i).2, m, k i hj, hE1.head he (hsb i).1, hC1.head ho (hsb i).2 hi, hW1.head hpm hl⟩
        | exit i => exact q
        | ret => exact q
        | goto l => exact q
        | panic c => exact q
        | outgrown => exact q
    obtain ⟨v, hv, h⟩ := evK_spec hE h
    split at h
    · exact wpIn_cond_true hv (vc_sound x hx h hE hC hW)
    · exact wpIn_cond_false hv (vc_sound y hy h hE hC hW)
    · obtain ⟨b, hb, hp⟩ := hv
      exact two _ b hb hp h
    · rename_i b
      exact two _ b hv Iff.rfl h
    · exact h.elim
  | .block id c, env, obs, nx, K, ρ, a, w, hcm, h, hE, hC, hW => by
    have h1 := vc_sound (n := n) c (hcm.imp (fun q => q) fun q => (by unfold calm at q; exact q)) h hE hC hW
    refine wpIn_block (wpIn_mono h1 ?_)
    intro e a1 w1 q
    cases e with
    | normal => exact q
    | exit i =>
      obtain ⟨ρ1, env1, obs1, nx1, hk, r⟩ := q
      simp only [Exit.inBlock]
      simp only at hk
      by_cases e : i = id
      · subst e
        rw [if_pos rfl]
        rw [Nat.beq_refl] at hk
        exact ⟨ρ1, env1, obs1, nx1, hk, r⟩
      · rw [if_neg e]
        cases hb : Nat.beq i id
        · rw [hb] at hk
          exact ⟨ρ1, env1, obs1, nx1, hk, r⟩
        · exact absurd (Nat.eq_of_beq_eq_true hb) e
    | ret => exact q
    | goto l => exact q
    | panic c => exact q
    | outgrown => exact q
  | .exit i, env, obs, nx, K, ρ, a, w, hcm, h, hE, hC, hW => wpIn_exit ⟨ρ, env, obs, nx, h, hE, hC, hW⟩
  | .ret, env, obs, nx, K, ρ, a, w, hcm, h, hE, hC, hW => wpIn_ret ⟨ρ, env, obs, nx, h, hE, hC, hW⟩
  | .loop c, env, obs, nx, K, ρ, a, w, hcm, h, hE, hC, hW => by
    obtain ⟨ι, S, μ, J, i0, m, hpin, hj, hi0, hel, hol, hb, hr⟩ := NLoop.h h
    refine wpIn_loop_ghost (fun n a w => ∃ i ρ, μ i = n ∧ J i ∧ EnvR sz ρ (S i).1 a ∧ Cls B ρ (S i).2 m w ∧ Wy B w0 ρ a.defers w) (μ i0)
      ⟨i0, _, rfl, hj, hE.head hel (hb i0).1, hC.head hol (hb i0).2 hi0, hW.head hpin (l := []) rfl⟩ ?_
    rintro n a1 w1 ⟨i, ρ1, rfl, hji, hE1, hC1, hW1⟩
    refine wpIn_mono (vc_sound c (hcm.imp (fun q => q) fun q => (by unfold calm at q; exact q)) (hr i hji) hE1 hC1 hW1) ?_
    intro e a2 w2 q
    cases e with
    | normal =>
      obtain ⟨ρ2, env2, obs2, nx2, ⟨i', l', hj', hlt, hp', hi', hel', hol'⟩, hE2, hC2, hW2⟩ := q
      exact ⟨μ i', hlt, i', _, rfl, hj', hE2.head hel' (hb i').1, hC2.head hol' (hb i').2 hi', hW2.head hpin hp'⟩
    | exit i => exact q
    | ret => exact q
    | goto l => exact q
    | panic c => exact q
    | outgrown => exact q
  | .rangeFunc f ps assign body, env, obs, nx, K, ρ, a, w, hcm, h, hE, hC, hW => by
    rcases hcm with rfl | q
    · exact NRange.h h B w0 ρ a w n hE hC hW
    · cases q
  | .scope _, _, _, _, _, _, _, _, _, h, _, _, _ => h.elim
  | .goto _, _, _, _, _, _, _, _, _, h, _, _, _ => h.elim
  | .refuse _, _, _, _, _, _, _, _, _, h, _, _, _ => h.elim
end
end Go.Proofs.YtlbffibpcjjpkaaDoor.V

namespace Go.Proofs.YtlbffibpcjjpkaaDoor.V
open Go Go.RowKit
variable [Dr]
set_option linter.unusedSectionVars false
def argEnv : Nat → List SV → Env
  | _, [] => []
  | i, v :: r => (i, v) :: argEnv (i + 1) r
def resK (T : TT) (env : Env) (obs : Obs) : List ResultVar → (List SV → Prop) → Prop
  | [], K => K []
  | .tmp t :: r, K => fndK env t fun v => match v with
    | .one a => resK T env obs r fun l => K (.one a :: l)
    | .agg c => resK T env obs r fun l => K (.agg c :: l)
    | .tup _ => False
  | .cell t ty :: r, K => fndK env t fun v => match v with
    | .one (.ptr i k j s) => fndK T ty fun y => fndK obs i fun o => elemK obs y k j s (fun u => match u with
      | .one a => resK T env obs r fun l => K (.one a :: l)
      | .agg c => resK T env obs r fun l => K (.agg c :: l)
      | .tup _ => False) o
    | _ => False
def fnK (T : TT) (rs : List ResultVar) (R : SV → Obs → Nat → Prop) : Kon := fun e env obs nx => match e with
  | .nrm | .ret => resK T env obs rs fun l => match l with
    | [v] => R v obs nx
    | l => R (.tup l) obs nx
  | .exit _ => False
theorem Svs.length {ρ : Rho} : ∀ {l : List SV} {x : List Value}, Svs ρ l x → x.length = l.length
  | [], _, h => by rw [h]; rfl
  | _ :: _, _, ⟨a, r, hx, ha, hr⟩ => by rw [hx, List.length_cons, List.length_cons, Svs.length hr]
def resF (tmps : Array Value) : ResultVar → Sem Value
  | .tmp t => pure (tmps.getD t undef)
  | .cell a t => do loadVar t (← asAddr (tmps.getD a undef))
theorem results_eq (fn : Func) (tmps : Array Value) : results fn tmps = (do let vs ← fn.results.mapM (resF tmps); pure (if h : vs.size = 1 then vs[0] else .tuple vs)) := by
  unfold results
  have e : (fun r => match r with | ResultVar.tmp t => (pure (tmps.getD t undef) : Sem Value) | .cell a t => do loadVar t (← asAddr (tmps.getD a undef))) = resF tmps := by
    funext r; cases r <;> rfl
  rw [← e]
  rfl
theorem run_mapM_cons {P : Program} {α : Type} {f : α → Sem Value} {x : α} {r : List α} {y : Value} {ys : List Value} {w : World} (h1 : (f x).run P w = .ok y w) (h2 : (r.mapM f).run P w = .ok ys w) : ((x :: r).mapM f).run P w = .ok (y :: ys) w := by
  rw [List.mapM_cons]
  simp [Sem.run_bind, h1, h2]
section
variable {P : Program} {T : TT} {sz : Nat} {ρ : Rho} {env : Env} {a : Act} {B nx : Nat} {obs : Obs} {w : World} (hT : TTok P T) (hE : EnvR sz ρ env a) (hC : Cls B ρ obs nx w)
include hT hE hC
theorem resK_spec : ∀ {rs : List ResultVar} {K : List SV → Prop}, resK T env obs rs K → ∃ l xs, K l ∧ Svs ρ l xs ∧
    (rs.mapM (resF a.tmps)).run P w = .ok xs w
  | [], K, h => ⟨[], [], h, rfl, rfl⟩
  | .tmp t :: r, K, h => by
    unfold resK at h
    obtain ⟨v, e, h⟩ := fndK_spec h
    obtain ⟨x, ex, hv⟩ := hE.env t v e
    have e2 : a.tmps.getD t undef = x := by simp [Array.getD_eq_getD_getElem?, ex]
    split at h
    · obtain ⟨l, xs, hK, hs, hr⟩ := resK_spec h
      exact ⟨_, x :: xs, hK, ⟨x, xs, rfl, hv, hs⟩, run_mapM_cons (by simp only [resF, e2, Sem.run_pure]) hr⟩
    · obtain ⟨l, xs, hK, hs, hr⟩ := resK_spec h
      exact ⟨_, x :: xs, hK, ⟨x, xs, rfl, hv, hs⟩, run_mapM_cons (by simp only [resF, e2, Sem.run_pure]) hr⟩
    · exact h.elim
  | .cell t ty :: r, K, h => by
    unfold resK at h
    obtain ⟨v, e, h⟩ := fndK_spec h
    obtain ⟨x, ex, hv⟩ := hE.env t v e
    have e2 : a.tmps.getD t undef = x := by simp [Array.getD_eq_getD_getElem?, ex]
    split at h
    · rename_i i k j s
      obtain ⟨a0, hb, hx⟩ := hv
      obtain ⟨y, ey, h⟩ := fndK_spec h
      obtain ⟨o, eo, h⟩ := fndK_spec h
      obtain ⟨u, z, hu, h, hl⟩ := load_spec hC eo (hT.get ey) h
      have hl := hl w hC a0 hb
      split at h
      · obtain ⟨l, xs, hK, hs, hr⟩ := resK_spec h
        exact ⟨_, z :: xs, hK, ⟨z, xs, rfl, hu, hs⟩, run_mapM_cons (by simp only [resF, Sem.run_bind, Sem.run_pure, Result.andThen_ok, e2, hx, asAddr, hl]) hr⟩
      · obtain ⟨l, xs, hK, hs, hr⟩ := resK_spec h
        exact ⟨_, z :: xs, hK, ⟨z, xs, rfl, hu, hs⟩, run_mapM_cons (by simp only [resF, Sem.run_bind, Sem.run_pure, Result.andThen_ok, e2, hx, asAddr, hl]) hr⟩
      · exact h.elim
    · exact h.elim
theorem results_spec {fn : Func} {R : SV → Obs → Nat → Prop} (h : resK T env obs fn.results.toList fun l => match l with
    | [v] => R v obs nx
    | l => R (.tup l) obs nx) : ∃ v x, R v obs nx ∧ v.is ρ x ∧ (results fn a.tmps).run P w = .ok x w := by
  obtain ⟨l, xs, hK, hs, hr⟩ := resK_spec hT hE hC h
  have hm : (fn.results.mapM (resF a.tmps)).run P w = .ok xs.toArray w := by
    rw [Array.mapM_eq_mapM_toList]
    simp [Sem.run_map, hr]
  rw [results_eq]
  split at hK
  · rename_i v
    obtain ⟨x, r, rfl, hv, hr'⟩ := hs
    have e : r = [] := hr'
    subst e
    refine ⟨v, x, hK, SV.is_of1 hv, ?_⟩
    rw [Sem.run_bind, hm]
    simp
  · rename_i hn
    refine ⟨_, .tuple xs.toArray, hK, ⟨xs, hs, rfl⟩, ?_⟩
    rw [Sem.run_bind, hm]
    have hl : xs.length ≠ 1 := by
      intro e
      have : l.length = xs.length := hs.length.symm
      match l, this with
      | [v], _ => exact hn v rfl
      | [], q => simp [e] at q
      | _ :: _ :: _, q => simp [e] at q
    simp [hl]
end
theorem argEnv_get {ρ : Rho} : ∀ {l : List SV} {xs : List Value} {i t : Nat} {v : SV}, Svs ρ l xs → fnd (argEnv i l) t = some v → ∃ x, i ≤ t ∧ xs[t - i]? = some x ∧ v.is ρ x
  | [], _, _, _, _, _, h => by cases h
  | u :: l, _, i, t, v, ⟨x, r, hx, hu, hr⟩, h => by
    rcases fnd_cons h with ⟨rfl, rfl⟩ | ⟨hn, h⟩
    · exact ⟨x, Nat.le_refl _, by rw [hx]; simp, SV.is_of1 hu⟩
    · obtain ⟨y, hle, hy, hv⟩ := argEnv_get hr h
      refine ⟨y, by omega, ?_, hv⟩
      rw [hx, show t - i = (t - (i + 1)) + 1 by omega]
      simpa using hy
theorem heap_shut {w : World} {D b : Nat} {l : Option (List Deferred)} {o o' : Obj} (hD : w.heap[D]? = some (.deferred l)) (hb : w.heap[b]? = some o) (hne : ∀ l, o ≠ .deferred l) : (w.putObj D o').heap[b]? = some o := by
  rw [World.putObj_heap_other]
  · exact hb
  · intro e; subst e; rw [hD] at hb; injection hb with hb; exact hne l hb.symm
theorem cell_shut {w : World} {D : Nat} {l : Option (List Deferred)} {o' : Obj} (hD : w.heap[D]? = some (.deferred l)) {a : Addr} {v : Value} (h : w.cell? a = some v) : (w.putObj D o').cell? a = some v := by
  rw [← h]
  refine World.cell?_of_block (World.putObj_heap_other fun e => ?_)
  unfold World.cell? at h
  rw [e, hD] at h; cases h
theorem Cls.shut {B nx : Nat} {ρ : Rho} {obs : Obs} {w : World} {D : Nat} {l : Option (List Deferred)} (h : Cls B ρ obs nx w) (hD : w.heap[D]? = some (.deferred l)) (o : Obj) : Cls B ρ obs nx (w.putObj D o) := by
  refine ⟨by rw [World.putObj_size]; exact h.le, fun i u hu => ?_, h.apart, h.new, h.apx⟩
  have hs := h.sat i u hu
  have rows : ∀ {v t s n get}, RowIs B w v t s n get → RowIs B (w.putObj D o) v t s n get := fun hr => hr.kept fun b hb => by
    obtain ⟨_, _, cur, hc⟩ := hr.foot hb
    exact (heap_shut hD hc (fun _ q => by cases q)).trans hc.symm
  cases u with
  | box t l => obtain ⟨b', cs, e, hB, hl, hh⟩ := hs; exact ⟨b', cs, e, hB, hl, heap_shut hD hh (fun _ q => by cases q)⟩
  | lit t s rows => obtain ⟨b', cs, e, hB, h1, h2, h3, hh⟩ := hs; exact ⟨b', cs, e, hB, h1, h2, h3, heap_shut hD hh (fun _ q => by cases q)⟩
  | arr s n get =>
    obtain ⟨v, e, A, c, ev, h1, h2, hh⟩ := hs
    refine ⟨v, e, A, c, ev, h1, h2, fun k hk => ?_⟩
    obtain ⟨a, ea, hlt, hl, hc⟩ := hh k hk
    exact ⟨a, ea, by rw [World.putObj_size]; exact hlt, hl, fun j u hu => cell_shut hD (hc j u hu)⟩
  | cel l =>
    obtain ⟨v, cs, e, hl, a, ev, hlt, hc⟩ := hs
    exact ⟨v, cs, e, hl, a, ev, by rw [World.putObj_size]; exact hlt, fun j u hu => cell_shut hD (hc j u hu)⟩
  | row t s n get =>
    obtain ⟨v, e, A, c, ev, h1, h2, hh⟩ := hs
    refine ⟨v, e, A, c, ev, h1, h2, ?_⟩
    rcases hh with q | ⟨g, cur, q1, q2, hg, r⟩
    · exact .inl q
    · exact .inr ⟨g, cur, q1, q2, heap_shut hD hg (fun _ q => by cases q), r⟩
  | tab g l => obtain ⟨e, hlt, hc, cs, t, fr, hh, hl⟩ := hs; exact ⟨e, by rw [World.putObj_size]; exact hlt, fun j u hu => cell_shut hD (hc j u hu), cs, t, fr, heap_shut hD hh (fun _ q => by cases q), hl⟩
  | lp L env st => obtain ⟨l, fn, tmps, D', e, hB, hh, r⟩ := hs; exact ⟨l, fn, tmps, D', e, hB, heap_shut hD hh (fun _ q => by cases q), r⟩
  | rov v t s n get => exact ⟨hs.1, rows hs.2⟩
  | rws t e s N vs xs => obtain ⟨⟨v, e, hr⟩, r, q⟩ := hs; exact ⟨⟨v, e, rows hr⟩, fun k n g h1 h2 => rows (r k n g h1 h2), q⟩
  | vw r a s => exact hs
  | dee s n vs xs =>
    have keep : ∀ {v s n get}, ArrB B w v s n get → ArrB B (w.putObj D o) v s n get := fun ⟨A, c, e, h1, h2, hh⟩ => ⟨A, c, e, h1, h2, fun k hk => let ⟨a, q1, q2, q3, q4⟩ := hh k hk; ⟨a, q1, q2, q3, fun j u hu => cell_shut hD (q4 j u hu)⟩⟩
    obtain ⟨v, e, q1, q2⟩ := hs
    exact ⟨v, e, keep q1, fun k j u s' m g h1 h2 h3 => keep (q2 k j u s' m g h1 h2 h3)⟩
  | eqv j v => exact hs
  | vh r b => exact hs
  | gone => trivial
theorem leaves_marks {P : Program} {fn : Func} {tmps : Array Value} {R : Ending → World → Prop} {B nx : Nat} {ρ : Rho} {obs : Obs} {v : World} : ∀ (Ds : List Nat) (w : World), Ds.Nodup → (∀ D ∈ Ds, B ≤ D ∧ v.heap.size ≤ D ∧ w.heap[D]? = some (.deferred (some []))) → Cls B ρ obs nx w → Belw B v w → Oth v w →
    (∀ w', Cls B ρ obs nx w' → Belw B v w' → Oth v w' → ∃ x, (results fn tmps).run P w' = .ok x w' ∧ R (.returned x) w') → LeavesInM Fence.wide 0 P fn tmps R (Ds.map fun D => { target := .collected D, args := #[] }) .returning w
  | [], w, _, _, hC, hb, ho, h => h w hC hb ho
  | D :: Ds, w, hn, hd, hC, hb, ho, h => by
    obtain ⟨h1, h2, h3⟩ := hd D (by simp)
    rw [List.nodup_cons] at hn
    refine ⟨by simp, .inl ⟨D, _, rfl, run_takeDeferred h3, ?_⟩⟩
    refine leaves_marks Ds _ hn.2 (fun E hE => ?_) (hC.shut h3 _) ⟨⟨hb.os, hb.tape, hb.output, by rw [World.putObj_size]; exact hb.size, fun k hk => (World.putObj_heap_other (by omega)).trans (hb.block k hk)⟩, hb.drawn⟩ (fun k q hq => ?_) h
    · obtain ⟨a, b, c⟩ := hd E (by simp [hE])
      exact ⟨a, b, (World.putObj_heap_other (fun e => hn.1 (by rw [← e]; exact hE))).trans c⟩
    · have := (Array.getElem?_eq_some_iff.1 hq).1
      exact (World.putObj_heap_other (by omega)).trans (ho k q hq)
theorem fn_sound_pin {P : Program} {T : TT} (hT : TTok P T) (hm : P.follows .mixedOrders = true) {f : FuncId} {fn : Func} {c : Code} (hf : P.funcs[f]? = some fn) (hb : fn.body = some c) {sz : Nat} (hs : fn.ntmps = sz) {args : List SV} (hsz : Nat.ble args.length sz = true)
    {obs : Obs} {pin nx B : Nat} {R : SV → Obs → Nat → Prop} (h : vc P T sz pin c (argEnv 0 args) obs nx (fnK T fn.results.toList R)) {w : World} {ρ : Rho} {xs : Array Value} (hC : Cls B ρ obs nx w) (ha : Svs ρ args xs.toList) :
    Calls P f xs w fun e w' => ∃ ρ' v obs' nx' x, R v obs' nx' ∧ e = .returned x ∧ v.is ρ' x ∧ Cls B ρ' obs' nx' w' ∧ Belw B w w' ∧ (∀ i y, i < pin → ρ i = some y → ρ' i = some y) ∧ Oth w w' := by
  subst hs
  have hlen : xs.size ≤ fn.ntmps := by
    have h1 := ha.length
    have h2 := Nat.le_of_ble_eq_true hsz
    simp at h1; omega
  have hx : ∀ ρ1 ds w1, Wy B ⟨w, ρ, pin⟩ ρ1 ds w1 → ∀ i y, i < pin → ρ i = some y → ρ1 i = some y := fun ρ1 ds w1 hW i y hi hy => hW.e i y hi hy
  refine (callsIn_wide (n := 0)).1 (callsIn_of_wp_marks (F := Fence.wide) hf hb trivial (wpIn_mono (vc_sound (ro := none) (n := 0) (w0 := ⟨w, ρ, pin⟩) hT hm c (.inl rfl) h ⟨by simp; omega, fun t v ht => ?_⟩ hC ⟨Belw.refl _ _, Oth.refl _, fun _ _ _ h => h, [], rfl, List.nodup_nil, by simp⟩) ?_))
  · obtain ⟨x, _, hx, hv⟩ := argEnv_get ha ht
    refine ⟨x, ?_, hv⟩
    have hlt : t < xs.size := by
      have := (List.getElem?_eq_some_iff.1 hx).1
      simpa using this
    rw [Array.getElem?_append_left hlt]
    simpa using hx
  · intro e a1 w1 q
    have fin : ∀ (K : Env → Obs → Nat → Prop), (∀ env1 obs1 nx1, K env1 obs1 nx1 → fnK T fn.results.toList R .ret env1 obs1 nx1) → Nx B ⟨w, ρ, pin⟩ fn.ntmps K a1 w1 → bodyPostM Fence.wide 0 P fn (fun e w' => ∃ ρ' v obs' nx' x, R v obs' nx' ∧ e = .returned x ∧ v.is ρ' x ∧ Cls B ρ' obs' nx' w' ∧ Belw B w w' ∧ (∀ i y, i < pin → ρ i = some y → ρ' i = some y) ∧ Oth w w') .ret a1 w1 := by
      rintro K hK ⟨ρ1, env1, obs1, nx1, hk, hE1, hC1, hW1⟩
      obtain ⟨Ds, hd, hn, hD⟩ := hW1.m
      show LeavesInM Fence.wide 0 P fn a1.tmps _ a1.defers .returning w1
      rw [hd]
      refine leaves_marks Ds w1 hn hD hC1 hW1.b hW1.o fun w' hC' hb' ho' => ?_
      obtain ⟨v, x, hR, hv, hr⟩ := results_spec (nx := nx1) hT hE1 hC' (hK _ _ _ hk)
      exact ⟨x, hr, ρ1, v, obs1, nx1, x, hR, rfl, hv, hC', hb', hx _ _ _ hW1, ho'⟩
    cases e with
    | normal => exact fin _ (fun _ _ _ q => q) q
    | ret => exact fin _ (fun _ _ _ q => q) q
    | exit i => obtain ⟨ρ1, env1, obs1, nx1, hk, _⟩ := q; exact hk.elim
    | goto l => exact q
    | panic c => exact (show False from q).elim
    | outgrown => exact (show False from q).elim
theorem fn_sound {P : Program} {T : TT} (hT : TTok P T) (hm : P.follows .mixedOrders = true) {f : FuncId} {fn : Func} {c : Code} (hf : P.funcs[f]? = some fn) (hb : fn.body = some c) {sz : Nat} (hs : fn.ntmps = sz) {args : List SV} (hsz : Nat.ble args.length sz = true)
    {obs : Obs} {nx B : Nat} {R : SV → Obs → Nat → Prop} (h : vc P T sz nx c (argEnv 0 args) obs nx (fnK T fn.results.toList R)) {w : World} {ρ : Rho} {xs : Array Value} (hC : Cls B ρ obs nx w) (ha : Svs ρ args xs.toList) :
    Calls P f xs w fun e w' => ∃ ρ' v obs' nx' x, R v obs' nx' ∧ e = .returned x ∧ v.is ρ' x ∧ Cls B ρ' obs' nx' w' ∧ Belw B w w' ∧ (∀ i y, ρ i = some y → ρ' i = some y) ∧ Oth w w' :=
  (fn_sound_pin hT hm hf hb hs hsz h hC ha).mono fun e w' ⟨ρ', v, obs', nx', x, hR, he, hv, hC', hb', hx, ho⟩ => ⟨ρ', v, obs', nx', x, hR, he, hv, hC', hb', fun i y hy => (by
    by_cases hi : i < nx
    · exact hx i y hi hy
    · rw [hC.new i (by omega)] at hy; cases hy), ho⟩
theorem NCall.inl {P : Program} {T : TT} (hT : TTok P T) (hm : P.follows .mixedOrders = true) {f : FuncId} {fn : Func} {c : Code} (hf : P.funcs[f]? = some fn) (hb : fn.body = some c) {sz : Nat} (hs : fn.ntmps = sz) {args : List SV}
    (hB : hasBody P f = true) (hsz : Nat.ble args.length sz = true) {obs : Obs} {nx : Nat} {K : SV → Obs → Nat → Prop} (h : vc P T sz nx c (argEnv 0 args) obs nx (fnK T fn.results.toList K)) : NCall P f args obs nx K :=
  ⟨hB, fun B ρ w xs hC ha => (fn_sound hT hm hf hb hs hsz h hC (xs := xs.toArray) (by simpa using ha)).mono fun e w' ⟨ρ', v, obs', nx', x, hR, he, hv, hC', hb, hx, ho⟩ => ⟨v, obs', nx', ρ', x, hR, hx, he, hv, hC', hb, ho⟩⟩
def FinL1 : List At → List Value → Prop
  | [], [] => True
  | a :: l, x :: r => (match a with
    | .val v => v = x
    | .tf b => Value.bool b = x
    | .prop p => ∃ b, x = .bool b ∧ (p ↔ b = true)
    | _ => False) ∧ FinL1 l r
  | _, _ => False
def Fin1 : SV → Value → Prop
  | .one (.val v), x => v = x
  | .one (.tf b), x => Value.bool b = x
  | .one (.prop p), x => ∃ b, x = .bool b ∧ (p ↔ b = true)
  | .agg l, .agg cs => FinL1 l cs.toList
  | _, _ => False
def FinL : List SV → List Value → Prop
  | [], [] => True
  | a :: l, x :: r => Fin1 a x ∧ FinL l r
  | _, _ => False
def Fin : SV → Value → Prop
  | .tup l, .tuple cs => FinL l cs.toList
  | .tup _, _ => False
  | v, x => Fin1 v x
theorem FinL1.is_ {ρ : Rho} : ∀ {l : List At} {xs ys : List Value}, FinL1 l xs → Ats ρ l ys → ys = xs
  | [], [], _, _, h => h
  | [], _ :: _, _, h, _ => h.elim
  | _ :: _, [], _, h, _ => h.elim
  | a :: l, x :: r, _, ⟨h1, h2⟩, ⟨y, s, hy, ha, hr⟩ => by
    rw [hy, FinL1.is_ h2 hr]
    congr 1
    cases a with
    | val v => exact Eq.trans ha h1
    | tf b => exact Eq.trans ha h1
    | prop p =>
      obtain ⟨b, rfl, hb⟩ := h1
      obtain ⟨c, rfl, hc⟩ := ha
      congr 1
      rw [Bool.eq_iff_iff, hc, hb]
    | _ => exact h1.elim
theorem Fin1.is_ {ρ : Rho} {v : SV} {x y : Value} (h : Fin1 v x) (k : v.is1 ρ y) : y = x := by
  cases v with
  | one a =>
    cases a with
    | val v => exact Eq.trans k h
    | tf b => exact Eq.trans k h
    | prop p =>
      obtain ⟨b, rfl, hb⟩ := h
      obtain ⟨c, rfl, hc⟩ := k
      congr 1
      rw [Bool.eq_iff_iff, hc, hb]
    | _ => exact (show False from h).elim
  | agg l =>
    cases x <;> try exact (show False from h).elim
    obtain ⟨cs, hcs, rfl⟩ := k
    rw [FinL1.is_ h hcs]
  | tup l => exact k.elim
theorem FinL.is_ {ρ : Rho} : ∀ {l : List SV} {xs ys : List Value}, FinL l xs → Svs ρ l ys → ys = xs
  | [], [], _, _, h => h
  | [], _ :: _, _, h, _ => h.elim
  | _ :: _, [], _, h, _ => h.elim
  | a :: l, x :: r, _, ⟨h1, h2⟩, ⟨y, s, hy, ha, hr⟩ => by rw [hy, FinL.is_ h2 hr, Fin1.is_ h1 ha]
theorem Fin.is_ {ρ : Rho} {v : SV} {x y : Value} (h : Fin v x) (k : v.is ρ y) : y = x := by
  cases v with
  | one a => exact Fin1.is_ (v := .one a) h k
  | agg l => exact Fin1.is_ (v := .agg l) h k
  | tup l =>
    cases x <;> try exact (show False from h).elim
    obtain ⟨cs, hcs, rfl⟩ := k
    rw [FinL.is_ h hcs]
def ofV1 : Value → SV
  | .agg cs => .agg (vals cs.toList)
  | v => .one (.val v)
def ofV : Value → SV
  | .tuple vs => .tup (vs.toList.map ofV1)
  | .agg cs => .agg (vals cs.toList)
  | v => .one (.val v)
theorem ofV1_is (ρ : Rho) (x : Value) : (ofV1 x).is1 ρ x := by
  cases x with
  | agg cs => exact ⟨cs.toList, Ats.vals ρ _, rfl⟩
  | _ => exact rfl
theorem ofV1s_is (ρ : Rho) : ∀ (xs : List Value), Svs ρ (xs.map ofV1) xs
  | [] => rfl
  | x :: r => ⟨x, r, rfl, ofV1_is ρ x, ofV1s_is ρ r⟩
theorem ofV_is (ρ : Rho) (x : Value) : (ofV x).is ρ x := by
  cases x with
  | agg cs => exact ⟨cs.toList, Ats.vals ρ _, rfl⟩
  | tuple vs => exact ⟨vs.toList, ofV1s_is ρ _, rfl⟩
  | _ => exact rfl
def Ro (ρ : Rho) (w : World) (v : Value) : Ob → Prop
  | .arr s n get => ArrIs w v s n get
  | .cel l => ∃ cs, Ats ρ l cs ∧ CelIs w v cs
  | .tab g l => v = .pointer (some ⟨g, 0, none⟩) ∧ TabIs w g l
  | .dee s n vs xs => DeeIs w.heap.size w v s n vs xs
  | _ => False
def obsOf : Nat → List Ob → Obs
  | _, [] => []
  | i, o :: r => (i, o) :: obsOf (i + 1) r
theorem obsOf_get : ∀ {l : List Ob} {i t : Nat} {o : Ob}, fnd (obsOf i l) t = some o → i ≤ t ∧ l[t - i]? = some o
  | [], _, _, _, h => by cases h
  | u :: l, i, t, o, h => by
    rcases fnd_cons h with ⟨rfl, rfl⟩ | ⟨hn, h⟩
    · exact ⟨Nat.le_refl _, by simp⟩
    · obtain ⟨hle, hy⟩ := obsOf_get h
      refine ⟨by omega, ?_⟩
      rw [show t - i = (t - (i + 1)) + 1 by omega]
      simpa using hy
theorem Cls.start {w : World} {ρ : Rho} {os : List Ob} (h : ∀ (i : Nat) o, os[i]? = some o → ∃ v, ρ i = some v ∧ Ro ρ w v o) (hn : ∀ i, os.length ≤ i → ρ i = none) : Cls w.heap.size ρ (obsOf 0 os) os.length w := by
  refine ⟨Nat.le_refl _, fun i o ho => ?_, fun i j o o' b h1 h2 hne hm => ?_, hn, fun i j o o' b h1 h2 hs => ?_⟩
  rotate_left 2
  · obtain ⟨_, e⟩ := obsOf_get h1
    obtain ⟨v, hv, hr⟩ := h i o (by simpa using e)
    cases o <;> first | exact hr.elim | exact hs.elim
  · obtain ⟨_, e⟩ := obsOf_get ho
    obtain ⟨v, hv, hr⟩ := h i o (by simpa using e)
    cases o <;> first | exact ⟨v, hv, hr⟩ | exact ⟨by rw [hv, hr.1], hr.2⟩ | exact (let ⟨cs, hl, hc⟩ := hr; ⟨v, cs, hv, hl, hc⟩) | exact hr.elim
  · obtain ⟨_, e⟩ := obsOf_get h1
    obtain ⟨v, hv, hr⟩ := h i o (by simpa using e)
    cases o <;> first | exact hr.elim | cases hm
theorem Ro.cut {n : Nat} {ρ : Rho} {w : World} {v : Value} {o : Ob} (hb : obB n o = true) (h : Ro ρ w v o) : Ro (V.cut n ρ) w v o := by
  cases o <;> first | exact h | exact (let ⟨cs, hl, hc⟩ := h; ⟨cs, hl.cut hb, hc⟩)
structure Fn (P : Program) (f : FuncId) (os : List Ob) (args : List SV) (x : Value) : Prop where
  b : hasBody P f = true
  c : ∀ w ρ xs, (∀ (i : Nat) o, os[i]? = some o → ∃ v, ρ i = some v ∧ Ro ρ w v o) → Svs ρ args xs → Calls P f xs.toArray w fun e w' => e = .returned x ∧ Belw w.heap.size w w'
def argB (nx : Nat) (l : List SV) : Bool := l.all (svB nx)
theorem Svs.cut {nx : Nat} {ρ : Rho} : ∀ {l : List SV} {xs : List Value}, argB nx l = true → Svs ρ l xs → Svs (V.cut nx ρ) l xs
  | [], _, _, h => h
  | v :: l, _, hb, ⟨x, r, hx, hv, hr⟩ => by
    simp only [argB, List.all_cons, Bool.and_eq_true] at hb
    refine ⟨x, r, hx, ?_, Svs.cut (l := l) hb.2 hr⟩
    cases v with
    | one a => exact At.is_cut (a := a) hb.1 hv
    | agg c => obtain ⟨cs, hc, e⟩ := hv; exact ⟨cs, hc.cut hb.1, e⟩
    | tup l => exact hv.elim
theorem Fn.mk_ {P : Program} {T : TT} (hT : TTok P T) (hm : P.follows .mixedOrders = true) {f : FuncId} {fn : Func} {c : Code} (hf : P.funcs[f]? = some fn) (hb : fn.body = some c) {sz : Nat} (hs : fn.ntmps = sz) {os : List Ob} {args : List SV} {x : Value}
    (hB : hasBody P f = true) (hsz : Nat.ble args.length sz = true) (hab : (argB os.length args && os.all (obB os.length)) = true) (h : vc P T sz os.length c (argEnv 0 args) (obsOf 0 os) os.length (fnK T fn.results.toList fun v _ _ => Fin v x)) : Fn P f os args x :=
  ⟨hB, fun w ρ xs hr ha => by
    have hr' : ∀ (i : Nat) o, os[i]? = some o → ∃ v, V.cut os.length ρ i = some v ∧ Ro (V.cut os.length ρ) w v o := fun i o ho => by
      obtain ⟨v, e, q⟩ := hr i o ho
      exact ⟨v, by rw [cut_lt (List.getElem?_eq_some_iff.1 ho).1]; exact e, q.cut (List.all_eq_true.1 ((Bool.and_eq_true _ _).mp hab).2 o (List.mem_of_getElem? ho))⟩
    refine (fn_sound hT hm hf hb hs hsz h (Cls.start hr' (fun i hi => if_neg (by omega))) (xs := xs.toArray) (by simpa using ha.cut ((Bool.and_eq_true _ _).mp hab).1)).mono ?_
    rintro e w' ⟨ρ', v, obs', nx', y, hR, he, hv, _, hw, _, _⟩
    rw [hR.is_ hv] at he
    exact ⟨he, hw⟩⟩
theorem Fn.of_calls {P : Program} {f : FuncId} {args : List SV} {xs : List Value} {x : Value} (hb : hasBody P f = true) (ha : FinL args xs) (h : ∀ w, Calls P f xs.toArray w fun e w' => e = .returned x ∧ Belw w.heap.size w w') : Fn P f [] args x :=
  ⟨hb, fun w ρ ys _ hy => by rw [ha.is_ hy]; exact h w⟩
def sg (l : List Nat) (i : Nat) : Nat := l.getD i 0
def LitTo (get : Nat → List Value) : Nat → List (List At) → Prop
  | _, [] => True
  | k, r :: rs => FinL1 r (get k) ∧ LitTo get (k + 1) rs
theorem LitTo.get {get : Nat → List Value} : ∀ {rows : List (List At)} {i k : Nat} {r : List At}, LitTo get i rows → rows[k]? = some r → FinL1 r (get (i + k))
  | [], _, _, _, _, h => by simp at h
  | q :: rows, i, 0, r, hl, h => by
    have e : q = r := by simpa using h
    subst e; exact hl.1
  | q :: rows, i, k + 1, r, hl, h => by
    have := LitTo.get (k := k) hl.2 (by simpa using h)
    rw [show i + (k + 1) = i + 1 + k by omega]; exact this
def DeeLe (n : Nat) (vs : Nat → List Value) (xs : Nat → List (Option (Nat × Nat × (Nat → List Value)))) (vs' : Nat → List Value) (xs' : Nat → List (Option (Nat × Nat × (Nat → List Value)))) : Prop :=
  ∀ k, k < n → vs k = vs' k ∧ ∀ (j s m : Nat) (g' : Nat → List Value), (xs' k)[j]? = some (some (s, m, g')) → ∃ g, (xs k)[j]? = some (some (s, m, g)) ∧ ∀ q, q < m → g q = g' q
def xsR (s : Nat) : Option (Nat × (Nat → List Value)) → List (Option (Nat × Nat × (Nat → List Value)))
  | some (m, g) => [some (s, m, g)]
  | none => [none]
theorem ArrB.congr {B : Nat} {w : World} {v : Value} {s n : Nat} {get get' : Nat → List Value} (h : ArrB B w v s n get) (e : ∀ k, k < n → get k = get' k) : ArrB B w v s n get' := by
  obtain ⟨A, c, ev, h1, h2, hh⟩ := h
  exact ⟨A, c, ev, h1, h2, fun k hk => by rw [← e k hk]; exact hh k hk⟩
theorem ArrB.mono {B B' : Nat} {w : World} {v : Value} {s n : Nat} {get : Nat → List Value} (h : ArrB B w v s n get) (hB : B ≤ B') : ArrB B' w v s n get := by
  obtain ⟨A, c, ev, h1, h2, hh⟩ := h
  exact ⟨A, c, ev, h1, h2, fun k hk => let ⟨a, q1, q2, q3⟩ := hh k hk; ⟨a, q1, by omega, q3⟩⟩
theorem ArrB.head {B : Nat} {w : World} {A : Option Addr} {c s n b : Nat} {get : Nat → List Value} (h : ArrB B w (.slice A n c) s n get) (hb : b ≤ n) : ArrB B w (.slice A b c) s b get := by
  obtain ⟨A', c', ev, h1, h2, hh⟩ := h
  injection ev with e1 e2 e3
  subst e1 e3
  exact ⟨_, _, rfl, by omega, by omega, fun k hk => hh k (by omega)⟩
theorem DeeIs.to {B : Nat} {w : World} {v : Value} {s n : Nat} {vs vs' : Nat → List Value} {xs xs' : Nat → List (Option (Nat × Nat × (Nat → List Value)))} (h : DeeIs B w v s n vs xs) (hl : DeeLe n vs xs vs' xs') : DeeIs B w v s n vs' xs' :=
  ⟨h.1.congr fun k hk => (hl k hk).1, fun k j u s' m g hk h1 h2 => by
    obtain ⟨e1, e2⟩ := hl k hk
    obtain ⟨g0, q1, q2⟩ := e2 j s' m g h2
    exact (h.2 k j u s' m g0 hk (by rw [e1]; exact h1) q1).congr q2⟩
theorem DeeIs.mono {B B' : Nat} {w : World} {v : Value} {s n : Nat} {vs : Nat → List Value} {xs : Nat → List (Option (Nat × Nat × (Nat → List Value)))} (h : DeeIs B w v s n vs xs) (hB : B ≤ B') : DeeIs B' w v s n vs xs :=
  ⟨h.1.mono hB, fun k j u s' m g hk h1 h2 => (h.2 k j u s' m g hk h1 h2).mono hB⟩
theorem rws_dee {B : Nat} {ρ : Rho} {w : World} {i t e s N : Nat} {vs : Nat → Value} {xs : Nat → Option (Nat × (Nat → List Value))} (h : Sat B ρ w i (.rws t e s N vs xs)) : ∃ v, ρ i = some v ∧ DeeIs w.heap.size w v 1 N (fun k => [vs k]) (fun k => xsR s (xs k)) := by
  obtain ⟨⟨v, ev, hr⟩, hs, _⟩ := h
  refine ⟨v, ev, hr.arr, fun k j u s' m g hk h1 h2 => ?_⟩
  have h2 : (xsR s (xs k))[j]? = _ := h2
  cases hx : xs k with
  | none =>
    rw [hx] at h2
    cases j <;> simp [xsR] at h2
  | some x =>
    obtain ⟨m', g'⟩ := x
    rw [hx] at h2
    cases j with
    | zero =>
      simp [xsR] at h2 h1
      obtain ⟨rfl, rfl, rfl⟩ := h2
      subst h1
      exact (hs k _ _ hk hx).arr
    | succ j => simp [xsR] at h2
def ObH (b : Nat) : Ob → Ob → Prop
  | .rws _ _ s N vs xs, .dee s' n' vs' xs' => b ≤ N ∧ 1 = s' ∧ b = n' ∧ DeeLe b (fun k => [vs k]) (fun k => xsR s (xs k)) vs' xs'
  | _, _ => False
def ObTo (σ : Nat → Nat) : Ob → Ob → Prop
  | .dee s n vs xs, .dee s' n' vs' xs' => s = s' ∧ n = n' ∧ DeeLe n vs xs vs' xs'
  | .rws _ _ s N vs xs, .dee s' n' vs' xs' => 1 = s' ∧ N = n' ∧ DeeLe N (fun k => [vs k]) (fun k => xsR s (xs k)) vs' xs'
  | .row _ _ n _, .dee _ n' _ _ => n = 0 ∧ n' = 0
  | .rov _ _ s n get, .arr s' n' get' => s = s' ∧ n = n' ∧ ∀ k, k < n → get k = get' k
  | .arr s n get, .arr s' n' get' => s = s' ∧ n = n' ∧ ∀ k, k < n → get k = get' k
  | .row _ s n get, .arr s' n' get' => s = s' ∧ n = n' ∧ ∀ k, k < n → get k = get' k
  | .lit _ s rows, .arr s' n' get' => s = s' ∧ rows.length = n' ∧ LitTo get' 0 rows
  | .cel l, .cel l' => SameAs σ l' l
  | .box _ l, .cel l' => SameAs σ l' l
  | .tab g l, .tab g' l' => g = g' ∧ l = l'
  | _, _ => False
def ObT (σ : Nat → Nat) (obs : Obs) : Ob → Ob → Prop
  | .vh r b, o => fndK obs r fun u => ObH b u o
  | u, o => ObTo σ u o
def ObsTo (σ : Nat → Nat) (obs : Obs) : Nat → List Ob → Prop
  | _, [] => True
  | i, o :: r => fndK obs (σ i) (fun u => ObT σ obs u o) ∧ ObsTo σ obs (i + 1) r
theorem SameS.is_ {σ : Nat → Nat} {ρ : Rho} : ∀ {l m : List SV} {x : List Value}, SameS σ l m → Svs ρ m x → Svs (fun i => ρ (σ i)) l x
  | [], [], _, _, h => h
  | [], _ :: _, _, h, _ => h.elim
  | .one a :: l, .one b :: m, _, ⟨h1, h2⟩, ⟨u, r, hx, hu, hr⟩ => ⟨u, r, hx, SameA.is_ (b := b) h1 hu, h2.is_ hr⟩
  | .agg c :: l, .agg d :: m, _, ⟨h1, h2⟩, ⟨u, r, hx, ⟨cs, hc, e⟩, hr⟩ => ⟨u, r, hx, ⟨cs, h1.is_ hc, e⟩, h2.is_ hr⟩
  | .one _ :: _, [], _, h, _ => h.elim
  | .one _ :: _, .agg _ :: _, _, h, _ => h.elim
  | .one _ :: _, .tup _ :: _, _, h, _ => h.elim
  | .agg _ :: _, [], _, h, _ => h.elim
  | .agg _ :: _, .one _ :: _, _, h, _ => h.elim
  | .agg _ :: _, .tup _ :: _, _, h, _ => h.elim
  | .tup _ :: _, _, _, h, _ => (by simp [SameS] at h)
theorem ObTo.ro {σ : Nat → Nat} {B : Nat} {ρ : Rho} {w : World} {i : Nat} {u o : Ob} (h : ObTo σ u o) (hs : Sat B ρ w i u) (hB : B ≤ w.heap.size) : ∃ v, ρ i = some v ∧ Ro (fun i => ρ (σ i)) w v o := by
  cases u with
  | arr s n get =>
    cases o with
    | arr s' n' get' =>
      obtain ⟨rfl, rfl, hg⟩ := h
      obtain ⟨v, e, A, c, ev, hn, hc, hh⟩ := hs
      refine ⟨v, e, A, c, ev, hn, hc, fun k hk => ?_⟩
      rw [← hg k hk]; exact hh k hk
    | _ => exact (show False from h).elim
  | row t s n get =>
    cases o with
    | arr s' n' get' =>
      obtain ⟨rfl, rfl, hg⟩ := h
      obtain ⟨v, e, hr⟩ := hs
      exact ⟨v, e, (hr.congr fun k hk => (hg k hk).symm).arr⟩
    | dee s' n' vs' xs' =>
      obtain ⟨rfl, rfl⟩ := h
      obtain ⟨v, e, A, c, rfl, hn, _, hc⟩ := hs
      exact ⟨_, e, ⟨A, c, rfl, hn, by omega, fun k hk => absurd hk (Nat.not_lt_zero _)⟩, fun k _ _ _ _ _ hk => absurd hk (Nat.not_lt_zero _)⟩
    | _ => exact (show False from h).elim
  | lit t s rows =>
    cases o with
    | arr s' n' get' =>
      obtain ⟨rfl, rfl, hg⟩ := h
      obtain ⟨b, cs, e, hB, hrs, hn, hl, hh⟩ := hs
      refine ⟨_, e, _, _, rfl, hn, Nat.le_refl _, fun k hk => ?_⟩
      have hr : rows[k]? = some (rows[k]'hk) := List.getElem?_eq_getElem hk
      have e1 := FinL1.is_ (hg.get hr) (lit_at hrs hl hr)
      rw [Nat.zero_add] at e1
      have hlen : (get' k).length = s := by
        rw [← e1]
        have := (lit_at hrs hl hr).length
        rw [this]; exact hrs _ (List.getElem_mem _)
      refine ⟨_, rfl, (Array.getElem?_eq_some_iff.1 hh).1, hlen, fun j u hu => ?_⟩
      rw [show (⟨b, 0, none⟩ : Addr).add (k * s + j) = ⟨b, k * s + j, none⟩ by unfold Addr.add; split <;> simp_all, cell_of_row w b _ cs.toArray t (0, 0) hh]
      rw [← e1, List.getElem?_take] at hu
      split at hu
      · rw [List.getElem?_drop] at hu
        simpa using hu
      · cases hu
    | _ => exact (show False from h).elim
  | cel l =>
    cases o with
    | cel l' =>
      obtain ⟨v, cs, e, hl, q⟩ := hs
      exact ⟨v, e, cs, SameAs.is_ h hl, q⟩
    | _ => exact (show False from h).elim
  | box t l =>
    cases o with
    | cel l' =>
      obtain ⟨b, cs, e, hB, hl, hh⟩ := hs
      refine ⟨_, e, cs, SameAs.is_ h hl, ⟨b, 0, none⟩, rfl, (Array.getElem?_eq_some_iff.1 hh).1, fun j u hu => ?_⟩
      rw [show (⟨b, 0, none⟩ : Addr).add j = ⟨b, j, none⟩ by unfold Addr.add; split <;> simp_all, cell_of_row w b j cs.toArray t (0, 0) hh]
      simpa using hu
    | _ => exact (show False from h).elim
  | rov v t s n get =>
    cases o with
    | arr s' n' get' =>
      obtain ⟨rfl, rfl, hg⟩ := h
      exact ⟨v, hs.1, (hs.2.congr fun k hk => (hg k hk).symm).arr⟩
    | _ => exact (show False from h).elim
  | rws t e s N vs xs =>
    cases o with
    | dee s' n' vs' xs' =>
      obtain ⟨rfl, rfl, hl⟩ := h
      obtain ⟨v, ev, hd⟩ := rws_dee hs
      exact ⟨v, ev, hd.to hl⟩
    | _ => exact (show False from h).elim
  | dee s n vs xs =>
    cases o with
    | dee s' n' vs' xs' =>
      obtain ⟨rfl, rfl, hl⟩ := h
      obtain ⟨v, ev, hd⟩ := hs
      exact ⟨v, ev, (hd.mono hB).to hl⟩
    | _ => exact (show False from h).elim
  | eqv j v => cases o <;> exact (show False from h).elim
  | vh r b => cases o <;> exact (show False from h).elim
  | vw r a s => cases o <;> exact (show False from h).elim
  | gone => cases o <;> exact (show False from h).elim
  | lp _ _ _ => cases o <;> exact (show False from h).elim
  | tab g l =>
    cases o with
    | tab g' l' =>
      obtain ⟨rfl, rfl⟩ := h
      exact ⟨_, hs.1, rfl, hs.2⟩
    | _ => exact (show False from h).elim
theorem ObT.ro {σ : Nat → Nat} {B nx : Nat} {ρ : Rho} {w : World} {obs : Obs} (hC : Cls B ρ obs nx w) {i : Nat} {u o : Ob} (hu : fnd obs i = some u) (h : ObT σ obs u o) : ∃ v, ρ i = some v ∧ Ro (fun i => ρ (σ i)) w v o := by
  cases u with
  | vh r b =>
    obtain ⟨A, n, c, e1, hb, e2⟩ := hC.sat i _ hu
    obtain ⟨ur, hur, h⟩ := fndK_spec h
    cases ur with
    | rws t e s N vs xs =>
      cases o with
      | dee s' n' vs' xs' =>
        obtain ⟨h1, rfl, rfl, h2⟩ := h
        obtain ⟨v, ev, hd⟩ := rws_dee (hC.sat r _ hur)
        rw [e1] at ev; injection ev with ev; subst ev
        have en : n = N := by obtain ⟨A', c', q, _⟩ := hd.1; injection q
        subst en
        refine ⟨_, e2, DeeIs.to (vs := fun k => [vs k]) (xs := fun k => xsR s (xs k)) ⟨hd.1.head hb, fun k j u s' m g hk => hd.2 k j u s' m g (by omega)⟩ h2⟩
      | _ => exact h.elim
    | _ => cases o <;> exact (show False from h).elim
  | lp _ _ _ => cases o <;> exact (show False from h).elim
  | rov _ _ _ _ _ => exact ObTo.ro h (hC.sat i _ hu) hC.le
  | vw _ _ _ => cases o <;> exact (show False from h).elim
  | eqv _ _ => cases o <;> exact (show False from h).elim
  | gone => cases o <;> exact (show False from h).elim
  | _ => exact ObTo.ro h (hC.sat i _ hu) hC.le
theorem ObsTo.ro {B nx : Nat} {ρ : Rho} {w : World} {obs : Obs} {σ : Nat → Nat} (hC : Cls B ρ obs nx w) : ∀ {os : List Ob} {n : Nat}, ObsTo σ obs n os → ∀ (i : Nat) o, os[i]? = some o → ∃ v, ρ (σ (n + i)) = some v ∧ Ro (fun i => ρ (σ i)) w v o
  | [], _, _, _, _, h => by simp at h
  | q :: os, n, ⟨h1, h2⟩, i, o, ho => by
    cases i with
    | zero =>
      have e : q = o := by simpa using ho
      subst e
      obtain ⟨u, hu, hq⟩ := fndK_spec h1
      exact ObT.ro hC hu hq
    | succ i =>
      have := ObsTo.ro hC h2 i o (by simpa using ho)
      rw [show n + (i + 1) = n + 1 + i by omega]
      exact this
theorem Fn.use {P : Program} {f : FuncId} {os : List Ob} {args args' : List SV} {x : Value} (h : Fn P f os args x) (σ : List Nat) {obs : Obs} {nx : Nat} {K : SV → Prop} (ha : SameS (sg σ) args args') (ho : ObsTo (sg σ) obs 0 os) (hK : K (ofV x)) : NCallQ P f args' obs nx K :=
  ⟨h.b, ofV x, hK, fun B ρ w xs hC hs => (h.c w (fun i => ρ (sg σ i)) xs (fun i o hi => by have := ObsTo.ro hC ho i o hi; simpa using this) (ha.is_ hs)).mono fun e w' ⟨he, hw⟩ => ⟨x, he, ofV_is ρ x, hw⟩⟩
theorem NCallA.to {P : Program} {f : FuncId} {args : List SV} {obs : Obs} {nx : Nat} {K : SV → Obs → Nat → Prop} (h : NCallA P f args obs nx K) : NCall P f args obs nx K :=
  ⟨h.b, fun B ρ w xs hC hs => (h.h B ρ w xs hC hs).mono fun e w' ⟨v, obs', nx', ρ', x, hK, hx, he, hv, hC', hb⟩ => ⟨v, obs', nx', ρ', x, hK, hx, he, hv, hC', hb.mono hC.le, oth_of hb⟩⟩
theorem NCallQ.toA {P : Program} {f : FuncId} {args : List SV} {obs : Obs} {nx : Nat} {K : SV → Obs → Nat → Prop} (h : NCallQ P f args obs nx fun v => K v obs nx) : NCallA P f args obs nx K :=
  ⟨h.b, let ⟨v, hK, hc⟩ := h.h; fun B ρ w xs hC hs => (hc B ρ w xs hC hs).mono fun e w' ⟨x, he, hv, hb⟩ => ⟨v, obs, nx, ρ, x, hK, fun _ _ q => q, he, hv, hC.below hb, hb⟩⟩
theorem NCallQ.to {P : Program} {f : FuncId} {args : List SV} {obs : Obs} {nx : Nat} {K : SV → Obs → Nat → Prop} (h : NCallQ P f args obs nx fun v => K v obs nx) : NCall P f args obs nx K :=
  ⟨h.b, let ⟨v, hK, hc⟩ := h.h; fun B ρ w xs hC hs => (hc B ρ w xs hC hs).mono fun e w' ⟨x, he, hv, hb⟩ => ⟨v, obs, nx, ρ, x, hK, fun _ _ q => q, he, hv, hC.below hb, hb.mono hC.le, oth_of hb⟩⟩
theorem Fn.go {P : Program} {f : FuncId} {os : List Ob} {args args' : List SV} {x : Value} (h : Fn P f os args x) (σ : List Nat) {obs : Obs} {nx : Nat} {K : SV → Obs → Nat → Prop} (ha : SameS (sg σ) args args') (ho : ObsTo (sg σ) obs 0 os) (hK : K (ofV x) obs nx) : NCall P f args' obs nx K :=
  NCallQ.to (h.use σ ha ho hK)
def plainS : List SV → Bool
  | [] => true
  | .tup _ :: _ => false
  | _ :: r => plainS r
theorem SameS.ren (σ : Nat → Nat) : ∀ l : List SV, plainS l = true → SameS σ l (l.map (renS σ))
  | [], _ => trivial
  | .one a :: l, h => ⟨SameA.ren σ a, SameS.ren σ l h⟩
  | .agg c :: l, h => ⟨SameAs.ren σ c, SameS.ren σ l h⟩
  | .tup _ :: _, h => by cases h
theorem Fn.k {P : Program} {f : FuncId} {os : List Ob} {args : List SV} {x : Value} (h : Fn P f os args x) (σ : List Nat) (hp : plainS args = true) {obs : Obs} {nx : Nat} {K : SV → Obs → Nat → Prop} (ho : ObsTo (sg σ) obs 0 os) (hK : K (ofV x) obs nx) : NCall P f (args.map (renS (sg σ))) obs nx K :=
  h.go σ (SameS.ren _ _ hp) ho hK
theorem Fn.q {P : Program} {f : FuncId} {os : List Ob} {args : List SV} {x : Value} (h : Fn P f os args x) (σ : List Nat) (hp : plainS args = true) {obs : Obs} {nx : Nat} {K : SV → Prop} (ho : ObsTo (sg σ) obs 0 os) (hK : K (ofV x)) : NCallQ P f (args.map (renS (sg σ))) obs nx K :=
  h.use σ (SameS.ren _ _ hp) ho hK
theorem SameA.self {a : At} (h : atB 0 a = true) : SameA (sg []) a a := by
  cases a with
  | val v => exact rfl
  | tf b => exact rfl
  | prop p => exact Iff.rfl
  | ptr i k j s => simp [atB, Nat.blt] at h
  | ref i => simp [atB, Nat.blt] at h
  | clo f l =>
    cases l with
    | nil => exact ⟨rfl, rfl⟩
    | cons i l => simp [atB, Nat.blt] at h
theorem SameAs.self : ∀ {l : List At}, l.all (atB 0) = true → SameAs (sg []) l l
  | [], _ => trivial
  | a :: l, h => by
    simp only [List.all_cons, Bool.and_eq_true] at h
    exact ⟨SameA.self h.1, SameAs.self h.2⟩
def plain0 : List SV → Bool
  | [] => true
  | .one a :: r => atB 0 a && plain0 r
  | .agg c :: r => c.all (atB 0) && plain0 r
  | .tup _ :: _ => false
theorem SameS.self : ∀ {l : List SV}, plain0 l = true → SameS (sg []) l l
  | [], _ => trivial
  | .one a :: l, h => by
    simp only [plain0, Bool.and_eq_true] at h
    exact ⟨SameA.self h.1, SameS.self h.2⟩
  | .agg c :: l, h => by
    simp only [plain0, Bool.and_eq_true] at h
    exact ⟨SameAs.self h.1, SameS.self h.2⟩
  | .tup _ :: _, h => by cases h
theorem Fn.a {P : Program} {f : FuncId} {os : List Ob} {args : List SV} {x : Value} (h : Fn P f os args x) (σ : List Nat) (hp : plainS args = true) {obs : Obs} {nx : Nat} {K : SV → Obs → Nat → Prop} (ho : ObsTo (sg σ) obs 0 os) (hK : K (ofV x) obs nx) : NCallA P f (args.map (renS (sg σ))) obs nx K :=
  NCallQ.toA (h.use σ (SameS.ren _ _ hp) ho hK)
theorem Fn.a0 {P : Program} {f : FuncId} {args : List SV} {x : Value} (h : Fn P f [] args x) (hp : plain0 args = true) {obs : Obs} {nx : Nat} {K : SV → Obs → Nat → Prop} (hK : K (ofV x) obs nx) : NCallA P f args obs nx K := NCallQ.toA (h.use [] (SameS.self hp) trivial hK)
theorem Fn.k0 {P : Program} {f : FuncId} {args : List SV} {x : Value} (h : Fn P f [] args x) (hp : plain0 args = true) {obs : Obs} {nx : Nat} {K : SV → Obs → Nat → Prop} (hK : K (ofV x) obs nx) : NCall P f args obs nx K := h.go [] (SameS.self hp) trivial hK
theorem Fn.q0 {P : Program} {f : FuncId} {args : List SV} {x : Value} (h : Fn P f [] args x) (hp : plain0 args = true) {obs : Obs} {nx : Nat} {K : SV → Prop} (hK : K (ofV x)) : NCallQ P f args obs nx K := h.use [] (SameS.self hp) trivial hK
theorem NWrap.ok {e : Int} {K : Int → Prop} (h1 : -9223372036854775808 ≤ e) (h2 : e ≤ 9223372036854775807) (hK : K e) : NWrap .i64 e K :=
  ⟨by rw [IntWalk.i64_in e ⟨h1, h2⟩]; exact hK⟩
theorem S_ {p : Prop} (h : p := by repeat' (first | exact rfl | exact Iff.rfl | exact trivial | exact (fun _ _ => rfl) | exact (fun _ h => absurd h (Nat.not_lt_zero _)) | refine ⟨?_, ?_⟩ | exact Iff.rfl | exact congrArg (fun z => V.SV.one (V.At.val (Value.int .i64 z))) (by omega))) : p := h
theorem D_ {p : Prop} (h : p := by (repeat' (first | exact rfl | exact Iff.rfl | exact trivial | exact (fun _ _ => rfl) | exact (fun _ h => absurd h (Nat.not_lt_zero _)) | refine ⟨?_, ?_⟩ | exact Iff.rfl | exact congrArg (fun z => V.SV.one (V.At.val (Value.int .i64 z))) (by omega))); all_goals fail) : p := h
theorem a7 {e : Int} {K : Int → Prop} (hK : K e) (h1 : -9223372036854775808 ≤ e := by omega) (h2 : e ≤ 9223372036854775807 := by omega) : NWrap .i64 e K := .ok h1 h2 hK
theorem a9 {k n : Nat} {K : Prop} (h : K) (lt : k < n := by omega) : NLt k n K := ⟨lt, h⟩
end Go.Proofs.YtlbffibpcjjpkaaDoor.V

namespace Go.Proofs.YtlbffibpcjjpkaaDoor.V
open Go
def T : TT := [
  (3, ⟨.int .i64, 1, 8, [.int .i64 0], false⟩),
  (4, ⟨.bool, 1, 1, [.bool false], false⟩),
  (22, ⟨.int .i64, 1, 8, [.int .i64 0], false⟩),
  (47, ⟨.sl 3, 1, 24, [.slice none 0 0], false⟩),
  (61, ⟨.sl 5, 1, 24, [.slice none 0 0], false⟩),
  (1, ⟨.fn, 1, 8, [.nilFunc], false⟩),
  (2, ⟨.int .i64, 1, 8, [.int .i64 0], false⟩),
  (5, ⟨.int .u8, 1, 1, [.int .u8 0], false⟩),
  (9, ⟨.str, 1, 16, [.string ⟨#[]⟩], false⟩),
  (12, ⟨.int .u64, 1, 8, [.int .u64 0], false⟩),
  (20, ⟨.cl, 1, 16, [.nilIface], false⟩),
  (21, ⟨.int .i32, 1, 4, [.int .i32 0], false⟩),
  (24, ⟨.fn, 1, 8, [.nilFunc], false⟩),
  (26, ⟨.fn, 1, 8, [.nilFunc], false⟩),
  (28, ⟨.fn, 1, 8, [.nilFunc], false⟩),
  (29, ⟨.fn, 1, 8, [.nilFunc], false⟩),
  (30, ⟨.fn, 1, 8, [.nilFunc], false⟩),
  (31, ⟨.fn, 1, 8, [.nilFunc], false⟩),
  (32, ⟨.fn, 1, 8, [.nilFunc], false⟩),
  (33, ⟨.fn, 1, 8, [.nilFunc], false⟩),
  (34, ⟨.fn, 1, 8, [.nilFunc], false⟩),
  (35, ⟨.fn, 1, 8, [.nilFunc], false⟩),
  (36, ⟨.fn, 1, 8, [.nilFunc], false⟩),
  (37, ⟨.fn, 1, 8, [.nilFunc], false⟩),
  (39, ⟨.fn, 1, 8, [.nilFunc], false⟩),
  (40, ⟨.fn, 1, 8, [.nilFunc], false⟩),
  (41, ⟨.fn, 1, 8, [.nilFunc], false⟩),
  (42, ⟨.cl, 1, 16, [.nilIface], false⟩),
  (43, ⟨.cl, 1, 16, [.nilIface], false⟩),
  (45, ⟨.fn, 1, 8, [.nilFunc], false⟩),
  (46, ⟨.fn, 1, 8, [.nilFunc], false⟩),
  (49, ⟨.fn, 1, 8, [.nilFunc], false⟩),
  (50, ⟨.fn, 1, 8, [.nilFunc], false⟩),
  (51, ⟨.fn, 1, 8, [.nilFunc], false⟩),
  (52, ⟨.arr 256 4, 256, 256, [.bool false, .bool false, .bool false, .bool false, .bool false, .bool false, .bool false, .bool false, .bool false, .bool false, .bool false, .bool false, .bool false, .bool false, .bool false, .bool false, .bool false, .bool false, .bool false, .bool false, .bool false, .bool false, .bool false, .bool false, .bool false, .bool false, .bool false, .bool false, .bool false, .bool false, .bool false, .bool false, .bool false, .bool false, .bool false, .bool false, .bool false, .bool false, .bool false, .bool false, .bool false, .bool false, .bool false, .bool false, .bool false, .bool false, .bool false, .bool false, .bool false, .bool false, .bool false, .bool false, .bool false, .bool false, .bool false, .bool false, .bool false, .bool false, .bool false, .bool false, .bool false, .bool false, .bool false, .bool false, .bool false, .bool false, .bool false, .bool false, .bool false, .bool false, .bool false, .bool false, .bool false, .bool false, .bool false, .bool false, .bool false, .bool false, .bool false, .bool false, .bool false, .bool false, .bool false, .bool false, .bool false, .bool false, .bool false, .bool false, .bool false, .bool false, .bool false, .bool false, .bool false, .bool false, .bool false, .bool false, .bool false, .bool false, .bool false, .bool false, .bool false, .bool false, .bool false, .bool false, .bool false, .bool false, .bool false, .bool false, .bool false, .bool false, .bool false, .bool false, .bool false, .bool false, .bool false, .bool false, .bool false, .bool false, .bool false, .bool false, .bool false, .bool false, .bool false, .bool false, .bool false, .bool false, .bool false, .bool false, .bool false, .bool false, .bool false, .bool false, .bool false, .bool false, .bool false, .bool false, .bool false, .bool false, .bool false, .bool false, .bool false, .bool false, .bool false, .bool false, .bool false, .bool false, .bool false, .bool false, .bool false, .bool false, .bool false, .bool false, .bool false, .bool false, .bool false, .bool false, .bool false, .bool false, .bool false, .bool false, .bool false, .bool false, .bool false, .bool false, .bool false, .bool false, .bool false, .bool false, .bool false, .bool false, .bool false, .bool false, .bool false, .bool false, .bool false, .bool false, .bool false, .bool false, .bool false, .bool false, .bool false, .bool false, .bool false, .bool false, .bool false, .bool false, .bool false, .bool false, .bool false, .bool false, .bool false, .bool false, .bool false, .bool false, .bool false, .bool false, .bool false, .bool false, .bool false, .bool false, .bool false, .bool false, .bool false, .bool false, .bool false, .bool false, .bool false, .bool false, .bool false, .bool false, .bool false, .bool false, .bool false, .bool false, .bool false, .bool false, .bool false, .bool false, .bool false, .bool false, .bool false, .bool false, .bool false, .bool false, .bool false, .bool false, .bool false, .bool false, .bool false, .bool false, .bool false, .bool false, .bool false, .bool false, .bool false, .bool false, .bool false, .bool false, .bool false, .bool false, .bool false, .bool false, .bool false, .bool false, .bool false, .bool false, .bool false, .bool false, .bool false, .bool false, .bool false, .bool false, .bool false, .bool false, .bool false, .bool false], false⟩),
  (53, ⟨.arr 256 4, 256, 256, [.bool false, .bool false, .bool false, .bool false, .bool false, .bool false, .bool false, .bool false, .bool false, .bool false, .bool false, .bool false, .bool false, .bool false, .bool false, .bool false, .bool false, .bool false, .bool false, .bool false, .bool false, .bool false, .bool false, .bool false, .bool false, .bool false, .bool false, .bool false, .bool false, .bool false, .bool false, .bool false, .bool false, .bool false, .bool false, .bool false, .bool false, .bool false, .bool false, .bool false, .bool false, .bool false, .bool false, .bool false, .bool false, .bool false, .bool false, .bool false, .bool false, .bool false, .bool false, .bool false, .bool false, .bool false, .bool false, .bool false, .bool false, .bool false, .bool false, .bool false, .bool false, .bool false, .bool false, .bool false, .bool false, .bool false, .bool false, .bool false, .bool false, .bool false, .bool false, .bool false, .bool false, .bool false, .bool false, .bool false, .bool false, .bool false, .bool false, .bool false, .bool false, .bool false, .bool false, .bool false, .bool false, .bool false, .bool false, .bool false, .bool false, .bool false, .bool false, .bool false, .bool false, .bool false, .bool false, .bool false, .bool false, .bool false, .bool false, .bool false, .bool false, .bool false, .bool false, .bool false, .bool false, .bool false, .bool false, .bool false, .bool false, .bool false, .bool false, .bool false, .bool false, .bool false, .bool false, .bool false, .bool false, .bool false, .bool false, .bool false, .bool false, .bool false, .bool false, .bool false, .bool false, .bool false, .bool false, .bool false, .bool false, .bool false, .bool false, .bool false, .bool false, .bool false, .bool false, .bool false, .bool false, .bool false, .bool false, .bool false, .bool false, .bool false, .bool false, .bool false, .bool false, .bool false, .bool false, .bool false, .bool false, .bool false, .bool false, .bool false, .bool false, .bool false, .bool false, .bool false, .bool false, .bool false, .bool false, .bool false, .bool false, .bool false, .bool false, .bool false, .bool false, .bool false, .bool false, .bool false, .bool false, .bool false, .bool false, .bool false, .bool false, .bool false, .bool false, .bool false, .bool false, .bool false, .bool false, .bool false, .bool false, .bool false, .bool false, .bool false, .bool false, .bool false, .bool false, .bool false, .bool false, .bool false, .bool false, .bool false, .bool false, .bool false, .bool false, .bool false, .bool false, .bool false, .bool false, .bool false, .bool false, .bool false, .bool false, .bool false, .bool false, .bool false, .bool false, .bool false, .bool false, .bool false, .bool false, .bool false, .bool false, .bool false, .bool false, .bool false, .bool false, .bool false, .bool false, .bool false, .bool false, .bool false, .bool false, .bool false, .bool false, .bool false, .bool false, .bool false, .bool false, .bool false, .bool false, .bool false, .bool false, .bool false, .bool false, .bool false, .bool false, .bool false, .bool false, .bool false, .bool false, .bool false, .bool false, .bool false, .bool false, .bool false, .bool false, .bool false, .bool false, .bool false, .bool false, .bool false, .bool false, .bool false, .bool false, .bool false], false⟩),
  (55, ⟨.fn, 1, 8, [.nilFunc], false⟩),
  (56, ⟨.fn, 1, 8, [.nilFunc], false⟩),
  (57, ⟨.ptr 53, 1, 8, [.pointer none], false⟩),
  (58, ⟨.fn, 1, 8, [.nilFunc], false⟩),
  (60, ⟨.fn, 1, 8, [.nilFunc], false⟩),
  (62, ⟨.fn, 1, 8, [.nilFunc], false⟩),
  (65, ⟨.fn, 1, 8, [.nilFunc], false⟩),
  (66, ⟨.ptr 84, 1, 8, [.pointer none], false⟩),
  (67, ⟨.fn, 1, 8, [.nilFunc], false⟩),
  (68, ⟨.fn, 1, 8, [.nilFunc], false⟩),
  (69, ⟨.fn, 1, 8, [.nilFunc], false⟩),
  (71, ⟨.fn, 1, 8, [.nilFunc], false⟩),
  (72, ⟨.fn, 1, 8, [.nilFunc], false⟩),
  (73, ⟨.fn, 1, 8, [.nilFunc], false⟩),
  (74, ⟨.int .u64, 1, 8, [.int .u64 0], false⟩),
  (76, ⟨.fn, 1, 8, [.nilFunc], false⟩),
  (77, ⟨.fn, 1, 8, [.nilFunc], false⟩),
  (78, ⟨.fn, 1, 8, [.nilFunc], false⟩),
  (79, ⟨.int .u64, 1, 8, [.int .u64 0], false⟩),
  (81, ⟨.fn, 1, 8, [.nilFunc], false⟩),
  (82, ⟨.fn, 1, 8, [.nilFunc], false⟩),
  (83, ⟨.st [(0, 1, 1), (1, 1, 1), (2, 1, 1)], 3, 48, [.string ⟨#[]⟩, .string ⟨#[]⟩, .nilIface], false⟩),
  (84, ⟨.st [(0, 1, 1), (1, 1, 1), (2, 1, 1)], 3, 48, [.string ⟨#[]⟩, .string ⟨#[]⟩, .nilIface], false⟩),
  (85, ⟨.fn, 1, 8, [.nilFunc], false⟩),
  (86, ⟨.fn, 1, 8, [.nilFunc], false⟩),
  (87, ⟨.arr 24 5, 24, 24, [.int .u8 0, .int .u8 0, .int .u8 0, .int .u8 0, .int .u8 0, .int .u8 0, .int .u8 0, .int .u8 0, .int .u8 0, .int .u8 0, .int .u8 0, .int .u8 0, .int .u8 0, .int .u8 0, .int .u8 0, .int .u8 0, .int .u8 0, .int .u8 0, .int .u8 0, .int .u8 0, .int .u8 0, .int .u8 0, .int .u8 0, .int .u8 0], false⟩),
  (88, ⟨.fn, 1, 8, [.nilFunc], false⟩),
  (89, ⟨.fn, 1, 8, [.nilFunc], false⟩),
  (91, ⟨.fn, 1, 8, [.nilFunc], false⟩),
  (93, ⟨.fn, 1, 8, [.nilFunc], false⟩),
  (94, ⟨.fn, 1, 8, [.nilFunc], false⟩),
  (95, ⟨.int .u32, 1, 4, [.int .u32 0], false⟩),
  (97, ⟨.fn, 1, 8, [.nilFunc], false⟩),
  (98, ⟨.fn, 1, 8, [.nilFunc], false⟩),
  (99, ⟨.fn, 1, 8, [.nilFunc], false⟩),
  (100, ⟨.ptr 5, 1, 8, [.pointer none], false⟩),
  (101, ⟨.ptr 103, 1, 8, [.pointer none], false⟩),
  (102, ⟨.st [(0, 1, 1)], 1, 16, [.string ⟨#[]⟩], false⟩),
  (103, ⟨.st [(0, 1, 1)], 1, 16, [.string ⟨#[]⟩], false⟩),
  (104, ⟨.fn, 1, 8, [.nilFunc], false⟩),
  (105, ⟨.fn, 1, 8, [.nilFunc], false⟩),
  (106, ⟨.arr 20 74, 20, 160, [.int .u64 0, .int .u64 0, .int .u64 0, .int .u64 0, .int .u64 0, .int .u64 0, .int .u64 0, .int .u64 0, .int .u64 0, .int .u64 0, .int .u64 0, .int .u64 0, .int .u64 0, .int .u64 0, .int .u64 0, .int .u64 0, .int .u64 0, .int .u64 0, .int .u64 0, .int .u64 0], false⟩),
  (107, ⟨.arr 65 5, 65, 65, [.int .u8 0, .int .u8 0, .int .u8 0, .int .u8 0, .int .u8 0, .int .u8 0, .int .u8 0, .int .u8 0, .int .u8 0, .int .u8 0, .int .u8 0, .int .u8 0, .int .u8 0, .int .u8 0, .int .u8 0, .int .u8 0, .int .u8 0, .int .u8 0, .int .u8 0, .int .u8 0, .int .u8 0, .int .u8 0, .int .u8 0, .int .u8 0, .int .u8 0, .int .u8 0, .int .u8 0, .int .u8 0, .int .u8 0, .int .u8 0, .int .u8 0, .int .u8 0, .int .u8 0, .int .u8 0, .int .u8 0, .int .u8 0, .int .u8 0, .int .u8 0, .int .u8 0, .int .u8 0, .int .u8 0, .int .u8 0, .int .u8 0, .int .u8 0, .int .u8 0, .int .u8 0, .int .u8 0, .int .u8 0, .int .u8 0, .int .u8 0, .int .u8 0, .int .u8 0, .int .u8 0, .int .u8 0, .int .u8 0, .int .u8 0, .int .u8 0, .int .u8 0, .int .u8 0, .int .u8 0, .int .u8 0, .int .u8 0, .int .u8 0, .int .u8 0, .int .u8 0], false⟩),
  (108, ⟨.fn, 1, 8, [.nilFunc], false⟩),
  (109, ⟨.fn, 1, 8, [.nilFunc], false⟩),
  (110, ⟨.arr 256 5, 256, 256, [.int .u8 0, .int .u8 0, .int .u8 0, .int .u8 0, .int .u8 0, .int .u8 0, .int .u8 0, .int .u8 0, .int .u8 0, .int .u8 0, .int .u8 0, .int .u8 0, .int .u8 0, .int .u8 0, .int .u8 0, .int .u8 0, .int .u8 0, .int .u8 0, .int .u8 0, .int .u8 0, .int .u8 0, .int .u8 0, .int .u8 0, .int .u8 0, .int .u8 0, .int .u8 0, .int .u8 0, .int .u8 0, .int .u8 0, .int .u8 0, .int .u8 0, .int .u8 0, .int .u8 0, .int .u8 0, .int .u8 0, .int .u8 0, .int .u8 0, .int .u8 0, .int .u8 0, .int .u8 0, .int .u8 0, .int .u8 0, .int .u8 0, .int .u8 0, .int .u8 0, .int .u8 0, .int .u8 0, .int .u8 0, .int .u8 0, .int .u8 0, .int .u8 0, .int .u8 0, .int .u8 0, .int .u8 0, .int .u8 0, .int .u8 0, .int .u8 0, .int .u8 0, .int .u8 0, .int .u8 0, .int .u8 0, .int .u8 0, .int .u8 0, .int .u8 0, .int .u8 0, .int .u8 0, .int .u8 0, .int .u8 0, .int .u8 0, .int .u8 0, .int .u8 0, .int .u8 0, .int .u8 0, .int .u8 0, .int .u8 0, .int .u8 0, .int .u8 0, .int .u8 0, .int .u8 0, .int .u8 0, .int .u8 0, .int .u8 0, .int .u8 0, .int .u8 0, .int .u8 0, .int .u8 0, .int .u8 0, .int .u8 0, .int .u8 0, .int .u8 0, .int .u8 0, .int .u8 0, .int .u8 0, .int .u8 0, .int .u8 0, .int .u8 0, .int .u8 0, .int .u8 0, .int .u8 0, .int .u8 0, .int .u8 0, .int .u8 0, .int .u8 0, .int .u8 0, .int .u8 0, .int .u8 0, .int .u8 0, .int .u8 0, .int .u8 0, .int .u8 0, .int .u8 0, .int .u8 0, .int .u8 0, .int .u8 0, .int .u8 0, .int .u8 0, .int .u8 0, .int .u8 0, .int .u8 0, .int .u8 0, .int .u8 0, .int .u8 0, .int .u8 0, .int .u8 0, .int .u8 0, .int .u8 0, .int .u8 0, .int .u8 0, .int .u8 0, .int .u8 0, .int .u8 0, .int .u8 0, .int .u8 0, .int .u8 0, .int .u8 0, .int .u8 0, .int .u8 0, .int .u8 0, .int .u8 0, .int .u8 0, .int .u8 0, .int .u8 0, .int .u8 0, .int .u8 0, .int .u8 0, .int .u8 0, .int .u8 0, .int .u8 0, .int .u8 0, .int .u8 0, .int .u8 0, .int .u8 0, .int .u8 0, .int .u8 0, .int .u8 0, .int .u8 0, .int .u8 0, .int .u8 0, .int .u8 0, .int .u8 0, .int .u8 0, .int .u8 0, .int .u8 0, .int .u8 0, .int .u8 0, .int .u8 0, .int .u8 0, .int .u8 0, .int .u8 0, .int .u8 0, .int .u8 0, .int .u8 0, .int .u8 0, .int .u8 0, .int .u8 0, .int .u8 0, .int .u8 0, .int .u8 0, .int .u8 0, .int .u8 0, .int .u8 0, .int .u8 0, .int .u8 0, .int .u8 0, .int .u8 0, .int .u8 0, .int .u8 0, .int .u8 0, .int .u8 0, .int .u8 0, .int .u8 0, .int .u8 0, .int .u8 0, .int .u8 0, .int .u8 0, .int .u8 0, .int .u8 0, .int .u8 0, .int .u8 0, .int .u8 0, .int .u8 0, .int .u8 0, .int .u8 0, .int .u8 0, .int .u8 0, .int .u8 0, .int .u8 0, .int .u8 0, .int .u8 0, .int .u8 0, .int .u8 0, .int .u8 0, .int .u8 0, .int .u8 0, .int .u8 0, .int .u8 0, .int .u8 0, .int .u8 0, .int .u8 0, .int .u8 0, .int .u8 0, .int .u8 0, .int .u8 0, .int .u8 0, .int .u8 0, .int .u8 0, .int .u8 0, .int .u8 0, .int .u8 0, .int .u8 0, .int .u8 0, .int .u8 0, .int .u8 0, .int .u8 0, .int .u8 0, .int .u8 0, .int .u8 0, .int .u8 0, .int .u8 0, .int .u8 0, .int .u8 0, .int .u8 0, .int .u8 0, .int .u8 0, .int .u8 0, .int .u8 0, .int .u8 0, .int .u8 0, .int .u8 0, .int .u8 0, .int .u8 0, .int .u8 0, .int .u8 0, .int .u8 0, .int .u8 0, .int .u8 0], false⟩),
  (111, ⟨.st [(0, 1, 1), (1, 1, 1)], 2, 2, [.int .u8 0, .int .u8 0], true⟩),
  (112, ⟨.st [(0, 1, 1), (1, 1, 1)], 2, 2, [.int .u8 0, .int .u8 0], true⟩),
  (113, ⟨.arr 16 112, 32, 32, [.int .u8 0, .int .u8 0, .int .u8 0, .int .u8 0, .int .u8 0, .int .u8 0, .int .u8 0, .int .u8 0, .int .u8 0, .int .u8 0, .int .u8 0, .int .u8 0, .int .u8 0, .int .u8 0, .int .u8 0, .int .u8 0, .int .u8 0, .int .u8 0, .int .u8 0, .int .u8 0, .int .u8 0, .int .u8 0, .int .u8 0, .int .u8 0, .int .u8 0, .int .u8 0, .int .u8 0, .int .u8 0, .int .u8 0, .int .u8 0, .int .u8 0, .int .u8 0], false⟩),
  (114, ⟨.fn, 1, 8, [.nilFunc], false⟩),
  (115, ⟨.arr 32 5, 32, 32, [.int .u8 0, .int .u8 0, .int .u8 0, .int .u8 0, .int .u8 0, .int .u8 0, .int .u8 0, .int .u8 0, .int .u8 0, .int .u8 0, .int .u8 0, .int .u8 0, .int .u8 0, .int .u8 0, .int .u8 0, .int .u8 0, .int .u8 0, .int .u8 0, .int .u8 0, .int .u8 0, .int .u8 0, .int .u8 0, .int .u8 0, .int .u8 0, .int .u8 0, .int .u8 0, .int .u8 0, .int .u8 0, .int .u8 0, .int .u8 0, .int .u8 0, .int .u8 0], false⟩),
  (116, ⟨.arr 64 5, 64, 64, [.int .u8 0, .int .u8 0, .int .u8 0, .int .u8 0, .int .u8 0, .int .u8 0, .int .u8 0, .int .u8 0, .int .u8 0, .int .u8 0, .int .u8 0, .int .u8 0, .int .u8 0, .int .u8 0, .int .u8 0, .int .u8 0, .int .u8 0, .int .u8 0, .int .u8 0, .int .u8 0, .int .u8 0, .int .u8 0, .int .u8 0, .int .u8 0, .int .u8 0, .int .u8 0, .int .u8 0, .int .u8 0, .int .u8 0, .int .u8 0, .int .u8 0, .int .u8 0, .int .u8 0, .int .u8 0, .int .u8 0, .int .u8 0, .int .u8 0, .int .u8 0, .int .u8 0, .int .u8 0, .int .u8 0, .int .u8 0, .int .u8 0, .int .u8 0, .int .u8 0, .int .u8 0, .int .u8 0, .int .u8 0, .int .u8 0, .int .u8 0, .int .u8 0, .int .u8 0, .int .u8 0, .int .u8 0, .int .u8 0, .int .u8 0, .int .u8 0, .int .u8 0, .int .u8 0, .int .u8 0, .int .u8 0, .int .u8 0, .int .u8 0, .int .u8 0], false⟩),
  (117, ⟨.fn, 1, 8, [.nilFunc], false⟩),
  (123, ⟨.fn, 1, 8, [.nilFunc], false⟩),
  (126, ⟨.fn, 1, 8, [.nilFunc], false⟩)]
theorem Tok : TTok Tryd.prog T :=
  ⟨by kernel_rfl, by kernel_rfl, by kernel_rfl, by kernel_rfl, by kernel_rfl, by kernel_rfl, by kernel_rfl, by kernel_rfl, by kernel_rfl, by kernel_rfl, by kernel_rfl, by kernel_rfl, by kernel_rfl, by kernel_rfl, by kernel_rfl, by kernel_rfl, by kernel_rfl, by kernel_rfl, by kernel_rfl, by kernel_rfl, by kernel_rfl, by kernel_rfl, by kernel_rfl, by kernel_rfl, by kernel_rfl, by kernel_rfl, by kernel_rfl, by kernel_rfl, by kernel_rfl, by kernel_rfl, by kernel_rfl, by kernel_rfl, by kernel_rfl, by kernel_rfl, by kernel_rfl, by kernel_rfl, by kernel_rfl, by kernel_rfl, by kernel_rfl, by kernel_rfl, by kernel_rfl, by kernel_rfl, by kernel_rfl, by kernel_rfl, by kernel_rfl, by kernel_rfl, by kernel_rfl, by kernel_rfl, by kernel_rfl, by kernel_rfl, by kernel_rfl, by kernel_rfl, by kernel_rfl, by kernel_rfl, by kernel_rfl, by kernel_rfl, by kernel_rfl, by kernel_rfl, by kernel_rfl, by kernel_rfl, by kernel_rfl, by kernel_rfl, by kernel_rfl, by kernel_rfl, by kernel_rfl, by kernel_rfl, by kernel_rfl, by kernel_rfl, by kernel_rfl, by kernel_rfl, by kernel_rfl, by kernel_rfl, by kernel_rfl, by kernel_rfl, by kernel_rfl, by kernel_rfl, by kernel_rfl, by kernel_rfl, by kernel_rfl, by kernel_rfl, by kernel_rfl, by kernel_rfl, by kernel_rfl, by kernel_rfl, by kernel_rfl, by kernel_rfl, by kernel_rfl, by kernel_rfl, by kernel_rfl, by kernel_rfl, by kernel_rfl, trivial⟩
theorem mixed : Tryd.prog.follows .mixedOrders = true := by kernel_rfl
end Go.Proofs.YtlbffibpcjjpkaaDoor.V

namespace Go.Proofs.YtlbffibpcjjpkaaDoor.V
open Go Go.RowKit
variable [Dr]
theorem wrap_un {k : IntKind} {e : Int} (hs : k.signed = false) (h1 : 0 ≤ e) (h2 : e < 2 ^ k.bits) : k.wrap e = e := by
  unfold IntKind.wrap; simp only [hs, Bool.false_and]; rw [if_neg (by simp)]; exact Int.emod_eq_of_lt h1 h2
theorem NWrap.u64 {e : Int} {K : Int → Prop} (h1 : 0 ≤ e) (h2 : e ≤ 18446744073709551615) (hK : K e) : NWrap .u64 e K := ⟨by rw [wrap_un rfl h1 (by show e < 2 ^ 64; omega)]; exact hK⟩
theorem NWrap.u32 {e : Int} {K : Int → Prop} (h1 : 0 ≤ e) (h2 : e ≤ 4294967295) (hK : K e) : NWrap .u32 e K := ⟨by rw [wrap_un rfl h1 (by show e < 2 ^ 32; omega)]; exact hK⟩
theorem NWrap.u16 {e : Int} {K : Int → Prop} (h1 : 0 ≤ e) (h2 : e ≤ 65535) (hK : K e) : NWrap .u16 e K := ⟨by rw [wrap_un rfl h1 (by show e < 2 ^ 16; omega)]; exact hK⟩
theorem NWrap.u8 {e : Int} {K : Int → Prop} (h1 : 0 ≤ e) (h2 : e ≤ 255) (hK : K e) : NWrap .u8 e K := ⟨by rw [wrap_un rfl h1 (by show e < 2 ^ 8; omega)]; exact hK⟩
theorem fin1 {x u : Int} (h : u = x) : Fin1 (.one (.val (.int .i64 x))) (.int .i64 u) := congrArg _ h.symm
theorem fin2 {x y u v : Int} (h : u = x ∧ v = y) : Fin1 (.one (.val (.int .i64 x))) (.int .i64 u) ∧ FinL [.one (.val (.int .i64 y))] [.int .i64 v] := ⟨fin1 h.1, fin1 h.2, trivial⟩
theorem NQuo.ok {x y : Int} {K : Int → Prop} (h0 : y ≠ 0) (h1 : -9223372036854775808 ≤ x.tdiv y) (h2 : x.tdiv y ≤ 9223372036854775807) (hK : K (x.tdiv y)) : NQuo .i64 x y K := ⟨h0, by rw [IntWalk.i64_in _ ⟨h1, h2⟩]; exact hK⟩
theorem NQuo.pos {x y : Int} {K : Int → Prop} (h1 : 0 ≤ x) (h2 : 0 < y) (h3 : x ≤ 9223372036854775807) (hK : ∀ z, z = x / y → 0 ≤ z → z ≤ x → K z) : NQuo .i64 x y K := by
  have e : x.tdiv y = x / y := Int.tdiv_eq_ediv_of_nonneg h1
  have g1 : 0 ≤ x / y := Int.ediv_nonneg h1 (by omega)
  have g2 : x / y ≤ x := Int.ediv_le_self _ h1
  exact NQuo.ok (by omega) (by omega) (by omega) (by rw [e]; exact hK _ rfl g1 g2)
theorem NRem.pos {x y : Int} {K : Int → Prop} (h1 : 0 ≤ x) (h2 : 0 < y) (hK : ∀ z, z = x % y → 0 ≤ z → z < y → K z) : NRem x y K :=
  ⟨by omega, by rw [Int.tmod_eq_emod_of_nonneg h1]; exact hK _ rfl (Int.emod_nonneg _ (by omega)) (Int.emod_lt_of_pos _ h2)⟩
theorem NShr.i64 {x y : Int} {K : Int → Prop} (n : Nat) (hy : y = n) (hn : n ≤ 64) (h1 : 0 ≤ x) (hK : ∀ z, z = x / 2 ^ n → 0 ≤ z → z ≤ x → K z) : NShr .i64 x y K := by
  subst hy
  have p : (0 : Int) ≤ 2 ^ n := Int.le_of_lt (Int.pow_pos (by omega))
  refine ⟨by omega, ?_⟩
  rw [Int.toNat_natCast, show IntKind.i64.bits = 64 from rfl, Nat.min_eq_left hn, Int.fdiv_eq_ediv_of_nonneg _ p]
  exact hK _ rfl (Int.ediv_nonneg h1 p) (Int.ediv_le_self _ h1)
theorem NIf.dec {p : Prop} [Decidable p] {A B : Prop} (t : p → A) (f : ¬ p → B) : NIf (decide p = true) A B := ⟨fun h => t (of_decide_eq_true h), fun h => f (fun q => h (decide_eq_true q))⟩
theorem NIf.neg {p : Prop} {A B : Prop} (t : ¬ p → A) (f : p → B) : NIf (¬ p) A B := ⟨t, fun h => f (Classical.not_not.1 h)⟩
theorem NIf.dec_ {p : Prop} [Decidable p] {A B : Prop} (h : NIf p A B) : NIf (decide p = true) A B := .dec h.t h.f
theorem NIf.not_ {p : Prop} {A B : Prop} (h : NIf p B A) : NIf (¬ p) A B := ⟨fun q => h.f q, fun q => h.t (Classical.not_not.1 q)⟩
theorem NIf.yes {p : Prop} {A B : Prop} (h : p) (t : A) : NIf p A B := ⟨fun _ => t, fun q => absurd h q⟩
theorem NIf.no {p : Prop} {A B : Prop} (h : ¬ p) (f : B) : NIf p A B := ⟨fun q => absurd q h, fun _ => f⟩
def keepK {α : Type} (env : List (Nat × α)) : List Nat → (List (Nat × α) → Prop) → Prop
  | [], K => K []
  | t :: r, K => fndK env t fun v => keepK env r fun l => K ((t, v) :: l)
def appK {α : Type} : List α → List α → (List α → Prop) → Prop
  | [], m, K => K m
  | x :: l, m, K => appK l m fun r => K (x :: r)
theorem appK_spec {α : Type} : ∀ {l m : List α} {K : List α → Prop}, appK l m K → K (l ++ m)
  | [], _, _, h => h
  | x :: l, m, K, h => appK_spec (l := l) (K := fun r => K (x :: r)) h
theorem fndK_of {α : Type} {l : List (Nat × α)} {t : Nat} {v : α} {K : α → Prop} (e : fnd l t = some v) (h : K v) : fndK l t K := by
  induction l with
  | nil => cases e
  | cons p r ih =>
    obtain ⟨u, x⟩ := p
    unfold fnd at e
    unfold fndK
    cases hb : Nat.beq u t <;> simp only [hb] at e ⊢
    · exact ih e
    · injection e with e; rw [e]; exact h
theorem sgm_nil (i : Nat) : sgm [] i = i := rfl
theorem renA_nil (a : At) : renA (sgm []) a = a := by
  have : ∀ l : List Nat, l.map (sgm []) = l := fun l => by
    induction l with
    | nil => rfl
    | cons a r ih => rw [List.map_cons, ih]; rfl
  cases a <;> simp [renA, this, sgm_nil]
theorem renS_nil (v : SV) : renS (sgm []) v = v := by
  cases v with
  | one a => simp [renS, renA_nil]
  | agg l => simp [renS, funext renA_nil]
  | tup l => rfl
theorem renO_nil (o : Ob) : renO (sgm []) o = o := by
  cases o <;> first | rfl | (simp [renO, funext renA_nil, renS_nil]; done)
theorem ObLe.refl (o : Ob) : ObLe o o := by
  cases o <;> first | exact rfl | exact ⟨rfl, rfl, fun _ _ => rfl⟩ | exact ⟨rfl, rfl, rfl, fun _ _ => rfl⟩ | exact ⟨rfl, rfl, rfl, rfl, fun _ _ => ⟨rfl, fun _ g' h => ⟨g', h, fun _ _ => rfl⟩⟩⟩
theorem SLe.of {u v : SV} (h : u = v) : SLe u v := by
  subst h
  cases u with
  | one a => cases a <;> first | exact rfl | exact Iff.rfl
  | _ => exact rfl
theorem keepE_spec {env : Env} : ∀ {l : List Nat} {K : Env → Prop}, keepK env l K → ∃ b, EnvLe (sgm []) env b ∧ K b
  | [], K, h => ⟨[], trivial, h⟩
  | t :: r, K, h => by
    obtain ⟨v, e, h⟩ := fndK_spec h
    obtain ⟨b, hb, hK⟩ := keepE_spec h
    exact ⟨(t, v) :: b, ⟨fndK_of e (.of (renS_nil v).symm), hb⟩, hK⟩
theorem keepO_spec {obs : Obs} : ∀ {l : List Nat} {K : Obs → Prop}, keepK obs l K → ∃ b, ObsLe (sgm []) obs b ∧ K b
  | [], K, h => ⟨[], trivial, h⟩
  | t :: r, K, h => by
    obtain ⟨v, e, h⟩ := fndK_spec h
    obtain ⟨b, hb, hK⟩ := keepO_spec h
    exact ⟨(t, v) :: b, ⟨fndK_of e (by rw [renO_nil]; exact ObLe.refl v), hb⟩, hK⟩
theorem EnvLe.app {σ : Nat → Nat} {env : Env} : ∀ {l m : Env}, EnvLe σ env l → EnvLe σ env m → EnvLe σ env (l ++ m)
  | [], _, _, h => h
  | _ :: _, _, h, k => ⟨h.1, EnvLe.app h.2 k⟩
theorem ObsLe.app {σ : Nat → Nat} {obs : Obs} : ∀ {l m : Obs}, ObsLe σ obs l → ObsLe σ obs m → ObsLe σ obs (l ++ m)
  | [], _, _, h => h
  | _ :: _, _, h, k => ⟨h.1, ObsLe.app h.2 k⟩
theorem EnvLe.left {σ : Nat → Nat} {env : Env} : ∀ {l m : Env}, EnvLe σ env (l ++ m) → EnvLe σ env l
  | [], _, _ => trivial
  | _ :: _, _, h => ⟨h.1, EnvLe.left h.2⟩
theorem EnvLe.right {σ : Nat → Nat} {env : Env} : ∀ {l m : Env}, EnvLe σ env (l ++ m) → EnvLe σ env m
  | [], _, h => h
  | _ :: _, _, h => EnvLe.right h.2
theorem ObsLe.left {σ : Nat → Nat} {env : Obs} : ∀ {l m : Obs}, ObsLe σ env (l ++ m) → ObsLe σ env l
  | [], _, _ => trivial
  | _ :: _, _, h => ⟨h.1, ObsLe.left h.2⟩
theorem ObsLe.right {σ : Nat → Nat} {env : Obs} : ∀ {l m : Obs}, ObsLe σ env (l ++ m) → ObsLe σ env m
  | [], _, h => h
  | _ :: _, _, h => ObsLe.right h.2
structure NBack {ι : Type} (pin : Nat) (chg : ι → Env) (ob : ι → Obs) (μ : ι → Nat) (J : ι → Prop) (base : Env) (bo : Obs) (nx m : Nat) (env1 : Env) (obs1 : Obs) : Prop where
  h : ∃ i' l, J i' ∧ μ i' < m ∧ pinB pin l = true ∧ injB (sgm l) nx = true ∧ EnvLe (sgm l) env1 (chg i') ∧ EnvLe (sgm l) env1 base ∧ ObsLe (sgm l) obs1 (ob i') ∧ ObsLe (sgm l) obs1 bo
theorem NBack.at_ {ι : Type} {pin : Nat} {chg : ι → Env} {ob : ι → Obs} {μ : ι → Nat} {J : ι → Prop} {base : Env} {bo : Obs} {nx m : Nat} {env1 : Env} {obs1 : Obs} (i' : ι) (l : List (Nat × Nat)) (h1 : J i') (h2 : μ i' < m) (h3 : EnvLe (sgm l) env1 (chg i')) (h0 : injB (sgm l) nx = true) (h5 : ObsLe (sgm l) obs1 (ob i')) (h4 : EnvLe (sgm l) env1 base) (h6 : ObsLe (sgm l) obs1 bo) (hp : pinB pin l = true := by rfl) :
    NBack pin chg ob μ J base bo nx m env1 obs1 := ⟨⟨i', l, h1, h2, hp, h0, h3, h4, h5, h6⟩⟩
theorem injB_id : ∀ n : Nat, injB (sgm []) n = true := by
  have no : ∀ (n x : Nat), n ≤ x → memB (sgm [] x) ((iot n).map (sgm [])) = false := by
    intro n
    induction n with
    | zero => intro x _; rfl
    | succ n ih =>
      intro x hx
      unfold iot
      rw [List.map_cons]
      unfold memB
      have : Nat.beq (sgm [] x) (sgm [] n) = false := by
        rw [sgm_nil, sgm_nil]
        cases hb : Nat.beq x n
        · rfl
        · have := Nat.eq_of_beq_eq_true hb; omega
      rw [this]
      exact ih x (by omega)
  intro n
  induction n with
  | zero => rfl
  | succ n ih =>
    unfold injB iot
    rw [List.map_cons]
    unfold nodB
    rw [no n n (Nat.le_refl _)]
    exact ih
theorem NLoop.go {ws : List Nat} {pin : Nat} {body : Env → Obs → Nat → Kon → Prop} {env : Env} {obs : Obs} {nx : Nat} {K : Kon} {ι : Type} (chg : ι → Env) (ob : ι → Obs) (keep ko : List Nat) (μ : ι → Nat) (J : ι → Prop) (i0 : ι) (h0 : J i0)
    (he : EnvLe (sgm []) env (chg i0)) (ho : ObsLe (sgm []) obs (ob i0)) (hb : ∀ i, envB nx (chg i) = true ∧ obsB nx (ob i) = true)
    (hr : keepK env keep fun base => keepK obs ko fun bo => (envB nx base = true ∧ obsB nx bo = true) ∧ ∀ i, J i → appK (chg i) base fun E => appK (ob i) bo fun O => body E O nx fun e env1 obs1 nx1 => match e with
      | .nrm => NBack pin chg ob μ J base bo nx (μ i) env1 obs1
      | .exit n => K (.exit n) env1 obs1 nx1
      | .ret => K .ret env1 obs1 nx1) (hp : pin ≤ nx := by exact Nat.le_of_ble_eq_true rfl) : NLoop ws pin body env obs nx K := by
  obtain ⟨base, hbase, hr⟩ := keepE_spec hr
  obtain ⟨bo, hbo, ⟨q1, q2⟩, hr⟩ := keepO_spec hr
  refine ⟨⟨ι, fun i => (chg i ++ base, ob i ++ bo), μ, J, i0, nx, hp, h0, injB_id nx, he.app hbase, ho.app hbo, fun i => ⟨?_, ?_⟩, fun i hi => ?_⟩⟩
  · simp only [envB, List.all_append, Bool.and_eq_true]; exact ⟨(hb i).1, q1⟩
  · simp only [obsB, List.all_append, Bool.and_eq_true]; exact ⟨(hb i).2, q2⟩
  · have := appK_spec (appK_spec (hr i hi))
    refine cast ?_ this
    congr 1
    funext e env1 obs1 nx1
    cases e
    · apply propext
      constructor
      · rintro ⟨i', l, a, b, p, c, d, e, f, g⟩; exact ⟨i', l, a, b, p, c, d.app e, f.app g⟩
      · rintro ⟨i', l, a, b, p, c, d, e⟩
        exact ⟨i', l, a, b, p, c, d.left, d.right, e.left, e.right⟩
    · rfl
    · rfl
def autoK (ws is : List Nat) : Env → (Env → Prop) → Prop
  | [], K => K []
  | (t, v) :: r, K => match memB t ws with
    | true => autoK ws is r K
    | false => match v with
      | .tup _ => autoK (t :: ws) is r K
      | .one (.ref i) => match memB i is with
        | true => autoK (t :: ws) is r K
        | false => autoK (t :: ws) is r fun l => K ((t, .one (.ref i)) :: l)
      | v => autoK (t :: ws) is r fun l => K ((t, v) :: l)
def autoO (ws : List Nat) : Obs → (Obs → Prop) → Prop
  | [], K => K []
  | (t, o) :: r, K => match memB t ws with
    | true => autoO ws r K
    | false => match o with
      | .gone => autoO (t :: ws) r K
      | o => autoO (t :: ws) r fun l => K ((t, o) :: l)
theorem fndK_skip {α : Type} {l : List (Nat × α)} {t u : Nat} {v x : α} (h : t ≠ u) (e : fnd l t = some v) : fnd ((u, x) :: l) t = some v := by
  unfold fnd
  cases hb : Nat.beq u t
  · exact e
  · exact absurd (Nat.eq_of_beq_eq_true hb).symm h
theorem fnd_top {α : Type} {l : List (Nat × α)} {t : Nat} {v : α} : fnd ((t, v) :: l) t = some v := by
  unfold fnd; rw [Nat.beq_refl]
theorem memB_ne {x y : Nat} {l : List Nat} (hx : memB x l = true) (hy : memB y l = false) : y ≠ x := by
  rintro rfl; rw [hx] at hy; cases hy
theorem memB_cons {x t : Nat} {ws : List Nat} (h : memB x (t :: ws) = false) : memB x ws = false ∧ x ≠ t := by
  unfold memB at h
  cases hb : Nat.beq x t
  · rw [hb] at h; exact ⟨h, fun e => by subst e; rw [Nat.beq_refl] at hb; cases hb⟩
  · rw [hb] at h; cases h
theorem autoE_spec {env : Env} {is : List Nat} : ∀ {r : Env} {ws : List Nat} {K : Env → Prop}, (∀ t v, memB t ws = false → fnd r t = some v → fnd env t = some v) → autoK ws is r K → ∃ b, EnvLe (sgm []) env b ∧ K b
  | [], ws, K, _, h => ⟨[], trivial, h⟩
  | (t, v) :: r, ws, K, hs, h => by
    unfold autoK at h
    cases hm : memB t ws
    · simp only [hm] at h
      have hs' : ∀ u x, memB u (t :: ws) = false → fnd r u = some x → fnd env u = some x := fun u x hu hx =>
        hs u x (memB_cons hu).1 (fndK_skip (memB_cons hu).2 hx)
      have one : ∀ v', v' = v → (autoK (t :: ws) is r fun l => K ((t, v') :: l)) → ∃ b, EnvLe (sgm []) env b ∧ K b := fun v' e h2 => by
        subst e
        obtain ⟨b, hb, hK⟩ := autoE_spec hs' h2
        exact ⟨(t, v') :: b, ⟨fndK_of (hs t v' hm fnd_top) (.of (renS_nil v').symm), hb⟩, hK⟩
      cases v with
      | tup l => exact autoE_spec hs' h
      | one a =>
        cases a with
        | ref i =>
          simp only at h
          cases hi : memB i is <;> simp only [hi] at h
          · exact one _ rfl h
          · exact autoE_spec hs' h
        | _ => exact one _ rfl h
      | agg l => exact one _ rfl h
    · simp only [hm] at h
      exact autoE_spec (fun u x hu hx => hs u x hu (fndK_skip (memB_ne hm hu) hx)) h
theorem autoO_spec {env : Obs} : ∀ {r : Obs} {ws : List Nat} {K : Obs → Prop}, (∀ t v, memB t ws = false → fnd r t = some v → fnd env t = some v) → autoO ws r K → ∃ b, ObsLe (sgm []) env b ∧ K b
  | [], ws, K, _, h => ⟨[], trivial, h⟩
  | (t, v) :: r, ws, K, hs, h => by
    unfold autoO at h
    cases hm : memB t ws
    · simp only [hm] at h
      have hs' : ∀ u x, memB u (t :: ws) = false → fnd r u = some x → fnd env u = some x := fun u x hu hx =>
        hs u x (memB_cons hu).1 (fndK_skip (memB_cons hu).2 hx)
      have one : ∀ v', v' = v → (autoO (t :: ws) r fun l => K ((t, v') :: l)) → ∃ b, ObsLe (sgm []) env b ∧ K b := fun v' e h2 => by
        subst e
        obtain ⟨b, hb, hK⟩ := autoO_spec hs' h2
        exact ⟨(t, v') :: b, ⟨fndK_of (hs t v' hm fnd_top) (by rw [renO_nil]; exact ObLe.refl v'), hb⟩, hK⟩
      cases v with
      | gone => exact autoO_spec hs' h
      | _ => exact one _ rfl h
    · simp only [hm] at h
      exact autoO_spec (fun u x hu hx => hs u x hu (fndK_skip (memB_ne hm hu) hx)) h
def keysK {α : Type} : List (Nat × α) → List Nat → (List Nat → Prop) → Prop
  | [], ws, K => K ws
  | (t, _) :: r, ws, K => keysK r (t :: ws) K
theorem keysK_spec {α : Type} : ∀ {l : List (Nat × α)} {ws : List Nat} {K : List Nat → Prop}, keysK l ws K → ∃ ws', K ws'
  | [], ws, _, h => ⟨ws, h⟩
  | (t, _) :: r, _, _, h => keysK_spec (l := r) h
def litK (l : List Nat) : (List Nat → Prop) → Prop :=
  @List.rec Nat (fun _ => (List Nat → Prop) → Prop) (fun K => K []) (fun x _ ih K => ih fun l => K (x :: l)) l
theorem litK_eq : ∀ {l : List Nat} {K : List Nat → Prop}, litK l K = K l
  | [], _ => rfl
  | x :: r, K => litK_eq (l := r) (K := fun l => K (x :: l))
theorem NLoop.auto {ws : List Nat} {pin : Nat} {body : Env → Obs → Nat → Kon → Prop} {env : Env} {obs : Obs} {nx : Nat} {K : Kon} {ι : Type} (chg : ι → Env) (ob : ι → Obs) (dr dro : List Nat) (μ : ι → Nat) (J : ι → Prop) (i0 : ι) (h0 : J i0)
    (he : EnvLe (sgm []) env (chg i0)) (ho : ObsLe (sgm []) obs (ob i0)) (hb : ∀ i, envB nx (chg i) = true ∧ obsB nx (ob i) = true)
    (hr : litK (dr ++ ws) fun ws0 => keysK (chg i0) ws0 fun ws1 => keysK (ob i0) [] fun is => autoK ws1 is env fun base => keysK (ob i0) dro fun ws2 => autoO ws2 obs fun bo => (envB nx base = true ∧ obsB nx bo = true) ∧ ∀ i, J i → appK (chg i) base fun E => appK (ob i) bo fun O => body E O nx fun e env1 obs1 nx1 => match e with
      | .nrm => NBack pin chg ob μ J base bo nx (μ i) env1 obs1
      | .exit n => K (.exit n) env1 obs1 nx1
      | .ret => K .ret env1 obs1 nx1) (hp : pin ≤ nx := by exact Nat.le_of_ble_eq_true rfl) : NLoop ws pin body env obs nx K := by
  rw [litK_eq] at hr
  obtain ⟨ws1, hr⟩ := keysK_spec hr
  obtain ⟨is, hr⟩ := keysK_spec hr
  obtain ⟨base, hbase, hr⟩ := autoE_spec (fun _ _ _ h => h) hr
  obtain ⟨ws2, hr⟩ := keysK_spec hr
  obtain ⟨bo, hbo, ⟨q1, q2⟩, hr⟩ := autoO_spec (fun _ _ _ h => h) hr
  refine ⟨⟨ι, fun i => (chg i ++ base, ob i ++ bo), μ, J, i0, nx, hp, h0, injB_id nx, he.app hbase, ho.app hbo, fun i => ⟨?_, ?_⟩, fun i hi => ?_⟩⟩
  · simp only [envB, List.all_append, Bool.and_eq_true]; exact ⟨(hb i).1, q1⟩
  · simp only [obsB, List.all_append, Bool.and_eq_true]; exact ⟨(hb i).2, q2⟩
  · have := appK_spec (appK_spec (hr i hi))
    refine cast ?_ this
    congr 1
    funext e env1 obs1 nx1
    cases e
    · apply propext
      constructor
      · rintro ⟨i', l, a, b, p, c, d, e, f, g⟩; exact ⟨i', l, a, b, p, c, d.app e, f.app g⟩
      · rintro ⟨i', l, a, b, p, c, d, e⟩
        exact ⟨i', l, a, b, p, c, d.left, d.right, e.left, e.right⟩
    · rfl
    · rfl
structure NMeet {ι : Type} (pin : Nat) (chg : ι → Env) (ob : ι → Obs) (J : ι → Prop) (base : Env) (bo : Obs) (nx : Nat) (env1 : Env) (obs1 : Obs) : Prop where
  h : ∃ i l, J i ∧ pinB pin l = true ∧ injB (sgm l) nx = true ∧ EnvLe (sgm l) env1 (chg i) ∧ EnvLe (sgm l) env1 base ∧ ObsLe (sgm l) obs1 (ob i) ∧ ObsLe (sgm l) obs1 bo
theorem NMeet.at_ {ι : Type} {pin : Nat} {chg : ι → Env} {ob : ι → Obs} {J : ι → Prop} {base : Env} {bo : Obs} {nx : Nat} {env1 : Env} {obs1 : Obs} (i : ι) (l : List (Nat × Nat)) (h1 : J i) (h3 : EnvLe (sgm l) env1 (chg i)) (h0 : injB (sgm l) nx = true) (h5 : ObsLe (sgm l) obs1 (ob i)) (h4 : EnvLe (sgm l) env1 base) (h6 : ObsLe (sgm l) obs1 bo) (hp : pinB pin l = true := by rfl) :
    NMeet pin chg ob J base bo nx env1 obs1 := ⟨⟨i, l, h1, hp, h0, h3, h4, h5, h6⟩⟩
theorem NCond.auto {p : Prop} {ws : List Nat} {pin : Nat} {A B : Kon → Prop} {env : Env} {obs : Obs} {nx : Nat} {K : Kon} {ι : Type} (chg : ι → Env) (ob : ι → Obs) (dr dro : List Nat) (J : ι → Prop) (m : Nat) (i0 : ι) (hb : ∀ i, envB m (chg i) = true ∧ obsB m (ob i) = true)
    (hr : litK (dr ++ ws) fun ws0 => keysK (chg i0) ws0 fun ws1 => keysK (ob i0) [] fun is => autoK ws1 is env fun base => keysK (ob i0) dro fun ws2 => autoO ws2 obs fun bo => (envB m base = true ∧ obsB m bo = true) ∧
      NIf p (A fun e env1 obs1 nx1 => match e with
        | .nrm => NMeet pin chg ob J base bo m env1 obs1
        | .exit n => K (.exit n) env1 obs1 nx1
        | .ret => K .ret env1 obs1 nx1) (B fun e env1 obs1 nx1 => match e with
        | .nrm => NMeet pin chg ob J base bo m env1 obs1
        | .exit n => K (.exit n) env1 obs1 nx1
        | .ret => K .ret env1 obs1 nx1) ∧ ∀ i, J i → appK (chg i) base fun E => appK (ob i) bo fun O => K .nrm E O m) (hp : pin ≤ m := by exact Nat.le_of_ble_eq_true rfl) : NCond p ws pin A B env obs nx K := by
  rw [litK_eq] at hr
  obtain ⟨ws1, hr⟩ := keysK_spec hr
  obtain ⟨is, hr⟩ := keysK_spec hr
  obtain ⟨base, hbase, hr⟩ := autoE_spec (fun _ _ _ h => h) hr
  obtain ⟨ws2, hr⟩ := keysK_spec hr
  obtain ⟨bo, hbo, ⟨q1, q2⟩, ⟨ht, hf⟩, hk⟩ := autoO_spec (fun _ _ _ h => h) hr
  have same : (fun e env1 obs1 nx1 => match e with
        | .nrm => NMeet pin chg ob J base bo m env1 obs1
        | .exit n => K (.exit n) env1 obs1 nx1
        | .ret => K .ret env1 obs1 nx1) = meetK pin m (fun i => (chg i ++ base, ob i ++ bo)) J K := by
    funext e env1 obs1 nx1
    cases e
    · apply propext
      constructor
      · rintro ⟨i, l, a, p, c, d, e, f, g⟩; exact ⟨i, l, a, p, c, d.app e, f.app g⟩
      · rintro ⟨i, l, a, p, c, d, e⟩; exact ⟨⟨i, l, a, p, c, d.left, d.right, e.left, e.right⟩⟩
    · rfl
    · rfl
  rw [same] at ht hf
  refine .join ι (fun i => (chg i ++ base, ob i ++ bo)) m J hp (fun i => ⟨?_, ?_⟩) ⟨ht, hf⟩ fun i hi => appK_spec (appK_spec (hk i hi))
  · simp only [envB, List.all_append, Bool.and_eq_true]; exact ⟨(hb i).1, q1⟩
  · simp only [obsB, List.all_append, Bool.and_eq_true]; exact ⟨(hb i).2, q2⟩
def quietB (T : TT) (all : List Oper) : Bool := all.all fun o => match kindK T o.op with | 0 => true | 3 => true | _ => false
theorem NDraw.q {P : Program} {T : TT} {sz pin : Nat} {all : List Oper} {env : Env} {obs : Obs} {nx : Nat} {K : Env → Obs → Nat → Prop} (hq : quietB T all = true) (lex : Region.lexB .any all.toArray = true) (h : opsK P T sz true all all env obs nx K) : NDraw P T sz pin all env obs nx K := .mk lex h
theorem NJoin.first {pin m n : Nat} {E env : Env} {O obs : Obs} (h : autoK [] [] env fun E' => autoO [] obs fun O' => E = E' ∧ O = O' ∧ m = n) : NJoin pin m E O env obs n := by
  obtain ⟨b, hb, h⟩ := autoE_spec (fun _ _ _ h => h) h
  obtain ⟨c, hc, h1, h2, _⟩ := autoO_spec (fun _ _ _ h => h) h
  subst h1 h2
  exact ⟨⟨[], rfl, injB_id _, hb, hc⟩⟩
theorem NTF.dec {p : Prop} [Decidable p] {K : Bool → Prop} (h : K (decide p)) : NTF p K := ⟨fun b hb => by
  have e : b = decide p := by rw [Bool.eq_iff_iff, hb]; simp
  rw [e]; exact h⟩
theorem NTF.yes {p : Prop} {K : Bool → Prop} (hp : p) (h : K true) : NTF p K := ⟨fun b hb => by rw [hb.2 hp]; exact h⟩
theorem NTF.no {p : Prop} {K : Bool → Prop} (hp : ¬ p) (h : K false) : NTF p K := ⟨fun b hb => by
  have e : b = false := by rw [Bool.eq_false_iff]; exact fun q => hp (hb.1 q)
  rw [e]; exact h⟩
theorem NPick.l {A B : Prop} (h : A) : NPick A B := ⟨.inl h⟩
theorem NPick.r {A B : Prop} (h : B) : NPick A B := ⟨.inr h⟩
theorem a4 {p : Prop} {A B : Prop} (f : B) (h : ¬ p := by omega) : NIf p A B := .no h f
theorem a5 {p : Prop} {A B : Prop} (t : A) (h : p := by omega) : NIf p A B := .yes h t
theorem a8 {e : Int} {K : Int → Prop} (hK : K e) (h1 : 0 ≤ e := by omega) (h2 : e ≤ 18446744073709551615 := by omega) : NWrap .u64 e K := .u64 h1 h2 hK
theorem b1 {p : Prop} {K : Bool → Prop} (h : K true) (hp : p := by omega) : NTF p K := .yes hp h
theorem b2 {p : Prop} {K : Bool → Prop} (h : K false) (hp : ¬ p := by omega) : NTF p K := .no hp h
theorem b3 {P : Program} {T : TT} {sz pin : Nat} {all : List Oper} {env : Env} {obs : Obs} {nx : Nat} {K : Env → Obs → Nat → Prop} (h : opsK P T sz true all all env obs nx K) (hq : quietB T all = true := by exact rfl) (lex : Region.lexB .any all.toArray = true := by kernel_rfl) : NDraw P T sz pin all env obs nx K := .q hq lex h
end Go.Proofs.YtlbffibpcjjpkaaDoor.V

namespace Go.Proofs.YtlbffibpcjjpkaaDoor
theorem getD_at {α : Type} [Inhabited α] {l : List α} {k : Nat} (h : k < l.length) : l.getD k default = l[k] := by simp [List.getD, List.getElem?_eq_getElem h]
theorem getD_mem {α : Type} [Inhabited α] {l : List α} {k : Nat} (h : k < l.length) : l.getD k default ∈ l := by rw [getD_at h]; exact List.getElem_mem h
end Go.Proofs.YtlbffibpcjjpkaaDoor

namespace Go.Proofs.YtlbffibpcjjpkaaDoor
open Go Go.RowKit V
end Go.Proofs.YtlbffibpcjjpkaaDoor

namespace Go.Proofs.YtlbffibpcjjpkaaDoor.V
open Go Go.RowKit
variable [Dr]
def isNew : Ob → Bool
  | .row _ _ _ _ | .arr _ _ _ | .rws _ _ _ _ _ _ => true
  | _ => false
def glue (m : Nat) (ρ ν : Rho) : Rho := fun i => if i < m then ρ i else ν i
structure News (B m : Nat) (ν : Rho) (w : World) (ros : List Ob) : Prop where
  sat : ∀ (j : Nat) o, ros[j]? = some o → Sat B ν w (m + j) o ∧ ∀ b, foot ν (m + j) o = some b → B ≤ b
  apart : ∀ (j k : Nat) o o' b, ros[j]? = some o → ros[k]? = some o' → j ≠ k → foot ν (m + j) o = some b → foot ν (m + k) o' ≠ some b
  apx : ∀ (j k : Nat) o o' b, ros[j]? = some o → ros[k]? = some o' → sub o b → foot ν (m + k) o' ≠ some b ∧ (j ≠ k → ¬ sub o' b)
def svBv (n : Nat) : SV → Bool
  | .tup l => l.all (svB n)
  | v => svB n v
structure FnR (P : Program) (f : FuncId) (os : List Ob) (args : List SV) (v : SV) (ros : List Ob) : Prop where
  b : hasBody P f = true
  n : ros.all isNew = true
  k : svBv (os.length + ros.length) v = true
  c : ∀ w ρ xs, (∀ (i : Nat) o, os[i]? = some o → ∃ v, ρ i = some v ∧ Ro ρ w v o) → Svs ρ args xs → Calls P f xs.toArray w fun e w' => ∃ ν x, e = .returned x ∧ v.is (glue os.length ρ ν) x ∧ News w.heap.size os.length ν w' ros ∧ Belw w.heap.size w w'
def renV (σ : Nat → Nat) : SV → SV
  | .tup l => .tup (l.map (renS σ))
  | v => renS σ v
theorem CapsAre.ren {τ : Nat → Nat} {ρ : Rho} : ∀ {l : List Nat} {xs : List Value}, CapsAre (via τ ρ) l xs → CapsAre ρ (l.map τ) xs
  | [], _, h => h
  | i :: l, _, ⟨a, r, e, hx, hr⟩ => ⟨a, r, e, hx, CapsAre.ren hr⟩
theorem At.ren {τ : Nat → Nat} {ρ : Rho} {a : At} {x : Value} (h : a.is (via τ ρ) x) : (renA τ a).is ρ x := by
  cases a with
  | clo f l => obtain ⟨cs, hc, e⟩ := h; exact ⟨cs, CapsAre.ren hc, e⟩
  | _ => exact h
theorem Ats.ren {τ : Nat → Nat} {ρ : Rho} : ∀ {l : List At} {x : List Value}, Ats (V.via τ ρ) l x → Ats ρ (l.map (renA τ)) x
  | [], _, h => h
  | a :: l, _, ⟨u, r, hx, hu, hr⟩ => ⟨u, r, hx, At.ren hu, Ats.ren hr⟩
theorem SV.ren1 {τ : Nat → Nat} {ρ : Rho} {v : SV} {x : Value} (h : v.is1 (via τ ρ) x) : (renS τ v).is1 ρ x := by
  cases v with
  | one a => exact At.ren (a := a) h
  | agg l => obtain ⟨c, e, hx⟩ := h; exact ⟨c, e.ren, hx⟩
  | tup l => exact (show False from h).elim
theorem Svs.ren {τ : Nat → Nat} {ρ : Rho} : ∀ {l : List SV} {x : List Value}, Svs (V.via τ ρ) l x → Svs ρ (l.map (renS τ)) x
  | [], _, h => h
  | a :: l, _, ⟨u, r, hx, hu, hr⟩ => ⟨u, r, hx, SV.ren1 hu, Svs.ren hr⟩
theorem SV.renv {τ : Nat → Nat} {ρ : Rho} {v : SV} {x : Value} (h : v.is (via τ ρ) x) : (renV τ v).is ρ x := by
  cases v with
  | one a => exact At.ren (a := a) h
  | agg l => obtain ⟨c, e, hx⟩ := h; exact ⟨c, e.ren, hx⟩
  | tup l => obtain ⟨c, e, hx⟩ := h; exact ⟨c, e.ren, hx⟩
theorem ext_cut (n : Nat) (ρ : Rho) : Ext (cut n ρ) ρ := fun i y h => by
  unfold cut at h
  split at h
  · exact h
  · cases h
theorem Svs.cut' {nx : Nat} {ρ : Rho} : ∀ {l : List SV} {xs : List Value}, l.all (svB nx) = true → Svs ρ l xs → Svs (V.cut nx ρ) l xs := fun hb h => Svs.cut (by exact hb) h
theorem SV.is_agree {n : Nat} {ρ ρ' : Rho} {v : SV} {x : Value} (hb : svBv n v = true) (he : ∀ i, i < n → ρ i = ρ' i) (h : v.is ρ x) : v.is ρ' x := by
  have e : V.cut n ρ = V.cut n ρ' := funext fun i => by unfold V.cut; split <;> simp_all
  have hc : v.is (V.cut n ρ) x := by
    cases v with
    | one a => exact SV.is_cut (v := .one a) hb h
    | agg l => exact SV.is_cut (v := .agg l) hb h
    | tup l => obtain ⟨c, hc, hx⟩ := h; exact ⟨c, Svs.cut' hb hc, hx⟩
  rw [e] at hc
  exact SV.is_ext (ext_cut n ρ') hc
def newO : Nat → List Ob → Obs → Obs
  | _, [], obs => obs
  | i, o :: r, obs => newO (i + 1) r ((i, o) :: obs)
theorem newO_spec : ∀ {ros : List Ob} {n : Nat} {obs : Obs} {i : Nat} {o : Ob}, fnd (newO n ros obs) i = some o → (n ≤ i ∧ ros[i - n]? = some o) ∨ ((i < n ∨ n + ros.length ≤ i) ∧ fnd obs i = some o)
  | [], n, obs, i, o, h => .inr ⟨by rcases Nat.lt_or_ge i n with q | q <;> simp <;> omega, h⟩
  | u :: r, n, obs, i, o, h => by
    rcases newO_spec (ros := r) h with ⟨h1, h2⟩ | ⟨h1, h2⟩
    · left; exact ⟨by omega, by rw [show i - n = (i - (n + 1)) + 1 by omega]; simpa using h2⟩
    · rcases fnd_cons h2 with ⟨rfl, rfl⟩ | ⟨hn, h3⟩
      · left; exact ⟨Nat.le_refl _, by simp⟩
      · right; exact ⟨by simp; omega, h3⟩
theorem Sat.mono {B B' : Nat} {ρ : Rho} {w : World} {i : Nat} {o : Ob} (hn : isNew o = true) (h : Sat B' ρ w i o) (hb : B ≤ B') : Sat B ρ w i o := by
  cases o with
  | row t s n get =>
    obtain ⟨v, e, A, c, ev, h1, h2, h3⟩ := h
    refine ⟨v, e, A, c, ev, h1, h2, ?_⟩
    rcases h3 with q | ⟨g, cur, q1, q2, q3⟩
    · exact .inl q
    · exact .inr ⟨g, cur, q1, by omega, q3⟩
  | arr s n get => exact h
  | rws t e s N vs xs =>
    have up : ∀ {v t s n get}, RowIs B' w v t s n get → RowIs B w v t s n get := fun ⟨A, c, ev, h1, h2, h3⟩ => ⟨A, c, ev, h1, h2, by
      rcases h3 with q | ⟨g, cur, q1, q2, q3⟩
      · exact .inl q
      · exact .inr ⟨g, cur, q1, by omega, q3⟩⟩
    obtain ⟨⟨v, e, hr⟩, hs, hd⟩ := h
    exact ⟨⟨v, e, up hr⟩, fun k n g h1 h2 => up (hs k n g h1 h2), hd⟩
  | _ => cases hn
theorem Sat.at_ {B : Nat} {ρ ρ' : Rho} {w : World} {i j : Nat} {o : Ob} (hn : isNew o = true) (he : ρ' j = ρ i) (h : Sat B ρ w i o) : Sat B ρ' w j o := by
  cases o with
  | row t s n get => obtain ⟨v, e, q⟩ := h; exact ⟨v, he.trans e, q⟩
  | arr s n get => obtain ⟨v, e, q⟩ := h; exact ⟨v, he.trans e, q⟩
  | rws t e s N vs xs => obtain ⟨⟨v, e, hr⟩, q⟩ := h; exact ⟨⟨v, he.trans e, hr⟩, q⟩
  | _ => cases hn
theorem foot_at {ρ ρ' : Rho} {i j : Nat} {o : Ob} (he : ρ' j = ρ i) : foot ρ' j o = foot ρ i o := by
  have hb : base ρ' j = base ρ i := by unfold base; rw [he]
  cases o <;> simp only [foot, hb, he]
theorem isNew_at {ros : List Ob} (h : ros.all isNew = true) {j : Nat} {o : Ob} (ho : ros[j]? = some o) : isNew o = true := List.all_eq_true.1 h o (List.mem_of_getElem? ho)
theorem Cls.adds {B nx m : Nat} {ρ ν ρ' : Rho} {obs : Obs} {w w' : World} {ros : List Ob} (h : Cls B ρ obs nx w) (hb : Belw w.heap.size w w') (hn : ros.all isNew = true) (hN : News w.heap.size m ν w' ros)
    (h1 : ∀ i, i < nx → ρ' i = ρ i) (h2 : ∀ j, j < ros.length → ρ' (nx + j) = ν (m + j)) (h3 : ∀ i, nx + ros.length ≤ i → ρ' i = none) : Cls B ρ' (newO nx ros obs) (nx + ros.length) w' := by
  have hx : Ext ρ ρ' := fun i y hy => by
    by_cases hi : i < nx
    · rw [h1 i hi]; exact hy
    · rw [h.new i (by omega)] at hy; cases hy
  have lt : ∀ i o, fnd obs i = some o → o = .gone ∨ i < nx := fun i o ho => by
    rcases Nat.lt_or_ge i nx with q | q
    · exact .inr q
    · left
      have hs := h.sat i o ho
      cases o with
      | gone => rfl
      | box t l => obtain ⟨b, cs, e, _⟩ := hs; rw [h.new i q] at e; cases e
      | lit t s rows => obtain ⟨b, cs, e, _⟩ := hs; rw [h.new i q] at e; cases e
      | arr s n get => obtain ⟨v, e, _⟩ := hs; rw [h.new i q] at e; cases e
      | cel l => obtain ⟨v, cs, e, _⟩ := hs; rw [h.new i q] at e; cases e
      | row t s n get => obtain ⟨v, e, _⟩ := hs; rw [h.new i q] at e; cases e
      | lp L env st => obtain ⟨_, _, _, _, e, _⟩ := hs; rw [h.new i q] at e; cases e
      | tab g l => obtain ⟨e, _⟩ := hs; rw [h.new i q] at e; cases e
      | vw r a s => obtain ⟨_, _, _, _, _, e⟩ := hs; rw [h.new i q] at e; cases e
      | rov v t s n get => obtain ⟨e, _⟩ := hs; rw [h.new i q] at e; cases e
      | rws t e s N vs xs => obtain ⟨⟨v, e, _⟩, _⟩ := hs; rw [h.new i q] at e; cases e
      | dee s n vs xs => obtain ⟨v, e, _⟩ := hs; rw [h.new i q] at e; cases e
      | vh r b => obtain ⟨_, _, _, _, _, e⟩ := hs; rw [h.new i q] at e; cases e
      | eqv j v => obtain ⟨_, e, _⟩ := hs; rw [h.new i q] at e; cases e
  have oldF : ∀ i o b, fnd obs i = some o → foot ρ' i o = some b → foot ρ i o = some b ∧ b < w.heap.size := fun i o b ho hf => by
    rcases lt i o ho with rfl | q
    · cases hf
    · rw [foot_at (h1 i q)] at hf
      exact ⟨hf, foot_lt (h.sat i o ho) hf⟩
  have newF : ∀ j o b, ros[j]? = some o → foot ρ' (nx + j) o = some b → foot ν (m + j) o = some b ∧ w.heap.size ≤ b := fun j o b ho hf => by
    have hj : j < ros.length := (List.getElem?_eq_some_iff.1 ho).1
    rw [foot_at (h2 j hj)] at hf
    exact ⟨hf, (hN.sat j o ho).2 b hf⟩
  refine ⟨Nat.le_trans h.le hb.size, fun i o ho => ?_, fun i j o o' b hi hj hne hm hf hf' => ?_, h3, fun i j o o' b hi hj hb => ?_⟩
  · rcases newO_spec ho with ⟨q1, q2⟩ | ⟨_, q⟩
    · have hj : i - nx < ros.length := (List.getElem?_eq_some_iff.1 q2).1
      have hi : nx + (i - nx) = i := by omega
      have := ((hN.sat _ o q2).1.mono (isNew_at hn q2) h.le).at_ (isNew_at hn q2) (h2 _ hj)
      rwa [hi] at this
    · exact ((h.sat i o q).keep hb.size (fun b hf => hb.block b (foot_lt (h.sat i o q) hf)) (fun b hf => hb.block b (sub_lt (h.sat i o q) hf).2) fun b hf => hb.block b (Nat.lt_of_lt_of_le hf h.le)).ext hx
  · rcases newO_spec hi with ⟨q1, q2⟩ | ⟨_, q⟩ <;> rcases newO_spec hj with ⟨r1, r2⟩ | ⟨_, r⟩
    · have e1 : nx + (i - nx) = i := by omega
      have e2 : nx + (j - nx) = j := by omega
      obtain ⟨f1, _⟩ := newF _ o b q2 (by rw [e1]; exact hf)
      obtain ⟨f2, _⟩ := newF _ o' b r2 (by rw [e2]; exact hf')
      exact hN.apart _ _ o o' b q2 r2 (by omega) f1 f2
    · have e1 : nx + (i - nx) = i := by omega
      obtain ⟨_, g1⟩ := newF _ o b q2 (by rw [e1]; exact hf)
      obtain ⟨_, g2⟩ := oldF j o' b r hf'
      omega
    · have e2 : nx + (j - nx) = j := by omega
      obtain ⟨_, g1⟩ := newF _ o' b r2 (by rw [e2]; exact hf')
      obtain ⟨_, g2⟩ := oldF i o b q hf
      omega
    · exact h.apart i j o o' b q r hne hm (oldF i o b q hf).1 (oldF j o' b r hf').1
  · have newS : ∀ j o, ros[j]? = some o → sub o b → w.heap.size ≤ b := fun j o ho hs => (sub_lt (hN.sat j o ho).1 hs).1
    rcases newO_spec hi with ⟨q1, q2⟩ | ⟨_, q⟩ <;> rcases newO_spec hj with ⟨r1, r2⟩ | ⟨_, r⟩
    · have e2 : nx + (j - nx) = j := by omega
      obtain ⟨g1, g2⟩ := hN.apx _ _ o o' b q2 r2 hb
      exact ⟨fun hf => g1 (newF _ o' b r2 (by rw [e2]; exact hf)).1, fun hne => g2 (by omega)⟩
    · have := newS _ o q2 hb
      refine ⟨fun hf => ?_, fun _ hs => ?_⟩
      · obtain ⟨_, g2⟩ := oldF j o' b r hf; omega
      · have := (sub_lt (h.sat j o' r) hs).2; omega
    · have e2 : nx + (j - nx) = j := by omega
      have := (sub_lt (h.sat i o q) hb).2
      refine ⟨fun hf => ?_, fun _ hs => ?_⟩
      · obtain ⟨_, g1⟩ := newF _ o' b r2 (by rw [e2]; exact hf); omega
      · have := newS _ o' r2 hs; omega
    · exact ⟨fun hf => (h.apx i j o o' b q r hb).1 (oldF j o' b r hf).1, (h.apx i j o o' b q r hb).2⟩
def tau (m : Nat) (σ : List Nat) (nx : Nat) (i : Nat) : Nat := if i < m then sg σ i else nx + (i - m)
theorem FnR.goA {P : Program} {f : FuncId} {os : List Ob} {args args' : List SV} {v : SV} {ros : List Ob} (h : FnR P f os args v ros) (σ : List Nat) {obs : Obs} {nx : Nat} {K : SV → Obs → Nat → Prop} (ha : SameS (sg σ) args args') (ho : ObsTo (sg σ) obs 0 os)
    (hK : K (renV (tau os.length σ nx) v) (newO nx ros obs) (nx + ros.length)) : NCallA P f args' obs nx K :=
  ⟨h.b, fun B ρ w xs hC hs => by
    have hr := fun (i : Nat) o hi => by have := ObsTo.ro hC ho i o hi; simpa using this
    refine (h.c w (fun i => ρ (sg σ i)) xs hr (ha.is_ hs)).mono ?_
    rintro e w' ⟨ν, x, he, hv, hN, hw⟩
    let ρ' : Rho := fun i => if i < nx then ρ i else if i < nx + ros.length then ν (os.length + (i - nx)) else none
    have e1 : ∀ i, i < nx → ρ' i = ρ i := fun i hi => if_pos hi
    have e2 : ∀ j, j < ros.length → ρ' (nx + j) = ν (os.length + j) := fun j hj => by
      show (if nx + j < nx then _ else if nx + j < nx + ros.length then _ else _) = _
      rw [if_neg (by omega), if_pos (by omega)]; congr 2; omega
    have e3 : ∀ i, nx + ros.length ≤ i → ρ' i = none := fun i hi => by
      show (if i < nx then _ else if i < nx + ros.length then _ else _) = _
      rw [if_neg (by omega), if_neg (by omega)]
    refine ⟨_, _, _, ρ', x, hK, fun i y hy => ?_, he, SV.renv (SV.is_agree h.k (fun i hi => ?_) hv), hC.adds hw h.n hN e1 e2 e3, hw⟩
    · by_cases hi : i < nx
      · rw [e1 i hi]; exact hy
      · rw [hC.new i (by omega)] at hy; cases hy
    · show glue os.length _ ν i = ρ' (tau os.length σ nx i)
      unfold glue tau
      by_cases hi' : i < os.length
      · rw [if_pos hi', if_pos hi']
        obtain ⟨y, hy, _⟩ := hr i _ (List.getElem?_eq_getElem hi')
        have hy : ρ (sg σ i) = some y := hy
        have : sg σ i < nx := by
          rcases Nat.lt_or_ge (sg σ i) nx with q | q
          · exact q
          · rw [hC.new _ q] at hy; cases hy
        exact (e1 _ this).symm
      · rw [if_neg hi', if_neg hi', e2 (i - os.length) (by omega)]; congr 1; omega⟩
theorem FnR.go {P : Program} {f : FuncId} {os : List Ob} {args args' : List SV} {v : SV} {ros : List Ob} (h : FnR P f os args v ros) (σ : List Nat) {obs : Obs} {nx : Nat} {K : SV → Obs → Nat → Prop} (ha : SameS (sg σ) args args') (ho : ObsTo (sg σ) obs 0 os)
    (hK : K (renV (tau os.length σ nx) v) (newO nx ros obs) (nx + ros.length)) : NCall P f args' obs nx K := (h.goA σ ha ho hK).to
theorem FnR.a0 {P : Program} {f : FuncId} {args : List SV} {v : SV} {ros : List Ob} (h : FnR P f [] args v ros) (hp : plain0 args = true) {obs : Obs} {nx : Nat} {K : SV → Obs → Nat → Prop}
    (hK : K (renV (tau 0 [] nx) v) (newO nx ros obs) (nx + ros.length)) : NCallA P f args obs nx K :=
  h.goA [] (SameS.self hp) trivial hK
theorem FnR.k0 {P : Program} {f : FuncId} {args : List SV} {v : SV} {ros : List Ob} (h : FnR P f [] args v ros) (hp : plain0 args = true) {obs : Obs} {nx : Nat} {K : SV → Obs → Nat → Prop}
    (hK : K (renV (tau 0 [] nx) v) (newO nx ros obs) (nx + ros.length)) : NCall P f args obs nx K :=
  h.go [] (SameS.self hp) trivial hK
def RetA (m : Nat) (l : List (Option Nat)) : At → At → Prop
  | .val x, .val y => y = x
  | .val x, .tf b => Value.bool b = x
  | .val (.bool b), .prop p => p ↔ b = true
  | .ref i, .ref j => if i < m then i = j else l[i - m]? = some (some j)
  | .ref i, .val (.slice none 0 0) => m ≤ i ∧ l[i - m]? = some none
  | _, _ => False
def RetAs (m : Nat) (l : List (Option Nat)) : List At → List At → Prop
  | [], [] => True
  | a :: r, b :: s => RetA m l a b ∧ RetAs m l r s
  | _, _ => False
def Ret1 (m : Nat) (l : List (Option Nat)) : SV → SV → Prop
  | .one a, .one b => RetA m l a b
  | .agg r, .agg s => RetAs m l r s
  | _, _ => False
def Rets (m : Nat) (l : List (Option Nat)) : List SV → List SV → Prop
  | [], [] => True
  | a :: r, b :: s => Ret1 m l a b ∧ Rets m l r s
  | _, _ => False
def RetV (m : Nat) (l : List (Option Nat)) : SV → SV → Prop
  | .tup r, .tup s => Rets m l r s
  | .tup _, _ | _, .tup _ => False
  | a, b => Ret1 m l a b
def ObRet : Ob → Ob → Prop
  | .row t s n g, .row t' s' n' g' => t = t' ∧ s = s' ∧ n = n' ∧ ∀ k, k < n → g k = g' k
  | .row _ s n g, .arr s' n' g' => s = s' ∧ n = n' ∧ ∀ k, k < n → g k = g' k
  | .lit _ s rows, .arr s' n' g' => s = s' ∧ rows.length = n' ∧ LitTo g' 0 rows
  | .lit t s rows, .row t' s' n' g' => t = t' ∧ s = s' ∧ rows.length = n' ∧ 0 < n' ∧ LitTo g' 0 rows
  | .rws t e s n vs xs, .rws t' e' s' n' vs' xs' => t = t' ∧ e = e' ∧ s = s' ∧ n = n' ∧ ∀ k, k < n → vs k = vs' k ∧ ∀ m g', xs' k = some (m, g') → ∃ g, xs k = some (m, g) ∧ ∀ j, j < m → g j = g' j
  | .row t s n _, .rws t' _ _ n' _ _ => t = t' ∧ s = 1 ∧ n = 0 ∧ n' = 0
  | _, _ => False
def ObNil : Ob → Prop
  | .row _ _ n _ => n = 0
  | .arr _ n _ => n = 0
  | .rws _ _ _ n _ _ => n = 0
  | _ => False
def RetO (obs : Obs) : List (Option Nat) → List Ob → Prop
  | [], [] => True
  | none :: l, o :: r => ObNil o ∧ RetO obs l r
  | some i :: l, o :: r => fndK obs i (fun u => ObRet u o) ∧ RetO obs l r
  | _, _ => False
def somes : List (Option Nat) → List Nat
  | [] => []
  | none :: r => somes r
  | some i :: r => i :: somes r
structure NRet (m : Nat) (v : SV) (ros : List Ob) (v1 : SV) (obs1 : Obs) : Prop where
  h : ∃ l : List (Option Nat), nodB (somes l) = true ∧ RetV m l v v1 ∧ RetO obs1 l ros
theorem NRet.mk_ {m : Nat} {v : SV} {ros : List Ob} {v1 : SV} {obs1 : Obs} (l : List (Option Nat)) (h0 : nodB (somes l) = true) (h1 : RetV m l v v1) (h2 : RetO obs1 l ros) : NRet m v ros v1 obs1 := ⟨⟨l, h0, h1, h2⟩⟩
theorem RetO.get {obs : Obs} : ∀ {l : List (Option Nat)} {ros : List Ob}, RetO obs l ros → l.length = ros.length ∧ ∀ (j : Nat) o, ros[j]? = some o → (l[j]? = some none ∧ ObNil o) ∨ ∃ i u, l[j]? = some (some i) ∧ fnd obs i = some u ∧ ObRet u o
  | [], [], _ => ⟨rfl, fun j o h => by simp at h⟩
  | [], _ :: _, h => h.elim
  | none :: _, [], h => h.elim
  | some _ :: _, [], h => h.elim
  | none :: l, o :: r, ⟨h1, h2⟩ => by
    obtain ⟨e, q⟩ := RetO.get h2
    refine ⟨by simp [e], fun j u hu => ?_⟩
    cases j with
    | zero => simp at hu; subst hu; exact .inl ⟨rfl, h1⟩
    | succ j => simpa using q j u (by simpa using hu)
  | some i :: l, o :: r, ⟨h1, h2⟩ => by
    obtain ⟨e, q⟩ := RetO.get h2
    refine ⟨by simp [e], fun j u hu => ?_⟩
    cases j with
    | zero =>
      simp at hu; subst hu
      obtain ⟨u, hu, hr⟩ := fndK_spec h1
      exact .inr ⟨i, u, rfl, hu, hr⟩
    | succ j => simpa using q j u (by simpa using hu)
theorem mem_somes {i : Nat} : ∀ {l : List (Option Nat)} {j : Nat}, l[j]? = some (some i) → i ∈ somes l
  | [], j, h => by simp at h
  | none :: r, j, h => by
    cases j with
    | zero => simp at h
    | succ j => exact mem_somes (l := r) (by simpa using h)
  | some k :: r, j, h => by
    cases j with
    | zero => simp at h; subst h; simp [somes]
    | succ j => simp [somes, mem_somes (l := r) (j := j) (by simpa using h)]
theorem somes_inj {i : Nat} : ∀ {l : List (Option Nat)} {j k : Nat}, nodB (somes l) = true → l[j]? = some (some i) → l[k]? = some (some i) → j = k
  | [], j, k, _, h, _ => by simp at h
  | none :: r, j, k, hn, h, h' => by
    cases j with
    | zero => simp at h
    | succ j =>
      cases k with
      | zero => simp at h'
      | succ k => exact congrArg (· + 1) (somes_inj (l := r) hn (by simpa using h) (by simpa using h'))
  | some x :: r, j, k, hn, h, h' => by
    unfold somes nodB at hn
    cases hm : memB x (somes r) <;> simp only [hm] at hn
    · cases j with
      | zero =>
        cases k with
        | zero => rfl
        | succ k =>
          simp at h; subst h
          have := memB_of (mem_somes (l := r) (j := k) (by simpa using h'))
          rw [hm] at this; cases this
      | succ j =>
        cases k with
        | zero =>
          simp at h'; subst h'
          have := memB_of (mem_somes (l := r) (j := j) (by simpa using h))
          rw [hm] at this; cases this
        | succ k => exact congrArg (· + 1) (somes_inj (l := r) hn (by simpa using h) (by simpa using h'))
    · cases hn
def nuOf (m : Nat) (l : List (Option Nat)) (ρ : Rho) : Rho := fun i => match l[i - m]? with
  | some (some j) => ρ j
  | some none => some (.slice none 0 0)
  | none => none
theorem RetA.is_ {m : Nat} {l : List (Option Nat)} {ρ ρ0 : Rho} (h0 : ∀ i, i < m → ρ0 i = ρ i) : ∀ {a b : At} {x : Value}, RetA m l a b → b.is ρ x → a.is (glue m ρ0 (nuOf m l ρ)) x
  | .val u, .val y, x, h, hb => Eq.trans hb h
  | .val u, .tf b, x, h, hb => Eq.trans hb h
  | .val u, .prop p, x, h, hb => by
    cases u <;> try exact (show False from h).elim
    rename_i b
    obtain ⟨c, rfl, hc⟩ := hb
    show Value.bool c = Value.bool b
    congr 1
    rw [Bool.eq_iff_iff, hc]; exact h
  | .ref i, .ref j, x, h, hb => by
    refine ⟨?_, hb.2⟩
    have h : if i < m then i = j else l[i - m]? = some (some j) := h
    show glue m ρ0 (nuOf m l ρ) i = some x
    unfold glue nuOf
    split at h
    · rename_i hi; subst h; rw [if_pos hi, h0 i hi]; exact hb.1
    · rename_i hi; rw [if_neg hi, h]; exact hb.1
  | .ref i, .val (.slice none 0 0), x, h, hb => by
    have e : x = .slice none 0 0 := hb
    subst e
    refine ⟨?_, rfl⟩
    show glue m ρ0 (nuOf m l ρ) i = _
    unfold glue nuOf
    rw [if_neg (by have := h.1; omega), h.2]
  | .tf _, b, _, h, _ => by cases b <;> exact (show False from h).elim
  | .prop _, b, _, h, _ => by cases b <;> exact (show False from h).elim
  | .ptr _ _ _ _, b, _, h, _ => by cases b <;> exact (show False from h).elim
  | .clo _ _, b, _, h, _ => by cases b <;> exact (show False from h).elim
  | .val u, .ptr _ _ _ _, _, h, _ => by cases u <;> exact (show False from h).elim
  | .val u, .ref _, _, h, _ => by cases u <;> exact (show False from h).elim
  | .val u, .clo _ _, _, h, _ => by cases u <;> exact (show False from h).elim
  | .ref i, .tf _, _, h, _ => (show False from h).elim
  | .ref i, .prop _, _, h, _ => (show False from h).elim
  | .ref i, .ptr _ _ _ _, _, h, _ => (show False from h).elim
  | .ref i, .clo _ _, _, h, _ => (show False from h).elim
theorem RetAs.is_ {m : Nat} {l : List (Option Nat)} {ρ ρ0 : Rho} (h0 : ∀ i, i < m → ρ0 i = ρ i) : ∀ {a b : List At} {x : List Value}, RetAs m l a b → Ats ρ b x → Ats (glue m ρ0 (nuOf m l ρ)) a x
  | [], [], _, _, h => h
  | [], _ :: _, _, h, _ => h.elim
  | _ :: _, [], _, h, _ => h.elim
  | a :: r, b :: s, _, ⟨h1, h2⟩, ⟨u, q, hx, hu, hr⟩ => ⟨u, q, hx, RetA.is_ h0 h1 hu, RetAs.is_ h0 h2 hr⟩
theorem Ret1.is_ {m : Nat} {l : List (Option Nat)} {ρ ρ0 : Rho} (h0 : ∀ i, i < m → ρ0 i = ρ i) {a b : SV} {x : Value} (h : Ret1 m l a b) (hb : b.is1 ρ x) : a.is1 (glue m ρ0 (nuOf m l ρ)) x := by
  cases a <;> cases b <;> try exact (show False from h).elim
  · exact RetA.is_ h0 h hb
  · obtain ⟨c, hc, e⟩ := hb; exact ⟨c, RetAs.is_ h0 h hc, e⟩
theorem Rets.is_ {m : Nat} {l : List (Option Nat)} {ρ ρ0 : Rho} (h0 : ∀ i, i < m → ρ0 i = ρ i) : ∀ {a b : List SV} {x : List Value}, Rets m l a b → Svs ρ b x → Svs (glue m ρ0 (nuOf m l ρ)) a x
  | [], [], _, _, h => h
  | [], _ :: _, _, h, _ => h.elim
  | _ :: _, [], _, h, _ => h.elim
  | a :: r, b :: s, _, ⟨h1, h2⟩, ⟨u, q, hx, hu, hr⟩ => ⟨u, q, hx, Ret1.is_ h0 h1 hu, Rets.is_ h0 h2 hr⟩
theorem RetV.is_ {m : Nat} {l : List (Option Nat)} {ρ ρ0 : Rho} (h0 : ∀ i, i < m → ρ0 i = ρ i) {a b : SV} {x : Value} (h : RetV m l a b) (hb : b.is ρ x) : a.is (glue m ρ0 (nuOf m l ρ)) x := by
  cases a <;> cases b <;> try exact (show False from h).elim
  · exact RetA.is_ h0 h hb
  · obtain ⟨c, hc, e⟩ := hb; exact ⟨c, RetAs.is_ h0 h hc, e⟩
  · obtain ⟨c, hc, e⟩ := hb; exact ⟨c, Rets.is_ h0 h hc, e⟩
theorem flatten_len {s : Nat} : ∀ {rows : List (List At)}, (∀ r ∈ rows, r.length = s) → rows.flatten.length = rows.length * s
  | [], _ => by simp
  | r :: l, h => by
    rw [List.flatten_cons, List.length_append, flatten_len (rows := l) fun x hx => h x (List.mem_cons_of_mem _ hx), h r (List.mem_cons_self ..), List.length_cons, Nat.add_mul, Nat.one_mul, Nat.add_comm]
theorem ObRet.sat {B : Nat} {ρ ν : Rho} {w : World} {i j : Nat} {u o : Ob} (h : ObRet u o) (he : ν j = ρ i) (hs : Sat B ρ w i u) : isNew o = true ∧ Sat B ν w j o ∧ (∀ b, foot ν j o = some b → foot ρ i u = some b ∧ B ≤ b) ∧ u.mut = true := by
  cases u with
  | row t s n g =>
    obtain ⟨v, e, hr⟩ := hs
    have hf : ∀ b, foot ρ i (.row t s n g) = some b → B ≤ b := fun b hb => by
      obtain ⟨A, c, rfl, _, _, hc⟩ := hr
      rw [foot_row e] at hb
      split at hb
      · cases hb
      · rcases hc with ⟨_, q⟩ | ⟨g, cur, rfl, hB, _⟩
        · omega
        · simp at hb; omega
    cases o with
    | row t' s' n' g' =>
      obtain ⟨rfl, rfl, rfl, hg⟩ := h
      refine ⟨rfl, ⟨v, he.trans e, hr.congr fun k hk => (hg k hk).symm⟩, fun b hb => ?_, rfl⟩
      rw [foot_at he] at hb
      have hb' : foot ρ i (.row t s n g) = some b := hb
      exact ⟨hb', hf b hb'⟩
    | arr s' n' g' =>
      obtain ⟨rfl, rfl, hg⟩ := h
      refine ⟨rfl, ⟨v, he.trans e, (hr.congr fun k hk => (hg k hk).symm).arr⟩, fun b hb => ?_, rfl⟩
      rw [foot_at he] at hb
      have hb' : foot ρ i (.row t s n g) = some b := by
        obtain ⟨A, c, rfl, _, _, hc⟩ := hr
        unfold foot at hb ⊢
        rw [e]
        cases n with
        | zero => cases hb
        | succ n =>
          have hc0 : c ≠ 0 := by rcases hc with ⟨h, _⟩ | ⟨_, _, _, _, _, _, h, _⟩ <;> omega
          cases c with
          | zero => exact absurd rfl hc0
          | succ c => exact hb
      exact ⟨hb', hf b hb'⟩
    | rws t' e' s' n' vs' xs' =>
      obtain ⟨rfl, rfl, rfl, rfl⟩ := h
      have hr' : RowIs B w v t 1 0 fun k => [vs' k] := hr.congr fun k hk => absurd hk (Nat.not_lt_zero _)
      refine ⟨rfl, ⟨⟨_, he.trans e, hr'⟩, fun k _ _ hk => absurd hk (Nat.not_lt_zero _), fun j _ _ _ _ hj => absurd hj (Nat.not_lt_zero _)⟩, fun b hb => ?_, rfl⟩
      rw [foot_at he] at hb
      have hb' : foot ρ i (.row t 1 0 g) = some b := hb
      exact ⟨hb', hf b hb'⟩
    | _ => exact (show False from h).elim
  | rws t e s n vs xs =>
    cases o with
    | rws t' e' s' n' vs' xs' =>
      have hle : ObLe (.rws t e s n vs xs) (.rws t' e' s' n' vs' xs') := h
      obtain ⟨s1, s2, _⟩ := hle.sat hs
      refine ⟨rfl, s1.at_ rfl he, fun b hb => ?_, rfl⟩
      rw [foot_at he] at hb
      exact ⟨s2 b hb, mut_ge hs rfl (s2 b hb)⟩
    | _ => exact (show False from h).elim
  | lit t s rows =>
    cases o with
    | arr s' n' g' =>
      obtain ⟨h1, h2, h3⟩ := h
      obtain ⟨v, e, hr⟩ := ObTo.ro (σ := id) (u := .lit t s rows) (o := .arr s' n' g') ⟨h1, h2, h3⟩ hs (by obtain ⟨b', cs, e', hB, _, _, _, hh⟩ := hs; have := (Array.getElem?_eq_some_iff.1 hh).1; omega)
      refine ⟨rfl, ⟨v, he.trans e, hr⟩, fun b hb => ?_, rfl⟩
      rw [foot_at he] at hb
      obtain ⟨b', cs, e', hB, _⟩ := hs
      have hb' : foot ρ i (.lit t s rows) = some b := by
        unfold foot at hb ⊢
        cases n' with
        | zero => cases hb
        | succ n => exact hb
      refine ⟨hb', ?_⟩
      simp only [foot, base, e', Option.map_some] at hb'
      injection hb' with hb'; omega
    | row t' s' n' g' =>
      obtain ⟨rfl, rfl, rfl, h0, hg⟩ := h
      obtain ⟨b', cs, e', hB, hrs, hn, hl, hh⟩ := hs
      have hgk : ∀ k, k < rows.length → (cs.drop (k * s)).take s = g' k := fun k hk => by
        have hr : rows[k]? = some (rows[k]'hk) := List.getElem?_eq_getElem hk
        have e1 := FinL1.is_ (hg.get hr) (lit_at hrs hl hr)
        rwa [Nat.zero_add] at e1
      have hcs : cs.length = rows.length * s := by rw [hl.length]; exact flatten_len hrs
      have hfr : foot ρ i (.lit t s rows) = some b' := by simp only [foot, base, e', Option.map_some]
      refine ⟨rfl, ⟨_, he.trans e', _, _, rfl, hn, fun k hk => ?_, .inr ⟨b', cs.toArray, rfl, hB, hh, Nat.le_refl _, h0, by simp only [maxLen]; omega, by simpa using hcs, ?_⟩⟩, fun b hb => ?_, rfl⟩
      · rw [← hgk k hk]
        have : (k + 1) * s ≤ cs.length := by rw [hcs]; exact Nat.mul_le_mul_right _ hk
        rw [List.length_take, List.length_drop]
        rw [Nat.add_mul] at this
        omega
      · have e2 := flat_cut hcs
        have e3 : flat (fun k => (cs.drop (k * s)).take s) rows.length = flat g' rows.length := flat_congr hgk
        rw [List.take_of_length_le (by simp [hcs]), ← e3, e2]
      · rw [foot_row (he.trans e'), if_neg (by omega)] at hb
        injection hb with hb
        have hb : b' = b := hb
        subst hb
        exact ⟨hfr, hB⟩
    | _ => exact (show False from h).elim
  | _ => cases o <;> exact (show False from h).elim
theorem ObNil.sat {B : Nat} {ν : Rho} {w : World} {j : Nat} {o : Ob} (h : ObNil o) (he : ν j = some (.slice none 0 0)) : isNew o = true ∧ Sat B ν w j o ∧ ∀ b, foot ν j o ≠ some b := by
  cases o with
  | row t s n g =>
    have e : n = 0 := h
    subst e
    exact ⟨rfl, ⟨_, he, none, 0, rfl, by omega, fun k hk => by omega, .inl ⟨rfl, rfl⟩⟩, fun b hb => by rw [foot_row he] at hb; simp at hb⟩
  | arr s n g =>
    have e : n = 0 := h
    subst e
    exact ⟨rfl, ⟨_, he, none, 0, rfl, by omega, by omega, fun k hk => by omega⟩, fun b hb => by simp [foot] at hb⟩
  | rws t e s n vs xs =>
    have e : n = 0 := h
    subst e
    exact ⟨rfl, ⟨⟨_, he, none, 0, rfl, by omega, fun k hk => by omega, .inl ⟨rfl, rfl⟩⟩, fun k _ _ hk => absurd hk (Nat.not_lt_zero _), fun j _ _ _ _ hj => absurd hj (Nat.not_lt_zero _)⟩, fun b hb => by simp [foot, he] at hb⟩
  | _ => exact (show False from h).elim
theorem ObRet.sub {u o : Ob} (h : ObRet u o) {b : Nat} (hs : sub o b) : sub u b := by
  cases o with
  | rws t' e' s' n' vs' xs' =>
    cases u with
    | rws t e s n vs xs => exact ObLe.sub (o := .rws t e s n vs xs) (o' := .rws t' e' s' n' vs' xs') h hs
    | row t s n get =>
      obtain ⟨rfl, rfl, rfl, rfl⟩ := h
      obtain ⟨k, x, hk, _⟩ := hs
      exact absurd hk (Nat.not_lt_zero _)
    | _ => exact (show False from h).elim
  | _ => exact hs.elim
theorem ObNil.sub {o : Ob} (h : ObNil o) {b : Nat} : ¬ sub o b := by
  cases o with
  | rws t e s n vs xs =>
    have e : n = 0 := h
    subst e
    rintro ⟨k, x, hk, _⟩
    exact absurd hk (Nat.not_lt_zero _)
  | _ => exact fun h => h
theorem NRet.spec {m : Nat} {v : SV} {ros : List Ob} {v1 : SV} {obs' : Obs} {B nx' : Nat} {ρ ρ' : Rho} {w' : World} {y : Value} (hin : ∀ i, i < m → ρ i = ρ' i) (hv : v1.is ρ' y) (hC : Cls B ρ' obs' nx' w') (h : NRet m v ros v1 obs') : ∃ ν, v.is (glue m ρ ν) y ∧ News B m ν w' ros := by
  obtain ⟨⟨l, h0, h1, h2⟩⟩ := h
  obtain ⟨hl, hg⟩ := RetO.get h2
  have nu : ∀ (j : Nat) q, l[j]? = some q → nuOf m l ρ' (m + j) = match q with | some i => ρ' i | none => some (.slice none 0 0) := fun j q hq => by
    unfold nuOf
    rw [show m + j - m = j by omega, hq]
    cases q <;> rfl
  refine ⟨nuOf m l ρ', RetV.is_ hin h1 hv, ⟨fun j o ho => ?_, fun j k o o' b hj hk' hne f1 f2 => ?_, fun j k o o' b hj hk' hs => ?_⟩⟩
  · rcases hg j o ho with ⟨q1, q2⟩ | ⟨i, u, q1, q2, q3⟩
    · obtain ⟨_, s1, s2⟩ := q2.sat (B := B) (w := w') (nu j none q1)
      exact ⟨s1, fun b hb => absurd hb (s2 b)⟩
    · obtain ⟨_, s1, s2, _⟩ := q3.sat (nu j (some i) q1) (hC.sat i u q2)
      exact ⟨s1, fun b hb => (s2 b hb).2⟩
  · rcases hg j o hj with ⟨q1, q2⟩ | ⟨i, u, q1, q2, q3⟩
    · obtain ⟨_, s1, s2⟩ := q2.sat (B := B) (w := w') (nu j none q1)
      exact s2 b f1
    rcases hg k o' hk' with ⟨r1, r2⟩ | ⟨i', u', r1, r2, r3⟩
    · obtain ⟨_, s1, s2⟩ := r2.sat (B := B) (w := w') (nu k none r1)
      exact s2 b f2
    obtain ⟨_, _, s2, s3⟩ := q3.sat (nu j (some i) q1) (hC.sat i u q2)
    obtain ⟨_, _, t2, _⟩ := r3.sat (nu k (some i') r1) (hC.sat i' u' r2)
    refine hC.apart i i' u u' b q2 r2 (fun e => ?_) s3 (s2 b f1).1 (t2 b f2).1
    subst e
    exact hne (somes_inj h0 q1 r1)
  · rcases hg j o hj with ⟨q1, q2⟩ | ⟨i, u, q1, q2, q3⟩
    · exact absurd hs q2.sub
    have su := q3.sub hs
    rcases hg k o' hk' with ⟨r1, r2⟩ | ⟨i', u', r1, r2, r3⟩
    · obtain ⟨_, s1, s2⟩ := r2.sat (B := B) (w := w') (nu k none r1)
      exact ⟨s2 b, fun _ => r2.sub⟩
    obtain ⟨_, _, t2, _⟩ := r3.sat (nu k (some i') r1) (hC.sat i' u' r2)
    refine ⟨fun f => (hC.apx i i' u u' b q2 r2 su).1 (t2 b f).1, fun hne s' => ?_⟩
    refine (hC.apx i i' u u' b q2 r2 su).2 (fun e => ?_) (r3.sub s')
    subst e
    exact hne (somes_inj h0 q1 r1)
theorem FnR.mk_ {P : Program} {T : TT} (hT : TTok P T) (hm : P.follows .mixedOrders = true) {f : FuncId} {fn : Func} {c : Code} (hf : P.funcs[f]? = some fn) (hb : fn.body = some c) {sz : Nat} (hs : fn.ntmps = sz) {os : List Ob} {args : List SV} {v : SV} {ros : List Ob}
    (hB : hasBody P f = true) (hsz : Nat.ble args.length sz = true) (hab : (argB os.length args && os.all (obB os.length)) = true) (hn : ros.all isNew = true) (hk : svBv (os.length + ros.length) v = true) (h : vc P T sz os.length c (argEnv 0 args) (obsOf 0 os) os.length (fnK T fn.results.toList fun v1 obs1 _ => NRet os.length v ros v1 obs1)) : FnR P f os args v ros :=
  ⟨hB, hn, hk, fun w ρ xs hr ha => by
    have hr' : ∀ (i : Nat) o, os[i]? = some o → ∃ v, V.cut os.length ρ i = some v ∧ Ro (V.cut os.length ρ) w v o := fun i o ho => by
      obtain ⟨v, e, q⟩ := hr i o ho
      exact ⟨v, by rw [cut_lt (List.getElem?_eq_some_iff.1 ho).1]; exact e, q.cut (List.all_eq_true.1 ((Bool.and_eq_true _ _).mp hab).2 o (List.mem_of_getElem? ho))⟩
    refine (fn_sound hT hm hf hb hs hsz h (Cls.start hr' (fun i hi => if_neg (by omega))) (xs := xs.toArray) (by simpa using ha.cut ((Bool.and_eq_true _ _).mp hab).1)).mono ?_
    rintro e w' ⟨ρ', v1, obs', nx', y, hret, he, hv, hC, hw, hx, _⟩
    have hin : ∀ i, i < os.length → ρ i = ρ' i := fun i hi => by
      obtain ⟨u, eu, _⟩ := hr i _ (List.getElem?_eq_getElem hi)
      rw [eu]
      exact (hx i u (by rw [cut_lt hi]; exact eu)).symm
    obtain ⟨ν, q1, q2⟩ := hret.spec hin hv hC
    exact ⟨ν, y, he, q1, q2, hw⟩⟩
structure FnX {ι : Type} (P : Program) (f : FuncId) (os : List Ob) (args : List SV) (v : SV) (ros : ι → List Ob) : Prop where
  b : hasBody P f = true
  n : ∀ x, (ros x).all isNew = true
  k : ∀ x, svBv (os.length + (ros x).length) v = true
  c : ∀ w ρ xs, (∀ (i : Nat) o, os[i]? = some o → ∃ v, ρ i = some v ∧ Ro ρ w v o) → Svs ρ args xs → Calls P f xs.toArray w fun e w' => ∃ z ν x, e = .returned x ∧ v.is (glue os.length ρ ν) x ∧ News w.heap.size os.length ν w' (ros z) ∧ Belw w.heap.size w w'
structure NRetX {ι : Type} (m : Nat) (v : SV) (ros : ι → List Ob) (v1 : SV) (obs1 : Obs) : Prop where
  h : ∃ z, NRet m v (ros z) v1 obs1
theorem FnX.mk_ {ι : Type} {P : Program} {T : TT} (hT : TTok P T) (hm : P.follows .mixedOrders = true) {f : FuncId} {fn : Func} {c : Code} (hf : P.funcs[f]? = some fn) (hb : fn.body = some c) {sz : Nat} (hs : fn.ntmps = sz) {os : List Ob} {args : List SV} {v : SV} {ros : ι → List Ob}
    (hB : hasBody P f = true) (hsz : Nat.ble args.length sz = true) (hab : (argB os.length args && os.all (obB os.length)) = true) (hn : ∀ z, (ros z).all isNew = true) (hk : ∀ z, svBv (os.length + (ros z).length) v = true) (h : vc P T sz os.length c (argEnv 0 args) (obsOf 0 os) os.length (fnK T fn.results.toList fun v1 obs1 _ => NRetX os.length v ros v1 obs1)) : FnX P f os args v ros :=
  ⟨hB, hn, hk, fun w ρ xs hr ha => by
    have hr' : ∀ (i : Nat) o, os[i]? = some o → ∃ v, V.cut os.length ρ i = some v ∧ Ro (V.cut os.length ρ) w v o := fun i o ho => by
      obtain ⟨v, e, q⟩ := hr i o ho
      exact ⟨v, by rw [cut_lt (List.getElem?_eq_some_iff.1 ho).1]; exact e, q.cut (List.all_eq_true.1 ((Bool.and_eq_true _ _).mp hab).2 o (List.mem_of_getElem? ho))⟩
    refine (fn_sound hT hm hf hb hs hsz h (Cls.start hr' (fun i hi => if_neg (by omega))) (xs := xs.toArray) (by simpa using ha.cut ((Bool.and_eq_true _ _).mp hab).1)).mono ?_
    rintro e w' ⟨ρ', v1, obs', nx', y, ⟨z, hret⟩, he, hv, hC, hw, hx, _⟩
    have hin : ∀ i, i < os.length → ρ i = ρ' i := fun i hi => by
      obtain ⟨u, eu, _⟩ := hr i _ (List.getElem?_eq_getElem hi)
      rw [eu]
      exact (hx i u (by rw [cut_lt hi]; exact eu)).symm
    obtain ⟨ν, q1, q2⟩ := hret.spec hin hv hC
    exact ⟨z, ν, y, he, q1, q2, hw⟩⟩
theorem FnX.goA {ι : Type} {P : Program} {f : FuncId} {os : List Ob} {args args' : List SV} {v : SV} {ros : ι → List Ob} (h : FnX P f os args v ros) (σ : List Nat) {obs : Obs} {nx : Nat} {K : SV → Obs → Nat → Prop} (ha : SameS (sg σ) args args') (ho : ObsTo (sg σ) obs 0 os)
    (hK : ∀ z, K (renV (tau os.length σ nx) v) (newO nx (ros z) obs) (nx + (ros z).length)) : NCallA P f args' obs nx K :=
  ⟨h.b, fun B ρ w xs hC hs => by
    have hr := fun (i : Nat) o hi => by have := ObsTo.ro hC ho i o hi; simpa using this
    refine (h.c w (fun i => ρ (sg σ i)) xs hr (ha.is_ hs)).mono ?_
    rintro e w' ⟨z, ν, x, he, hv, hN, hw⟩
    let ρ' : Rho := fun i => if i < nx then ρ i else if i < nx + (ros z).length then ν (os.length + (i - nx)) else none
    have e1 : ∀ i, i < nx → ρ' i = ρ i := fun i hi => if_pos hi
    have e2 : ∀ j, j < (ros z).length → ρ' (nx + j) = ν (os.length + j) := fun j hj => by
      show (if nx + j < nx then _ else if nx + j < nx + (ros z).length then _ else _) = _
      rw [if_neg (by omega), if_pos (by omega)]; congr 2; omega
    have e3 : ∀ i, nx + (ros z).length ≤ i → ρ' i = none := fun i hi => by
      show (if i < nx then _ else if i < nx + (ros z).length then _ else _) = _
      rw [if_neg (by omega), if_neg (by omega)]
    refine ⟨_, _, _, ρ', x, hK z, fun i y hy => ?_, he, SV.renv (SV.is_agree (h.k z) (fun i hi => ?_) hv), hC.adds hw (h.n z) hN e1 e2 e3, hw⟩
    · by_cases hi : i < nx
      · rw [e1 i hi]; exact hy
      · rw [hC.new i (by omega)] at hy; cases hy
    · show glue os.length _ ν i = ρ' (tau os.length σ nx i)
      unfold glue tau
      by_cases hi' : i < os.length
      · rw [if_pos hi', if_pos hi']
        obtain ⟨y, hy, _⟩ := hr i _ (List.getElem?_eq_getElem hi')
        have hy : ρ (sg σ i) = some y := hy
        have : sg σ i < nx := by
          rcases Nat.lt_or_ge (sg σ i) nx with q | q
          · exact q
          · rw [hC.new _ q] at hy; cases hy
        exact (e1 _ this).symm
      · rw [if_neg hi', if_neg hi', e2 (i - os.length) (by omega)]; congr 1; omega⟩
theorem er {m : Nat} {v : SV} {ros : List Ob} {v1 : SV} {obs1 : Obs} (k : Nat) (h1 : RetV m [some k] v v1 := by (repeat' (first | exact rfl | exact trivial | refine ⟨?_, ?_⟩)); all_goals fail) (h2 : RetO obs1 [some k] ros := by exact ⟨⟨rfl, rfl, rfl, fun k hk => absurd hk (Nat.not_lt_zero _)⟩, trivial⟩) : NRet m v ros v1 obs1 := .mk_ [some k] rfl h1 h2
end Go.Proofs.YtlbffibpcjjpkaaDoor.V

namespace Go.Proofs.YtlbffibpcjjpkaaDoor.V
open Go Go.RowKit Go.ChangeShapes Go.WideShapes Go.Deep
variable [Dr]
def ga {α : Type} [Inhabited α] (en : α → List Value) (l : List α) : Nat → List Value := fun k => en (l.getD k default)
def e1 (x : Int) : List Value := [.int .i64 x]
def eb (x : UInt8) : List Value := [.int .u8 x.toNat]
theorem ga_at {α : Type} [Inhabited α] {en : α → List Value} {l : List α} {k : Nat} (h : k < l.length) : ga en l k = en l[k] := by
  simp [ga, List.getD, List.getElem?_eq_getElem h]
theorem _root_.Go.Proofs.YtlbffibpcjjpkaaDoor.V.NApp.one {α : Type} [Inhabited α] {en : α → List Value} {l : List α} {x : α} {bytes : Nat} {K : Nat → (Nat → List Value) → Prop} (h1 : (l.length + 1) * bytes ≤ 140737488355328) (h2 : l.length + 1 ≤ 9223372036854775807) (hK : K (l ++ [x]).length (ga en (l ++ [x]))) :
    NApp l.length 1 (ga en l) (listG [en x]) bytes K :=
  ⟨⟨_, _, by simp, by simpa using h2, by simpa using h1, fun k hk => by rw [ga_at (by simp; omega), ga_at hk, List.getElem_append_left hk], fun k hk => by
    obtain rfl : k = 0 := by omega
    rw [Nat.add_zero, ga_at (by simp)]; simp [listG], hK⟩⟩
theorem b4 {α : Type} [Inhabited α] {en : α → List Value} {l : List α} {x : α} {bytes : Nat} {K : Nat → (Nat → List Value) → Prop} (hK : K (l ++ [x]).length (ga en (l ++ [x]))) (h1 : (l.length + 1) * bytes ≤ 140737488355328 := by first | omega | (simp; omega)) (h2 : l.length + 1 ≤ 9223372036854775807 := by first | omega | (simp; omega)) :
    NApp l.length 1 (ga en l) (listG [en x]) bytes K := NApp.one h1 h2 hK
theorem _root_.Go.Proofs.YtlbffibpcjjpkaaDoor.V.NApp.first {α : Type} [Inhabited α] {en : α → List Value} {x : α} {get : Nat → List Value} {bytes : Nat} {K : Nat → (Nat → List Value) → Prop} (h1 : bytes ≤ 140737488355328) (hK : K [x].length (ga en [x])) :
    NApp 0 1 get (listG [en x]) bytes K :=
  ⟨⟨_, _, rfl, by simp, by simpa using h1, fun k hk => absurd hk (by omega), fun k hk => by
    obtain rfl : k = 0 := by omega
    rfl, hK⟩⟩
theorem _root_.Go.Proofs.YtlbffibpcjjpkaaDoor.V.NApp.all_ {α : Type} [Inhabited α] {en : α → List Value} {m : List α} {get : Nat → List Value} {bytes : Nat} {K : Nat → (Nat → List Value) → Prop} (h1 : m.length * bytes ≤ 140737488355328) (h2 : m.length ≤ 9223372036854775807) (hK : K m.length (ga en m)) :
    NApp 0 m.length get (ga en m) bytes K :=
  ⟨⟨_, _, by simp, h2, h1, fun k hk => absurd hk (by omega), fun k hk => by rw [Nat.zero_add], hK⟩⟩
theorem _root_.Go.Proofs.YtlbffibpcjjpkaaDoor.V.NPut.at_ {α : Type} [Inhabited α] {en : α → List Value} {l : List α} {k : Nat} (x : α) {r : List Value} {K : (Nat → List Value) → Prop} (hr : r = en x) (hK : K (ga en (l.set k x))) :
    NPut l.length k (ga en l) r K :=
  ⟨⟨_, fun k' hk => by
    rw [ga_at (by simpa using hk), ga_at hk, List.getElem_set, hr]
    by_cases e : k = k'
    · subst e; simp
    · rw [if_neg e, if_neg (fun q => e q.symm)], hK⟩⟩
theorem _root_.Go.Proofs.YtlbffibpcjjpkaaDoor.V.NPut.to {α : Type} [Inhabited α] {en : α → List Value} {l : List α} {n k : Nat} (x : α) {r : List Value} {K : (Nat → List Value) → Prop} (hn : l.length = n) (hr : r = en x) (hK : K (ga en (l.set k x))) :
    NPut n k (ga en l) r K := by
  subst hn
  exact NPut.at_ x hr hK
theorem _root_.Go.Proofs.YtlbffibpcjjpkaaDoor.V.NPut.is_ {α : Type} [Inhabited α] {en : α → List Value} {l : List α} {n k : Nat} (x : α) (l' : List α) {r : List Value} {K : (Nat → List Value) → Prop} (e : l.set k x = l') (hn : l.length = n) (hr : r = en x) (hK : K (ga en l')) :
    NPut n k (ga en l) r K := by
  subst e
  exact NPut.to x hn hr hK
theorem _root_.Go.Proofs.YtlbffibpcjjpkaaDoor.V.ObLe.is_ {α : Type} [Inhabited α] {en : α → List Value} {t s n : Nat} {l l' : List α} (e : l' = l) (hn : n = l'.length) : ObLe (.row t s n (ga en l)) (.row t s l'.length (ga en l')) := by
  subst e hn
  exact ⟨rfl, rfl, rfl, fun k hk => rfl⟩
section
variable {H : Type} {enc : TypeId × Value → H} {P : Program} {w : World} {base : Nat} {spare : Nat → Bool} {held : Bool}
end
theorem ArrIs.one {w : World} {v : Value} {s n : Nat} {get : Nat → List Value} (h : ArrIs w v s n get) : v.oneCell' = true := by
  obtain ⟨_, _, rfl, _⟩ := h; rfl
end Go.Proofs.YtlbffibpcjjpkaaDoor.V

namespace Go.Proofs.YtlbffibpcjjpkaaDoor.M
def Amt (a : Int) : Prop := -1152921504606846976 ≤ a ∧ a ≤ 1152921504606846976
instance (a : Int) : Decidable (Amt a) := by unfold Amt; exact inferInstance
def chk (a : Int) : Int := if Amt a then 0 else 3
theorem chk_yes {a : Int} (h : Amt a) : chk a = 0 := if_pos h
theorem chk_no {a : Int} (h : ¬ Amt a) : chk a = 3 := if_neg h
def POk (a b c : Int) : Prop := Amt a ∧ (0 ≤ b ∧ b ≤ 1099511627776) ∧ (1 ≤ c ∧ c ≤ 1099511627776)
instance (a b c : Int) : Decidable (POk a b c) := by unfold POk; exact inferInstance
def ckE (a b c : Int) : Int := if POk a b c then 0 else 3
theorem ck_yes {a b c : Int} (h : POk a b c) : ckE a b c = 0 := if_pos h
theorem ck_no {a b c : Int} (h : ¬ POk a b c) : ckE a b c = 3 := if_neg h
def prE (a b c : Int) : Int := if ¬ POk a b c then 3 else if ¬ Amt (a * b / c) then 8 else 0
def prQ (a b c : Int) : Int := if POk a b c ∧ Amt (a * b / c) then a * b / c else 0
def prR (a b c : Int) : Int := if POk a b c ∧ Amt (a * b / c) then a * b % c else 0
theorem pr_1 {a b c : Int} (h : ¬ POk a b c) : prE a b c = 3 ∧ prQ a b c = 0 ∧ prR a b c = 0 := ⟨if_pos h, if_neg fun q => h q.1, if_neg fun q => h q.1⟩
theorem pr_2 {a b c : Int} (h : POk a b c) (k : ¬ Amt (a * b / c)) : prE a b c = 8 ∧ prQ a b c = 0 ∧ prR a b c = 0 := ⟨by unfold prE; rw [if_neg (by simpa using h), if_pos k], if_neg fun q => k q.2, if_neg fun q => k q.2⟩
theorem pr_3 {a b c : Int} (h : POk a b c) (k : Amt (a * b / c)) : prE a b c = 0 ∧ prQ a b c = a * b / c ∧ prR a b c = a * b % c := ⟨by unfold prE; rw [if_neg (by simpa using h), if_neg (by simpa using k)], if_pos ⟨h, k⟩, if_pos ⟨h, k⟩⟩
theorem pr_ok {a b c : Int} (h : prE a b c = 0) : POk a b c ∧ Amt (a * b / c) := by
  by_cases p : POk a b c
  · by_cases k : Amt (a * b / c)
    · exact ⟨p, k⟩
    · rw [(pr_2 p k).1] at h; omega
  · rw [(pr_1 p).1] at h; omega
theorem pr_cases (a b c : Int) : (prE a b c = 3 ∧ ¬ POk a b c) ∨ (prE a b c = 8 ∧ POk a b c ∧ ¬ Amt (a * b / c)) ∨ (prE a b c = 0 ∧ POk a b c ∧ Amt (a * b / c)) := by
  by_cases p : POk a b c
  · by_cases k : Amt (a * b / c)
    · exact .inr (.inr ⟨(pr_3 p k).1, p, k⟩)
    · exact .inr (.inl ⟨(pr_2 p k).1, p, k⟩)
  · exact .inl ⟨(pr_1 p).1, p⟩
theorem pr_z {a b c : Int} (h : prE a b c ≠ 0) : prQ a b c = 0 ∧ prR a b c = 0 := by
  rcases pr_cases a b c with ⟨_, p⟩ | ⟨_, p, k⟩ | ⟨e, _⟩
  · exact (pr_1 p).2
  · exact (pr_2 p k).2
  · exact absurd e h
theorem r_bd {x c : Int} (h : 1 ≤ c) : 0 ≤ x % c ∧ x % c < c := ⟨Int.emod_nonneg _ (by omega), Int.emod_lt_of_pos _ (by omega)⟩
theorem qr (x c : Int) : c * (x / c) + x % c = x := Int.mul_ediv_add_emod x c
def up (q r c : Int) : Int := if c < 2 * r ∨ (2 * r = c ∧ q % 2 ≠ 0) then q + 1 else q
def chks (l : List Int) : Int := if ∀ a ∈ l, Amt a then 0 else 3
theorem chks_no {l : List Int} (h : ¬ ∀ a ∈ l, Amt a) : chks l = 3 := if_neg h
theorem two {x y c : Int} (hc : 1 ≤ c) : x / c + y / c ≤ (x + y) / c ∧ (x + y) / c ≤ x / c + y / c + 1 := by
  have h1 := qr x c
  have h2 := qr y c
  have h3 := r_bd (x := x) hc
  have h4 := r_bd (x := y) hc
  refine ⟨(Int.le_ediv_iff_mul_le (by omega)).2 ?_, ?_⟩
  · have : (x / c + y / c) * c = c * (x / c) + c * (y / c) := by rw [Int.add_mul, Int.mul_comm, Int.mul_comm (y / c)]
    omega
  · apply Int.le_of_lt_add_one
    apply Int.ediv_lt_of_lt_mul (by omega)
    have : (x / c + y / c + 1 + 1) * c = c * (x / c) + c * (y / c) + c + c := by
      rw [Int.add_mul, Int.add_mul, Int.add_mul, Int.mul_comm, Int.mul_comm (y / c)]; omega
    omega
theorem neg_part {x c : Int} (hc : 1 ≤ c) : (x % c = 0 ∧ (-x) / c = -(x / c) ∧ (-x) % c = 0) ∨ (0 < x % c ∧ (-x) / c = -(x / c) - 1 ∧ (-x) % c = c - x % c) := by
  have h1 := qr x c
  have h3 := r_bd (x := x) hc
  by_cases h : x % c = 0
  · left
    have e : -x = c * (-(x / c)) := by rw [Int.mul_neg]; omega
    exact ⟨h, by rw [e]; exact Int.mul_ediv_cancel_left _ (by omega), by rw [e]; exact Int.mul_emod_right _ _⟩
  · right
    have e : -x = (c - x % c) + c * (-(x / c) - 1) := by
      rw [Int.mul_sub, Int.mul_neg]; omega
    refine ⟨by omega, ?_, ?_⟩
    · rw [e, Int.add_mul_ediv_left _ _ (by omega), Int.ediv_eq_zero_of_lt (by omega) (by omega)]; omega
    · rw [e, Int.add_mul_emod_self_left]; exact Int.emod_eq_of_lt (by omega) (by omega)
end Go.Proofs.YtlbffibpcjjpkaaDoor.M

namespace Go.Proofs.YtlbffibpcjjpkaaDoor.V
theorem too_great {a b u d q r : Nat} (h : q * a + r = u) : (r * 4294967296 + d < q * b) ↔ (u * 4294967296 + d < q * (a * 4294967296 + b)) := by
  have e : q * (a * 4294967296 + b) = q * a * 4294967296 + q * b := by rw [Nat.mul_add, Nat.mul_assoc]
  rw [e, ← h, Nat.add_mul]
  omega
theorem digit_le {V N q : Nat} (hb : N < q * V) : N / V ≤ q - 1 := by
  have h1 : N / V < q := Nat.div_lt_of_lt_mul (by rw [Nat.mul_comm]; exact hb)
  omega
theorem digit_eq {V N q : Nat} (h : N / V ≤ q) (hb : ¬ N < q * V) (hV : 0 < V) : q = N / V := by
  have h1 : q ≤ N / V := (Nat.le_div_iff_mul_le hV).2 (by omega)
  omega
theorem guess_ge {a b u d : Nat} (ha : 0 < a) (hd : d < 4294967296) : (u * 4294967296 + d) / (a * 4294967296 + b) ≤ u / a := by
  apply Nat.le_of_lt_succ
  apply Nat.div_lt_of_lt_mul
  have h1 : u < a * (u / a + 1) := by have := Nat.lt_mul_div_succ u ha; exact this
  have h2 : (u + 1) * 4294967296 ≤ a * (u / a + 1) * 4294967296 := Nat.mul_le_mul_right _ h1
  have h3 : (a * 4294967296 + b) * (u / a + 1) = a * (u / a + 1) * 4294967296 + b * (u / a + 1) := by
    rw [Nat.add_mul]; congr 1; rw [Nat.mul_assoc, Nat.mul_comm 4294967296, ← Nat.mul_assoc]
  show u * 4294967296 + d < (a * 4294967296 + b) * (u / a + 1)
  rw [h3]; omega
theorem wide_great {V u d q : Nat} (hu : u < V) (hd : d < 4294967296) (hq : 4294967296 ≤ q) : u * 4294967296 + d < q * V := by
  have h1 : (u + 1) * 4294967296 ≤ V * 4294967296 := Nat.mul_le_mul_right _ hu
  have h2 : 4294967296 * V ≤ q * V := Nat.mul_le_mul_right _ hq
  have h3 : 4294967296 * V = V * 4294967296 := Nat.mul_comm _ _
  omega
theorem wide_rest {a b u d q r : Nat} (h : q * a + r = u) (hu : u < a * 4294967296 + b) (hb : b < 4294967296) (hr : 4294967296 ≤ r) : q < 4294967296 ∧ ¬ u * 4294967296 + d < q * (a * 4294967296 + b) := by
  have hq : q < 4294967296 := by
    apply Classical.byContradiction; intro hc
    have h1 : 4294967296 * a ≤ q * a := Nat.mul_le_mul_right _ (by omega)
    have h2 : 4294967296 * a = a * 4294967296 := Nat.mul_comm _ _
    omega
  refine ⟨hq, ?_⟩
  rw [← too_great h]
  have h3 : q * b ≤ 4294967295 * b := Nat.mul_le_mul_right _ (by omega)
  omega
theorem two_digits_ {K V N d0 : Nat} (hV : 0 < V) : (N / V) * K + ((N % V) * K + d0) / V = (N * K + d0) / V ∧ ((N % V) * K + d0) % V = (N * K + d0) % V := by
  have h := Nat.div_add_mod N V
  generalize N / V = q1 at *
  generalize N % V = r1 at *
  have e : N * K + d0 = (r1 * K + d0) + V * (q1 * K) := by
    rw [← h, Nat.add_mul, Nat.mul_assoc]; omega
  rw [e, Nat.add_mul_div_left _ _ hV, Nat.add_mul_mod_self_left]
  exact ⟨by omega, rfl⟩
theorem shift_div {N y s : Nat} (hs : 0 < s) : (N * s) / (y * s) = N / y ∧ (N * s) % (y * s) / s = N % y := by
  refine ⟨Nat.mul_div_mul_right _ _ hs, ?_⟩
  rw [Nat.mul_mod_mul_right]
  exact Nat.mul_div_cancel _ hs
end Go.Proofs.YtlbffibpcjjpkaaDoor.V

namespace Go.Proofs.YtlbffibpcjjpkaaDoor.V
open Go.Lib
theorem bl : ∀ (f x : Nat), x ≠ 0 → x < 2 ^ f → f ≤ 64 → 1 ≤ Lib.bitLen x ∧ Lib.bitLen x ≤ f ∧ 2 ^ (Lib.bitLen x - 1) ≤ x ∧ x < 2 ^ Lib.bitLen x
  | 0, x, h0, h, _ => by simp at h; exact absurd h h0
  | f + 1, x, h0, h, hf => by
    have h64 : x < 2 ^ 64 := Nat.lt_of_lt_of_le h (Nat.pow_le_pow_right (by omega) hf)
    rw [Lib.bitLen_half x h0 h64]
    by_cases hx : x / 2 = 0
    · have : x = 1 := by omega
      subst this
      rw [hx]
      have e : Lib.bitLen 0 = 0 := rfl
      rw [e]
      exact ⟨by omega, by omega, by decide, by decide⟩
    · have hlt : x / 2 < 2 ^ f := by rw [Nat.pow_succ] at h; omega
      obtain ⟨a, b, c, d⟩ := bl f (x / 2) hx hlt (by omega)
      generalize Lib.bitLen (x / 2) = k at *
      obtain ⟨j, rfl⟩ : ∃ j, k = j + 1 := ⟨k - 1, by omega⟩
      have e1 : 1 + (j + 1) - 1 = j + 1 := by omega
      have e2 : j + 1 - 1 = j := by omega
      rw [e1]
      rw [e2] at c
      have e3 : (2 : Nat) ^ (1 + (j + 1)) = 2 ^ (j + 1) * 2 := by rw [Nat.add_comm, Nat.pow_succ]
      rw [e3]
      have e4 : (2 : Nat) ^ (j + 1) = 2 ^ j * 2 := Nat.pow_succ ..
      refine ⟨by omega, by omega, by omega, by omega⟩
theorem lead {y : Nat} (h0 : y ≠ 0) (h : y < 18446744073709551616) : Lib.bitLen y ≤ 64 ∧ 1 ≤ Lib.bitLen y ∧ 9223372036854775808 ≤ y * 2 ^ (64 - Lib.bitLen y) ∧ y * 2 ^ (64 - Lib.bitLen y) < 18446744073709551616 := by
  obtain ⟨a, b, c, d⟩ := bl 64 y h0 h (Nat.le_refl _)
  have e1 : 2 ^ (Lib.bitLen y - 1) * 2 ^ (64 - Lib.bitLen y) = 9223372036854775808 := by
    rw [← Nat.pow_add, show Lib.bitLen y - 1 + (64 - Lib.bitLen y) = 63 from by omega]
  have e2 : 2 ^ Lib.bitLen y * 2 ^ (64 - Lib.bitLen y) = 18446744073709551616 := by
    rw [← Nat.pow_add, show Lib.bitLen y + (64 - Lib.bitLen y) = 64 from by omega]
  have hp : 0 < 2 ^ (64 - Lib.bitLen y) := Nat.pow_pos (by omega)
  refine ⟨b, a, ?_, ?_⟩
  · rw [← e1]; exact Nat.mul_le_mul_right _ c
  · rw [← e2]; exact Nat.mul_lt_mul_of_pos_right d hp
end Go.Proofs.YtlbffibpcjjpkaaDoor.V

namespace Go.Proofs.YtlbffibpcjjpkaaDoor.V
theorem step_eq {a u q r q' r' : Nat} (h : q * a + r = u) (hq : 1 ≤ q) (e1 : q' = q - 1) (e2 : r' = r + a) : q' * a + r' = u := by
  obtain ⟨k, rfl⟩ : ∃ k, q = k + 1 := ⟨q - 1, by omega⟩
  have : q' = k := by omega
  subst this
  rw [e2, ← h, Nat.add_mul]
  omega
theorem rem_wrap {u d Q Y : Nat} (hq : Q = (u * 4294967296 + d) / Y) (hY : 0 < Y) (hY2 : Y < 18446744073709551616) :
    ((((u : Int) * 4294967296 % 18446744073709551616 + (d : Int)) % 18446744073709551616 - (Q : Int) * (Y : Int) % 18446744073709551616) % 18446744073709551616) = (((u * 4294967296 + d) % Y : Nat) : Int) := by
  have h := Nat.div_add_mod (u * 4294967296 + d) Y
  have h2 := Nat.mod_lt (u * 4294967296 + d) hY
  rw [← hq] at h
  generalize (u * 4294967296 + d) % Y = m at *
  have e : (Q : Int) * (Y : Int) = ((Y * Q : Nat) : Int) := by simp [Int.mul_comm]
  rw [e]
  generalize Y * Q = z at *
  omega
theorem final_ {K W hi lo y s u d1 d0 V' Y : Nat} (hW : W = K * K) (hY : Y = y * 2 ^ s) (hy : 0 < Y) (hU : u * W + V' = (hi * W + lo) * 2 ^ s) (hV : V' = d1 * K + d0) :
    ((u * K + d1) / Y) * K + (((u * K + d1) % Y) * K + d0) / Y = (hi * W + lo) / y ∧ ((((u * K + d1) % Y) * K + d0) % Y) / 2 ^ s = (hi * W + lo) % y := by
  obtain ⟨t1, t2⟩ := two_digits_ (K := K) (V := Y) (N := u * K + d1) (d0 := d0) hy
  have e : (u * K + d1) * K + d0 = (hi * W + lo) * 2 ^ s := by rw [← hU, hV, hW, Nat.add_mul, Nat.mul_assoc]; omega
  rw [e, hY] at t1 t2
  obtain ⟨g1, g2⟩ := shift_div (N := hi * W + lo) (y := y) (s := 2 ^ s) (Nat.pow_pos (by omega))
  rw [hY]
  exact ⟨t1.trans g1, by rw [t2]; exact g2⟩
theorem final {hi lo y s u d1 d0 V' Y : Nat} (hY : Y = y * 2 ^ s) (hy : 0 < Y) (hU : u * 18446744073709551616 + V' = (hi * 18446744073709551616 + lo) * 2 ^ s) (hV : V' = d1 * 4294967296 + d0) :
    ((u * 4294967296 + d1) / Y) * 4294967296 + (((u * 4294967296 + d1) % Y) * 4294967296 + d0) / Y = (hi * 18446744073709551616 + lo) / y ∧
    ((((u * 4294967296 + d1) % Y) * 4294967296 + d0) % Y) / 2 ^ s = (hi * 18446744073709551616 + lo) % y := final_ (by omega) hY hy hU hV
theorem lt_words_ {K hi lo y : Nat} (h1 : hi < y) (h2 : lo < K) : hi * K + lo < y * K := by
  have h : (hi + 1) * K ≤ y * K := Nat.mul_le_mul_right _ h1
  rw [Nat.add_mul] at h; omega
theorem lt_words {hi lo y : Nat} (h1 : hi < y) (h2 : lo < 18446744073709551616) : hi * 18446744073709551616 + lo < y * 18446744073709551616 := lt_words_ h1 h2
theorem or_add {h l s : Nat} (hl : l < 2 ^ s) : (h * 2 ^ s) ||| l = h * 2 ^ s + l := by
  have := Nat.shiftLeft_add_eq_or_of_lt hl h
  rw [Nat.shiftLeft_eq] at this
  exact this.symm
theorem words_ {hi lo A B K : Nat} (hp : 0 < B) (e : A * B = K) : (hi * B + lo / A) * K + lo * B % K = (hi * K + lo) * B := by
  have hd : lo * B / K = lo / A := by rw [← e]; exact Nat.mul_div_mul_right _ _ hp
  have hdm := Nat.div_add_mod (lo * B) K
  rw [hd] at hdm
  rw [Nat.add_mul, Nat.add_mul, Nat.mul_assoc hi K B, Nat.mul_comm K B, ← Nat.mul_assoc hi B K, Nat.mul_comm (lo / A) K]
  omega
theorem words {hi lo y s : Nat} (hs : s ≤ 63) (h1 : hi < y) (h2 : lo < 18446744073709551616) (h4 : y * 2 ^ s < 18446744073709551616) :
    hi * 2 ^ s < 18446744073709551616 ∧ lo / 2 ^ (64 - s) < 2 ^ s ∧ hi * 2 ^ s + lo / 2 ^ (64 - s) < y * 2 ^ s ∧
    (hi * 2 ^ s + lo / 2 ^ (64 - s)) * 18446744073709551616 + lo * 2 ^ s % 18446744073709551616 = (hi * 18446744073709551616 + lo) * 2 ^ s := by
  have hp : 0 < 2 ^ s := Nat.pow_pos (by omega)
  have e : 2 ^ (64 - s) * 2 ^ s = 18446744073709551616 := by rw [← Nat.pow_add, show 64 - s + s = 64 from by omega]
  have hl : lo / 2 ^ (64 - s) < 2 ^ s := Nat.div_lt_of_lt_mul (by rw [e]; exact h2)
  have hm : (hi + 1) * 2 ^ s ≤ y * 2 ^ s := Nat.mul_le_mul_right _ h1
  rw [Nat.add_mul] at hm
  exact ⟨by omega, hl, by omega, words_ hp e⟩
end Go.Proofs.YtlbffibpcjjpkaaDoor.V

namespace Go.Proofs
open Go.Shelf
def Tryd.lays162_ren : Go.Shelf.Ren := ⟨fun | 162 => 24 | 232 => 36 | 227 => 37 | 234 => 38 | 236 => 39 | 228 => 53 | 271 => 54 | 151 => 55 | 120 => 66 | 197 => 62 | 152 => 67 | 260 => 76 | 137 => 79 | 119 => 80 | 224 => 60 | 225 => 59 | 217 => 58 | 266 => 74 | n => n, fun | 9 => 9 | 4 => 4 | 3 => 3 | 5 => 5 | 117 => 54 | 116 => 53 | 0 => 0 | 124 => 57 | 21 => 21 | 105 => 70 | 46 => 79 | 119 => 110 | 139 => 113 | 138 => 112 | n => n, fun | 3 => 6 | 4 => 7 | n => n⟩
theorem Tryd.lays162 : Go.Proofs.Lays.n162 Tryd.prog Tryd.lays162_ren := {
  mixed := by kernel_rfl
  f119 := Tryd.func80.trans (congrArg some (by kernel_rfl))
  f120 := Tryd.func66.trans (congrArg some (by kernel_rfl))
  f137 := Tryd.func79.trans (congrArg some (by kernel_rfl))
  f151 := Tryd.func55.trans (congrArg some (by kernel_rfl))
  f152 := Tryd.func67.trans (congrArg some (by kernel_rfl))
  f162 := Tryd.func24.trans (congrArg some (by kernel_rfl))
  f197 := Tryd.func62.trans (congrArg some (by kernel_rfl))
  f217 := Tryd.func58.trans (congrArg some (by kernel_rfl))
  f224 := Tryd.func60.trans (congrArg some (by kernel_rfl))
  f225 := Tryd.func59.trans (congrArg some (by kernel_rfl))
  f227 := Tryd.func37.trans (congrArg some (by kernel_rfl))
  f228 := Tryd.func53.trans (congrArg some (by kernel_rfl))
  f232 := Tryd.func36.trans (congrArg some (by kernel_rfl))
  f234 := Tryd.func38.trans (congrArg some (by kernel_rfl))
  f236 := Tryd.func39.trans (congrArg some (by kernel_rfl))
  f260 := Tryd.func76.trans (congrArg some (by kernel_rfl))
  f266 := Tryd.func74.trans (congrArg some (by kernel_rfl))
  f271 := Tryd.func54.trans (congrArg some (by kernel_rfl))
  t0 := Tryd.underlying0
  a0 := Tryd.isAgg0
  z0 := Tryd.sizeOf0
  v0 := Tryd.zeroValue0
  t3 := Tryd.underlying3
  a3 := Tryd.isAgg3
  z3 := Tryd.sizeOf3
  v3 := Tryd.zeroValue3
  t4 := Tryd.underlying4
  a4 := Tryd.isAgg4
  z4 := Tryd.sizeOf4
  v4 := Tryd.zeroValue4
  t5 := Tryd.underlying5
  a5 := Tryd.isAgg5
  z5 := Tryd.sizeOf5
  v5 := Tryd.zeroValue5
  t9 := Tryd.underlying9
  a9 := Tryd.isAgg9
  z9 := Tryd.sizeOf9
  v9 := Tryd.zeroValue9
  t21 := Tryd.underlying21
  a21 := Tryd.isAgg21
  z21 := Tryd.sizeOf21
  v21 := Tryd.zeroValue21
  t46 := Tryd.underlying79
  a46 := Tryd.isAgg79
  z46 := Tryd.sizeOf79
  v46 := Tryd.zeroValue79
  t105 := Tryd.underlying70
  a105 := Tryd.isAgg70
  z105 := Tryd.sizeOf70
  v105 := Tryd.zeroValue70
  t116 := Tryd.underlying53
  a116 := Tryd.isAgg53
  z116 := Tryd.sizeOf53
  t117 := Tryd.underlying54
  a117 := Tryd.isAgg54
  z117 := Tryd.sizeOf54
  v117 := Tryd.zeroValue54
  t119 := Tryd.underlying110
  a119 := Tryd.isAgg110
  z119 := Tryd.sizeOf110
  t124 := Tryd.underlying57
  a124 := Tryd.isAgg57
  z124 := Tryd.sizeOf57
  v124 := Tryd.zeroValue57
  t138 := Tryd.underlying112
  a138 := Tryd.isAgg112
  z138 := Tryd.sizeOf112
  v138 := Tryd.zeroValue112
  t139 := Tryd.underlying113
  a139 := Tryd.isAgg113
  z139 := Tryd.sizeOf113
  v139 := Tryd.zeroValue113
  g3 := by kernel_rfl
  g4 := by kernel_rfl }
open Go.RowKit in
theorem Tryd.strings_TrimRight_one (s : ByteArray) (c : UInt8) (hc : c.toNat < 128) (w : World) (hs : s.size ≤ 9223372036854775807) :
    Calls Tryd.prog 24 #[.string s, .string ⟨#[c]⟩] w fun e w' => e = .returned (.string ⟨(Lib.trimRightB s.data.toList c).toArray⟩) ∧ w' = w := Any.strings_TrimRight_one Tryd.lays162 s c hc w hs
def Tryd.lays160_ren : Go.Shelf.Ren := ⟨fun | 160 => 32 | 232 => 36 | 231 => 45 | 227 => 37 | 234 => 38 | 233 => 46 | 236 => 39 | 235 => 47 | 228 => 53 | 271 => 54 | 151 => 55 | 197 => 62 | 120 => 66 | 152 => 67 | 260 => 76 | 137 => 79 | 119 => 80 | 224 => 60 | 225 => 59 | 217 => 58 | 266 => 74 | n => n, fun | 9 => 9 | 4 => 4 | 3 => 3 | 5 => 5 | 117 => 54 | 116 => 53 | 0 => 0 | 124 => 57 | 21 => 21 | 105 => 70 | 46 => 79 | 119 => 110 | 139 => 113 | 138 => 112 | n => n, fun | 3 => 6 | 4 => 7 | n => n⟩
theorem Tryd.lays160 : Go.Proofs.Lays.n160 Tryd.prog Tryd.lays160_ren := {
  mixed := by kernel_rfl
  f119 := Tryd.func80.trans (congrArg some (by kernel_rfl))
  f120 := Tryd.func66.trans (congrArg some (by kernel_rfl))
  f137 := Tryd.func79.trans (congrArg some (by kernel_rfl))
  f151 := Tryd.func55.trans (congrArg some (by kernel_rfl))
  f152 := Tryd.func67.trans (congrArg some (by kernel_rfl))
  f160 := Tryd.func32.trans (congrArg some (by kernel_rfl))
  f197 := Tryd.func62.trans (congrArg some (by kernel_rfl))
  f217 := Tryd.func58.trans (congrArg some (by kernel_rfl))
  f224 := Tryd.func60.trans (congrArg some (by kernel_rfl))
  f225 := Tryd.func59.trans (congrArg some (by kernel_rfl))
  f227 := Tryd.func37.trans (congrArg some (by kernel_rfl))
  f228 := Tryd.func53.trans (congrArg some (by kernel_rfl))
  f231 := Tryd.func45.trans (congrArg some (by kernel_rfl))
  f232 := Tryd.func36.trans (congrArg some (by kernel_rfl))
  f233 := Tryd.func46.trans (congrArg some (by kernel_rfl))
  f234 := Tryd.func38.trans (congrArg some (by kernel_rfl))
  f235 := Tryd.func47.trans (congrArg some (by kernel_rfl))
  f236 := Tryd.func39.trans (congrArg some (by kernel_rfl))
  f260 := Tryd.func76.trans (congrArg some (by kernel_rfl))
  f266 := Tryd.func74.trans (congrArg some (by kernel_rfl))
  f271 := Tryd.func54.trans (congrArg some (by kernel_rfl))
  t0 := Tryd.underlying0
  a0 := Tryd.isAgg0
  z0 := Tryd.sizeOf0
  v0 := Tryd.zeroValue0
  t3 := Tryd.underlying3
  a3 := Tryd.isAgg3
  z3 := Tryd.sizeOf3
  v3 := Tryd.zeroValue3
  t4 := Tryd.underlying4
  a4 := Tryd.isAgg4
  z4 := Tryd.sizeOf4
  v4 := Tryd.zeroValue4
  t5 := Tryd.underlying5
  a5 := Tryd.isAgg5
  z5 := Tryd.sizeOf5
  v5 := Tryd.zeroValue5
  t9 := Tryd.underlying9
  a9 := Tryd.isAgg9
  z9 := Tryd.sizeOf9
  v9 := Tryd.zeroValue9
  t21 := Tryd.underlying21
  a21 := Tryd.isAgg21
  z21 := Tryd.sizeOf21
  v21 := Tryd.zeroValue21
  t46 := Tryd.underlying79
  a46 := Tryd.isAgg79
  z46 := Tryd.sizeOf79
  v46 := Tryd.zeroValue79
  t105 := Tryd.underlying70
  a105 := Tryd.isAgg70
  z105 := Tryd.sizeOf70
  v105 := Tryd.zeroValue70
  t116 := Tryd.underlying53
  a116 := Tryd.isAgg53
  z116 := Tryd.sizeOf53
  t117 := Tryd.underlying54
  a117 := Tryd.isAgg54
  z117 := Tryd.sizeOf54
  v117 := Tryd.zeroValue54
  t119 := Tryd.underlying110
  a119 := Tryd.isAgg110
  z119 := Tryd.sizeOf110
  t124 := Tryd.underlying57
  a124 := Tryd.isAgg57
  z124 := Tryd.sizeOf57
  v124 := Tryd.zeroValue57
  t138 := Tryd.underlying112
  a138 := Tryd.isAgg112
  z138 := Tryd.sizeOf112
  v138 := Tryd.zeroValue112
  t139 := Tryd.underlying113
  a139 := Tryd.isAgg113
  z139 := Tryd.sizeOf113
  v139 := Tryd.zeroValue113
  g3 := by kernel_rfl
  g4 := by kernel_rfl }
def Tryd.lays134_ren : Go.Shelf.Ren := ⟨fun | 134 => 86 | 129 => 82 | n => n, fun | 53 => 74 | 3 => 3 | 4 => 4 | 46 => 79 | 5 => 5 | 9 => 9 | n => n, fun | n => n⟩
theorem Tryd.lays134 : Go.Proofs.Lays.n134 Tryd.prog Tryd.lays134_ren := {
  mixed := by kernel_rfl
  f129 := Tryd.func82.trans (congrArg some (by kernel_rfl))
  f134 := Tryd.func86.trans (congrArg some (by kernel_rfl))
  t3 := Tryd.underlying3
  a3 := Tryd.isAgg3
  z3 := Tryd.sizeOf3
  v3 := Tryd.zeroValue3
  t4 := Tryd.underlying4
  a4 := Tryd.isAgg4
  z4 := Tryd.sizeOf4
  v4 := Tryd.zeroValue4
  t5 := Tryd.underlying5
  a5 := Tryd.isAgg5
  z5 := Tryd.sizeOf5
  v5 := Tryd.zeroValue5
  t9 := Tryd.underlying9
  a9 := Tryd.isAgg9
  z9 := Tryd.sizeOf9
  v9 := Tryd.zeroValue9
  t46 := Tryd.underlying79
  a46 := Tryd.isAgg79
  z46 := Tryd.sizeOf79
  v46 := Tryd.zeroValue79
  t53 := Tryd.underlying74
  a53 := Tryd.isAgg74
  z53 := Tryd.sizeOf74
  v53 := Tryd.zeroValue74 }
theorem Tryd.bits_LeadingZeros64 (x : Int) (w : World) (h0 : 0 ≤ x) (h1 : x ≤ 18446744073709551615) :
    Calls Tryd.prog 86 #[.int .u64 x] w fun e w' => e = .returned (.int .i64 (64 - (Lib.bitLen x.toNat : Int))) ∧ w' = w := Any.bits_LeadingZeros64 Tryd.lays134 x w h0 h1
def Tryd.lays172_ren : Go.Shelf.Ren := ⟨fun | 172 => 23 | 244 => 34 | 245 => 35 | 247 => 48 | 279 => 49 | 280 => 50 | 281 => 51 | 282 => 52 | 287 => 63 | 316 => 64 | 171 => 25 | 205 => 65 | 321 => 77 | 322 => 78 | 243 => 40 | 246 => 56 | 283 => 68 | 284 => 69 | 285 => 70 | 286 => 71 | 129 => 82 | 317 => 81 | 318 => 83 | 319 => 84 | 320 => 85 | 337 => 87 | 338 => 88 | n => n, fun | 9 => 9 | 3 => 3 | 75 => 43 | 76 => 44 | 4 => 4 | 5 => 5 | 167 => 63 | 37 => 61 | 0 => 0 | 85 => 64 | 2 => 2 | 168 => 66 | 53 => 74 | 175 => 80 | 46 => 79 | 210 => 84 | 127 => 100 | 145 => 103 | 143 => 101 | 21 => 21 | 171 => 87 | 173 => 90 | 212 => 106 | 51 => 95 | 20 => 20 | 213 => 107 | 232 => 115 | 233 => 116 | 80 => 117 | n => n, fun | 15 => 1 | 16 => 2 | 17 => 3 | 18 => 8 | 19 => 9 | n => n⟩
theorem Tryd.lays172 : Go.Proofs.Lays.n172 Tryd.prog Tryd.lays172_ren := {
  mixed := by kernel_rfl
  f129 := Tryd.func82.trans (congrArg some (by kernel_rfl))
  f171 := Tryd.func25.trans (congrArg some (by kernel_rfl))
  f172 := Tryd.func23.trans (congrArg some (by kernel_rfl))
  f205 := Tryd.func65.trans (congrArg some (by kernel_rfl))
  f243 := Tryd.func40.trans (congrArg some (by kernel_rfl))
  f244 := Tryd.func34.trans (congrArg some (by kernel_rfl))
  f245 := Tryd.func35.trans (congrArg some (by kernel_rfl))
  f246 := Tryd.func56.trans (congrArg some (by kernel_rfl))
  f247 := Tryd.func48.trans (congrArg some (by kernel_rfl))
  f279 := Tryd.func49.trans (congrArg some (by kernel_rfl))
  f280 := Tryd.func50.trans (congrArg some (by kernel_rfl))
  f281 := Tryd.func51.trans (congrArg some (by kernel_rfl))
  f282 := Tryd.func52.trans (congrArg some (by kernel_rfl))
  f283 := Tryd.func68.trans (congrArg some (by kernel_rfl))
  f284 := Tryd.func69.trans (congrArg some (by kernel_rfl))
  f285 := Tryd.func70.trans (congrArg some (by kernel_rfl))
  f286 := Tryd.func71.trans (congrArg some (by kernel_rfl))
  f287 := Tryd.func63.trans (congrArg some (by kernel_rfl))
  f316 := Tryd.func64.trans (congrArg some (by kernel_rfl))
  f317 := Tryd.func81.trans (congrArg some (by kernel_rfl))
  f318 := Tryd.func83.trans (congrArg some (by kernel_rfl))
  f319 := Tryd.func84.trans (congrArg some (by kernel_rfl))
  f320 := Tryd.func85.trans (congrArg some (by kernel_rfl))
  f321 := Tryd.func77.trans (congrArg some (by kernel_rfl))
  f322 := Tryd.func78.trans (congrArg some (by kernel_rfl))
  f337 := Tryd.func87.trans (congrArg some (by kernel_rfl))
  f338 := Tryd.func88.trans (congrArg some (by kernel_rfl))
  t0 := Tryd.underlying0
  a0 := Tryd.isAgg0
  z0 := Tryd.sizeOf0
  v0 := Tryd.zeroValue0
  t2 := Tryd.underlying2
  a2 := Tryd.isAgg2
  z2 := Tryd.sizeOf2
  v2 := Tryd.zeroValue2
  t3 := Tryd.underlying3
  a3 := Tryd.isAgg3
  z3 := Tryd.sizeOf3
  v3 := Tryd.zeroValue3
  t4 := Tryd.underlying4
  a4 := Tryd.isAgg4
  z4 := Tryd.sizeOf4
  v4 := Tryd.zeroValue4
  t5 := Tryd.underlying5
  a5 := Tryd.isAgg5
  z5 := Tryd.sizeOf5
  v5 := Tryd.zeroValue5
  t9 := Tryd.underlying9
  a9 := Tryd.isAgg9
  z9 := Tryd.sizeOf9
  v9 := Tryd.zeroValue9
  t20 := Tryd.underlying20
  a20 := Tryd.isAgg20
  z20 := Tryd.sizeOf20
  v20 := Tryd.zeroValue20
  t21 := Tryd.underlying21
  a21 := Tryd.isAgg21
  z21 := Tryd.sizeOf21
  v21 := Tryd.zeroValue21
  t37 := Tryd.underlying61
  a37 := Tryd.isAgg61
  z37 := Tryd.sizeOf61
  v37 := Tryd.zeroValue61
  t46 := Tryd.underlying79
  a46 := Tryd.isAgg79
  z46 := Tryd.sizeOf79
  v46 := Tryd.zeroValue79
  t51 := Tryd.underlying95
  a51 := Tryd.isAgg95
  z51 := Tryd.sizeOf95
  v51 := Tryd.zeroValue95
  t53 := Tryd.underlying74
  a53 := Tryd.isAgg74
  z53 := Tryd.sizeOf74
  v53 := Tryd.zeroValue74
  t75 := Tryd.underlying43
  a75 := Tryd.isAgg43
  z75 := Tryd.sizeOf43
  v75 := Tryd.zeroValue43
  t76 := Tryd.underlying44
  a76 := Tryd.isAgg44
  z76 := Tryd.sizeOf44
  v76 := Tryd.zeroValue44
  t85 := Tryd.underlying64
  a85 := Tryd.isAgg64
  z85 := Tryd.sizeOf64
  v85 := Tryd.zeroValue64
  t127 := Tryd.underlying100
  a127 := Tryd.isAgg100
  z127 := Tryd.sizeOf100
  v127 := Tryd.zeroValue100
  t143 := Tryd.underlying101
  a143 := Tryd.isAgg101
  z143 := Tryd.sizeOf101
  v143 := Tryd.zeroValue101
  t145 := Tryd.underlying103
  a145 := Tryd.isAgg103
  z145 := Tryd.sizeOf103
  v145 := Tryd.zeroValue103
  t167 := Tryd.underlying63
  a167 := Tryd.isAgg63
  z167 := Tryd.sizeOf63
  v167 := Tryd.zeroValue63
  t168 := Tryd.underlying66
  a168 := Tryd.isAgg66
  z168 := Tryd.sizeOf66
  v168 := Tryd.zeroValue66
  t171 := Tryd.underlying87
  a171 := Tryd.isAgg87
  z171 := Tryd.sizeOf87
  v171 := Tryd.zeroValue87
  t173 := Tryd.underlying90
  a173 := Tryd.isAgg90
  z173 := Tryd.sizeOf90
  v173 := Tryd.zeroValue90
  t175 := Tryd.underlying80
  a175 := Tryd.isAgg80
  z175 := Tryd.sizeOf80
  v175 := Tryd.zeroValue80
  t210 := Tryd.underlying84
  a210 := Tryd.isAgg84
  z210 := Tryd.sizeOf84
  v210 := Tryd.zeroValue84
  t212 := Tryd.underlying106
  a212 := Tryd.isAgg106
  z212 := Tryd.sizeOf106
  v212 := Tryd.zeroValue106
  t213 := Tryd.underlying107
  a213 := Tryd.isAgg107
  z213 := Tryd.sizeOf107
  t232 := Tryd.underlying115
  a232 := Tryd.isAgg115
  z232 := Tryd.sizeOf115
  v232 := Tryd.zeroValue115
  t233 := Tryd.underlying116
  a233 := Tryd.isAgg116
  z233 := Tryd.sizeOf116
  v233 := Tryd.zeroValue116
  g15 := by kernel_rfl
  g16 := by kernel_rfl
  g17 := by kernel_rfl
  g18 := by kernel_rfl
  g19 := by kernel_rfl }
open Go.RowKit in
theorem Tryd.strconv_Atoi (s : ByteArray) (n : Int) (hl : s.size ≤ 18) (h : Lib.atoi s.data.toList = some n) (w : World) :
    Calls Tryd.prog 23 #[.string s] w fun e w' => e = .returned (.tuple #[.int .i64 n, .nilIface]) ∧ ∃ t, w' = Lib.bytesWorld w 5 t := Any.strconv_Atoi Tryd.lays172 s n hl h w
def Tryd.laysM171_ren : Go.Shelf.Ren := ⟨fun | 171 => 25 | 243 => 40 | 246 => 56 | 283 => 68 | 284 => 69 | 285 => 70 | 286 => 71 | 129 => 82 | 317 => 81 | 318 => 83 | 319 => 84 | 320 => 85 | 337 => 87 | 338 => 88 | n => n, fun | 3 => 3 | 9 => 9 | 2 => 2 | 4 => 4 | 171 => 87 | 0 => 0 | 53 => 74 | 37 => 61 | 5 => 5 | 173 => 90 | 212 => 106 | 51 => 95 | 20 => 20 | 213 => 107 | 46 => 79 | 232 => 115 | 233 => 116 | n => n, fun | 17 => 3 | 18 => 8 | 19 => 9 | n => n⟩
theorem Tryd.laysM171 : Go.Proofs.LaysM.n171 Tryd.prog Tryd.laysM171_ren := {
  mixed := by kernel_rfl
  f129 := Tryd.func82.trans (congrArg some (by kernel_rfl))
  f171 := Tryd.func25.trans (congrArg some (by kernel_rfl))
  f243 := Tryd.func40.trans (congrArg some (by kernel_rfl))
  f246 := Tryd.func56.trans (congrArg some (by kernel_rfl))
  f283 := Tryd.func68.trans (congrArg some (by kernel_rfl))
  f284 := Tryd.func69.trans (congrArg some (by kernel_rfl))
  f285 := Tryd.func70.trans (congrArg some (by kernel_rfl))
  f286 := Tryd.func71.trans (congrArg some (by kernel_rfl))
  f317 := Tryd.func81.trans (congrArg some (by kernel_rfl))
  f318 := Tryd.func83.trans (congrArg some (by kernel_rfl))
  f319 := Tryd.func84.trans (congrArg some (by kernel_rfl))
  f320 := Tryd.func85.trans (congrArg some (by kernel_rfl))
  f337 := Tryd.func87.trans (congrArg some (by kernel_rfl))
  f338 := Tryd.func88.trans (congrArg some (by kernel_rfl))
  t0 := Tryd.underlying0
  a0 := Tryd.isAgg0
  z0 := Tryd.sizeOf0
  v0 := Tryd.zeroValue0
  t2 := Tryd.underlying2
  a2 := Tryd.isAgg2
  z2 := Tryd.sizeOf2
  v2 := Tryd.zeroValue2
  t3 := Tryd.underlying3
  a3 := Tryd.isAgg3
  z3 := Tryd.sizeOf3
  v3 := Tryd.zeroValue3
  t4 := Tryd.underlying4
  a4 := Tryd.isAgg4
  z4 := Tryd.sizeOf4
  v4 := Tryd.zeroValue4
  t5 := Tryd.underlying5
  a5 := Tryd.isAgg5
  z5 := Tryd.sizeOf5
  v5 := Tryd.zeroValue5
  t9 := Tryd.underlying9
  a9 := Tryd.isAgg9
  z9 := Tryd.sizeOf9
  v9 := Tryd.zeroValue9
  t20 := Tryd.underlying20
  a20 := Tryd.isAgg20
  z20 := Tryd.sizeOf20
  v20 := Tryd.zeroValue20
  t37 := Tryd.underlying61
  a37 := Tryd.isAgg61
  z37 := Tryd.sizeOf61
  v37 := Tryd.zeroValue61
  t46 := Tryd.underlying79
  a46 := Tryd.isAgg79
  z46 := Tryd.sizeOf79
  v46 := Tryd.zeroValue79
  t51 := Tryd.underlying95
  a51 := Tryd.isAgg95
  z51 := Tryd.sizeOf95
  v51 := Tryd.zeroValue95
  t53 := Tryd.underlying74
  a53 := Tryd.isAgg74
  z53 := Tryd.sizeOf74
  v53 := Tryd.zeroValue74
  t171 := Tryd.underlying87
  a171 := Tryd.isAgg87
  z171 := Tryd.sizeOf87
  v171 := Tryd.zeroValue87
  t173 := Tryd.underlying90
  a173 := Tryd.isAgg90
  z173 := Tryd.sizeOf90
  v173 := Tryd.zeroValue90
  t212 := Tryd.underlying106
  a212 := Tryd.isAgg106
  z212 := Tryd.sizeOf106
  v212 := Tryd.zeroValue106
  t213 := Tryd.underlying107
  a213 := Tryd.isAgg107
  z213 := Tryd.sizeOf107
  t232 := Tryd.underlying115
  a232 := Tryd.isAgg115
  z232 := Tryd.sizeOf115
  v232 := Tryd.zeroValue115
  t233 := Tryd.underlying116
  a233 := Tryd.isAgg116
  z233 := Tryd.sizeOf116
  v233 := Tryd.zeroValue116
  g17 := by kernel_rfl
  g18 := by kernel_rfl
  g19 := by kernel_rfl
  i0 := by kernel_rfl
  i2 := by kernel_rfl
  i3 := by kernel_rfl
  i4 := by kernel_rfl
  i5 := by kernel_rfl
  i9 := by kernel_rfl
  i20 := by kernel_rfl
  i37 := by kernel_rfl
  i46 := by kernel_rfl
  i51 := by kernel_rfl
  i53 := by kernel_rfl
  i171 := by kernel_rfl
  i173 := by kernel_rfl
  i212 := by kernel_rfl
  i232 := by kernel_rfl
  i233 := by kernel_rfl
  m17 := by kernel_rfl
  m18 := by kernel_rfl
  m19 := by kernel_rfl }
open Go.RowKit Go.Sort Go.Lib in
theorem Tryd.strconv_Itoa (n : Int) (h0 : -9223372036854775808 ≤ n) (h1 : n ≤ 9223372036854775807) (w : World) (htab : Lib.TabIs Tryd.prog w "internal/strconv.uint64pow10" .u64 Lib.pow10Tab) :
    Calls Tryd.prog 25 #[.int .i64 n] w fun e w' => e = .returned (.string ⟨(Lib.itoa n).toArray⟩) ∧ ∃ k os, w' = grow (w.drewN k) os := Any.strconv_Itoa Tryd.laysM171 n h0 h1 w htab
def Tryd.lays219_ren : Go.Shelf.Ren := ⟨fun | 219 => 44 | 217 => 58 | 225 => 59 | 224 => 60 | 267 => 61 | 266 => 74 | 314 => 75 | n => n, fun | 9 => 9 | 3 => 3 | 4 => 4 | 5 => 5 | 46 => 79 | 146 => 96 | 51 => 95 | n => n, fun | 1 => 0 | n => n⟩
theorem Tryd.lays219 : Go.Proofs.Lays.n219 Tryd.prog Tryd.lays219_ren := {
  mixed := by kernel_rfl
  f217 := Tryd.func58.trans (congrArg some (by kernel_rfl))
  f219 := Tryd.func44.trans (congrArg some (by kernel_rfl))
  f224 := Tryd.func60.trans (congrArg some (by kernel_rfl))
  f225 := Tryd.func59.trans (congrArg some (by kernel_rfl))
  f266 := Tryd.func74.trans (congrArg some (by kernel_rfl))
  f267 := Tryd.func61.trans (congrArg some (by kernel_rfl))
  f314 := Tryd.func75.trans (congrArg some (by kernel_rfl))
  t3 := Tryd.underlying3
  a3 := Tryd.isAgg3
  z3 := Tryd.sizeOf3
  v3 := Tryd.zeroValue3
  t4 := Tryd.underlying4
  a4 := Tryd.isAgg4
  z4 := Tryd.sizeOf4
  v4 := Tryd.zeroValue4
  t5 := Tryd.underlying5
  a5 := Tryd.isAgg5
  z5 := Tryd.sizeOf5
  v5 := Tryd.zeroValue5
  t9 := Tryd.underlying9
  a9 := Tryd.isAgg9
  z9 := Tryd.sizeOf9
  v9 := Tryd.zeroValue9
  t46 := Tryd.underlying79
  a46 := Tryd.isAgg79
  z46 := Tryd.sizeOf79
  v46 := Tryd.zeroValue79
  t51 := Tryd.underlying95
  a51 := Tryd.isAgg95
  z51 := Tryd.sizeOf95
  v51 := Tryd.zeroValue95
  t146 := Tryd.underlying96
  a146 := Tryd.isAgg96
  z146 := Tryd.sizeOf96
  v146 := Tryd.zeroValue96
  g1 := by kernel_rfl }
open Go.RowKit Go.Lib in
theorem Tryd.stringslite_Index_one (s : ByteArray) (c : UInt8) (w : World) :
    Calls Tryd.prog 44 #[.string s, .string ⟨#[c]⟩] w fun e w' => e = .returned (.int .i64 (Lib.indexByte s.data.toList c)) ∧ w' = w := Any.stringslite_Index_one Tryd.lays219 s c w
def Tryd.lays100_ren : Go.Shelf.Ren := ⟨fun | 100 => 22 | 207 => 33 | n => n, fun | 9 => 9 | 4 => 4 | 3 => 3 | n => n, fun | n => n⟩
theorem Tryd.lays100 : Go.Proofs.Lays.n100 Tryd.prog Tryd.lays100_ren := {
  mixed := by kernel_rfl
  f100 := Tryd.func22.trans (congrArg some (by kernel_rfl))
  f207 := Tryd.func33.trans (congrArg some (by kernel_rfl))
  t3 := Tryd.underlying3
  a3 := Tryd.isAgg3
  z3 := Tryd.sizeOf3
  v3 := Tryd.zeroValue3
  t4 := Tryd.underlying4
  a4 := Tryd.isAgg4
  z4 := Tryd.sizeOf4
  v4 := Tryd.zeroValue4
  t9 := Tryd.underlying9
  a9 := Tryd.isAgg9
  z9 := Tryd.sizeOf9
  v9 := Tryd.zeroValue9 }
open Go.RowKit Go.Lib in
theorem Tryd.strings_HasSuffix (s p : ByteArray) (w : World) (hs : s.size ≤ 9223372036854775807) :
    Calls Tryd.prog 22 #[.string s, .string p] w fun e w' => e = .returned (.bool (Lib.hasSuffix s.data.toList p.data.toList)) ∧ w' = w := Any.strings_HasSuffix Tryd.lays100 s p w hs
def Tryd.lays264_ren : Go.Shelf.Ren := ⟨fun | 264 => 72 | n => n, fun | 53 => 74 | 46 => 79 | n => n, fun | n => n⟩
theorem Tryd.lays264 : Go.Proofs.Lays.n264 Tryd.prog Tryd.lays264_ren := {
  mixed := by kernel_rfl
  f264 := Tryd.func72.trans (congrArg some (by kernel_rfl))
  t46 := Tryd.underlying79
  a46 := Tryd.isAgg79
  z46 := Tryd.sizeOf79
  v46 := Tryd.zeroValue79
  t53 := Tryd.underlying74
  a53 := Tryd.isAgg74
  z53 := Tryd.sizeOf74
  v53 := Tryd.zeroValue74 }
open Go.RowKit Go.Lib in
theorem Tryd.bits_Mul64 (x y : Nat) (hx : x < 18446744073709551616) (hy : y < 18446744073709551616) (w : World) :
    Calls Tryd.prog 72 #[.int .u64 x, .int .u64 y] w fun e w' => e = .returned (.tuple #[.int .u64 ((x * y / 18446744073709551616 : Nat) : Int), .int .u64 ((x * y % 18446744073709551616 : Nat) : Int)]) ∧ w' = w := Any.bits_Mul64 Tryd.lays264 x y hx hy w
end Go.Proofs
