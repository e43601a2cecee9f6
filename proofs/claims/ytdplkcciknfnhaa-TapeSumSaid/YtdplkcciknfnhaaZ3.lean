/- Shared texts, one behind the other: VTailD, VCode, VFn, VAns, VRet, VOpen, VNil, VBits, VT, VGrowB, Lists, TapePl, TapePl2, VTape, VTape2 -/
import Derived.Deep.Slices
import Derived.Deep.Fields
import Derived.OpenShut
import Derived.Lib.SmallJoins
import Derived.Shelf.Spec.SlicesGrow
import Derived.Test.YtdplkcciknfnhaaZ1
import Derived.Test.YtdplkcciknfnhaaZ2
set_option linter.unusedVariables false
set_option linter.unusedSimpArgs false
set_option linter.unusedSectionVars false
set_option maxRecDepth 100000

namespace Go.Proofs.Ytdplkcciknfnhaa.V
open Go Go.RowKit
set_option linter.unusedSectionVars false
theorem opG.toIn {P : Program} {pre ops : Array Oper} {i : Nat} {K : Act → World → Prop} {Q : Exit → Act → World → Prop} {a : Act} {w : World} {ro : Option Nat} {n : Nat} {o : Oper} (h : opG P pre i K a w) (h1 : pre[i]? = some o) (h2 : ops[i]? = some o)
    (hw : Region.wanted o (yielded pre a.tmps) = Region.wanted o (yielded ops a.tmps)) (hd : ro = none ∨ ∀ c, o.op ≠ .defer c) : wpOpIn (Fz ro) n P ops Q i K a w := by
  unfold opG at h
  unfold wpOpIn
  simp only [h1] at h
  simp only [h2]
  rw [← hw]
  split
  · rename_i q
    rw [if_pos q] at h
    exact op_in hd (wp_noQ h)
  · rename_i q
    rw [if_neg q] at h
    exact ⟨fun _ _ => fz_fn _ _, h⟩
theorem lowL_spec : ∀ {l : List Oper} {n i j : Nat} {o : Oper}, lowL n i l = true → l[j]? = some o → (∀ e ∈ o.after, Region.binds .any e = true → e.on < i + j) ∧ ∀ g b, o.guard = some (g, b) → g < i + j
  | [], _, _, _, _, _, h => by simp at h
  | x :: r, n, i, j, o, hl, h => by
    simp only [lowL, Bool.and_eq_true] at hl
    obtain ⟨⟨h1, h2⟩, h3⟩ := hl
    cases j with
    | zero =>
      have e : x = o := by simpa using h
      subst e
      refine ⟨fun e he hb => ?_, fun g b hg => ?_⟩
      · have := List.all_eq_true.1 h1 e (by simpa using he)
        rw [hb] at this
        simpa [Nat.blt_eq] using this
      · rw [hg] at h2
        simpa [Nat.blt_eq] using h2
    | succ j =>
      have := lowL_spec (i := i + 1) (j := j) h3 (by simpa using h)
      rw [show i + 1 + j = i + (j + 1) by omega] at this
      exact this
theorem allB_all {p : Nat → Bool} : ∀ {n : Nat}, allB p n = true → ∀ k, k < n → p k = true
  | 0, _, k, hk => absurd hk (Nat.not_lt_zero _)
  | n + 1, h, k, hk => by
    unfold allB at h
    cases hp : p n <;> rw [hp] at h
    · cases h
    · rcases Nat.lt_or_ge k n with q | q
      · exact allB_all h k q
      · obtain rfl : k = n := by omega
        exact hp
theorem tailB_spec {all : List Oper} {m : Nat} (h : tailB all m = true) : m ≤ all.length ∧ lowL 0 0 all = true ∧ ∀ i k, m ≤ i → i < all.length → k < i → Anc .any all.toArray k i := by
  unfold tailB at h
  simp only [Bool.and_eq_true] at h
  obtain ⟨⟨h1, h2⟩, h3⟩ := h
  refine ⟨Nat.le_of_ble_eq_true h1, h2, fun i k hm hi hk => ?_⟩
  have q := allB_all h3 i hi
  rw [Bool.or_eq_true] at q
  rcases q with q | q
  · have := Nat.blt_eq.mp q; omega
  · have r := allB_all q k (by omega)
    rw [Bool.or_eq_true] at r
    rcases r with r | r
    · have := Nat.le_of_ble_eq_true r; omega
    · exact ancB_spec r
section
variable {P : Program} {all : List Oper} {m : Nat} {Q : Exit → Act → World → Prop} {ro : Option Nat} {n : Nat} (hd : ro = none ∨ noDef all = true)
include hd
theorem tail_end (hT : tailB all m = true) : ∀ (t fuel j : Nat) (L : Array Bool) (a : Act) (w : World), j + t = all.length → m ≤ j → L.size = all.length → (∀ i, L.getD i false = true ↔ i < j) → t ≤ fuel → Down .any all.toArray L → wpListIn (Fz ro) n P all.toArray Q (all.drop j) a w → wpAnyIn (Fz ro) n P .any all.toArray Q fuel L a w := by
  obtain ⟨hm, hlow, hanc⟩ := tailB_spec hT
  intro t
  induction t with
  | zero =>
    intro fuel j L a w hj hmj hs hL hf hD h
    have hnone : Region.ready .any all.toArray L = [] := List.eq_nil_iff_forall_not_mem.2 fun i hi => by
      obtain ⟨h1, o, ho, _⟩ := mem_ready.1 hi
      have hlt : i < all.length := by have := (Array.getElem?_eq_some_iff.1 ho).1; simpa using this
      have := (hL i).2 (by omega)
      simp [hs, hlt] at h1 this
      rw [h1] at this; cases this
    rw [List.drop_eq_nil_of_le (by omega)] at h
    cases fuel with
    | zero => exact ⟨hnone, h⟩
    | succ f => exact ⟨fun _ => h, fun i hi => by rw [hnone] at hi; cases hi⟩
  | succ t ih =>
    intro fuel j L a w hj hmj hs hL hf hD h
    have hjl : j < all.length := by omega
    obtain ⟨f, rfl⟩ : ∃ f, fuel = f + 1 := ⟨fuel - 1, by omega⟩
    have unl : ∀ i, i < all.length → (L.getD i true = false ↔ j ≤ i) := fun i hi => by
      have := hL i
      have e : ∀ d, L.getD i d = L[i]'(by omega) := fun d => by simp [hs, hi]
      rw [e] at this ⊢
      constructor
      · intro q; rw [q] at this
        rcases Nat.lt_or_ge i j with r | r
        · cases this.2 r
        · exact r
      · intro q
        cases hb : L[i]'(by omega)
        · rfl
        · have := this.1 hb; omega
    have hjr : j ∈ Region.ready .any all.toArray L := mem_ready.2 ⟨(unl j hjl).2 (Nat.le_refl _), all[j], by simp [hjl], fun e he hb => by
      have := (lowL_spec hlow (List.getElem?_eq_getElem hjl)).1 e he hb
      exact (hL _).2 (by omega)⟩
    rw [List.drop_eq_getElem_cons hjl] at h
    refine ⟨fun q => (by rw [q] at hjr; cases hjr), fun i hi => ?_⟩
    obtain ⟨h1, o, ho, h2⟩ := mem_ready.1 hi
    have hlt : i < all.length := by have := (Array.getElem?_eq_some_iff.1 ho).1; simpa using this
    have hji := (unl i hlt).1 h1
    obtain rfl : i = j := by
      rcases Nat.lt_or_ge j i with r | r
      · exfalso
        have := (hanc i j (by omega) hlt r).listed hD ⟨o, ho, h2⟩
        have := (hL j).1 this
        omega
      · omega
    have hD' := hD.set hi
    have go : ∀ a w, wpListIn (Fz ro) n P all.toArray Q (all.drop (i + 1)) a w → wpAnyIn (Fz ro) n P .any all.toArray Q f (L.setIfInBounds i true) a w := fun a w hq => ih f (i + 1) _ a w (by omega) (by omega) (by simp [hs]) (fun k => by
      by_cases e : i = k
      · subst e
        simp [hs, hlt]
      · rw [getD_set_ne false e, hL k]; omega) (by omega) hD' hq
    unfold wpOpIn
    have ho' : all.toArray[i]? = some all[i] := by simp [hlt]
    simp only [ho']
    unfold wpListIn at h
    split
    · rename_i q
      rw [if_pos q] at h
      exact Oper.wpIn_mono go h
    · rename_i q
      rw [if_neg q] at h
      exact ⟨h.1, go _ _ h.2⟩
theorem wpX_tail (hT : tailB all m = true) {S : Nat → Prop} {Z : World → Prop} {R : Act → World → Prop} (hR : ∀ a w, R a w → wpListIn (Fz ro) n P all.toArray Q (all.drop m) a w) : ∀ (f : Nat) (listed L : Array Bool) (a : Act) (w : World) (C : Nat → World → Prop), listed.size = m → L.size = all.length → (∀ i, L.getD i false = true ↔ i < m ∧ listed.getD i false = true) → Down .any all.toArray L →
    wpX P .any (all.take m).toArray S Z R f listed a w C → wpAnyIn (Fz ro) n P .any all.toArray Q (f + (all.length - m)) L a w := by
  obtain ⟨hm, hlow, hanc⟩ := tailB_spec hT
  have pre_at : ∀ i, i < m → (all.take m).toArray[i]? = all[i]? := fun i hi => by simp [List.getElem?_take, hi]
  have full : ∀ {listed L : Array Bool}, listed.size = m → (∀ i, L.getD i false = true ↔ i < m ∧ listed.getD i false = true) → Region.ready .any (all.take m).toArray listed = [] → ∀ i, L.getD i false = true ↔ i < m := fun {listed L} hs hL hr => by
    have all_ : ∀ i, i < m → listed.getD i false = true := fun i => by
      induction i using Nat.strongRecOn with
      | ind i ih =>
        intro hi
        cases hb : listed.getD i false
        · exfalso
          have hil : i < all.length := by omega
          have : i ∈ Region.ready .any (all.take m).toArray listed := mem_ready.2 ⟨by simpa [hs, hi] using hb, all[i], by rw [pre_at i hi]; simp [hil], fun e he hb' => by
            have := (lowL_spec hlow (List.getElem?_eq_getElem hil)).1 e he hb'
            exact ih e.on (by omega) (by omega)⟩
          rw [hr] at this; cases this
        · rfl
    intro i
    rw [hL i]
    exact ⟨fun q => q.1, fun q => ⟨q, all_ i q⟩⟩
  intro f
  induction f with
  | zero =>
    intro listed L a w C hs hLs hL hD h
    obtain ⟨_, hr, h⟩ := h
    exact tail_end hd hT (all.length - m) _ m L a w (by omega) (Nat.le_refl _) hLs (full hs hL hr) (by omega) hD (hR a w h)
  | succ f ih =>
    intro listed L a w C hs hLs hL hD h
    obtain ⟨_, h0, h⟩ := h
    by_cases hr : Region.ready .any (all.take m).toArray listed = []
    · exact tail_end hd hT (all.length - m) _ m L a w (by omega) (Nat.le_refl _) hLs (full hs hL hr) (by omega) hD (hR a w (h0 hr))
    · obtain ⟨k0, hk0⟩ := List.exists_mem_of_ne_nil _ hr
      obtain ⟨k1, ok, hok, k2⟩ := mem_ready.1 hk0
      have hk0m : k0 < m := by have := (Array.getElem?_eq_some_iff.1 hok).1; simp at this; omega
      have hk0f : listed.getD k0 false = false := by
        simp [hs, hk0m] at k1 ⊢; exact k1
      have unl0 : ¬ L.getD k0 false = true := fun q => by rw [(hL k0).1 q |>.2] at hk0f; cases hk0f
      have getL : ∀ i, i < all.length → ∀ d d', L.getD i d = L.getD i d' := fun i hi d d' => by simp [hLs, hi]
      have toL : ∀ i, i ∈ Region.ready .any (all.take m).toArray listed → i ∈ Region.ready .any all.toArray L := fun i hi => by
        obtain ⟨q1, o, q2, q3⟩ := mem_ready.1 hi
        have him : i < m := by have := (Array.getElem?_eq_some_iff.1 q2).1; simp at this; omega
        have q1' : listed.getD i false = false := by simp [hs, him] at q1 ⊢; exact q1
        rw [pre_at i him] at q2
        refine mem_ready.2 ⟨?_, o, by simpa using q2, fun e he hb => ?_⟩
        · rw [getL i (by omega) true false]
          cases hb : L.getD i false
          · rfl
          · rw [((hL i).1 hb).2] at q1'; cases q1'
        · have := (lowL_spec hlow q2).1 e he hb
          exact (hL _).2 ⟨by omega, q3 e he hb⟩
      rw [show f + 1 + (all.length - m) = (f + (all.length - m)) + 1 by omega]
      refine ⟨fun q => (by have := toL k0 hk0; rw [q] at this; cases this), fun i hi => ?_⟩
      obtain ⟨q1, o, q2, q3⟩ := mem_ready.1 hi
      have hlt : i < all.length := by have := (Array.getElem?_eq_some_iff.1 q2).1; simpa using this
      have him : i < m := by
        rcases Nat.lt_or_ge i m with r | r
        · exact r
        · exfalso
          exact unl0 ((hanc i k0 r hlt (by omega)).listed hD ⟨o, q2, q3⟩)
      have q2' : all[i]? = some o := by simpa using q2
      have hir : i ∈ Region.ready .any (all.take m).toArray listed := mem_ready.2 ⟨(by
          cases hb : listed.getD i false
          · simp [hs, him] at hb ⊢; exact hb
          · have := (hL i).2 ⟨him, hb⟩
            rw [getL i hlt true false, this] at q1; cases q1), o, by rw [pre_at i him]; exact q2', fun e he hb => ((hL _).1 (q3 e he hb)).2⟩
      have hw : Region.wanted o (yielded (all.take m).toArray a.tmps) = Region.wanted o (yielded all.toArray a.tmps) := by
        rw [wanted_eq, wanted_eq]
        unfold asked
        cases hg : o.guard with
        | none => rfl
        | some gb =>
          obtain ⟨g, b⟩ := gb
          have := (lowL_spec hlow q2').2 g b hg
          simp only [yielded]
          rw [pre_at g (by omega)]
          simp
      refine opG.toIn (o := o) (opG_mono (fun a' w' ⟨C', _, hx⟩ => ?_) (h i hir)) (by rw [pre_at i him]; exact q2') q2 hw (hd.imp (fun q => q) fun q => noDef_spec q (List.mem_of_getElem? q2'))
      refine ih _ _ a' w' C' (by simp [hs]) (by simp [hLs]) (fun k => ?_) (hD.set hi) hx
      by_cases e : i = k
      · subst e
        simp [hLs, hs, hlt, him]
      · rw [getD_set_ne false e, getD_set_ne false e]; exact hL k
end
end Go.Proofs.Ytdplkcciknfnhaa.V

namespace Go.Proofs.Ytdplkcciknfnhaa.V
open Go Go.RowKit
variable [Dr]
set_option linter.unusedSectionVars false
def cut (nx : Nat) (ρ : Rho) : Rho := fun i => if i < nx then ρ i else none
theorem cut_lt {nx i : Nat} {ρ : Rho} (h : i < nx) : cut nx ρ i = ρ i := if_pos h
theorem CapsAre.cut {nx : Nat} {ρ : Rho} : ∀ {l : List Nat} {x : List Value}, (l.all fun i => Nat.blt i nx) = true → CapsAre ρ l x → CapsAre (V.cut nx ρ) l x
  | [], _, _, h => h
  | i :: l, _, hb, ⟨a, r, e, hx, hr⟩ => by
    simp only [List.all_cons, Bool.and_eq_true] at hb
    exact ⟨a, r, by rw [base_eq (cut_lt (by simpa [Nat.blt_eq] using hb.1))]; exact e, hx, CapsAre.cut hb.2 hr⟩
theorem At.is_cut {nx : Nat} {ρ : Rho} {a : At} {x : Value} (hb : atB nx a = true) (h : a.is ρ x) : a.is (cut nx ρ) x := by
  cases a with
  | val v => exact h
  | tf b => exact h
  | prop p => exact h
  | ptr i k j s =>
    obtain ⟨a, e, hx⟩ := h
    exact ⟨a, by rw [base_eq (cut_lt (by simpa [atB, Nat.blt_eq] using hb))]; exact e, hx⟩
  | ref i => exact ⟨by rw [cut_lt (by simpa [atB, Nat.blt_eq] using hb)]; exact h.1, h.2⟩
  | clo f l => obtain ⟨c, e, hx⟩ := h; exact ⟨c, e.cut hb, hx⟩
theorem Ats.cut {nx : Nat} {ρ : Rho} : ∀ {l : List At} {x : List Value}, l.all (atB nx) = true → Ats ρ l x → Ats (V.cut nx ρ) l x
  | [], _, _, h => h
  | a :: l, _, hb, ⟨u, r, hx, ha, hr⟩ => by
    simp only [List.all_cons, Bool.and_eq_true] at hb
    exact ⟨u, r, hx, At.is_cut hb.1 ha, Ats.cut hb.2 hr⟩
theorem SV.is_cut {nx : Nat} {ρ : Rho} {v : SV} {x : Value} (hb : svB nx v = true) (h : v.is ρ x) : v.is (cut nx ρ) x := by
  cases v with
  | one a => exact At.is_cut (a := a) hb h
  | agg l => obtain ⟨c, e, hx⟩ := h; exact ⟨c, e.cut hb, hx⟩
  | tup l =>
    have : l = [] := by simpa [svB] using hb
    subst this
    exact h
theorem fnd_all {α : Type} {p : Nat × α → Bool} : ∀ {l : List (Nat × α)} {t : Nat} {v : α}, l.all p = true → fnd l t = some v → p (t, v) = true
  | [], _, _, _, h => by cases h
  | (u, x) :: r, t, v, hp, h => by
    simp only [List.all_cons, Bool.and_eq_true] at hp
    rcases fnd_cons h with ⟨rfl, rfl⟩ | ⟨_, h⟩
    · exact hp.1
    · exact fnd_all hp.2 h
theorem EnvR.cut {sz nx : Nat} {ρ : Rho} {env : Env} {a : Act} (hb : (env.all fun p => svB nx p.2) = true) (h : EnvR sz ρ env a) : EnvR sz (V.cut nx ρ) env a :=
  ⟨h.size, fun t v ht => let ⟨x, e, hv⟩ := h.env t v ht; ⟨x, e, SV.is_cut (fnd_all (p := fun p => svB nx p.2) hb ht) hv⟩⟩
theorem Sat.cut {B nx : Nat} {ρ : Rho} {w : World} {i : Nat} {o : Ob} (hi : i < nx) (hb : obB nx o = true) (h : Sat B ρ w i o) : Sat B (V.cut nx ρ) w i o := by
  cases o with
  | box t l => obtain ⟨b, cs, e, hB, hl, hh⟩ := h; exact ⟨b, cs, by rw [cut_lt hi]; exact e, hB, hl.cut hb, hh⟩
  | lit t s rows => obtain ⟨b, cs, e, hB, hs, hn, hl, hh⟩ := h; exact ⟨b, cs, by rw [cut_lt hi]; exact e, hB, hs, hn, hl.cut (by simpa [obB] using hb), hh⟩
  | arr s n get => obtain ⟨v, e, r⟩ := h; exact ⟨v, by rw [cut_lt hi]; exact e, r⟩
  | cel l => obtain ⟨v, cs, e, hl, r⟩ := h; exact ⟨v, cs, by rw [cut_lt hi]; exact e, hl.cut hb, r⟩
  | row t s n get => obtain ⟨v, e, r⟩ := h; exact ⟨v, by rw [cut_lt hi]; exact e, r⟩
  | tab g l => obtain ⟨e, r⟩ := h; exact ⟨by rw [cut_lt hi]; exact e, r⟩
  | lp L env st => obtain ⟨l, fn, tmps, D, e, hB, hh, r⟩ := h; exact ⟨l, fn, tmps, D, by rw [cut_lt hi]; exact e, hB, hh, r.cut hb⟩
  | rov v t s n get => exact ⟨by rw [cut_lt hi]; exact h.1, h.2⟩
  | rws t e s N vs xs => obtain ⟨⟨v, e, hr⟩, r⟩ := h; exact ⟨⟨v, by rw [cut_lt hi]; exact e, hr⟩, r⟩
  | vw r a s => obtain ⟨A, n, c, e1, h1, e2⟩ := h; exact ⟨A, n, c, by rw [cut_lt (Nat.blt_eq.mp (show Nat.blt r nx = true from hb))]; exact e1, h1, by rw [cut_lt hi]; exact e2⟩
  | dee s n vs xs => obtain ⟨v, e, r⟩ := h; exact ⟨v, by rw [cut_lt hi]; exact e, r⟩
  | eqv j v => exact ⟨by rw [cut_lt (Nat.blt_eq.mp (show Nat.blt j nx = true from hb))]; exact h.1, by rw [cut_lt hi]; exact h.2.1, h.2.2⟩
  | vh r b => obtain ⟨A, n, c, e1, h1, e2⟩ := h; exact ⟨A, n, c, by rw [cut_lt (Nat.blt_eq.mp (show Nat.blt r nx = true from hb))]; exact e1, h1, by rw [cut_lt hi]; exact e2⟩
  | gone => trivial
theorem CapsAre.map {σ : Nat → Nat} {ρ : Rho} : ∀ {l : List Nat} {x : List Value}, CapsAre ρ (l.map σ) x → CapsAre (fun i => ρ (σ i)) l x
  | [], _, h => h
  | i :: l, _, ⟨a, r, e, hx, hr⟩ => ⟨a, r, e, hx, CapsAre.map hr⟩
theorem SameA.is_ {σ : Nat → Nat} {ρ : Rho} {a b : At} {x : Value} (h : SameA σ a b) (hb : b.is ρ x) : a.is (fun i => ρ (σ i)) x := by
  cases a with
  | val v =>
    cases b with
    | val v' => exact Eq.trans hb (Eq.symm h)
    | tf b => (cases v <;> first | exact Eq.trans hb (Eq.symm h) | cases h)
    | prop p =>
      cases v <;> try exact (show False from h).elim
      obtain ⟨c, rfl, hc⟩ := hb
      rename_i b
      show Value.bool c = .bool b
      congr 1
      rw [Bool.eq_iff_iff, hc]
      exact (show b = true ↔ p from h).symm
    | _ => exact (by cases v <;> exact (show False from h).elim)
  | tf q =>
    cases b with
    | tf c => exact Eq.trans hb (congrArg Value.bool (Eq.symm h))
    | _ => exact (show False from h).elim
  | prop p =>
    cases b with
    | prop q =>
      obtain ⟨c, rfl, hc⟩ := hb
      exact ⟨c, rfl, hc.trans (Iff.symm h)⟩
    | _ => exact (show False from h).elim
  | ptr i k j s =>
    cases b with
    | ptr i' k' j' s' =>
      obtain ⟨rfl, rfl, rfl, rfl⟩ := h
      exact hb
    | _ => exact (show False from h).elim
  | ref i =>
    cases b with
    | ref i' =>
      have e : σ i = i' := h
      subst e
      exact hb
    | _ => exact (show False from h).elim
  | clo f l =>
    cases b with
    | clo f' l' =>
      obtain ⟨rfl, rfl⟩ := h
      obtain ⟨cs, hc, e⟩ := hb
      exact ⟨cs, hc.map, e⟩
    | _ => exact (show False from h).elim
theorem SameAs.is_ {σ : Nat → Nat} {ρ : Rho} : ∀ {l m : List At} {x : List Value}, SameAs σ l m → Ats ρ m x → Ats (fun i => ρ (σ i)) l x
  | [], [], _, _, h => h
  | [], _ :: _, _, h, _ => h.elim
  | _ :: _, [], _, h, _ => h.elim
  | a :: l, b :: m, _, ⟨h1, h2⟩, ⟨u, r, hx, hu, hr⟩ => ⟨u, r, hx, h1.is_ hu, h2.is_ hr⟩
theorem SameA.ren (σ : Nat → Nat) (a : At) : SameA σ a (renA σ a) := by
  cases a with
  | val v => exact rfl
  | tf b => exact rfl
  | prop p => exact Iff.rfl
  | ptr i k j s => exact ⟨rfl, rfl, rfl, rfl⟩
  | ref i => exact rfl
  | clo f l => exact ⟨rfl, rfl⟩
theorem SameAs.ren (σ : Nat → Nat) : ∀ l : List At, SameAs σ l (l.map (renA σ))
  | [] => trivial
  | a :: l => ⟨SameA.ren σ a, SameAs.ren σ l⟩
theorem SLe.is_ {ρ : Rho} {u v : SV} {x : Value} (h : SLe u v) (hu : u.is ρ x) : v.is ρ x := by
  unfold SLe at h
  split at h
  · rename_i b p; exact ⟨b, hu, h⟩
  · rename_i p b
    obtain ⟨c, rfl, hc⟩ := hu
    show Value.bool c = Value.bool b
    congr 1; rw [Bool.eq_iff_iff, hc]; exact h
  · rename_i p q
    obtain ⟨c, rfl, hc⟩ := hu
    exact ⟨c, rfl, hc.trans h⟩
  · exact Eq.trans hu h.symm
  · obtain ⟨b, rfl, hb⟩ := h; exact ⟨b, hu, hb⟩
  · obtain ⟨b, rfl, hb⟩ := h
    obtain ⟨c, rfl, hc⟩ := hu
    show Value.bool c = Value.bool b
    congr 1; rw [Bool.eq_iff_iff, hc, hb]
  · exact Eq.trans hu h
  · subst h; exact hu
theorem EnvLe.get {σ : Nat → Nat} {env : Env} : ∀ {l : Env}, EnvLe σ env l → ∀ t v, fnd l t = some v → ∃ u, fnd env t = some u ∧ SLe u (renS σ v)
  | [], _, _, _, h => by cases h
  | (u, x) :: r, hl, t, v, h => by
    rcases fnd_cons h with ⟨rfl, rfl⟩ | ⟨_, h⟩
    · exact fndK_spec hl.1
    · exact EnvLe.get hl.2 t v h
theorem ObsLe.get {σ : Nat → Nat} {obs : Obs} : ∀ {l : Obs}, ObsLe σ obs l → ∀ t o, fnd l t = some o → ∃ u, fnd obs (σ t) = some u ∧ ObLe u (renO σ o)
  | [], _, _, _, h => by cases h
  | (u, x) :: r, hl, t, v, h => by
    rcases fnd_cons h with ⟨rfl, rfl⟩ | ⟨_, h⟩
    · exact fndK_spec hl.1
    · exact ObsLe.get hl.2 t v h
theorem mem_iot {i : Nat} : ∀ {n : Nat}, i < n → i ∈ iot n
  | 0, h => by omega
  | n + 1, h => by
    unfold iot
    by_cases e : i = n
    · simp [e]
    · simp [mem_iot (show i < n by omega)]
theorem memB_of {x : Nat} : ∀ {l : List Nat}, x ∈ l → memB x l = true
  | [], h => by simp at h
  | y :: r, h => by
    unfold memB
    cases hb : Nat.beq x y
    · rcases List.mem_cons.1 h with rfl | h
      · rw [Nat.beq_refl] at hb; cases hb
      · exact memB_of h
    · rfl
theorem injB_spec {σ : Nat → Nat} : ∀ {n : Nat}, injB σ n = true → ∀ i j, i < n → j < n → σ i = σ j → i = j
  | 0, _, i, j, hi, _, _ => by omega
  | n + 1, h, i, j, hi, hj, e => by
    unfold injB iot at h
    rw [List.map_cons] at h
    unfold nodB at h
    cases hb : memB (σ n) ((iot n).map σ) <;> simp only [hb] at h
    · have no : ∀ k, k < n → σ k ≠ σ n := fun k hk q => by
        have : memB (σ n) ((iot n).map σ) = true := memB_of (List.mem_map.2 ⟨k, mem_iot hk, q⟩)
        rw [hb] at this; cases this
      by_cases h1 : i = n
      · by_cases h2 : j = n
        · omega
        · subst h1; exact absurd e.symm (no j (by omega))
      · by_cases h2 : j = n
        · subst h2; exact absurd e (no i (by omega))
        · exact injB_spec (n := n) h i j (by omega) (by omega) e
    · cases h
def via (σ : Nat → Nat) (ρ : Rho) : Rho := fun i => ρ (σ i)
theorem Ats.via {σ : Nat → Nat} {ρ : Rho} {l : List At} {x : List Value} (h : Ats ρ (l.map (renA σ)) x) : Ats (V.via σ ρ) l x := (SameAs.ren σ l).is_ h
theorem SV.is_via {σ : Nat → Nat} {ρ : Rho} {nx : Nat} {v : SV} {x : Value} (hb : svB nx v = true) (h : (renS σ v).is ρ x) : v.is (via σ ρ) x := by
  cases v with
  | one a => exact SameA.is_ (σ := σ) (ρ := ρ) (SameA.ren σ a) h
  | agg l => obtain ⟨c, e, hx⟩ := h; exact ⟨c, e.via, hx⟩
  | tup l =>
    have : l = [] := by simpa [svB] using hb
    subst this
    exact h
theorem fnd_ren {σ : Nat → Nat} : ∀ {env : Env} {t : Nat} {v : SV}, fnd env t = some v → fnd (env.map fun p => (p.1, renS σ p.2)) t = some (renS σ v)
  | [], _, _, h => by cases h
  | (u, x) :: r, t, v, h => by
    rw [List.map_cons]
    unfold fnd at h ⊢
    cases hb : Nat.beq u t <;> simp only [hb] at h ⊢
    · exact fnd_ren h
    · injection h with h; rw [h]
theorem EnvR.via {sz nx : Nat} {σ : Nat → Nat} {ρ : Rho} {env : Env} {a : Act} (hb : (env.all fun p => svB nx p.2) = true) (h : EnvR sz ρ (env.map fun p => (p.1, renS σ p.2)) a) : EnvR sz (V.via σ ρ) env a :=
  ⟨h.size, fun t v ht => let ⟨x, e, hv⟩ := h.env t _ (fnd_ren ht); ⟨x, e, SV.is_via (fnd_all (p := fun p => svB nx p.2) hb ht) hv⟩⟩
theorem Sat.via {nx : Nat} {B : Nat} {σ : Nat → Nat} {ρ : Rho} {w : World} {i : Nat} {o : Ob} (hb : obB nx o = true) (h : Sat B ρ w (σ i) (renO σ o)) : Sat B (V.via σ ρ) w i o := by
  cases o with
  | box t l => obtain ⟨b, cs, e, hB, hl, hh⟩ := h; exact ⟨b, cs, e, hB, hl.via, hh⟩
  | lit t s rows =>
    obtain ⟨b, cs, e, hB, hs, hn, hl, hh⟩ := h
    rw [List.length_map] at e hn
    refine ⟨b, cs, e, hB, fun r hr => ?_, hn, ?_, hh⟩
    · have := hs (r.map (renA σ)) (List.mem_map.2 ⟨r, hr, rfl⟩)
      simpa using this
    · refine Ats.via (l := rows.flatten) ?_
      rw [List.map_flatten]
      exact hl
  | arr s n get => exact h
  | cel l => obtain ⟨v, cs, e, hl, r⟩ := h; exact ⟨v, cs, e, hl.via, r⟩
  | row t s n get => exact h
  | tab g l => exact h
  | lp L env st => obtain ⟨l, fn, tmps, D, e, hB, hh, r⟩ := h; exact ⟨l, fn, tmps, D, e, hB, hh, r.via hb⟩
  | rov v t s n get => exact h
  | rws t e s N vs xs => exact h
  | vw r a s => exact h
  | dee s n vs xs => exact h
  | eqv j v => exact h
  | vh r b => exact h
  | gone => trivial
theorem foot_via {σ : Nat → Nat} {ρ : Rho} {i : Nat} {o : Ob} : foot (via σ ρ) i o = foot ρ (σ i) (renO σ o) := by
  cases o <;> rfl
theorem renO_mut {σ : Nat → Nat} {o : Ob} : (renO σ o).mut = o.mut := by cases o <;> rfl
theorem flat_congr {get get' : Nat → List Value} : ∀ {n : Nat}, (∀ k, k < n → get k = get' k) → flat get n = flat get' n
  | 0, _ => rfl
  | n + 1, h => by
    have e : ∀ g : Nat → List Value, flat g (n + 1) = flat g n ++ g n := fun g => by unfold flat; rw [List.range_succ, List.flatMap_append]; simp
    rw [e, e, flat_congr (fun k hk => h k (by omega)), h n (by omega)]
theorem sub_renO {σ : Nat → Nat} {o : Ob} {b : Nat} : sub (renO σ o) b = sub o b := by cases o <;> rfl
theorem ObLe.sub {o o' : Ob} (hl : ObLe o o') {b : Nat} (h : sub o' b) : sub o b := by
  cases o' with
  | rws t' e' s' n' vs' xs' =>
    obtain ⟨k, ⟨m, g⟩, h1, h2, h3⟩ := h
    cases o with
    | rws t e s n vs xs =>
      obtain ⟨rfl, rfl, rfl, rfl, hk⟩ := hl
      obtain ⟨e1, e2⟩ := hk k h1
      obtain ⟨g0, e3, _⟩ := e2 m g h2
      exact ⟨k, _, h1, e3, by rw [e1]; exact h3⟩
    | row t s n get =>
      obtain ⟨rfl, rfl, rfl, hk⟩ := hl
      obtain ⟨_, e2⟩ := hk k h1
      rw [(e2 m g h2).1] at h3
      simp [footV] at h3
    | _ => cases hl
  | _ => exact h.elim
theorem ObLe.sat {B : Nat} {ρ : Rho} {w : World} {i : Nat} {o o' : Ob} (hl : ObLe o o') (h : Sat B ρ w i o) : Sat B ρ w i o' ∧ (∀ b, foot ρ i o' = some b → foot ρ i o = some b) ∧ (o'.mut = true → o.mut = true) := by
  cases o with
  | arr s n get =>
    cases o' with
    | arr s' n' get' =>
      obtain ⟨rfl, rfl, hg⟩ := hl
      obtain ⟨v, e, A, c, ev, hn, hc, hh⟩ := h
      refine ⟨⟨v, e, A, c, ev, hn, hc, fun k hk => ?_⟩, fun _ h => h, fun h => h⟩
      rw [← hg k hk]; exact hh k hk
    | _ => cases hl
  | row t s n get =>
    cases o' with
    | row t' s' n' get' =>
      obtain ⟨rfl, rfl, rfl, hg⟩ := hl
      obtain ⟨v, e, hr⟩ := h
      exact ⟨⟨v, e, hr.congr fun k hk => (hg k hk).symm⟩, fun _ h => h, fun h => h⟩
    | arr s' n' get' =>
      obtain ⟨rfl, rfl, hg⟩ := hl
      obtain ⟨v, e, hr⟩ := h
      refine ⟨⟨v, e, (hr.congr fun k hk => (hg k hk).symm).arr⟩, fun b hb => ?_, fun h => nomatch h⟩
      obtain ⟨A, c, rfl, _, _, hc⟩ := hr
      unfold foot at hb ⊢
      rw [e]
      cases n with
      | zero => cases hb
      | succ n =>
        have hc0 : c ≠ 0 := by rcases hc with ⟨h, _⟩ | ⟨_, _, _, _, _, _, h, _⟩ <;> omega
        cases c with
        | zero => exact absurd rfl hc0
        | succ c => exact hb
    | rws t' e' s' n' vs xs =>
      obtain ⟨rfl, rfl, rfl, hg⟩ := hl
      obtain ⟨v, e, hr⟩ := h
      refine ⟨⟨⟨v, e, hr.congr fun k hk => ((hg k hk).1).symm⟩, fun k m g h1 h2 => ?_, fun j k x y b h1 h2 hne h3 h4 h5 => ?_⟩, fun _ h => h, fun _ => rfl⟩
      · obtain ⟨e1, rfl⟩ := (hg k h1).2 m g h2
        rw [e1]
        exact ⟨none, 0, rfl, by omega, fun k hk => by omega, .inl ⟨rfl, rfl⟩⟩
      · obtain ⟨e1, _⟩ := (hg j h1).2 x.1 x.2 h3
        rw [e1] at h5
        simp [footV] at h5
    | _ => cases hl
  | rws t e s n vs xs =>
    cases o' with
    | rws t' e' s' n' vs' xs' =>
      obtain ⟨rfl, rfl, rfl, rfl, hk⟩ := hl
      obtain ⟨⟨v, e, hr⟩, hs, hd⟩ := h
      refine ⟨⟨⟨v, e, hr.congr fun k h1 => by rw [(hk k h1).1]⟩, fun k m g h1 h2 => ?_, fun j k x y b h1 h2 hne h3 h4 h5 => ?_⟩, fun _ h => h, fun _ => rfl⟩
      · obtain ⟨e1, e2⟩ := hk k h1
        obtain ⟨g0, e3, e4⟩ := e2 m g h2
        rw [← e1]
        exact (hs k m g0 h1 e3).congr fun q hq => (e4 q hq).symm
      · obtain ⟨e1, e2⟩ := hk j h1
        obtain ⟨g0, e3, _⟩ := e2 x.1 x.2 h3
        obtain ⟨f1, f2⟩ := hk k h2
        obtain ⟨g1, f3, _⟩ := f2 y.1 y.2 h4
        rw [← e1] at h5
        rw [← f1]
        exact hd j k _ _ b h1 h2 hne e3 f3 h5
    | _ => cases hl
  | _ =>
    have e : _ = o' := hl
    subst e
    exact ⟨h, fun _ h => h, fun h => h⟩
theorem EnvR.head {σ : Nat → Nat} {sz nx : Nat} {ρ : Rho} {env l : Env} {a : Act} (hE : EnvR sz ρ env a) (hl : EnvLe σ env l) (hb : envB nx l = true) : EnvR sz (V.cut nx (V.via σ ρ)) l a :=
  ⟨hE.size, fun t v h => by
    obtain ⟨u, hu, hle⟩ := hl.get t v h
    obtain ⟨x, e, hv⟩ := hE.env t _ hu
    have hv := hle.is_ hv
    have hvb := fnd_all (p := fun p => svB nx p.2) hb h
    exact ⟨x, e, SV.is_cut hvb (SV.is_via hvb hv)⟩⟩
theorem Cls.head {σ : Nat → Nat} {B nx nx1 : Nat} {ρ : Rho} {obs l : Obs} {w : World} (hC : Cls B ρ obs nx1 w) (hl : ObsLe σ obs l) (hb : obsB nx l = true) (hi : injB σ nx = true) : Cls B (cut nx (via σ ρ)) l nx w := by
  have lt : ∀ i o, fnd l i = some o → i < nx ∧ obB nx o = true := fun i o h => by
    have := fnd_all (p := fun p => Nat.blt p.1 nx && obB nx p.2) hb h
    simpa [Nat.blt_eq] using this
  refine ⟨hC.le, fun i o h => ?_, fun i j o o' b h1 h2 hne hm hf => ?_, fun i hi => if_neg (by omega), fun i j o o' b h1 h2 hs => ?_⟩
  rotate_left 2
  · obtain ⟨u, hu, hl1⟩ := hl.get i o h1
    obtain ⟨u', hu', hl2⟩ := hl.get j o' h2
    have s1 : sub u b := hl1.sub (by rw [sub_renO]; exact hs)
    obtain ⟨_, f2, _⟩ := hl2.sat (hC.sat _ u' hu')
    rw [foot_eq (cut_lt (lt j o' h2).1), foot_via]
    refine ⟨fun q => (hC.apx _ _ u u' b hu hu' s1).1 (f2 b q), fun hne z => ?_⟩
    exact (hC.apx _ _ u u' b hu hu' s1).2 (fun q => hne (injB_spec hi i j (lt i o h1).1 (lt j o' h2).1 q)) (hl2.sub (by rw [sub_renO]; exact z))
  · obtain ⟨u, hu, hl'⟩ := hl.get i o h
    exact ((hl'.sat (hC.sat _ u hu)).1.via (lt i o h).2).cut (lt i o h).1 (lt i o h).2
  · obtain ⟨u, hu, hl1⟩ := hl.get i o h1
    obtain ⟨u', hu', hl2⟩ := hl.get j o' h2
    obtain ⟨_, f1, m1⟩ := hl1.sat (hC.sat _ u hu)
    obtain ⟨_, f2, m2⟩ := hl2.sat (hC.sat _ u' hu')
    rw [foot_eq (cut_lt (lt i o h1).1), foot_via] at hf
    rw [foot_eq (cut_lt (lt j o' h2).1), foot_via]
    exact fun q => hC.apart _ _ u u' b hu hu' (fun q => hne (injB_spec hi i j (lt i o h1).1 (lt j o' h2).1 q)) (m1 (by rw [renO_mut]; exact hm)) (f1 b hf) (f2 b q)
theorem sgm_pin {pin : Nat} : ∀ {l : List (Nat × Nat)}, pinB pin l = true → ∀ i, i < pin → sgm l i = i
  | [], _, _, _ => rfl
  | (a, b) :: r, h, i, hi => by
    simp only [pinB, List.all_cons, Bool.and_eq_true] at h
    have ha : pin ≤ a := by simpa using h.1
    have hr := sgm_pin (l := r) h.2 i hi
    unfold sgm fnd
    cases hb : Nat.beq a i
    · exact hr
    · have := Nat.eq_of_beq_eq_true hb; omega
theorem Wy.head {B m : Nat} {s : St} {ρ : Rho} {ds : List Deferred} {w : World} (h : Wy B s ρ ds w) (hm : s.pin ≤ m) {l : List (Nat × Nat)} (hl : pinB s.pin l = true) : Wy B s (cut m (via (sgm l) ρ)) ds w :=
  ⟨h.b, h.o, fun i y hi hy => by
    have e : cut m (via (sgm l) ρ) i = ρ (sgm l i) := cut_lt (by omega)
    rw [e, sgm_pin hl i hi]; exact h.e i y hi hy, h.m⟩
theorem calm_region {id : Nat} {ops : Array Oper} {b : Bool} (h : calm (.region id ops b) = true) : noDef ops.toList = true := h
theorem no_out {B : Nat} {w0 : St} {sz : Nat} {K : Kon} : ¬ LetsOut (QK B w0 sz K) := fun ⟨_, _, q⟩ => q
theorem region_any_in {P : Program} {id : Nat} {ops : Array Oper} {Q : Exit → Act → World → Prop} {a : Act} {w : World} {ro : Option Nat} {n : Nat} (hm : P.follows .mixedOrders = true) (hd : ro = none ∨ noDef ops.toList = true) (hQ : ¬ LetsOut Q)
    (h : wpAny P .any ops Q ops.size (Array.replicate ops.size false) a { w with drawn := w.drawn + 1 }) : (Code.region id ops true).wpIn (Fz ro) n P Q a w :=
  wpIn_region_any hm (any_in hd hQ _ _ _ _ h)
theorem region_quiet_in {P : Program} {id : Nat} {ops : Array Oper} {Q : Exit → Act → World → Prop} {C : World → Prop} {a : Act} {w : World} {ro : Option Nat} {n : Nat} (hm : P.follows .mixedOrders = true) (hd : ro = none ∨ noDef ops.toList = true) (hQ : ¬ LetsOut Q)
    (hB : Region.lexB .any ops = true) (hC : C { w with drawn := w.drawn + 1 }) (h : wpQuiet P ops C (fun a' => ∀ w', C w' → Q .normal a' w') ops.toList a) : (Code.region id ops true).wpIn (Fz ro) n P Q a w := by
  simp only [Region.lexB, Bool.and_eq_true] at hB
  refine region_any_in hm hd hQ (wpAny_of_quiet (Q := fun a' => ∀ w', C w' → Q .normal a' w') (fun _ w' hw' h => h w' hw') _ _ _ _ hC ?_)
  have := wpAnyQ_lex (C := C) (md := .any) hB.1 ops.toList 0 (Array.replicate ops.size false) a (by simp) (by simpa using hB.2) h
  simpa using this
section
variable {P : Program} {T : TT} {sz : Nat} {B : Nat} {w0 : St} (hT : TTok P T) (hm : P.follows .mixedOrders = true)
include hT hm
omit hT hm in
theorem vc_cond {pin : Nat} {c : Operand} {x y : Code} {env : Env} {obs : Obs} {nx : Nat} {K : Kon} : vc P T sz pin (.cond c x y) env obs nx K = evK env c fun v => match v with
      | .one (.tf true) => vc P T sz pin x env obs nx K
      | .one (.tf false) => vc P T sz pin y env obs nx K
      | .one (.prop p) => NCond p (wr x ++ wr y) pin (vc P T sz pin x env obs nx) (vc P T sz pin y env obs nx) env obs nx K
      | .one (.val (.bool q)) => NCond (q = true) (wr x ++ wr y) pin (vc P T sz pin x env obs nx) (vc P T sz pin y env obs nx) env obs nx K
      | _ => False := rfl
theorem vc_sound {ro : Option Nat} {n : Nat} : ∀ (c : Code) {env : Env} {obs : Obs} {nx : Nat} {K : Kon} {ρ : Rho} {a : Act} {w : World}, (ro = none ∨ calm c = true) → vc P T sz w0.pin c env obs nx K → EnvR sz ρ env a → Cls B ρ obs nx w → Wy B w0 ρ a.defers w → c.wpIn (Fz ro) n P (QK B w0 sz K) a w
  | .skip, env, obs, nx, K, ρ, a, w, hcm, h, hE, hC, hW => wpIn_skip ⟨ρ, env, obs, nx, h, hE, hC, hW⟩
  | .label _, env, obs, nx, K, ρ, a, w, hcm, h, hE, hC, hW => wpIn_label ⟨ρ, env, obs, nx, h, hE, hC, hW⟩
  | .region id ops false, env, obs, nx, K, ρ, a, w, hcm, h, hE, hC, hW => by
    have h1 := ops_sound (ro := ro) (n := n) (Q := QK B w0 sz K) hT (fun a w q => q) ops.toList hE hC hW h
    exact wpIn_region_list (by simpa using h1)
  | .region id ops true, env, obs, nx, K, ρ, a, w, hcm, h, hE, hC, hW => by
    have hC1 : Cls B ρ obs nx { w with drawn := w.drawn + 1 } := hC.drawn _
    have hW1 : Wy B w0 ρ a.defers { w with drawn := w.drawn + 1 } := hW.trans ⟨⟨rfl, rfl, rfl, Nat.le_refl _, fun _ _ => rfl⟩, fun _ => Nat.le_succ _⟩ (fun _ _ h => h)
    have go : ∀ (g rc : Bool) (K' : Env → Obs → Nat → Prop) {ρ : Rho} {env : Env} {obs : Obs} {nx : Nat}, EnvR sz ρ env a → Cls B ρ obs nx { w with drawn := w.drawn + 1 } → Wy B w0 ρ a.defers { w with drawn := w.drawn + 1 } → freeB ops.toList = true → explK g rc P T sz ops.toList ops.toList.length [] env obs nx K' → (∀ a w, Nx B w0 sz K' a w → QK B w0 sz K .normal a w) → (Code.region id ops true).wpIn (Fz ro) n P (QK B w0 sz K) a w := fun g rc K' {ρ env obs nx} hE hC1 hW1 hf hx hR => by
      refine region_any_in hm (hcm.imp (fun q => q) calm_region) no_out ?_
      have := (expl_sound hT hf ops.toList.length [] (listed := Array.replicate ops.size false) (fun _ _ => True) ⟨by simp, fun j => by
        rw [show memB j [] = false from rfl]
        rcases Nat.lt_or_ge j ops.size with h | h
        · simp [h]
        · simp [Array.getElem?_eq_none, h]⟩ (down_start _) hE hC1 hW1 (fun _ _ _ => ⟨fun _ _ => trivial, .inl fun _ => trivial⟩) hx).any (Q := QK B w0 sz K) hR
      simpa using this
    replace h : NDraw P T sz w0.pin ops.toList env obs nx (fun e o n => K .nrm e o n) := h
    cases h with
    | mk h2 h1 =>
      have h1 := ops_quiet (Q := fun a' => ∀ w', (Cls B ρ obs nx w' ∧ Wy B w0 ρ a.defers w') → QK B w0 sz K .normal a' w') hT hC hW (fun a2 env' hd hE' hK w' hw' => ⟨ρ, env', obs, nx, hK, hE', hw'.1, by rw [hd]; exact hw'.2⟩) ops.toList rfl hE h1
      exact region_quiet_in (C := fun w' => Cls B ρ obs nx w' ∧ Wy B w0 ρ a.defers w') hm (hcm.imp (fun q => q) calm_region) no_out (by simpa using h2) ⟨hC1, hW1⟩ (by simpa using h1)
    | pre_ g rc hf env' obs' nx' hr hx =>
      obtain ⟨ρ', hx', hE', hC'⟩ := hr.h B ρ _ a hE hC1
      exact go g rc _ hE' hC' (hW1.ext hx') hf hx fun a w h => h
    | tail_ g rc m hc hx =>
      rw [Bool.and_eq_true] at hc
      obtain ⟨hf, ht⟩ := hc
      have hd := hcm.imp (fun q => q) calm_region
      have hl := (tailB_spec ht).1
      refine wpIn_region_any hm ?_
      have lt : (ops.toList.take m).length = m := List.length_take.trans (Nat.min_eq_left hl)
      have := wpX_tail (n := n) (Q := QK B w0 sz K) hd ht (R := Nx B w0 sz fun e o n => opsK P T sz false ops.toList (ops.toList.drop m) e o n fun e o n => K .nrm e o n) (fun a w q => by
          obtain ⟨ρ1, env1, obs1, nx1, h1, hE1, hC1, hW1⟩ := q
          exact ops_sound hT (fun _ _ q => q) _ hE1 hC1 hW1 h1) (ops.toList.take m).length (Array.replicate m false) (Array.replicate ops.size false) a { w with drawn := w.drawn + 1 } (fun _ _ => True) (by simp) (by simp) (fun i => by
            rcases Nat.lt_or_ge i m with q | q
            · rcases Nat.lt_or_ge i ops.size with r | r
              · simp [q, r]
              · simp [q, Array.getElem?_eq_none, r]
            · rcases Nat.lt_or_ge i ops.size with r | r
              · simp [r]; intro h; omega
              · simp [Array.getElem?_eq_none, r]; intro h; omega) (down_start _) (expl_sound hT hf _ [] (listed := Array.replicate m false) (fun _ _ => True) ⟨by simp [lt], fun j => by
                rw [show memB j [] = false from rfl]
                rcases Nat.lt_or_ge j m with h | h
                · simp [h]
                · simp [Array.getElem?_eq_none, h]⟩ (down_start _) hE hC1 hW1 (fun _ _ _ => ⟨fun _ _ => trivial, .inl fun _ => trivial⟩) hx)
      rw [lt, show m + (ops.toList.length - m) = ops.size by simp at hl ⊢; omega] at this
      simpa using this
    | any_ g rc hf hx => exact go g rc _ hE hC1 hW1 hf hx fun a w h => h
    | join_ g rc hf E O m hx hp hb hk =>
      refine go g rc _ hE hC1 hW1 hf hx ?_
      rintro a1 w1 ⟨ρ1, env1, obs1, nx1, ⟨⟨l, hl, hi, he, ho⟩⟩, hE1, hC1, hW1⟩
      exact ⟨cut m (via (sgm l) ρ1), E, O, m, hk, hE1.head he hb.1, hC1.head ho hb.2 hi, hW1.head (Nat.le_of_ble_eq_true hp) hl⟩
  | .seq x y, env, obs, nx, K, ρ, a, w, hcm, h, hE, hC, hW => by
    have hx : ro = none ∨ calm x = true := hcm.imp (fun q => q) fun q => (by unfold calm at q; simp only [Bool.and_eq_true] at q; exact q.1)
    have hy : ro = none ∨ calm y = true := hcm.imp (fun q => q) fun q => (by unfold calm at q; simp only [Bool.and_eq_true] at q; exact q.2)
    have h1 := vc_sound (n := n) x hx h hE hC hW
    refine wpIn_seq (wpIn_mono h1 ?_)
    intro e a1 w1 q
    cases e with
    | normal =>
      obtain ⟨ρ1, env1, obs1, nx1, hk, hE1, hC1, hW1⟩ := q
      exact vc_sound y hy hk hE1 hC1 hW1
    | exit i => exact q
    | ret => exact q
    | goto l => exact q
    | panic c => exact q
    | outgrown => exact q
  | .cond c x y, env, obs, nx, K, ρ, a, w, hcm, h, hE, hC, hW => by
    rw [vc_cond] at h
    have hx : ro = none ∨ calm x = true := hcm.imp (fun q => q) fun q => (by unfold calm at q; simp only [Bool.and_eq_true] at q; exact q.1)
    have hy : ro = none ∨ calm y = true := hcm.imp (fun q => q) fun q => (by unfold calm at q; simp only [Bool.and_eq_true] at q; exact q.2)
    have two : ∀ (p : Prop) (b : Bool), a.eval c = .bool b → (b = true ↔ p) → NCond p (wr x ++ wr y) w0.pin (vc P T sz w0.pin x env obs nx) (vc P T sz w0.pin y env obs nx) env obs nx K → (Code.cond c x y).wpIn (Fz ro) n P (QK B w0 sz K) a w := fun p b hb hp h => by
      have one : ∀ K', NIf p (vc P T sz w0.pin x env obs nx K') (vc P T sz w0.pin y env obs nx K') → (Code.cond c x y).wpIn (Fz ro) n P (QK B w0 sz K') a w := fun K' h => by
        cases b with
        | true => exact wpIn_cond_true hb (vc_sound x hx (h.t (hp.1 rfl)) hE hC hW)
        | false => exact wpIn_cond_false hb (vc_sound y hy (h.f (fun q => by have := hp.2 q; cases this)) hE hC hW)
      cases h with
      | mk h => exact one K h
      | join ι S m J hpm hsb h k =>
        refine wpIn_mono (one _ h) ?_
        intro e a1 w1 q
        cases e with
        | normal =>
          obtain ⟨ρ1, env1, obs1, nx1, ⟨i, l, hj, hl, hi, he, ho⟩, hE1, hC1, hW1⟩ := q
          exact ⟨cut m (via (sgm l) ρ1), (S i).1, (S i).2, m, k i hj, hE1.head he (hsb i).1, hC1.head ho (hsb i).2 hi, hW1.head hpm hl⟩
        | exit i => exact q
        | ret => exact q
        | goto l => exact q
        | panic c => exact q
        | outgrown => exact q
    obtain ⟨v, hv, h⟩ := evK_spec hE h
    split at h
    · exact wpIn_cond_true hv (vc_sound x hx h hE hC hW)
    · exact wpIn_cond_false hv (vc_sound y hy h hE hC hW)
    · obtain ⟨b, hb, hp⟩ := hv
      exact two _ b hb hp h
    · rename_i b
      exact two _ b hv Iff.rfl h
    · exact h.elim
  | .block id c, env, obs, nx, K, ρ, a, w, hcm, h, hE, hC, hW => by
    have h1 := vc_sound (n := n) c (hcm.imp (fun q => q) fun q => (by unfold calm at q; exact q)) h hE hC hW
    refine wpIn_block (wpIn_mono h1 ?_)
    intro e a1 w1 q
    cases e with
    | normal => exact q
    | exit i =>
      obtain ⟨ρ1, env1, obs1, nx1, hk, r⟩ := q
      simp only [Exit.inBlock]
      simp only at hk
      by_cases e : i = id
      · subst e
        rw [if_pos rfl]
        rw [Nat.beq_refl] at hk
        exact ⟨ρ1, env1, obs1, nx1, hk, r⟩
      · rw [if_neg e]
        cases hb : Nat.beq i id
        · rw [hb] at hk
          exact ⟨ρ1, env1, obs1, nx1, hk, r⟩
        · exact absurd (Nat.eq_of_beq_eq_true hb) e
    | ret => exact q
    | goto l => exact q
    | panic c => exact q
    | outgrown => exact q
  | .exit i, env, obs, nx, K, ρ, a, w, hcm, h, hE, hC, hW => wpIn_exit ⟨ρ, env, obs, nx, h, hE, hC, hW⟩
  | .ret, env, obs, nx, K, ρ, a, w, hcm, h, hE, hC, hW => wpIn_ret ⟨ρ, env, obs, nx, h, hE, hC, hW⟩
  | .loop c, env, obs, nx, K, ρ, a, w, hcm, h, hE, hC, hW => by
    obtain ⟨ι, S, μ, J, i0, m, hpin, hj, hi0, hel, hol, hb, hr⟩ := NLoop.h h
    refine wpIn_loop_ghost (fun n a w => ∃ i ρ, μ i = n ∧ J i ∧ EnvR sz ρ (S i).1 a ∧ Cls B ρ (S i).2 m w ∧ Wy B w0 ρ a.defers w) (μ i0)
      ⟨i0, _, rfl, hj, hE.head hel (hb i0).1, hC.head hol (hb i0).2 hi0, hW.head hpin (l := []) rfl⟩ ?_
    rintro n a1 w1 ⟨i, ρ1, rfl, hji, hE1, hC1, hW1⟩
    refine wpIn_mono (vc_sound c (hcm.imp (fun q => q) fun q => (by unfold calm at q; exact q)) (hr i hji) hE1 hC1 hW1) ?_
    intro e a2 w2 q
    cases e with
    | normal =>
      obtain ⟨ρ2, env2, obs2, nx2, ⟨i', l', hj', hlt, hp', hi', hel', hol'⟩, hE2, hC2, hW2⟩ := q
      exact ⟨μ i', hlt, i', _, rfl, hj', hE2.head hel' (hb i').1, hC2.head hol' (hb i').2 hi', hW2.head hpin hp'⟩
    | exit i => exact q
    | ret => exact q
    | goto l => exact q
    | panic c => exact q
    | outgrown => exact q
  | .rangeFunc f ps assign body, env, obs, nx, K, ρ, a, w, hcm, h, hE, hC, hW => by
    rcases hcm with rfl | q
    · exact NRange.h h B w0 ρ a w n hE hC hW
    · cases q
  | .scope _, _, _, _, _, _, _, _, _, h, _, _, _ => h.elim
  | .goto _, _, _, _, _, _, _, _, _, h, _, _, _ => h.elim
  | .refuse _, _, _, _, _, _, _, _, _, h, _, _, _ => h.elim
end
end Go.Proofs.Ytdplkcciknfnhaa.V

namespace Go.Proofs.Ytdplkcciknfnhaa.V
open Go Go.RowKit
variable [Dr]
set_option linter.unusedSectionVars false
def argEnv : Nat → List SV → Env
  | _, [] => []
  | i, v :: r => (i, v) :: argEnv (i + 1) r
def resK (T : TT) (env : Env) (obs : Obs) : List ResultVar → (List SV → Prop) → Prop
  | [], K => K []
  | .tmp t :: r, K => fndK env t fun v => match v with
    | .one a => resK T env obs r fun l => K (.one a :: l)
    | .agg c => resK T env obs r fun l => K (.agg c :: l)
    | .tup _ => False
  | .cell t ty :: r, K => fndK env t fun v => match v with
    | .one (.ptr i k j s) => fndK T ty fun y => fndK obs i fun o => elemK obs y k j s (fun u => match u with
      | .one a => resK T env obs r fun l => K (.one a :: l)
      | .agg c => resK T env obs r fun l => K (.agg c :: l)
      | .tup _ => False) o
    | _ => False
def fnK (T : TT) (rs : List ResultVar) (R : SV → Obs → Nat → Prop) : Kon := fun e env obs nx => match e with
  | .nrm | .ret => resK T env obs rs fun l => match l with
    | [v] => R v obs nx
    | l => R (.tup l) obs nx
  | .exit _ => False
theorem Svs.length {ρ : Rho} : ∀ {l : List SV} {x : List Value}, Svs ρ l x → x.length = l.length
  | [], _, h => by rw [h]; rfl
  | _ :: _, _, ⟨a, r, hx, ha, hr⟩ => by rw [hx, List.length_cons, List.length_cons, Svs.length hr]
def resF (tmps : Array Value) : ResultVar → Sem Value
  | .tmp t => pure (tmps.getD t undef)
  | .cell a t => do loadVar t (← asAddr (tmps.getD a undef))
theorem results_eq (fn : Func) (tmps : Array Value) : results fn tmps = (do let vs ← fn.results.mapM (resF tmps); pure (if h : vs.size = 1 then vs[0] else .tuple vs)) := by
  unfold results
  have e : (fun r => match r with | ResultVar.tmp t => (pure (tmps.getD t undef) : Sem Value) | .cell a t => do loadVar t (← asAddr (tmps.getD a undef))) = resF tmps := by
    funext r; cases r <;> rfl
  rw [← e]
  rfl
theorem run_mapM_cons {P : Program} {α : Type} {f : α → Sem Value} {x : α} {r : List α} {y : Value} {ys : List Value} {w : World} (h1 : (f x).run P w = .ok y w) (h2 : (r.mapM f).run P w = .ok ys w) : ((x :: r).mapM f).run P w = .ok (y :: ys) w := by
  rw [List.mapM_cons]
  simp [Sem.run_bind, h1, h2]
section
variable {P : Program} {T : TT} {sz : Nat} {ρ : Rho} {env : Env} {a : Act} {B nx : Nat} {obs : Obs} {w : World} (hT : TTok P T) (hE : EnvR sz ρ env a) (hC : Cls B ρ obs nx w)
include hT hE hC
theorem resK_spec : ∀ {rs : List ResultVar} {K : List SV → Prop}, resK T env obs rs K → ∃ l xs, K l ∧ Svs ρ l xs ∧
    (rs.mapM (resF a.tmps)).run P w = .ok xs w
  | [], K, h => ⟨[], [], h, rfl, rfl⟩
  | .tmp t :: r, K, h => by
    unfold resK at h
    obtain ⟨v, e, h⟩ := fndK_spec h
    obtain ⟨x, ex, hv⟩ := hE.env t v e
    have e2 : a.tmps.getD t undef = x := by simp [Array.getD_eq_getD_getElem?, ex]
    split at h
    · obtain ⟨l, xs, hK, hs, hr⟩ := resK_spec h
      exact ⟨_, x :: xs, hK, ⟨x, xs, rfl, hv, hs⟩, run_mapM_cons (by simp only [resF, e2, Sem.run_pure]) hr⟩
    · obtain ⟨l, xs, hK, hs, hr⟩ := resK_spec h
      exact ⟨_, x :: xs, hK, ⟨x, xs, rfl, hv, hs⟩, run_mapM_cons (by simp only [resF, e2, Sem.run_pure]) hr⟩
    · exact h.elim
  | .cell t ty :: r, K, h => by
    unfold resK at h
    obtain ⟨v, e, h⟩ := fndK_spec h
    obtain ⟨x, ex, hv⟩ := hE.env t v e
    have e2 : a.tmps.getD t undef = x := by simp [Array.getD_eq_getD_getElem?, ex]
    split at h
    · rename_i i k j s
      obtain ⟨a0, hb, hx⟩ := hv
      obtain ⟨y, ey, h⟩ := fndK_spec h
      obtain ⟨o, eo, h⟩ := fndK_spec h
      obtain ⟨u, z, hu, h, hl⟩ := load_spec hC eo (hT.get ey) h
      have hl := hl w hC a0 hb
      split at h
      · obtain ⟨l, xs, hK, hs, hr⟩ := resK_spec h
        exact ⟨_, z :: xs, hK, ⟨z, xs, rfl, hu, hs⟩, run_mapM_cons (by simp only [resF, Sem.run_bind, Sem.run_pure, Result.andThen_ok, e2, hx, asAddr, hl]) hr⟩
      · obtain ⟨l, xs, hK, hs, hr⟩ := resK_spec h
        exact ⟨_, z :: xs, hK, ⟨z, xs, rfl, hu, hs⟩, run_mapM_cons (by simp only [resF, Sem.run_bind, Sem.run_pure, Result.andThen_ok, e2, hx, asAddr, hl]) hr⟩
      · exact h.elim
    · exact h.elim
theorem results_spec {fn : Func} {R : SV → Obs → Nat → Prop} (h : resK T env obs fn.results.toList fun l => match l with
    | [v] => R v obs nx
    | l => R (.tup l) obs nx) : ∃ v x, R v obs nx ∧ v.is ρ x ∧ (results fn a.tmps).run P w = .ok x w := by
  obtain ⟨l, xs, hK, hs, hr⟩ := resK_spec hT hE hC h
  have hm : (fn.results.mapM (resF a.tmps)).run P w = .ok xs.toArray w := by
    rw [Array.mapM_eq_mapM_toList]
    simp [Sem.run_map, hr]
  rw [results_eq]
  split at hK
  · rename_i v
    obtain ⟨x, r, rfl, hv, hr'⟩ := hs
    have e : r = [] := hr'
    subst e
    refine ⟨v, x, hK, SV.is_of1 hv, ?_⟩
    rw [Sem.run_bind, hm]
    simp
  · rename_i hn
    refine ⟨_, .tuple xs.toArray, hK, ⟨xs, hs, rfl⟩, ?_⟩
    rw [Sem.run_bind, hm]
    have hl : xs.length ≠ 1 := by
      intro e
      have : l.length = xs.length := hs.length.symm
      match l, this with
      | [v], _ => exact hn v rfl
      | [], q => simp [e] at q
      | _ :: _ :: _, q => simp [e] at q
    simp [hl]
end
theorem argEnv_get {ρ : Rho} : ∀ {l : List SV} {xs : List Value} {i t : Nat} {v : SV}, Svs ρ l xs → fnd (argEnv i l) t = some v → ∃ x, i ≤ t ∧ xs[t - i]? = some x ∧ v.is ρ x
  | [], _, _, _, _, _, h => by cases h
  | u :: l, _, i, t, v, ⟨x, r, hx, hu, hr⟩, h => by
    rcases fnd_cons h with ⟨rfl, rfl⟩ | ⟨hn, h⟩
    · exact ⟨x, Nat.le_refl _, by rw [hx]; simp, SV.is_of1 hu⟩
    · obtain ⟨y, hle, hy, hv⟩ := argEnv_get hr h
      refine ⟨y, by omega, ?_, hv⟩
      rw [hx, show t - i = (t - (i + 1)) + 1 by omega]
      simpa using hy
theorem heap_shut {w : World} {D b : Nat} {l : Option (List Deferred)} {o o' : Obj} (hD : w.heap[D]? = some (.deferred l)) (hb : w.heap[b]? = some o) (hne : ∀ l, o ≠ .deferred l) : (w.putObj D o').heap[b]? = some o := by
  rw [World.putObj_heap_other]
  · exact hb
  · intro e; subst e; rw [hD] at hb; injection hb with hb; exact hne l hb.symm
theorem cell_shut {w : World} {D : Nat} {l : Option (List Deferred)} {o' : Obj} (hD : w.heap[D]? = some (.deferred l)) {a : Addr} {v : Value} (h : w.cell? a = some v) : (w.putObj D o').cell? a = some v := by
  rw [← h]
  refine World.cell?_of_block (World.putObj_heap_other fun e => ?_)
  unfold World.cell? at h
  rw [e, hD] at h; cases h
theorem Cls.shut {B nx : Nat} {ρ : Rho} {obs : Obs} {w : World} {D : Nat} {l : Option (List Deferred)} (h : Cls B ρ obs nx w) (hD : w.heap[D]? = some (.deferred l)) (o : Obj) : Cls B ρ obs nx (w.putObj D o) := by
  refine ⟨by rw [World.putObj_size]; exact h.le, fun i u hu => ?_, h.apart, h.new, h.apx⟩
  have hs := h.sat i u hu
  have rows : ∀ {v t s n get}, RowIs B w v t s n get → RowIs B (w.putObj D o) v t s n get := fun hr => hr.kept fun b hb => by
    obtain ⟨_, _, cur, hc⟩ := hr.foot hb
    exact (heap_shut hD hc (fun _ q => by cases q)).trans hc.symm
  cases u with
  | box t l => obtain ⟨b', cs, e, hB, hl, hh⟩ := hs; exact ⟨b', cs, e, hB, hl, heap_shut hD hh (fun _ q => by cases q)⟩
  | lit t s rows => obtain ⟨b', cs, e, hB, h1, h2, h3, hh⟩ := hs; exact ⟨b', cs, e, hB, h1, h2, h3, heap_shut hD hh (fun _ q => by cases q)⟩
  | arr s n get =>
    obtain ⟨v, e, A, c, ev, h1, h2, hh⟩ := hs
    refine ⟨v, e, A, c, ev, h1, h2, fun k hk => ?_⟩
    obtain ⟨a, ea, hlt, hl, hc⟩ := hh k hk
    exact ⟨a, ea, by rw [World.putObj_size]; exact hlt, hl, fun j u hu => cell_shut hD (hc j u hu)⟩
  | cel l =>
    obtain ⟨v, cs, e, hl, a, ev, hlt, hc⟩ := hs
    exact ⟨v, cs, e, hl, a, ev, by rw [World.putObj_size]; exact hlt, fun j u hu => cell_shut hD (hc j u hu)⟩
  | row t s n get =>
    obtain ⟨v, e, A, c, ev, h1, h2, hh⟩ := hs
    refine ⟨v, e, A, c, ev, h1, h2, ?_⟩
    rcases hh with q | ⟨g, cur, q1, q2, hg, r⟩
    · exact .inl q
    · exact .inr ⟨g, cur, q1, q2, heap_shut hD hg (fun _ q => by cases q), r⟩
  | tab g l => obtain ⟨e, hlt, hc⟩ := hs; exact ⟨e, by rw [World.putObj_size]; exact hlt, fun j u hu => cell_shut hD (hc j u hu)⟩
  | lp L env st => obtain ⟨l, fn, tmps, D', e, hB, hh, r⟩ := hs; exact ⟨l, fn, tmps, D', e, hB, heap_shut hD hh (fun _ q => by cases q), r⟩
  | rov v t s n get => exact ⟨hs.1, rows hs.2⟩
  | rws t e s N vs xs => obtain ⟨⟨v, e, hr⟩, r, q⟩ := hs; exact ⟨⟨v, e, rows hr⟩, fun k n g h1 h2 => rows (r k n g h1 h2), q⟩
  | vw r a s => exact hs
  | dee s n vs xs =>
    have keep : ∀ {v s n get}, ArrB B w v s n get → ArrB B (w.putObj D o) v s n get := fun ⟨A, c, e, h1, h2, hh⟩ => ⟨A, c, e, h1, h2, fun k hk => let ⟨a, q1, q2, q3, q4⟩ := hh k hk; ⟨a, q1, q2, q3, fun j u hu => cell_shut hD (q4 j u hu)⟩⟩
    obtain ⟨v, e, q1, q2⟩ := hs
    exact ⟨v, e, keep q1, fun k j u s' m g h1 h2 h3 => keep (q2 k j u s' m g h1 h2 h3)⟩
  | eqv j v => exact hs
  | vh r b => exact hs
  | gone => trivial
theorem leaves_marks {P : Program} {fn : Func} {tmps : Array Value} {R : Ending → World → Prop} {B nx : Nat} {ρ : Rho} {obs : Obs} {v : World} : ∀ (Ds : List Nat) (w : World), Ds.Nodup → (∀ D ∈ Ds, B ≤ D ∧ v.heap.size ≤ D ∧ w.heap[D]? = some (.deferred (some []))) → Cls B ρ obs nx w → Belw B v w → Oth v w →
    (∀ w', Cls B ρ obs nx w' → Belw B v w' → Oth v w' → ∃ x, (results fn tmps).run P w' = .ok x w' ∧ R (.returned x) w') → LeavesInM Fence.wide 0 P fn tmps R (Ds.map fun D => { target := .collected D, args := #[] }) .returning w
  | [], w, _, _, hC, hb, ho, h => h w hC hb ho
  | D :: Ds, w, hn, hd, hC, hb, ho, h => by
    obtain ⟨h1, h2, h3⟩ := hd D (by simp)
    rw [List.nodup_cons] at hn
    refine ⟨by simp, .inl ⟨D, _, rfl, run_takeDeferred h3, ?_⟩⟩
    refine leaves_marks Ds _ hn.2 (fun E hE => ?_) (hC.shut h3 _) ⟨⟨hb.os, hb.tape, hb.output, by rw [World.putObj_size]; exact hb.size, fun k hk => (World.putObj_heap_other (by omega)).trans (hb.block k hk)⟩, hb.drawn⟩ (fun k q hq => ?_) h
    · obtain ⟨a, b, c⟩ := hd E (by simp [hE])
      exact ⟨a, b, (World.putObj_heap_other (fun e => hn.1 (by rw [← e]; exact hE))).trans c⟩
    · have := (Array.getElem?_eq_some_iff.1 hq).1
      exact (World.putObj_heap_other (by omega)).trans (ho k q hq)
theorem fn_sound_pin {P : Program} {T : TT} (hT : TTok P T) (hm : P.follows .mixedOrders = true) {f : FuncId} {fn : Func} {c : Code} (hf : P.funcs[f]? = some fn) (hb : fn.body = some c) {sz : Nat} (hs : fn.ntmps = sz) {args : List SV} (hsz : Nat.ble args.length sz = true)
    {obs : Obs} {pin nx B : Nat} {R : SV → Obs → Nat → Prop} (h : vc P T sz pin c (argEnv 0 args) obs nx (fnK T fn.results.toList R)) {w : World} {ρ : Rho} {xs : Array Value} (hC : Cls B ρ obs nx w) (ha : Svs ρ args xs.toList) :
    Calls P f xs w fun e w' => ∃ ρ' v obs' nx' x, R v obs' nx' ∧ e = .returned x ∧ v.is ρ' x ∧ Cls B ρ' obs' nx' w' ∧ Belw B w w' ∧ (∀ i y, i < pin → ρ i = some y → ρ' i = some y) ∧ Oth w w' := by
  subst hs
  have hlen : xs.size ≤ fn.ntmps := by
    have h1 := ha.length
    have h2 := Nat.le_of_ble_eq_true hsz
    simp at h1; omega
  have hx : ∀ ρ1 ds w1, Wy B ⟨w, ρ, pin⟩ ρ1 ds w1 → ∀ i y, i < pin → ρ i = some y → ρ1 i = some y := fun ρ1 ds w1 hW i y hi hy => hW.e i y hi hy
  refine (callsIn_wide (n := 0)).1 (callsIn_of_wp_marks (F := Fence.wide) hf hb trivial (wpIn_mono (vc_sound (ro := none) (n := 0) (w0 := ⟨w, ρ, pin⟩) hT hm c (.inl rfl) h ⟨by simp; omega, fun t v ht => ?_⟩ hC ⟨Belw.refl _ _, Oth.refl _, fun _ _ _ h => h, [], rfl, List.nodup_nil, by simp⟩) ?_))
  · obtain ⟨x, _, hx, hv⟩ := argEnv_get ha ht
    refine ⟨x, ?_, hv⟩
    have hlt : t < xs.size := by
      have := (List.getElem?_eq_some_iff.1 hx).1
      simpa using this
    rw [Array.getElem?_append_left hlt]
    simpa using hx
  · intro e a1 w1 q
    have fin : ∀ (K : Env → Obs → Nat → Prop), (∀ env1 obs1 nx1, K env1 obs1 nx1 → fnK T fn.results.toList R .ret env1 obs1 nx1) → Nx B ⟨w, ρ, pin⟩ fn.ntmps K a1 w1 → bodyPostM Fence.wide 0 P fn (fun e w' => ∃ ρ' v obs' nx' x, R v obs' nx' ∧ e = .returned x ∧ v.is ρ' x ∧ Cls B ρ' obs' nx' w' ∧ Belw B w w' ∧ (∀ i y, i < pin → ρ i = some y → ρ' i = some y) ∧ Oth w w') .ret a1 w1 := by
      rintro K hK ⟨ρ1, env1, obs1, nx1, hk, hE1, hC1, hW1⟩
      obtain ⟨Ds, hd, hn, hD⟩ := hW1.m
      show LeavesInM Fence.wide 0 P fn a1.tmps _ a1.defers .returning w1
      rw [hd]
      refine leaves_marks Ds w1 hn hD hC1 hW1.b hW1.o fun w' hC' hb' ho' => ?_
      obtain ⟨v, x, hR, hv, hr⟩ := results_spec (nx := nx1) hT hE1 hC' (hK _ _ _ hk)
      exact ⟨x, hr, ρ1, v, obs1, nx1, x, hR, rfl, hv, hC', hb', hx _ _ _ hW1, ho'⟩
    cases e with
    | normal => exact fin _ (fun _ _ _ q => q) q
    | ret => exact fin _ (fun _ _ _ q => q) q
    | exit i => obtain ⟨ρ1, env1, obs1, nx1, hk, _⟩ := q; exact hk.elim
    | goto l => exact q
    | panic c => exact (show False from q).elim
    | outgrown => exact (show False from q).elim
theorem fn_sound {P : Program} {T : TT} (hT : TTok P T) (hm : P.follows .mixedOrders = true) {f : FuncId} {fn : Func} {c : Code} (hf : P.funcs[f]? = some fn) (hb : fn.body = some c) {sz : Nat} (hs : fn.ntmps = sz) {args : List SV} (hsz : Nat.ble args.length sz = true)
    {obs : Obs} {nx B : Nat} {R : SV → Obs → Nat → Prop} (h : vc P T sz nx c (argEnv 0 args) obs nx (fnK T fn.results.toList R)) {w : World} {ρ : Rho} {xs : Array Value} (hC : Cls B ρ obs nx w) (ha : Svs ρ args xs.toList) :
    Calls P f xs w fun e w' => ∃ ρ' v obs' nx' x, R v obs' nx' ∧ e = .returned x ∧ v.is ρ' x ∧ Cls B ρ' obs' nx' w' ∧ Belw B w w' ∧ (∀ i y, ρ i = some y → ρ' i = some y) ∧ Oth w w' :=
  (fn_sound_pin hT hm hf hb hs hsz h hC ha).mono fun e w' ⟨ρ', v, obs', nx', x, hR, he, hv, hC', hb', hx, ho⟩ => ⟨ρ', v, obs', nx', x, hR, he, hv, hC', hb', fun i y hy => (by
    by_cases hi : i < nx
    · exact hx i y hi hy
    · rw [hC.new i (by omega)] at hy; cases hy), ho⟩
theorem NCall.inl {P : Program} {T : TT} (hT : TTok P T) (hm : P.follows .mixedOrders = true) {f : FuncId} {fn : Func} {c : Code} (hf : P.funcs[f]? = some fn) (hb : fn.body = some c) {sz : Nat} (hs : fn.ntmps = sz) {args : List SV}
    (hB : hasBody P f = true) (hsz : Nat.ble args.length sz = true) {obs : Obs} {nx : Nat} {K : SV → Obs → Nat → Prop} (h : vc P T sz nx c (argEnv 0 args) obs nx (fnK T fn.results.toList K)) : NCall P f args obs nx K :=
  ⟨hB, fun B ρ w xs hC ha => (fn_sound hT hm hf hb hs hsz h hC (xs := xs.toArray) (by simpa using ha)).mono fun e w' ⟨ρ', v, obs', nx', x, hR, he, hv, hC', hb, hx, ho⟩ => ⟨v, obs', nx', ρ', x, hR, hx, he, hv, hC', hb, ho⟩⟩
def FinL1 : List At → List Value → Prop
  | [], [] => True
  | a :: l, x :: r => (match a with
    | .val v => v = x
    | .tf b => Value.bool b = x
    | .prop p => ∃ b, x = .bool b ∧ (p ↔ b = true)
    | _ => False) ∧ FinL1 l r
  | _, _ => False
def Fin1 : SV → Value → Prop
  | .one (.val v), x => v = x
  | .one (.tf b), x => Value.bool b = x
  | .one (.prop p), x => ∃ b, x = .bool b ∧ (p ↔ b = true)
  | .agg l, .agg cs => FinL1 l cs.toList
  | _, _ => False
def FinL : List SV → List Value → Prop
  | [], [] => True
  | a :: l, x :: r => Fin1 a x ∧ FinL l r
  | _, _ => False
def Fin : SV → Value → Prop
  | .tup l, .tuple cs => FinL l cs.toList
  | .tup _, _ => False
  | v, x => Fin1 v x
theorem FinL1.is_ {ρ : Rho} : ∀ {l : List At} {xs ys : List Value}, FinL1 l xs → Ats ρ l ys → ys = xs
  | [], [], _, _, h => h
  | [], _ :: _, _, h, _ => h.elim
  | _ :: _, [], _, h, _ => h.elim
  | a :: l, x :: r, _, ⟨h1, h2⟩, ⟨y, s, hy, ha, hr⟩ => by
    rw [hy, FinL1.is_ h2 hr]
    congr 1
    cases a with
    | val v => exact Eq.trans ha h1
    | tf b => exact Eq.trans ha h1
    | prop p =>
      obtain ⟨b, rfl, hb⟩ := h1
      obtain ⟨c, rfl, hc⟩ := ha
      congr 1
      rw [Bool.eq_iff_iff, hc, hb]
    | _ => exact h1.elim
theorem Fin1.is_ {ρ : Rho} {v : SV} {x y : Value} (h : Fin1 v x) (k : v.is1 ρ y) : y = x := by
  cases v with
  | one a =>
    cases a with
    | val v => exact Eq.trans k h
    | tf b => exact Eq.trans k h
    | prop p =>
      obtain ⟨b, rfl, hb⟩ := h
      obtain ⟨c, rfl, hc⟩ := k
      congr 1
      rw [Bool.eq_iff_iff, hc, hb]
    | _ => exact (show False from h).elim
  | agg l =>
    cases x <;> try exact (show False from h).elim
    obtain ⟨cs, hcs, rfl⟩ := k
    rw [FinL1.is_ h hcs]
  | tup l => exact k.elim
theorem FinL.is_ {ρ : Rho} : ∀ {l : List SV} {xs ys : List Value}, FinL l xs → Svs ρ l ys → ys = xs
  | [], [], _, _, h => h
  | [], _ :: _, _, h, _ => h.elim
  | _ :: _, [], _, h, _ => h.elim
  | a :: l, x :: r, _, ⟨h1, h2⟩, ⟨y, s, hy, ha, hr⟩ => by rw [hy, FinL.is_ h2 hr, Fin1.is_ h1 ha]
theorem Fin.is_ {ρ : Rho} {v : SV} {x y : Value} (h : Fin v x) (k : v.is ρ y) : y = x := by
  cases v with
  | one a => exact Fin1.is_ (v := .one a) h k
  | agg l => exact Fin1.is_ (v := .agg l) h k
  | tup l =>
    cases x <;> try exact (show False from h).elim
    obtain ⟨cs, hcs, rfl⟩ := k
    rw [FinL.is_ h hcs]
def ofV1 : Value → SV
  | .agg cs => .agg (vals cs.toList)
  | v => .one (.val v)
def ofV : Value → SV
  | .tuple vs => .tup (vs.toList.map ofV1)
  | .agg cs => .agg (vals cs.toList)
  | v => .one (.val v)
theorem ofV1_is (ρ : Rho) (x : Value) : (ofV1 x).is1 ρ x := by
  cases x with
  | agg cs => exact ⟨cs.toList, Ats.vals ρ _, rfl⟩
  | _ => exact rfl
theorem ofV1s_is (ρ : Rho) : ∀ (xs : List Value), Svs ρ (xs.map ofV1) xs
  | [] => rfl
  | x :: r => ⟨x, r, rfl, ofV1_is ρ x, ofV1s_is ρ r⟩
theorem ofV_is (ρ : Rho) (x : Value) : (ofV x).is ρ x := by
  cases x with
  | agg cs => exact ⟨cs.toList, Ats.vals ρ _, rfl⟩
  | tuple vs => exact ⟨vs.toList, ofV1s_is ρ _, rfl⟩
  | _ => exact rfl
def Ro (ρ : Rho) (w : World) (v : Value) : Ob → Prop
  | .arr s n get => ArrIs w v s n get
  | .cel l => ∃ cs, Ats ρ l cs ∧ CelIs w v cs
  | .tab g l => v = .pointer (some ⟨g, 0, none⟩) ∧ TabIs w g l
  | .dee s n vs xs => DeeIs w.heap.size w v s n vs xs
  | _ => False
def obsOf : Nat → List Ob → Obs
  | _, [] => []
  | i, o :: r => (i, o) :: obsOf (i + 1) r
theorem obsOf_get : ∀ {l : List Ob} {i t : Nat} {o : Ob}, fnd (obsOf i l) t = some o → i ≤ t ∧ l[t - i]? = some o
  | [], _, _, _, h => by cases h
  | u :: l, i, t, o, h => by
    rcases fnd_cons h with ⟨rfl, rfl⟩ | ⟨hn, h⟩
    · exact ⟨Nat.le_refl _, by simp⟩
    · obtain ⟨hle, hy⟩ := obsOf_get h
      refine ⟨by omega, ?_⟩
      rw [show t - i = (t - (i + 1)) + 1 by omega]
      simpa using hy
theorem Cls.start {w : World} {ρ : Rho} {os : List Ob} (h : ∀ (i : Nat) o, os[i]? = some o → ∃ v, ρ i = some v ∧ Ro ρ w v o) (hn : ∀ i, os.length ≤ i → ρ i = none) : Cls w.heap.size ρ (obsOf 0 os) os.length w := by
  refine ⟨Nat.le_refl _, fun i o ho => ?_, fun i j o o' b h1 h2 hne hm => ?_, hn, fun i j o o' b h1 h2 hs => ?_⟩
  rotate_left 2
  · obtain ⟨_, e⟩ := obsOf_get h1
    obtain ⟨v, hv, hr⟩ := h i o (by simpa using e)
    cases o <;> first | exact hr.elim | exact hs.elim
  · obtain ⟨_, e⟩ := obsOf_get ho
    obtain ⟨v, hv, hr⟩ := h i o (by simpa using e)
    cases o <;> first | exact ⟨v, hv, hr⟩ | exact ⟨by rw [hv, hr.1], hr.2⟩ | exact (let ⟨cs, hl, hc⟩ := hr; ⟨v, cs, hv, hl, hc⟩) | exact hr.elim
  · obtain ⟨_, e⟩ := obsOf_get h1
    obtain ⟨v, hv, hr⟩ := h i o (by simpa using e)
    cases o <;> first | exact hr.elim | cases hm
theorem Ro.cut {n : Nat} {ρ : Rho} {w : World} {v : Value} {o : Ob} (hb : obB n o = true) (h : Ro ρ w v o) : Ro (V.cut n ρ) w v o := by
  cases o <;> first | exact h | exact (let ⟨cs, hl, hc⟩ := h; ⟨cs, hl.cut hb, hc⟩)
structure Fn (P : Program) (f : FuncId) (os : List Ob) (args : List SV) (x : Value) : Prop where
  b : hasBody P f = true
  c : ∀ w ρ xs, (∀ (i : Nat) o, os[i]? = some o → ∃ v, ρ i = some v ∧ Ro ρ w v o) → Svs ρ args xs → Calls P f xs.toArray w fun e w' => e = .returned x ∧ Belw w.heap.size w w'
def argB (nx : Nat) (l : List SV) : Bool := l.all (svB nx)
theorem Svs.cut {nx : Nat} {ρ : Rho} : ∀ {l : List SV} {xs : List Value}, argB nx l = true → Svs ρ l xs → Svs (V.cut nx ρ) l xs
  | [], _, _, h => h
  | v :: l, _, hb, ⟨x, r, hx, hv, hr⟩ => by
    simp only [argB, List.all_cons, Bool.and_eq_true] at hb
    refine ⟨x, r, hx, ?_, Svs.cut (l := l) hb.2 hr⟩
    cases v with
    | one a => exact At.is_cut (a := a) hb.1 hv
    | agg c => obtain ⟨cs, hc, e⟩ := hv; exact ⟨cs, hc.cut hb.1, e⟩
    | tup l => exact hv.elim
theorem Fn.mk_ {P : Program} {T : TT} (hT : TTok P T) (hm : P.follows .mixedOrders = true) {f : FuncId} {fn : Func} {c : Code} (hf : P.funcs[f]? = some fn) (hb : fn.body = some c) {sz : Nat} (hs : fn.ntmps = sz) {os : List Ob} {args : List SV} {x : Value}
    (hB : hasBody P f = true) (hsz : Nat.ble args.length sz = true) (hab : (argB os.length args && os.all (obB os.length)) = true) (h : vc P T sz os.length c (argEnv 0 args) (obsOf 0 os) os.length (fnK T fn.results.toList fun v _ _ => Fin v x)) : Fn P f os args x :=
  ⟨hB, fun w ρ xs hr ha => by
    have hr' : ∀ (i : Nat) o, os[i]? = some o → ∃ v, V.cut os.length ρ i = some v ∧ Ro (V.cut os.length ρ) w v o := fun i o ho => by
      obtain ⟨v, e, q⟩ := hr i o ho
      exact ⟨v, by rw [cut_lt (List.getElem?_eq_some_iff.1 ho).1]; exact e, q.cut (List.all_eq_true.1 ((Bool.and_eq_true _ _).mp hab).2 o (List.mem_of_getElem? ho))⟩
    refine (fn_sound hT hm hf hb hs hsz h (Cls.start hr' (fun i hi => if_neg (by omega))) (xs := xs.toArray) (by simpa using ha.cut ((Bool.and_eq_true _ _).mp hab).1)).mono ?_
    rintro e w' ⟨ρ', v, obs', nx', y, hR, he, hv, _, hw, _, _⟩
    rw [hR.is_ hv] at he
    exact ⟨he, hw⟩⟩
def sg (l : List Nat) (i : Nat) : Nat := l.getD i 0
def LitTo (get : Nat → List Value) : Nat → List (List At) → Prop
  | _, [] => True
  | k, r :: rs => FinL1 r (get k) ∧ LitTo get (k + 1) rs
theorem LitTo.get {get : Nat → List Value} : ∀ {rows : List (List At)} {i k : Nat} {r : List At}, LitTo get i rows → rows[k]? = some r → FinL1 r (get (i + k))
  | [], _, _, _, _, h => by simp at h
  | q :: rows, i, 0, r, hl, h => by
    have e : q = r := by simpa using h
    subst e; exact hl.1
  | q :: rows, i, k + 1, r, hl, h => by
    have := LitTo.get (k := k) hl.2 (by simpa using h)
    rw [show i + (k + 1) = i + 1 + k by omega]; exact this
def DeeLe (n : Nat) (vs : Nat → List Value) (xs : Nat → List (Option (Nat × Nat × (Nat → List Value)))) (vs' : Nat → List Value) (xs' : Nat → List (Option (Nat × Nat × (Nat → List Value)))) : Prop :=
  ∀ k, k < n → vs k = vs' k ∧ ∀ (j s m : Nat) (g' : Nat → List Value), (xs' k)[j]? = some (some (s, m, g')) → ∃ g, (xs k)[j]? = some (some (s, m, g)) ∧ ∀ q, q < m → g q = g' q
def xsR (s : Nat) : Option (Nat × (Nat → List Value)) → List (Option (Nat × Nat × (Nat → List Value)))
  | some (m, g) => [some (s, m, g)]
  | none => [none]
theorem ArrB.congr {B : Nat} {w : World} {v : Value} {s n : Nat} {get get' : Nat → List Value} (h : ArrB B w v s n get) (e : ∀ k, k < n → get k = get' k) : ArrB B w v s n get' := by
  obtain ⟨A, c, ev, h1, h2, hh⟩ := h
  exact ⟨A, c, ev, h1, h2, fun k hk => by rw [← e k hk]; exact hh k hk⟩
theorem ArrB.mono {B B' : Nat} {w : World} {v : Value} {s n : Nat} {get : Nat → List Value} (h : ArrB B w v s n get) (hB : B ≤ B') : ArrB B' w v s n get := by
  obtain ⟨A, c, ev, h1, h2, hh⟩ := h
  exact ⟨A, c, ev, h1, h2, fun k hk => let ⟨a, q1, q2, q3⟩ := hh k hk; ⟨a, q1, by omega, q3⟩⟩
theorem ArrB.head {B : Nat} {w : World} {A : Option Addr} {c s n b : Nat} {get : Nat → List Value} (h : ArrB B w (.slice A n c) s n get) (hb : b ≤ n) : ArrB B w (.slice A b c) s b get := by
  obtain ⟨A', c', ev, h1, h2, hh⟩ := h
  injection ev with e1 e2 e3
  subst e1 e3
  exact ⟨_, _, rfl, by omega, by omega, fun k hk => hh k (by omega)⟩
theorem DeeIs.to {B : Nat} {w : World} {v : Value} {s n : Nat} {vs vs' : Nat → List Value} {xs xs' : Nat → List (Option (Nat × Nat × (Nat → List Value)))} (h : DeeIs B w v s n vs xs) (hl : DeeLe n vs xs vs' xs') : DeeIs B w v s n vs' xs' :=
  ⟨h.1.congr fun k hk => (hl k hk).1, fun k j u s' m g hk h1 h2 => by
    obtain ⟨e1, e2⟩ := hl k hk
    obtain ⟨g0, q1, q2⟩ := e2 j s' m g h2
    exact (h.2 k j u s' m g0 hk (by rw [e1]; exact h1) q1).congr q2⟩
theorem DeeIs.mono {B B' : Nat} {w : World} {v : Value} {s n : Nat} {vs : Nat → List Value} {xs : Nat → List (Option (Nat × Nat × (Nat → List Value)))} (h : DeeIs B w v s n vs xs) (hB : B ≤ B') : DeeIs B' w v s n vs xs :=
  ⟨h.1.mono hB, fun k j u s' m g hk h1 h2 => (h.2 k j u s' m g hk h1 h2).mono hB⟩
theorem rws_dee {B : Nat} {ρ : Rho} {w : World} {i t e s N : Nat} {vs : Nat → Value} {xs : Nat → Option (Nat × (Nat → List Value))} (h : Sat B ρ w i (.rws t e s N vs xs)) : ∃ v, ρ i = some v ∧ DeeIs w.heap.size w v 1 N (fun k => [vs k]) (fun k => xsR s (xs k)) := by
  obtain ⟨⟨v, ev, hr⟩, hs, _⟩ := h
  refine ⟨v, ev, hr.arr, fun k j u s' m g hk h1 h2 => ?_⟩
  have h2 : (xsR s (xs k))[j]? = _ := h2
  cases hx : xs k with
  | none =>
    rw [hx] at h2
    cases j <;> simp [xsR] at h2
  | some x =>
    obtain ⟨m', g'⟩ := x
    rw [hx] at h2
    cases j with
    | zero =>
      simp [xsR] at h2 h1
      obtain ⟨rfl, rfl, rfl⟩ := h2
      subst h1
      exact (hs k _ _ hk hx).arr
    | succ j => simp [xsR] at h2
def ObH (b : Nat) : Ob → Ob → Prop
  | .rws _ _ s N vs xs, .dee s' n' vs' xs' => b ≤ N ∧ 1 = s' ∧ b = n' ∧ DeeLe b (fun k => [vs k]) (fun k => xsR s (xs k)) vs' xs'
  | _, _ => False
def ObTo (σ : Nat → Nat) : Ob → Ob → Prop
  | .dee s n vs xs, .dee s' n' vs' xs' => s = s' ∧ n = n' ∧ DeeLe n vs xs vs' xs'
  | .rws _ _ s N vs xs, .dee s' n' vs' xs' => 1 = s' ∧ N = n' ∧ DeeLe N (fun k => [vs k]) (fun k => xsR s (xs k)) vs' xs'
  | .row _ _ n _, .dee _ n' _ _ => n = 0 ∧ n' = 0
  | .rov _ _ s n get, .arr s' n' get' => s = s' ∧ n = n' ∧ ∀ k, k < n → get k = get' k
  | .arr s n get, .arr s' n' get' => s = s' ∧ n = n' ∧ ∀ k, k < n → get k = get' k
  | .row _ s n get, .arr s' n' get' => s = s' ∧ n = n' ∧ ∀ k, k < n → get k = get' k
  | .lit _ s rows, .arr s' n' get' => s = s' ∧ rows.length = n' ∧ LitTo get' 0 rows
  | .cel l, .cel l' => SameAs σ l' l
  | .box _ l, .cel l' => SameAs σ l' l
  | .tab g l, .tab g' l' => g = g' ∧ l = l'
  | _, _ => False
def ObT (σ : Nat → Nat) (obs : Obs) : Ob → Ob → Prop
  | .vh r b, o => fndK obs r fun u => ObH b u o
  | u, o => ObTo σ u o
def ObsTo (σ : Nat → Nat) (obs : Obs) : Nat → List Ob → Prop
  | _, [] => True
  | i, o :: r => fndK obs (σ i) (fun u => ObT σ obs u o) ∧ ObsTo σ obs (i + 1) r
theorem SameS.is_ {σ : Nat → Nat} {ρ : Rho} : ∀ {l m : List SV} {x : List Value}, SameS σ l m → Svs ρ m x → Svs (fun i => ρ (σ i)) l x
  | [], [], _, _, h => h
  | [], _ :: _, _, h, _ => h.elim
  | .one a :: l, .one b :: m, _, ⟨h1, h2⟩, ⟨u, r, hx, hu, hr⟩ => ⟨u, r, hx, SameA.is_ (b := b) h1 hu, h2.is_ hr⟩
  | .agg c :: l, .agg d :: m, _, ⟨h1, h2⟩, ⟨u, r, hx, ⟨cs, hc, e⟩, hr⟩ => ⟨u, r, hx, ⟨cs, h1.is_ hc, e⟩, h2.is_ hr⟩
  | .one _ :: _, [], _, h, _ => h.elim
  | .one _ :: _, .agg _ :: _, _, h, _ => h.elim
  | .one _ :: _, .tup _ :: _, _, h, _ => h.elim
  | .agg _ :: _, [], _, h, _ => h.elim
  | .agg _ :: _, .one _ :: _, _, h, _ => h.elim
  | .agg _ :: _, .tup _ :: _, _, h, _ => h.elim
  | .tup _ :: _, _, _, h, _ => (by simp [SameS] at h)
theorem ObTo.ro {σ : Nat → Nat} {B : Nat} {ρ : Rho} {w : World} {i : Nat} {u o : Ob} (h : ObTo σ u o) (hs : Sat B ρ w i u) (hB : B ≤ w.heap.size) : ∃ v, ρ i = some v ∧ Ro (fun i => ρ (σ i)) w v o := by
  cases u with
  | arr s n get =>
    cases o with
    | arr s' n' get' =>
      obtain ⟨rfl, rfl, hg⟩ := h
      obtain ⟨v, e, A, c, ev, hn, hc, hh⟩ := hs
      refine ⟨v, e, A, c, ev, hn, hc, fun k hk => ?_⟩
      rw [← hg k hk]; exact hh k hk
    | _ => exact (show False from h).elim
  | row t s n get =>
    cases o with
    | arr s' n' get' =>
      obtain ⟨rfl, rfl, hg⟩ := h
      obtain ⟨v, e, hr⟩ := hs
      exact ⟨v, e, (hr.congr fun k hk => (hg k hk).symm).arr⟩
    | dee s' n' vs' xs' =>
      obtain ⟨rfl, rfl⟩ := h
      obtain ⟨v, e, A, c, rfl, hn, _, hc⟩ := hs
      exact ⟨_, e, ⟨A, c, rfl, hn, by omega, fun k hk => absurd hk (Nat.not_lt_zero _)⟩, fun k _ _ _ _ _ hk => absurd hk (Nat.not_lt_zero _)⟩
    | _ => exact (show False from h).elim
  | lit t s rows =>
    cases o with
    | arr s' n' get' =>
      obtain ⟨rfl, rfl, hg⟩ := h
      obtain ⟨b, cs, e, hB, hrs, hn, hl, hh⟩ := hs
      refine ⟨_, e, _, _, rfl, hn, Nat.le_refl _, fun k hk => ?_⟩
      have hr : rows[k]? = some (rows[k]'hk) := List.getElem?_eq_getElem hk
      have e1 := FinL1.is_ (hg.get hr) (lit_at hrs hl hr)
      rw [Nat.zero_add] at e1
      have hlen : (get' k).length = s := by
        rw [← e1]
        have := (lit_at hrs hl hr).length
        rw [this]; exact hrs _ (List.getElem_mem _)
      refine ⟨_, rfl, (Array.getElem?_eq_some_iff.1 hh).1, hlen, fun j u hu => ?_⟩
      rw [show (⟨b, 0, none⟩ : Addr).add (k * s + j) = ⟨b, k * s + j, none⟩ by unfold Addr.add; split <;> simp_all, cell_of_row w b _ cs.toArray t (0, 0) hh]
      rw [← e1, List.getElem?_take] at hu
      split at hu
      · rw [List.getElem?_drop] at hu
        simpa using hu
      · cases hu
    | _ => exact (show False from h).elim
  | cel l =>
    cases o with
    | cel l' =>
      obtain ⟨v, cs, e, hl, q⟩ := hs
      exact ⟨v, e, cs, SameAs.is_ h hl, q⟩
    | _ => exact (show False from h).elim
  | box t l =>
    cases o with
    | cel l' =>
      obtain ⟨b, cs, e, hB, hl, hh⟩ := hs
      refine ⟨_, e, cs, SameAs.is_ h hl, ⟨b, 0, none⟩, rfl, (Array.getElem?_eq_some_iff.1 hh).1, fun j u hu => ?_⟩
      rw [show (⟨b, 0, none⟩ : Addr).add j = ⟨b, j, none⟩ by unfold Addr.add; split <;> simp_all, cell_of_row w b j cs.toArray t (0, 0) hh]
      simpa using hu
    | _ => exact (show False from h).elim
  | rov v t s n get =>
    cases o with
    | arr s' n' get' =>
      obtain ⟨rfl, rfl, hg⟩ := h
      exact ⟨v, hs.1, (hs.2.congr fun k hk => (hg k hk).symm).arr⟩
    | _ => exact (show False from h).elim
  | rws t e s N vs xs =>
    cases o with
    | dee s' n' vs' xs' =>
      obtain ⟨rfl, rfl, hl⟩ := h
      obtain ⟨v, ev, hd⟩ := rws_dee hs
      exact ⟨v, ev, hd.to hl⟩
    | _ => exact (show False from h).elim
  | dee s n vs xs =>
    cases o with
    | dee s' n' vs' xs' =>
      obtain ⟨rfl, rfl, hl⟩ := h
      obtain ⟨v, ev, hd⟩ := hs
      exact ⟨v, ev, (hd.mono hB).to hl⟩
    | _ => exact (show False from h).elim
  | eqv j v => cases o <;> exact (show False from h).elim
  | vh r b => cases o <;> exact (show False from h).elim
  | vw r a s => cases o <;> exact (show False from h).elim
  | gone => cases o <;> exact (show False from h).elim
  | lp _ _ _ => cases o <;> exact (show False from h).elim
  | tab g l =>
    cases o with
    | tab g' l' =>
      obtain ⟨rfl, rfl⟩ := h
      exact ⟨_, hs.1, rfl, hs.2⟩
    | _ => exact (show False from h).elim
theorem ObT.ro {σ : Nat → Nat} {B nx : Nat} {ρ : Rho} {w : World} {obs : Obs} (hC : Cls B ρ obs nx w) {i : Nat} {u o : Ob} (hu : fnd obs i = some u) (h : ObT σ obs u o) : ∃ v, ρ i = some v ∧ Ro (fun i => ρ (σ i)) w v o := by
  cases u with
  | vh r b =>
    obtain ⟨A, n, c, e1, hb, e2⟩ := hC.sat i _ hu
    obtain ⟨ur, hur, h⟩ := fndK_spec h
    cases ur with
    | rws t e s N vs xs =>
      cases o with
      | dee s' n' vs' xs' =>
        obtain ⟨h1, rfl, rfl, h2⟩ := h
        obtain ⟨v, ev, hd⟩ := rws_dee (hC.sat r _ hur)
        rw [e1] at ev; injection ev with ev; subst ev
        have en : n = N := by obtain ⟨A', c', q, _⟩ := hd.1; injection q
        subst en
        refine ⟨_, e2, DeeIs.to (vs := fun k => [vs k]) (xs := fun k => xsR s (xs k)) ⟨hd.1.head hb, fun k j u s' m g hk => hd.2 k j u s' m g (by omega)⟩ h2⟩
      | _ => exact h.elim
    | _ => cases o <;> exact (show False from h).elim
  | lp _ _ _ => cases o <;> exact (show False from h).elim
  | rov _ _ _ _ _ => exact ObTo.ro h (hC.sat i _ hu) hC.le
  | vw _ _ _ => cases o <;> exact (show False from h).elim
  | eqv _ _ => cases o <;> exact (show False from h).elim
  | gone => cases o <;> exact (show False from h).elim
  | _ => exact ObTo.ro h (hC.sat i _ hu) hC.le
theorem ObsTo.ro {B nx : Nat} {ρ : Rho} {w : World} {obs : Obs} {σ : Nat → Nat} (hC : Cls B ρ obs nx w) : ∀ {os : List Ob} {n : Nat}, ObsTo σ obs n os → ∀ (i : Nat) o, os[i]? = some o → ∃ v, ρ (σ (n + i)) = some v ∧ Ro (fun i => ρ (σ i)) w v o
  | [], _, _, _, _, h => by simp at h
  | q :: os, n, ⟨h1, h2⟩, i, o, ho => by
    cases i with
    | zero =>
      have e : q = o := by simpa using ho
      subst e
      obtain ⟨u, hu, hq⟩ := fndK_spec h1
      exact ObT.ro hC hu hq
    | succ i =>
      have := ObsTo.ro hC h2 i o (by simpa using ho)
      rw [show n + (i + 1) = n + 1 + i by omega]
      exact this
theorem Fn.use {P : Program} {f : FuncId} {os : List Ob} {args args' : List SV} {x : Value} (h : Fn P f os args x) (σ : List Nat) {obs : Obs} {nx : Nat} {K : SV → Prop} (ha : SameS (sg σ) args args') (ho : ObsTo (sg σ) obs 0 os) (hK : K (ofV x)) : NCallQ P f args' obs nx K :=
  ⟨h.b, ofV x, hK, fun B ρ w xs hC hs => (h.c w (fun i => ρ (sg σ i)) xs (fun i o hi => by have := ObsTo.ro hC ho i o hi; simpa using this) (ha.is_ hs)).mono fun e w' ⟨he, hw⟩ => ⟨x, he, ofV_is ρ x, hw⟩⟩
theorem NCallA.to {P : Program} {f : FuncId} {args : List SV} {obs : Obs} {nx : Nat} {K : SV → Obs → Nat → Prop} (h : NCallA P f args obs nx K) : NCall P f args obs nx K :=
  ⟨h.b, fun B ρ w xs hC hs => (h.h B ρ w xs hC hs).mono fun e w' ⟨v, obs', nx', ρ', x, hK, hx, he, hv, hC', hb⟩ => ⟨v, obs', nx', ρ', x, hK, hx, he, hv, hC', hb.mono hC.le, oth_of hb⟩⟩
theorem NCallQ.toA {P : Program} {f : FuncId} {args : List SV} {obs : Obs} {nx : Nat} {K : SV → Obs → Nat → Prop} (h : NCallQ P f args obs nx fun v => K v obs nx) : NCallA P f args obs nx K :=
  ⟨h.b, let ⟨v, hK, hc⟩ := h.h; fun B ρ w xs hC hs => (hc B ρ w xs hC hs).mono fun e w' ⟨x, he, hv, hb⟩ => ⟨v, obs, nx, ρ, x, hK, fun _ _ q => q, he, hv, hC.below hb, hb⟩⟩
theorem NCallQ.to {P : Program} {f : FuncId} {args : List SV} {obs : Obs} {nx : Nat} {K : SV → Obs → Nat → Prop} (h : NCallQ P f args obs nx fun v => K v obs nx) : NCall P f args obs nx K :=
  ⟨h.b, let ⟨v, hK, hc⟩ := h.h; fun B ρ w xs hC hs => (hc B ρ w xs hC hs).mono fun e w' ⟨x, he, hv, hb⟩ => ⟨v, obs, nx, ρ, x, hK, fun _ _ q => q, he, hv, hC.below hb, hb.mono hC.le, oth_of hb⟩⟩
theorem Fn.go {P : Program} {f : FuncId} {os : List Ob} {args args' : List SV} {x : Value} (h : Fn P f os args x) (σ : List Nat) {obs : Obs} {nx : Nat} {K : SV → Obs → Nat → Prop} (ha : SameS (sg σ) args args') (ho : ObsTo (sg σ) obs 0 os) (hK : K (ofV x) obs nx) : NCall P f args' obs nx K :=
  NCallQ.to (h.use σ ha ho hK)
def plainS : List SV → Bool
  | [] => true
  | .tup _ :: _ => false
  | _ :: r => plainS r
theorem SameS.ren (σ : Nat → Nat) : ∀ l : List SV, plainS l = true → SameS σ l (l.map (renS σ))
  | [], _ => trivial
  | .one a :: l, h => ⟨SameA.ren σ a, SameS.ren σ l h⟩
  | .agg c :: l, h => ⟨SameAs.ren σ c, SameS.ren σ l h⟩
  | .tup _ :: _, h => by cases h
theorem Fn.k {P : Program} {f : FuncId} {os : List Ob} {args : List SV} {x : Value} (h : Fn P f os args x) (σ : List Nat) (hp : plainS args = true) {obs : Obs} {nx : Nat} {K : SV → Obs → Nat → Prop} (ho : ObsTo (sg σ) obs 0 os) (hK : K (ofV x) obs nx) : NCall P f (args.map (renS (sg σ))) obs nx K :=
  h.go σ (SameS.ren _ _ hp) ho hK
theorem Fn.q {P : Program} {f : FuncId} {os : List Ob} {args : List SV} {x : Value} (h : Fn P f os args x) (σ : List Nat) (hp : plainS args = true) {obs : Obs} {nx : Nat} {K : SV → Prop} (ho : ObsTo (sg σ) obs 0 os) (hK : K (ofV x)) : NCallQ P f (args.map (renS (sg σ))) obs nx K :=
  h.use σ (SameS.ren _ _ hp) ho hK
theorem SameA.self {a : At} (h : atB 0 a = true) : SameA (sg []) a a := by
  cases a with
  | val v => exact rfl
  | tf b => exact rfl
  | prop p => exact Iff.rfl
  | ptr i k j s => simp [atB, Nat.blt] at h
  | ref i => simp [atB, Nat.blt] at h
  | clo f l =>
    cases l with
    | nil => exact ⟨rfl, rfl⟩
    | cons i l => simp [atB, Nat.blt] at h
theorem SameAs.self : ∀ {l : List At}, l.all (atB 0) = true → SameAs (sg []) l l
  | [], _ => trivial
  | a :: l, h => by
    simp only [List.all_cons, Bool.and_eq_true] at h
    exact ⟨SameA.self h.1, SameAs.self h.2⟩
def plain0 : List SV → Bool
  | [] => true
  | .one a :: r => atB 0 a && plain0 r
  | .agg c :: r => c.all (atB 0) && plain0 r
  | .tup _ :: _ => false
theorem SameS.self : ∀ {l : List SV}, plain0 l = true → SameS (sg []) l l
  | [], _ => trivial
  | .one a :: l, h => by
    simp only [plain0, Bool.and_eq_true] at h
    exact ⟨SameA.self h.1, SameS.self h.2⟩
  | .agg c :: l, h => by
    simp only [plain0, Bool.and_eq_true] at h
    exact ⟨SameAs.self h.1, SameS.self h.2⟩
  | .tup _ :: _, h => by cases h
theorem Fn.a {P : Program} {f : FuncId} {os : List Ob} {args : List SV} {x : Value} (h : Fn P f os args x) (σ : List Nat) (hp : plainS args = true) {obs : Obs} {nx : Nat} {K : SV → Obs → Nat → Prop} (ho : ObsTo (sg σ) obs 0 os) (hK : K (ofV x) obs nx) : NCallA P f (args.map (renS (sg σ))) obs nx K :=
  NCallQ.toA (h.use σ (SameS.ren _ _ hp) ho hK)
theorem Fn.a0 {P : Program} {f : FuncId} {args : List SV} {x : Value} (h : Fn P f [] args x) (hp : plain0 args = true) {obs : Obs} {nx : Nat} {K : SV → Obs → Nat → Prop} (hK : K (ofV x) obs nx) : NCallA P f args obs nx K := NCallQ.toA (h.use [] (SameS.self hp) trivial hK)
theorem Fn.k0 {P : Program} {f : FuncId} {args : List SV} {x : Value} (h : Fn P f [] args x) (hp : plain0 args = true) {obs : Obs} {nx : Nat} {K : SV → Obs → Nat → Prop} (hK : K (ofV x) obs nx) : NCall P f args obs nx K := h.go [] (SameS.self hp) trivial hK
theorem Fn.q0 {P : Program} {f : FuncId} {args : List SV} {x : Value} (h : Fn P f [] args x) (hp : plain0 args = true) {obs : Obs} {nx : Nat} {K : SV → Prop} (hK : K (ofV x)) : NCallQ P f args obs nx K := h.use [] (SameS.self hp) trivial hK
theorem NWrap.ok {e : Int} {K : Int → Prop} (h1 : -9223372036854775808 ≤ e) (h2 : e ≤ 9223372036854775807) (hK : K e) : NWrap .i64 e K :=
  ⟨by rw [IntWalk.i64_in e ⟨h1, h2⟩]; exact hK⟩
theorem S_ {p : Prop} (h : p := by repeat' (first | exact rfl | exact Iff.rfl | exact trivial | exact (fun _ _ => rfl) | exact (fun _ h => absurd h (Nat.not_lt_zero _)) | refine ⟨?_, ?_⟩ | exact Iff.rfl | exact congrArg (fun z => V.SV.one (V.At.val (Value.int .i64 z))) (by omega))) : p := h
theorem D_ {p : Prop} (h : p := by (repeat' (first | exact rfl | exact Iff.rfl | exact trivial | exact (fun _ _ => rfl) | exact (fun _ h => absurd h (Nat.not_lt_zero _)) | refine ⟨?_, ?_⟩ | exact Iff.rfl | exact congrArg (fun z => V.SV.one (V.At.val (Value.int .i64 z))) (by omega))); all_goals fail) : p := h
theorem a7 {e : Int} {K : Int → Prop} (hK : K e) (h1 : -9223372036854775808 ≤ e := by omega) (h2 : e ≤ 9223372036854775807 := by omega) : NWrap .i64 e K := .ok h1 h2 hK
theorem a9 {k n : Nat} {K : Prop} (h : K) (lt : k < n := by omega) : NLt k n K := ⟨lt, h⟩
end Go.Proofs.Ytdplkcciknfnhaa.V

namespace Go.Proofs.Ytdplkcciknfnhaa.V
open Go Go.RowKit
variable [Dr]
theorem wrap_un {k : IntKind} {e : Int} (hs : k.signed = false) (h1 : 0 ≤ e) (h2 : e < 2 ^ k.bits) : k.wrap e = e := by
  unfold IntKind.wrap; simp only [hs, Bool.false_and]; rw [if_neg (by simp)]; exact Int.emod_eq_of_lt h1 h2
theorem NWrap.u64 {e : Int} {K : Int → Prop} (h1 : 0 ≤ e) (h2 : e ≤ 18446744073709551615) (hK : K e) : NWrap .u64 e K := ⟨by rw [wrap_un rfl h1 (by show e < 2 ^ 64; omega)]; exact hK⟩
theorem NWrap.u32 {e : Int} {K : Int → Prop} (h1 : 0 ≤ e) (h2 : e ≤ 4294967295) (hK : K e) : NWrap .u32 e K := ⟨by rw [wrap_un rfl h1 (by show e < 2 ^ 32; omega)]; exact hK⟩
theorem NWrap.u16 {e : Int} {K : Int → Prop} (h1 : 0 ≤ e) (h2 : e ≤ 65535) (hK : K e) : NWrap .u16 e K := ⟨by rw [wrap_un rfl h1 (by show e < 2 ^ 16; omega)]; exact hK⟩
theorem NWrap.u8 {e : Int} {K : Int → Prop} (h1 : 0 ≤ e) (h2 : e ≤ 255) (hK : K e) : NWrap .u8 e K := ⟨by rw [wrap_un rfl h1 (by show e < 2 ^ 8; omega)]; exact hK⟩
theorem fin1 {x u : Int} (h : u = x) : Fin1 (.one (.val (.int .i64 x))) (.int .i64 u) := congrArg _ h.symm
theorem fin2 {x y u v : Int} (h : u = x ∧ v = y) : Fin1 (.one (.val (.int .i64 x))) (.int .i64 u) ∧ FinL [.one (.val (.int .i64 y))] [.int .i64 v] := ⟨fin1 h.1, fin1 h.2, trivial⟩
theorem NQuo.ok {x y : Int} {K : Int → Prop} (h0 : y ≠ 0) (h1 : -9223372036854775808 ≤ x.tdiv y) (h2 : x.tdiv y ≤ 9223372036854775807) (hK : K (x.tdiv y)) : NQuo .i64 x y K := ⟨h0, by rw [IntWalk.i64_in _ ⟨h1, h2⟩]; exact hK⟩
theorem NQuo.pos {x y : Int} {K : Int → Prop} (h1 : 0 ≤ x) (h2 : 0 < y) (h3 : x ≤ 9223372036854775807) (hK : ∀ z, z = x / y → 0 ≤ z → z ≤ x → K z) : NQuo .i64 x y K := by
  have e : x.tdiv y = x / y := Int.tdiv_eq_ediv_of_nonneg h1
  have g1 : 0 ≤ x / y := Int.ediv_nonneg h1 (by omega)
  have g2 : x / y ≤ x := Int.ediv_le_self _ h1
  exact NQuo.ok (by omega) (by omega) (by omega) (by rw [e]; exact hK _ rfl g1 g2)
theorem NRem.pos {x y : Int} {K : Int → Prop} (h1 : 0 ≤ x) (h2 : 0 < y) (hK : ∀ z, z = x % y → 0 ≤ z → z < y → K z) : NRem x y K :=
  ⟨by omega, by rw [Int.tmod_eq_emod_of_nonneg h1]; exact hK _ rfl (Int.emod_nonneg _ (by omega)) (Int.emod_lt_of_pos _ h2)⟩
theorem NShr.i64 {x y : Int} {K : Int → Prop} (n : Nat) (hy : y = n) (hn : n ≤ 64) (h1 : 0 ≤ x) (hK : ∀ z, z = x / 2 ^ n → 0 ≤ z → z ≤ x → K z) : NShr .i64 x y K := by
  subst hy
  have p : (0 : Int) ≤ 2 ^ n := Int.le_of_lt (Int.pow_pos (by omega))
  refine ⟨by omega, ?_⟩
  rw [Int.toNat_natCast, show IntKind.i64.bits = 64 from rfl, Nat.min_eq_left hn, Int.fdiv_eq_ediv_of_nonneg _ p]
  exact hK _ rfl (Int.ediv_nonneg h1 p) (Int.ediv_le_self _ h1)
theorem NIf.dec {p : Prop} [Decidable p] {A B : Prop} (t : p → A) (f : ¬ p → B) : NIf (decide p = true) A B := ⟨fun h => t (of_decide_eq_true h), fun h => f (fun q => h (decide_eq_true q))⟩
theorem NIf.neg {p : Prop} {A B : Prop} (t : ¬ p → A) (f : p → B) : NIf (¬ p) A B := ⟨t, fun h => f (Classical.not_not.1 h)⟩
theorem NIf.dec_ {p : Prop} [Decidable p] {A B : Prop} (h : NIf p A B) : NIf (decide p = true) A B := .dec h.t h.f
theorem NIf.not_ {p : Prop} {A B : Prop} (h : NIf p B A) : NIf (¬ p) A B := ⟨fun q => h.f q, fun q => h.t (Classical.not_not.1 q)⟩
theorem NIf.yes {p : Prop} {A B : Prop} (h : p) (t : A) : NIf p A B := ⟨fun _ => t, fun q => absurd h q⟩
theorem NIf.no {p : Prop} {A B : Prop} (h : ¬ p) (f : B) : NIf p A B := ⟨fun q => absurd q h, fun _ => f⟩
def keepK {α : Type} (env : List (Nat × α)) : List Nat → (List (Nat × α) → Prop) → Prop
  | [], K => K []
  | t :: r, K => fndK env t fun v => keepK env r fun l => K ((t, v) :: l)
def appK {α : Type} : List α → List α → (List α → Prop) → Prop
  | [], m, K => K m
  | x :: l, m, K => appK l m fun r => K (x :: r)
theorem appK_spec {α : Type} : ∀ {l m : List α} {K : List α → Prop}, appK l m K → K (l ++ m)
  | [], _, _, h => h
  | x :: l, m, K, h => appK_spec (l := l) (K := fun r => K (x :: r)) h
theorem fndK_of {α : Type} {l : List (Nat × α)} {t : Nat} {v : α} {K : α → Prop} (e : fnd l t = some v) (h : K v) : fndK l t K := by
  induction l with
  | nil => cases e
  | cons p r ih =>
    obtain ⟨u, x⟩ := p
    unfold fnd at e
    unfold fndK
    cases hb : Nat.beq u t <;> simp only [hb] at e ⊢
    · exact ih e
    · injection e with e; rw [e]; exact h
theorem sgm_nil (i : Nat) : sgm [] i = i := rfl
theorem renA_nil (a : At) : renA (sgm []) a = a := by
  have : ∀ l : List Nat, l.map (sgm []) = l := fun l => by
    induction l with
    | nil => rfl
    | cons a r ih => rw [List.map_cons, ih]; rfl
  cases a <;> simp [renA, this, sgm_nil]
theorem renS_nil (v : SV) : renS (sgm []) v = v := by
  cases v with
  | one a => simp [renS, renA_nil]
  | agg l => simp [renS, funext renA_nil]
  | tup l => rfl
theorem renO_nil (o : Ob) : renO (sgm []) o = o := by
  cases o <;> first | rfl | (simp [renO, funext renA_nil, renS_nil]; done)
theorem ObLe.refl (o : Ob) : ObLe o o := by
  cases o <;> first | exact rfl | exact ⟨rfl, rfl, fun _ _ => rfl⟩ | exact ⟨rfl, rfl, rfl, fun _ _ => rfl⟩ | exact ⟨rfl, rfl, rfl, rfl, fun _ _ => ⟨rfl, fun _ g' h => ⟨g', h, fun _ _ => rfl⟩⟩⟩
theorem SLe.of {u v : SV} (h : u = v) : SLe u v := by
  subst h
  cases u with
  | one a => cases a <;> first | exact rfl | exact Iff.rfl
  | _ => exact rfl
theorem keepE_spec {env : Env} : ∀ {l : List Nat} {K : Env → Prop}, keepK env l K → ∃ b, EnvLe (sgm []) env b ∧ K b
  | [], K, h => ⟨[], trivial, h⟩
  | t :: r, K, h => by
    obtain ⟨v, e, h⟩ := fndK_spec h
    obtain ⟨b, hb, hK⟩ := keepE_spec h
    exact ⟨(t, v) :: b, ⟨fndK_of e (.of (renS_nil v).symm), hb⟩, hK⟩
theorem keepO_spec {obs : Obs} : ∀ {l : List Nat} {K : Obs → Prop}, keepK obs l K → ∃ b, ObsLe (sgm []) obs b ∧ K b
  | [], K, h => ⟨[], trivial, h⟩
  | t :: r, K, h => by
    obtain ⟨v, e, h⟩ := fndK_spec h
    obtain ⟨b, hb, hK⟩ := keepO_spec h
    exact ⟨(t, v) :: b, ⟨fndK_of e (by rw [renO_nil]; exact ObLe.refl v), hb⟩, hK⟩
theorem EnvLe.app {σ : Nat → Nat} {env : Env} : ∀ {l m : Env}, EnvLe σ env l → EnvLe σ env m → EnvLe σ env (l ++ m)
  | [], _, _, h => h
  | _ :: _, _, h, k => ⟨h.1, EnvLe.app h.2 k⟩
theorem ObsLe.app {σ : Nat → Nat} {obs : Obs} : ∀ {l m : Obs}, ObsLe σ obs l → ObsLe σ obs m → ObsLe σ obs (l ++ m)
  | [], _, _, h => h
  | _ :: _, _, h, k => ⟨h.1, ObsLe.app h.2 k⟩
theorem EnvLe.left {σ : Nat → Nat} {env : Env} : ∀ {l m : Env}, EnvLe σ env (l ++ m) → EnvLe σ env l
  | [], _, _ => trivial
  | _ :: _, _, h => ⟨h.1, EnvLe.left h.2⟩
theorem EnvLe.right {σ : Nat → Nat} {env : Env} : ∀ {l m : Env}, EnvLe σ env (l ++ m) → EnvLe σ env m
  | [], _, h => h
  | _ :: _, _, h => EnvLe.right h.2
theorem ObsLe.left {σ : Nat → Nat} {env : Obs} : ∀ {l m : Obs}, ObsLe σ env (l ++ m) → ObsLe σ env l
  | [], _, _ => trivial
  | _ :: _, _, h => ⟨h.1, ObsLe.left h.2⟩
theorem ObsLe.right {σ : Nat → Nat} {env : Obs} : ∀ {l m : Obs}, ObsLe σ env (l ++ m) → ObsLe σ env m
  | [], _, h => h
  | _ :: _, _, h => ObsLe.right h.2
structure NBack {ι : Type} (pin : Nat) (chg : ι → Env) (ob : ι → Obs) (μ : ι → Nat) (J : ι → Prop) (base : Env) (bo : Obs) (nx m : Nat) (env1 : Env) (obs1 : Obs) : Prop where
  h : ∃ i' l, J i' ∧ μ i' < m ∧ pinB pin l = true ∧ injB (sgm l) nx = true ∧ EnvLe (sgm l) env1 (chg i') ∧ EnvLe (sgm l) env1 base ∧ ObsLe (sgm l) obs1 (ob i') ∧ ObsLe (sgm l) obs1 bo
theorem NBack.at_ {ι : Type} {pin : Nat} {chg : ι → Env} {ob : ι → Obs} {μ : ι → Nat} {J : ι → Prop} {base : Env} {bo : Obs} {nx m : Nat} {env1 : Env} {obs1 : Obs} (i' : ι) (l : List (Nat × Nat)) (h1 : J i') (h2 : μ i' < m) (h3 : EnvLe (sgm l) env1 (chg i')) (h0 : injB (sgm l) nx = true) (h5 : ObsLe (sgm l) obs1 (ob i')) (h4 : EnvLe (sgm l) env1 base) (h6 : ObsLe (sgm l) obs1 bo) (hp : pinB pin l = true := by rfl) :
    NBack pin chg ob μ J base bo nx m env1 obs1 := ⟨⟨i', l, h1, h2, hp, h0, h3, h4, h5, h6⟩⟩
theorem injB_id : ∀ n : Nat, injB (sgm []) n = true := by
  have no : ∀ (n x : Nat), n ≤ x → memB (sgm [] x) ((iot n).map (sgm [])) = false := by
    intro n
    induction n with
    | zero => intro x _; rfl
    | succ n ih =>
      intro x hx
      unfold iot
      rw [List.map_cons]
      unfold memB
      have : Nat.beq (sgm [] x) (sgm [] n) = false := by
        rw [sgm_nil, sgm_nil]
        cases hb : Nat.beq x n
        · rfl
        · have := Nat.eq_of_beq_eq_true hb; omega
      rw [this]
      exact ih x (by omega)
  intro n
  induction n with
  | zero => rfl
  | succ n ih =>
    unfold injB iot
    rw [List.map_cons]
    unfold nodB
    rw [no n n (Nat.le_refl _)]
    exact ih
theorem NLoop.go {ws : List Nat} {pin : Nat} {body : Env → Obs → Nat → Kon → Prop} {env : Env} {obs : Obs} {nx : Nat} {K : Kon} {ι : Type} (chg : ι → Env) (ob : ι → Obs) (keep ko : List Nat) (μ : ι → Nat) (J : ι → Prop) (i0 : ι) (h0 : J i0)
    (he : EnvLe (sgm []) env (chg i0)) (ho : ObsLe (sgm []) obs (ob i0)) (hb : ∀ i, envB nx (chg i) = true ∧ obsB nx (ob i) = true)
    (hr : keepK env keep fun base => keepK obs ko fun bo => (envB nx base = true ∧ obsB nx bo = true) ∧ ∀ i, J i → appK (chg i) base fun E => appK (ob i) bo fun O => body E O nx fun e env1 obs1 nx1 => match e with
      | .nrm => NBack pin chg ob μ J base bo nx (μ i) env1 obs1
      | .exit n => K (.exit n) env1 obs1 nx1
      | .ret => K .ret env1 obs1 nx1) (hp : pin ≤ nx := by exact Nat.le_of_ble_eq_true rfl) : NLoop ws pin body env obs nx K := by
  obtain ⟨base, hbase, hr⟩ := keepE_spec hr
  obtain ⟨bo, hbo, ⟨q1, q2⟩, hr⟩ := keepO_spec hr
  refine ⟨⟨ι, fun i => (chg i ++ base, ob i ++ bo), μ, J, i0, nx, hp, h0, injB_id nx, he.app hbase, ho.app hbo, fun i => ⟨?_, ?_⟩, fun i hi => ?_⟩⟩
  · simp only [envB, List.all_append, Bool.and_eq_true]; exact ⟨(hb i).1, q1⟩
  · simp only [obsB, List.all_append, Bool.and_eq_true]; exact ⟨(hb i).2, q2⟩
  · have := appK_spec (appK_spec (hr i hi))
    refine cast ?_ this
    congr 1
    funext e env1 obs1 nx1
    cases e
    · apply propext
      constructor
      · rintro ⟨i', l, a, b, p, c, d, e, f, g⟩; exact ⟨i', l, a, b, p, c, d.app e, f.app g⟩
      · rintro ⟨i', l, a, b, p, c, d, e⟩
        exact ⟨i', l, a, b, p, c, d.left, d.right, e.left, e.right⟩
    · rfl
    · rfl
def autoK (ws is : List Nat) : Env → (Env → Prop) → Prop
  | [], K => K []
  | (t, v) :: r, K => match memB t ws with
    | true => autoK ws is r K
    | false => match v with
      | .tup _ => autoK (t :: ws) is r K
      | .one (.ref i) => match memB i is with
        | true => autoK (t :: ws) is r K
        | false => autoK (t :: ws) is r fun l => K ((t, .one (.ref i)) :: l)
      | v => autoK (t :: ws) is r fun l => K ((t, v) :: l)
def autoO (ws : List Nat) : Obs → (Obs → Prop) → Prop
  | [], K => K []
  | (t, o) :: r, K => match memB t ws with
    | true => autoO ws r K
    | false => match o with
      | .gone => autoO (t :: ws) r K
      | o => autoO (t :: ws) r fun l => K ((t, o) :: l)
theorem fndK_skip {α : Type} {l : List (Nat × α)} {t u : Nat} {v x : α} (h : t ≠ u) (e : fnd l t = some v) : fnd ((u, x) :: l) t = some v := by
  unfold fnd
  cases hb : Nat.beq u t
  · exact e
  · exact absurd (Nat.eq_of_beq_eq_true hb).symm h
theorem fnd_top {α : Type} {l : List (Nat × α)} {t : Nat} {v : α} : fnd ((t, v) :: l) t = some v := by
  unfold fnd; rw [Nat.beq_refl]
theorem memB_ne {x y : Nat} {l : List Nat} (hx : memB x l = true) (hy : memB y l = false) : y ≠ x := by
  rintro rfl; rw [hx] at hy; cases hy
theorem memB_cons {x t : Nat} {ws : List Nat} (h : memB x (t :: ws) = false) : memB x ws = false ∧ x ≠ t := by
  unfold memB at h
  cases hb : Nat.beq x t
  · rw [hb] at h; exact ⟨h, fun e => by subst e; rw [Nat.beq_refl] at hb; cases hb⟩
  · rw [hb] at h; cases h
theorem autoE_spec {env : Env} {is : List Nat} : ∀ {r : Env} {ws : List Nat} {K : Env → Prop}, (∀ t v, memB t ws = false → fnd r t = some v → fnd env t = some v) → autoK ws is r K → ∃ b, EnvLe (sgm []) env b ∧ K b
  | [], ws, K, _, h => ⟨[], trivial, h⟩
  | (t, v) :: r, ws, K, hs, h => by
    unfold autoK at h
    cases hm : memB t ws
    · simp only [hm] at h
      have hs' : ∀ u x, memB u (t :: ws) = false → fnd r u = some x → fnd env u = some x := fun u x hu hx =>
        hs u x (memB_cons hu).1 (fndK_skip (memB_cons hu).2 hx)
      have one : ∀ v', v' = v → (autoK (t :: ws) is r fun l => K ((t, v') :: l)) → ∃ b, EnvLe (sgm []) env b ∧ K b := fun v' e h2 => by
        subst e
        obtain ⟨b, hb, hK⟩ := autoE_spec hs' h2
        exact ⟨(t, v') :: b, ⟨fndK_of (hs t v' hm fnd_top) (.of (renS_nil v').symm), hb⟩, hK⟩
      cases v with
      | tup l => exact autoE_spec hs' h
      | one a =>
        cases a with
        | ref i =>
          simp only at h
          cases hi : memB i is <;> simp only [hi] at h
          · exact one _ rfl h
          · exact autoE_spec hs' h
        | _ => exact one _ rfl h
      | agg l => exact one _ rfl h
    · simp only [hm] at h
      exact autoE_spec (fun u x hu hx => hs u x hu (fndK_skip (memB_ne hm hu) hx)) h
theorem autoO_spec {env : Obs} : ∀ {r : Obs} {ws : List Nat} {K : Obs → Prop}, (∀ t v, memB t ws = false → fnd r t = some v → fnd env t = some v) → autoO ws r K → ∃ b, ObsLe (sgm []) env b ∧ K b
  | [], ws, K, _, h => ⟨[], trivial, h⟩
  | (t, v) :: r, ws, K, hs, h => by
    unfold autoO at h
    cases hm : memB t ws
    · simp only [hm] at h
      have hs' : ∀ u x, memB u (t :: ws) = false → fnd r u = some x → fnd env u = some x := fun u x hu hx =>
        hs u x (memB_cons hu).1 (fndK_skip (memB_cons hu).2 hx)
      have one : ∀ v', v' = v → (autoO (t :: ws) r fun l => K ((t, v') :: l)) → ∃ b, ObsLe (sgm []) env b ∧ K b := fun v' e h2 => by
        subst e
        obtain ⟨b, hb, hK⟩ := autoO_spec hs' h2
        exact ⟨(t, v') :: b, ⟨fndK_of (hs t v' hm fnd_top) (by rw [renO_nil]; exact ObLe.refl v'), hb⟩, hK⟩
      cases v with
      | gone => exact autoO_spec hs' h
      | _ => exact one _ rfl h
    · simp only [hm] at h
      exact autoO_spec (fun u x hu hx => hs u x hu (fndK_skip (memB_ne hm hu) hx)) h
def keysK {α : Type} : List (Nat × α) → List Nat → (List Nat → Prop) → Prop
  | [], ws, K => K ws
  | (t, _) :: r, ws, K => keysK r (t :: ws) K
theorem keysK_spec {α : Type} : ∀ {l : List (Nat × α)} {ws : List Nat} {K : List Nat → Prop}, keysK l ws K → ∃ ws', K ws'
  | [], ws, _, h => ⟨ws, h⟩
  | (t, _) :: r, _, _, h => keysK_spec (l := r) h
def litK (l : List Nat) : (List Nat → Prop) → Prop :=
  @List.rec Nat (fun _ => (List Nat → Prop) → Prop) (fun K => K []) (fun x _ ih K => ih fun l => K (x :: l)) l
theorem litK_eq : ∀ {l : List Nat} {K : List Nat → Prop}, litK l K = K l
  | [], _ => rfl
  | x :: r, K => litK_eq (l := r) (K := fun l => K (x :: l))
theorem NLoop.auto {ws : List Nat} {pin : Nat} {body : Env → Obs → Nat → Kon → Prop} {env : Env} {obs : Obs} {nx : Nat} {K : Kon} {ι : Type} (chg : ι → Env) (ob : ι → Obs) (dr dro : List Nat) (μ : ι → Nat) (J : ι → Prop) (i0 : ι) (h0 : J i0)
    (he : EnvLe (sgm []) env (chg i0)) (ho : ObsLe (sgm []) obs (ob i0)) (hb : ∀ i, envB nx (chg i) = true ∧ obsB nx (ob i) = true)
    (hr : litK (dr ++ ws) fun ws0 => keysK (chg i0) ws0 fun ws1 => keysK (ob i0) [] fun is => autoK ws1 is env fun base => keysK (ob i0) dro fun ws2 => autoO ws2 obs fun bo => (envB nx base = true ∧ obsB nx bo = true) ∧ ∀ i, J i → appK (chg i) base fun E => appK (ob i) bo fun O => body E O nx fun e env1 obs1 nx1 => match e with
      | .nrm => NBack pin chg ob μ J base bo nx (μ i) env1 obs1
      | .exit n => K (.exit n) env1 obs1 nx1
      | .ret => K .ret env1 obs1 nx1) (hp : pin ≤ nx := by exact Nat.le_of_ble_eq_true rfl) : NLoop ws pin body env obs nx K := by
  rw [litK_eq] at hr
  obtain ⟨ws1, hr⟩ := keysK_spec hr
  obtain ⟨is, hr⟩ := keysK_spec hr
  obtain ⟨base, hbase, hr⟩ := autoE_spec (fun _ _ _ h => h) hr
  obtain ⟨ws2, hr⟩ := keysK_spec hr
  obtain ⟨bo, hbo, ⟨q1, q2⟩, hr⟩ := autoO_spec (fun _ _ _ h => h) hr
  refine ⟨⟨ι, fun i => (chg i ++ base, ob i ++ bo), μ, J, i0, nx, hp, h0, injB_id nx, he.app hbase, ho.app hbo, fun i => ⟨?_, ?_⟩, fun i hi => ?_⟩⟩
  · simp only [envB, List.all_append, Bool.and_eq_true]; exact ⟨(hb i).1, q1⟩
  · simp only [obsB, List.all_append, Bool.and_eq_true]; exact ⟨(hb i).2, q2⟩
  · have := appK_spec (appK_spec (hr i hi))
    refine cast ?_ this
    congr 1
    funext e env1 obs1 nx1
    cases e
    · apply propext
      constructor
      · rintro ⟨i', l, a, b, p, c, d, e, f, g⟩; exact ⟨i', l, a, b, p, c, d.app e, f.app g⟩
      · rintro ⟨i', l, a, b, p, c, d, e⟩
        exact ⟨i', l, a, b, p, c, d.left, d.right, e.left, e.right⟩
    · rfl
    · rfl
structure NMeet {ι : Type} (pin : Nat) (chg : ι → Env) (ob : ι → Obs) (J : ι → Prop) (base : Env) (bo : Obs) (nx : Nat) (env1 : Env) (obs1 : Obs) : Prop where
  h : ∃ i l, J i ∧ pinB pin l = true ∧ injB (sgm l) nx = true ∧ EnvLe (sgm l) env1 (chg i) ∧ EnvLe (sgm l) env1 base ∧ ObsLe (sgm l) obs1 (ob i) ∧ ObsLe (sgm l) obs1 bo
theorem NMeet.at_ {ι : Type} {pin : Nat} {chg : ι → Env} {ob : ι → Obs} {J : ι → Prop} {base : Env} {bo : Obs} {nx : Nat} {env1 : Env} {obs1 : Obs} (i : ι) (l : List (Nat × Nat)) (h1 : J i) (h3 : EnvLe (sgm l) env1 (chg i)) (h0 : injB (sgm l) nx = true) (h5 : ObsLe (sgm l) obs1 (ob i)) (h4 : EnvLe (sgm l) env1 base) (h6 : ObsLe (sgm l) obs1 bo) (hp : pinB pin l = true := by rfl) :
    NMeet pin chg ob J base bo nx env1 obs1 := ⟨⟨i, l, h1, hp, h0, h3, h4, h5, h6⟩⟩
theorem NCond.auto {p : Prop} {ws : List Nat} {pin : Nat} {A B : Kon → Prop} {env : Env} {obs : Obs} {nx : Nat} {K : Kon} {ι : Type} (chg : ι → Env) (ob : ι → Obs) (dr dro : List Nat) (J : ι → Prop) (m : Nat) (i0 : ι) (hb : ∀ i, envB m (chg i) = true ∧ obsB m (ob i) = true)
    (hr : litK (dr ++ ws) fun ws0 => keysK (chg i0) ws0 fun ws1 => keysK (ob i0) [] fun is => autoK ws1 is env fun base => keysK (ob i0) dro fun ws2 => autoO ws2 obs fun bo => (envB m base = true ∧ obsB m bo = true) ∧
      NIf p (A fun e env1 obs1 nx1 => match e with
        | .nrm => NMeet pin chg ob J base bo m env1 obs1
        | .exit n => K (.exit n) env1 obs1 nx1
        | .ret => K .ret env1 obs1 nx1) (B fun e env1 obs1 nx1 => match e with
        | .nrm => NMeet pin chg ob J base bo m env1 obs1
        | .exit n => K (.exit n) env1 obs1 nx1
        | .ret => K .ret env1 obs1 nx1) ∧ ∀ i, J i → appK (chg i) base fun E => appK (ob i) bo fun O => K .nrm E O m) (hp : pin ≤ m := by exact Nat.le_of_ble_eq_true rfl) : NCond p ws pin A B env obs nx K := by
  rw [litK_eq] at hr
  obtain ⟨ws1, hr⟩ := keysK_spec hr
  obtain ⟨is, hr⟩ := keysK_spec hr
  obtain ⟨base, hbase, hr⟩ := autoE_spec (fun _ _ _ h => h) hr
  obtain ⟨ws2, hr⟩ := keysK_spec hr
  obtain ⟨bo, hbo, ⟨q1, q2⟩, ⟨ht, hf⟩, hk⟩ := autoO_spec (fun _ _ _ h => h) hr
  have same : (fun e env1 obs1 nx1 => match e with
        | .nrm => NMeet pin chg ob J base bo m env1 obs1
        | .exit n => K (.exit n) env1 obs1 nx1
        | .ret => K .ret env1 obs1 nx1) = meetK pin m (fun i => (chg i ++ base, ob i ++ bo)) J K := by
    funext e env1 obs1 nx1
    cases e
    · apply propext
      constructor
      · rintro ⟨i, l, a, p, c, d, e, f, g⟩; exact ⟨i, l, a, p, c, d.app e, f.app g⟩
      · rintro ⟨i, l, a, p, c, d, e⟩; exact ⟨⟨i, l, a, p, c, d.left, d.right, e.left, e.right⟩⟩
    · rfl
    · rfl
  rw [same] at ht hf
  refine .join ι (fun i => (chg i ++ base, ob i ++ bo)) m J hp (fun i => ⟨?_, ?_⟩) ⟨ht, hf⟩ fun i hi => appK_spec (appK_spec (hk i hi))
  · simp only [envB, List.all_append, Bool.and_eq_true]; exact ⟨(hb i).1, q1⟩
  · simp only [obsB, List.all_append, Bool.and_eq_true]; exact ⟨(hb i).2, q2⟩
def quietB (T : TT) (all : List Oper) : Bool := all.all fun o => match kindK T o.op with | 0 => true | 3 => true | _ => false
theorem NDraw.q {P : Program} {T : TT} {sz pin : Nat} {all : List Oper} {env : Env} {obs : Obs} {nx : Nat} {K : Env → Obs → Nat → Prop} (hq : quietB T all = true) (lex : Region.lexB .any all.toArray = true) (h : opsK P T sz true all all env obs nx K) : NDraw P T sz pin all env obs nx K := .mk lex h
theorem NJoin.first {pin m n : Nat} {E env : Env} {O obs : Obs} (h : autoK [] [] env fun E' => autoO [] obs fun O' => E = E' ∧ O = O' ∧ m = n) : NJoin pin m E O env obs n := by
  obtain ⟨b, hb, h⟩ := autoE_spec (fun _ _ _ h => h) h
  obtain ⟨c, hc, h1, h2, _⟩ := autoO_spec (fun _ _ _ h => h) h
  subst h1 h2
  exact ⟨⟨[], rfl, injB_id _, hb, hc⟩⟩
theorem NTF.dec {p : Prop} [Decidable p] {K : Bool → Prop} (h : K (decide p)) : NTF p K := ⟨fun b hb => by
  have e : b = decide p := by rw [Bool.eq_iff_iff, hb]; simp
  rw [e]; exact h⟩
theorem NTF.yes {p : Prop} {K : Bool → Prop} (hp : p) (h : K true) : NTF p K := ⟨fun b hb => by rw [hb.2 hp]; exact h⟩
theorem NTF.no {p : Prop} {K : Bool → Prop} (hp : ¬ p) (h : K false) : NTF p K := ⟨fun b hb => by
  have e : b = false := by rw [Bool.eq_false_iff]; exact fun q => hp (hb.1 q)
  rw [e]; exact h⟩
theorem NPick.l {A B : Prop} (h : A) : NPick A B := ⟨.inl h⟩
theorem NPick.r {A B : Prop} (h : B) : NPick A B := ⟨.inr h⟩
theorem a4 {p : Prop} {A B : Prop} (f : B) (h : ¬ p := by omega) : NIf p A B := .no h f
theorem a5 {p : Prop} {A B : Prop} (t : A) (h : p := by omega) : NIf p A B := .yes h t
theorem a8 {e : Int} {K : Int → Prop} (hK : K e) (h1 : 0 ≤ e := by omega) (h2 : e ≤ 18446744073709551615 := by omega) : NWrap .u64 e K := .u64 h1 h2 hK
theorem b1 {p : Prop} {K : Bool → Prop} (h : K true) (hp : p := by omega) : NTF p K := .yes hp h
theorem b2 {p : Prop} {K : Bool → Prop} (h : K false) (hp : ¬ p := by omega) : NTF p K := .no hp h
theorem b3 {P : Program} {T : TT} {sz pin : Nat} {all : List Oper} {env : Env} {obs : Obs} {nx : Nat} {K : Env → Obs → Nat → Prop} (h : opsK P T sz true all all env obs nx K) (hq : quietB T all = true := by exact rfl) (lex : Region.lexB .any all.toArray = true := by kernel_rfl) : NDraw P T sz pin all env obs nx K := .q hq lex h
end Go.Proofs.Ytdplkcciknfnhaa.V

namespace Go.Proofs.Ytdplkcciknfnhaa.V
open Go Go.RowKit
variable [Dr]
def isNew : Ob → Bool
  | .row _ _ _ _ | .arr _ _ _ | .rws _ _ _ _ _ _ => true
  | _ => false
def glue (m : Nat) (ρ ν : Rho) : Rho := fun i => if i < m then ρ i else ν i
structure News (B m : Nat) (ν : Rho) (w : World) (ros : List Ob) : Prop where
  sat : ∀ (j : Nat) o, ros[j]? = some o → Sat B ν w (m + j) o ∧ ∀ b, foot ν (m + j) o = some b → B ≤ b
  apart : ∀ (j k : Nat) o o' b, ros[j]? = some o → ros[k]? = some o' → j ≠ k → foot ν (m + j) o = some b → foot ν (m + k) o' ≠ some b
  apx : ∀ (j k : Nat) o o' b, ros[j]? = some o → ros[k]? = some o' → sub o b → foot ν (m + k) o' ≠ some b ∧ (j ≠ k → ¬ sub o' b)
def svBv (n : Nat) : SV → Bool
  | .tup l => l.all (svB n)
  | v => svB n v
structure FnR (P : Program) (f : FuncId) (os : List Ob) (args : List SV) (v : SV) (ros : List Ob) : Prop where
  b : hasBody P f = true
  n : ros.all isNew = true
  k : svBv (os.length + ros.length) v = true
  c : ∀ w ρ xs, (∀ (i : Nat) o, os[i]? = some o → ∃ v, ρ i = some v ∧ Ro ρ w v o) → Svs ρ args xs → Calls P f xs.toArray w fun e w' => ∃ ν x, e = .returned x ∧ v.is (glue os.length ρ ν) x ∧ News w.heap.size os.length ν w' ros ∧ Belw w.heap.size w w'
def renV (σ : Nat → Nat) : SV → SV
  | .tup l => .tup (l.map (renS σ))
  | v => renS σ v
theorem CapsAre.ren {τ : Nat → Nat} {ρ : Rho} : ∀ {l : List Nat} {xs : List Value}, CapsAre (via τ ρ) l xs → CapsAre ρ (l.map τ) xs
  | [], _, h => h
  | i :: l, _, ⟨a, r, e, hx, hr⟩ => ⟨a, r, e, hx, CapsAre.ren hr⟩
theorem At.ren {τ : Nat → Nat} {ρ : Rho} {a : At} {x : Value} (h : a.is (via τ ρ) x) : (renA τ a).is ρ x := by
  cases a with
  | clo f l => obtain ⟨cs, hc, e⟩ := h; exact ⟨cs, CapsAre.ren hc, e⟩
  | _ => exact h
theorem Ats.ren {τ : Nat → Nat} {ρ : Rho} : ∀ {l : List At} {x : List Value}, Ats (V.via τ ρ) l x → Ats ρ (l.map (renA τ)) x
  | [], _, h => h
  | a :: l, _, ⟨u, r, hx, hu, hr⟩ => ⟨u, r, hx, At.ren hu, Ats.ren hr⟩
theorem SV.ren1 {τ : Nat → Nat} {ρ : Rho} {v : SV} {x : Value} (h : v.is1 (via τ ρ) x) : (renS τ v).is1 ρ x := by
  cases v with
  | one a => exact At.ren (a := a) h
  | agg l => obtain ⟨c, e, hx⟩ := h; exact ⟨c, e.ren, hx⟩
  | tup l => exact (show False from h).elim
theorem Svs.ren {τ : Nat → Nat} {ρ : Rho} : ∀ {l : List SV} {x : List Value}, Svs (V.via τ ρ) l x → Svs ρ (l.map (renS τ)) x
  | [], _, h => h
  | a :: l, _, ⟨u, r, hx, hu, hr⟩ => ⟨u, r, hx, SV.ren1 hu, Svs.ren hr⟩
theorem SV.renv {τ : Nat → Nat} {ρ : Rho} {v : SV} {x : Value} (h : v.is (via τ ρ) x) : (renV τ v).is ρ x := by
  cases v with
  | one a => exact At.ren (a := a) h
  | agg l => obtain ⟨c, e, hx⟩ := h; exact ⟨c, e.ren, hx⟩
  | tup l => obtain ⟨c, e, hx⟩ := h; exact ⟨c, e.ren, hx⟩
theorem ext_cut (n : Nat) (ρ : Rho) : Ext (cut n ρ) ρ := fun i y h => by
  unfold cut at h
  split at h
  · exact h
  · cases h
theorem Svs.cut' {nx : Nat} {ρ : Rho} : ∀ {l : List SV} {xs : List Value}, l.all (svB nx) = true → Svs ρ l xs → Svs (V.cut nx ρ) l xs := fun hb h => Svs.cut (by exact hb) h
theorem SV.is_agree {n : Nat} {ρ ρ' : Rho} {v : SV} {x : Value} (hb : svBv n v = true) (he : ∀ i, i < n → ρ i = ρ' i) (h : v.is ρ x) : v.is ρ' x := by
  have e : V.cut n ρ = V.cut n ρ' := funext fun i => by unfold V.cut; split <;> simp_all
  have hc : v.is (V.cut n ρ) x := by
    cases v with
    | one a => exact SV.is_cut (v := .one a) hb h
    | agg l => exact SV.is_cut (v := .agg l) hb h
    | tup l => obtain ⟨c, hc, hx⟩ := h; exact ⟨c, Svs.cut' hb hc, hx⟩
  rw [e] at hc
  exact SV.is_ext (ext_cut n ρ') hc
def newO : Nat → List Ob → Obs → Obs
  | _, [], obs => obs
  | i, o :: r, obs => newO (i + 1) r ((i, o) :: obs)
theorem newO_spec : ∀ {ros : List Ob} {n : Nat} {obs : Obs} {i : Nat} {o : Ob}, fnd (newO n ros obs) i = some o → (n ≤ i ∧ ros[i - n]? = some o) ∨ ((i < n ∨ n + ros.length ≤ i) ∧ fnd obs i = some o)
  | [], n, obs, i, o, h => .inr ⟨by rcases Nat.lt_or_ge i n with q | q <;> simp <;> omega, h⟩
  | u :: r, n, obs, i, o, h => by
    rcases newO_spec (ros := r) h with ⟨h1, h2⟩ | ⟨h1, h2⟩
    · left; exact ⟨by omega, by rw [show i - n = (i - (n + 1)) + 1 by omega]; simpa using h2⟩
    · rcases fnd_cons h2 with ⟨rfl, rfl⟩ | ⟨hn, h3⟩
      · left; exact ⟨Nat.le_refl _, by simp⟩
      · right; exact ⟨by simp; omega, h3⟩
theorem Sat.mono {B B' : Nat} {ρ : Rho} {w : World} {i : Nat} {o : Ob} (hn : isNew o = true) (h : Sat B' ρ w i o) (hb : B ≤ B') : Sat B ρ w i o := by
  cases o with
  | row t s n get =>
    obtain ⟨v, e, A, c, ev, h1, h2, h3⟩ := h
    refine ⟨v, e, A, c, ev, h1, h2, ?_⟩
    rcases h3 with q | ⟨g, cur, q1, q2, q3⟩
    · exact .inl q
    · exact .inr ⟨g, cur, q1, by omega, q3⟩
  | arr s n get => exact h
  | rws t e s N vs xs =>
    have up : ∀ {v t s n get}, RowIs B' w v t s n get → RowIs B w v t s n get := fun ⟨A, c, ev, h1, h2, h3⟩ => ⟨A, c, ev, h1, h2, by
      rcases h3 with q | ⟨g, cur, q1, q2, q3⟩
      · exact .inl q
      · exact .inr ⟨g, cur, q1, by omega, q3⟩⟩
    obtain ⟨⟨v, e, hr⟩, hs, hd⟩ := h
    exact ⟨⟨v, e, up hr⟩, fun k n g h1 h2 => up (hs k n g h1 h2), hd⟩
  | _ => cases hn
theorem Sat.at_ {B : Nat} {ρ ρ' : Rho} {w : World} {i j : Nat} {o : Ob} (hn : isNew o = true) (he : ρ' j = ρ i) (h : Sat B ρ w i o) : Sat B ρ' w j o := by
  cases o with
  | row t s n get => obtain ⟨v, e, q⟩ := h; exact ⟨v, he.trans e, q⟩
  | arr s n get => obtain ⟨v, e, q⟩ := h; exact ⟨v, he.trans e, q⟩
  | rws t e s N vs xs => obtain ⟨⟨v, e, hr⟩, q⟩ := h; exact ⟨⟨v, he.trans e, hr⟩, q⟩
  | _ => cases hn
theorem foot_at {ρ ρ' : Rho} {i j : Nat} {o : Ob} (he : ρ' j = ρ i) : foot ρ' j o = foot ρ i o := by
  have hb : base ρ' j = base ρ i := by unfold base; rw [he]
  cases o <;> simp only [foot, hb, he]
theorem isNew_at {ros : List Ob} (h : ros.all isNew = true) {j : Nat} {o : Ob} (ho : ros[j]? = some o) : isNew o = true := List.all_eq_true.1 h o (List.mem_of_getElem? ho)
theorem Cls.adds {B nx m : Nat} {ρ ν ρ' : Rho} {obs : Obs} {w w' : World} {ros : List Ob} (h : Cls B ρ obs nx w) (hb : Belw w.heap.size w w') (hn : ros.all isNew = true) (hN : News w.heap.size m ν w' ros)
    (h1 : ∀ i, i < nx → ρ' i = ρ i) (h2 : ∀ j, j < ros.length → ρ' (nx + j) = ν (m + j)) (h3 : ∀ i, nx + ros.length ≤ i → ρ' i = none) : Cls B ρ' (newO nx ros obs) (nx + ros.length) w' := by
  have hx : Ext ρ ρ' := fun i y hy => by
    by_cases hi : i < nx
    · rw [h1 i hi]; exact hy
    · rw [h.new i (by omega)] at hy; cases hy
  have lt : ∀ i o, fnd obs i = some o → o = .gone ∨ i < nx := fun i o ho => by
    rcases Nat.lt_or_ge i nx with q | q
    · exact .inr q
    · left
      have hs := h.sat i o ho
      cases o with
      | gone => rfl
      | box t l => obtain ⟨b, cs, e, _⟩ := hs; rw [h.new i q] at e; cases e
      | lit t s rows => obtain ⟨b, cs, e, _⟩ := hs; rw [h.new i q] at e; cases e
      | arr s n get => obtain ⟨v, e, _⟩ := hs; rw [h.new i q] at e; cases e
      | cel l => obtain ⟨v, cs, e, _⟩ := hs; rw [h.new i q] at e; cases e
      | row t s n get => obtain ⟨v, e, _⟩ := hs; rw [h.new i q] at e; cases e
      | lp L env st => obtain ⟨_, _, _, _, e, _⟩ := hs; rw [h.new i q] at e; cases e
      | tab g l => obtain ⟨e, _⟩ := hs; rw [h.new i q] at e; cases e
      | vw r a s => obtain ⟨_, _, _, _, _, e⟩ := hs; rw [h.new i q] at e; cases e
      | rov v t s n get => obtain ⟨e, _⟩ := hs; rw [h.new i q] at e; cases e
      | rws t e s N vs xs => obtain ⟨⟨v, e, _⟩, _⟩ := hs; rw [h.new i q] at e; cases e
      | dee s n vs xs => obtain ⟨v, e, _⟩ := hs; rw [h.new i q] at e; cases e
      | vh r b => obtain ⟨_, _, _, _, _, e⟩ := hs; rw [h.new i q] at e; cases e
      | eqv j v => obtain ⟨_, e, _⟩ := hs; rw [h.new i q] at e; cases e
  have oldF : ∀ i o b, fnd obs i = some o → foot ρ' i o = some b → foot ρ i o = some b ∧ b < w.heap.size := fun i o b ho hf => by
    rcases lt i o ho with rfl | q
    · cases hf
    · rw [foot_at (h1 i q)] at hf
      exact ⟨hf, foot_lt (h.sat i o ho) hf⟩
  have newF : ∀ j o b, ros[j]? = some o → foot ρ' (nx + j) o = some b → foot ν (m + j) o = some b ∧ w.heap.size ≤ b := fun j o b ho hf => by
    have hj : j < ros.length := (List.getElem?_eq_some_iff.1 ho).1
    rw [foot_at (h2 j hj)] at hf
    exact ⟨hf, (hN.sat j o ho).2 b hf⟩
  refine ⟨Nat.le_trans h.le hb.size, fun i o ho => ?_, fun i j o o' b hi hj hne hm hf hf' => ?_, h3, fun i j o o' b hi hj hb => ?_⟩
  · rcases newO_spec ho with ⟨q1, q2⟩ | ⟨_, q⟩
    · have hj : i - nx < ros.length := (List.getElem?_eq_some_iff.1 q2).1
      have hi : nx + (i - nx) = i := by omega
      have := ((hN.sat _ o q2).1.mono (isNew_at hn q2) h.le).at_ (isNew_at hn q2) (h2 _ hj)
      rwa [hi] at this
    · exact ((h.sat i o q).keep hb.size (fun b hf => hb.block b (foot_lt (h.sat i o q) hf)) (fun b hf => hb.block b (sub_lt (h.sat i o q) hf).2) fun b hf => hb.block b (Nat.lt_of_lt_of_le hf h.le)).ext hx
  · rcases newO_spec hi with ⟨q1, q2⟩ | ⟨_, q⟩ <;> rcases newO_spec hj with ⟨r1, r2⟩ | ⟨_, r⟩
    · have e1 : nx + (i - nx) = i := by omega
      have e2 : nx + (j - nx) = j := by omega
      obtain ⟨f1, _⟩ := newF _ o b q2 (by rw [e1]; exact hf)
      obtain ⟨f2, _⟩ := newF _ o' b r2 (by rw [e2]; exact hf')
      exact hN.apart _ _ o o' b q2 r2 (by omega) f1 f2
    · have e1 : nx + (i - nx) = i := by omega
      obtain ⟨_, g1⟩ := newF _ o b q2 (by rw [e1]; exact hf)
      obtain ⟨_, g2⟩ := oldF j o' b r hf'
      omega
    · have e2 : nx + (j - nx) = j := by omega
      obtain ⟨_, g1⟩ := newF _ o' b r2 (by rw [e2]; exact hf')
      obtain ⟨_, g2⟩ := oldF i o b q hf
      omega
    · exact h.apart i j o o' b q r hne hm (oldF i o b q hf).1 (oldF j o' b r hf').1
  · have newS : ∀ j o, ros[j]? = some o → sub o b → w.heap.size ≤ b := fun j o ho hs => (sub_lt (hN.sat j o ho).1 hs).1
    rcases newO_spec hi with ⟨q1, q2⟩ | ⟨_, q⟩ <;> rcases newO_spec hj with ⟨r1, r2⟩ | ⟨_, r⟩
    · have e2 : nx + (j - nx) = j := by omega
      obtain ⟨g1, g2⟩ := hN.apx _ _ o o' b q2 r2 hb
      exact ⟨fun hf => g1 (newF _ o' b r2 (by rw [e2]; exact hf)).1, fun hne => g2 (by omega)⟩
    · have := newS _ o q2 hb
      refine ⟨fun hf => ?_, fun _ hs => ?_⟩
      · obtain ⟨_, g2⟩ := oldF j o' b r hf; omega
      · have := (sub_lt (h.sat j o' r) hs).2; omega
    · have e2 : nx + (j - nx) = j := by omega
      have := (sub_lt (h.sat i o q) hb).2
      refine ⟨fun hf => ?_, fun _ hs => ?_⟩
      · obtain ⟨_, g1⟩ := newF _ o' b r2 (by rw [e2]; exact hf); omega
      · have := newS _ o' r2 hs; omega
    · exact ⟨fun hf => (h.apx i j o o' b q r hb).1 (oldF j o' b r hf).1, (h.apx i j o o' b q r hb).2⟩
def tau (m : Nat) (σ : List Nat) (nx : Nat) (i : Nat) : Nat := if i < m then sg σ i else nx + (i - m)
theorem FnR.goA {P : Program} {f : FuncId} {os : List Ob} {args args' : List SV} {v : SV} {ros : List Ob} (h : FnR P f os args v ros) (σ : List Nat) {obs : Obs} {nx : Nat} {K : SV → Obs → Nat → Prop} (ha : SameS (sg σ) args args') (ho : ObsTo (sg σ) obs 0 os)
    (hK : K (renV (tau os.length σ nx) v) (newO nx ros obs) (nx + ros.length)) : NCallA P f args' obs nx K :=
  ⟨h.b, fun B ρ w xs hC hs => by
    have hr := fun (i : Nat) o hi => by have := ObsTo.ro hC ho i o hi; simpa using this
    refine (h.c w (fun i => ρ (sg σ i)) xs hr (ha.is_ hs)).mono ?_
    rintro e w' ⟨ν, x, he, hv, hN, hw⟩
    let ρ' : Rho := fun i => if i < nx then ρ i else if i < nx + ros.length then ν (os.length + (i - nx)) else none
    have e1 : ∀ i, i < nx → ρ' i = ρ i := fun i hi => if_pos hi
    have e2 : ∀ j, j < ros.length → ρ' (nx + j) = ν (os.length + j) := fun j hj => by
      show (if nx + j < nx then _ else if nx + j < nx + ros.length then _ else _) = _
      rw [if_neg (by omega), if_pos (by omega)]; congr 2; omega
    have e3 : ∀ i, nx + ros.length ≤ i → ρ' i = none := fun i hi => by
      show (if i < nx then _ else if i < nx + ros.length then _ else _) = _
      rw [if_neg (by omega), if_neg (by omega)]
    refine ⟨_, _, _, ρ', x, hK, fun i y hy => ?_, he, SV.renv (SV.is_agree h.k (fun i hi => ?_) hv), hC.adds hw h.n hN e1 e2 e3, hw⟩
    · by_cases hi : i < nx
      · rw [e1 i hi]; exact hy
      · rw [hC.new i (by omega)] at hy; cases hy
    · show glue os.length _ ν i = ρ' (tau os.length σ nx i)
      unfold glue tau
      by_cases hi' : i < os.length
      · rw [if_pos hi', if_pos hi']
        obtain ⟨y, hy, _⟩ := hr i _ (List.getElem?_eq_getElem hi')
        have hy : ρ (sg σ i) = some y := hy
        have : sg σ i < nx := by
          rcases Nat.lt_or_ge (sg σ i) nx with q | q
          · exact q
          · rw [hC.new _ q] at hy; cases hy
        exact (e1 _ this).symm
      · rw [if_neg hi', if_neg hi', e2 (i - os.length) (by omega)]; congr 1; omega⟩
theorem FnR.go {P : Program} {f : FuncId} {os : List Ob} {args args' : List SV} {v : SV} {ros : List Ob} (h : FnR P f os args v ros) (σ : List Nat) {obs : Obs} {nx : Nat} {K : SV → Obs → Nat → Prop} (ha : SameS (sg σ) args args') (ho : ObsTo (sg σ) obs 0 os)
    (hK : K (renV (tau os.length σ nx) v) (newO nx ros obs) (nx + ros.length)) : NCall P f args' obs nx K := (h.goA σ ha ho hK).to
theorem FnR.a_ {P : Program} {f : FuncId} {os : List Ob} {args : List SV} {v : SV} {ros : List Ob} (h : FnR P f os args v ros) (σ : List Nat) (hp : plainS args = true) {obs : Obs} {nx : Nat} {K : SV → Obs → Nat → Prop} (ho : ObsTo (sg σ) obs 0 os)
    (hK : K (renV (tau os.length σ nx) v) (newO nx ros obs) (nx + ros.length)) : NCallA P f (args.map (renS (sg σ))) obs nx K :=
  h.goA σ (SameS.ren _ _ hp) ho hK
theorem FnR.a0 {P : Program} {f : FuncId} {args : List SV} {v : SV} {ros : List Ob} (h : FnR P f [] args v ros) (hp : plain0 args = true) {obs : Obs} {nx : Nat} {K : SV → Obs → Nat → Prop}
    (hK : K (renV (tau 0 [] nx) v) (newO nx ros obs) (nx + ros.length)) : NCallA P f args obs nx K :=
  h.goA [] (SameS.self hp) trivial hK
theorem FnR.k_ {P : Program} {f : FuncId} {os : List Ob} {args : List SV} {v : SV} {ros : List Ob} (h : FnR P f os args v ros) (σ : List Nat) (hp : plainS args = true) {obs : Obs} {nx : Nat} {K : SV → Obs → Nat → Prop} (ho : ObsTo (sg σ) obs 0 os)
    (hK : K (renV (tau os.length σ nx) v) (newO nx ros obs) (nx + ros.length)) : NCall P f (args.map (renS (sg σ))) obs nx K :=
  h.go σ (SameS.ren _ _ hp) ho hK
theorem FnR.k0 {P : Program} {f : FuncId} {args : List SV} {v : SV} {ros : List Ob} (h : FnR P f [] args v ros) (hp : plain0 args = true) {obs : Obs} {nx : Nat} {K : SV → Obs → Nat → Prop}
    (hK : K (renV (tau 0 [] nx) v) (newO nx ros obs) (nx + ros.length)) : NCall P f args obs nx K :=
  h.go [] (SameS.self hp) trivial hK
def RetA (m : Nat) (l : List (Option Nat)) : At → At → Prop
  | .val x, .val y => y = x
  | .val x, .tf b => Value.bool b = x
  | .val (.bool b), .prop p => p ↔ b = true
  | .ref i, .ref j => if i < m then i = j else l[i - m]? = some (some j)
  | .ref i, .val (.slice none 0 0) => m ≤ i ∧ l[i - m]? = some none
  | _, _ => False
def RetAs (m : Nat) (l : List (Option Nat)) : List At → List At → Prop
  | [], [] => True
  | a :: r, b :: s => RetA m l a b ∧ RetAs m l r s
  | _, _ => False
def Ret1 (m : Nat) (l : List (Option Nat)) : SV → SV → Prop
  | .one a, .one b => RetA m l a b
  | .agg r, .agg s => RetAs m l r s
  | _, _ => False
def Rets (m : Nat) (l : List (Option Nat)) : List SV → List SV → Prop
  | [], [] => True
  | a :: r, b :: s => Ret1 m l a b ∧ Rets m l r s
  | _, _ => False
def RetV (m : Nat) (l : List (Option Nat)) : SV → SV → Prop
  | .tup r, .tup s => Rets m l r s
  | .tup _, _ | _, .tup _ => False
  | a, b => Ret1 m l a b
def ObRet : Ob → Ob → Prop
  | .row t s n g, .row t' s' n' g' => t = t' ∧ s = s' ∧ n = n' ∧ ∀ k, k < n → g k = g' k
  | .row _ s n g, .arr s' n' g' => s = s' ∧ n = n' ∧ ∀ k, k < n → g k = g' k
  | .lit _ s rows, .arr s' n' g' => s = s' ∧ rows.length = n' ∧ LitTo g' 0 rows
  | .lit t s rows, .row t' s' n' g' => t = t' ∧ s = s' ∧ rows.length = n' ∧ 0 < n' ∧ LitTo g' 0 rows
  | .rws t e s n vs xs, .rws t' e' s' n' vs' xs' => t = t' ∧ e = e' ∧ s = s' ∧ n = n' ∧ ∀ k, k < n → vs k = vs' k ∧ ∀ m g', xs' k = some (m, g') → ∃ g, xs k = some (m, g) ∧ ∀ j, j < m → g j = g' j
  | .row t s n _, .rws t' _ _ n' _ _ => t = t' ∧ s = 1 ∧ n = 0 ∧ n' = 0
  | _, _ => False
def ObNil : Ob → Prop
  | .row _ _ n _ => n = 0
  | .arr _ n _ => n = 0
  | .rws _ _ _ n _ _ => n = 0
  | _ => False
def RetO (obs : Obs) : List (Option Nat) → List Ob → Prop
  | [], [] => True
  | none :: l, o :: r => ObNil o ∧ RetO obs l r
  | some i :: l, o :: r => fndK obs i (fun u => ObRet u o) ∧ RetO obs l r
  | _, _ => False
def somes : List (Option Nat) → List Nat
  | [] => []
  | none :: r => somes r
  | some i :: r => i :: somes r
structure NRet (m : Nat) (v : SV) (ros : List Ob) (v1 : SV) (obs1 : Obs) : Prop where
  h : ∃ l : List (Option Nat), nodB (somes l) = true ∧ RetV m l v v1 ∧ RetO obs1 l ros
theorem NRet.mk_ {m : Nat} {v : SV} {ros : List Ob} {v1 : SV} {obs1 : Obs} (l : List (Option Nat)) (h0 : nodB (somes l) = true) (h1 : RetV m l v v1) (h2 : RetO obs1 l ros) : NRet m v ros v1 obs1 := ⟨⟨l, h0, h1, h2⟩⟩
theorem RetO.get {obs : Obs} : ∀ {l : List (Option Nat)} {ros : List Ob}, RetO obs l ros → l.length = ros.length ∧ ∀ (j : Nat) o, ros[j]? = some o → (l[j]? = some none ∧ ObNil o) ∨ ∃ i u, l[j]? = some (some i) ∧ fnd obs i = some u ∧ ObRet u o
  | [], [], _ => ⟨rfl, fun j o h => by simp at h⟩
  | [], _ :: _, h => h.elim
  | none :: _, [], h => h.elim
  | some _ :: _, [], h => h.elim
  | none :: l, o :: r, ⟨h1, h2⟩ => by
    obtain ⟨e, q⟩ := RetO.get h2
    refine ⟨by simp [e], fun j u hu => ?_⟩
    cases j with
    | zero => simp at hu; subst hu; exact .inl ⟨rfl, h1⟩
    | succ j => simpa using q j u (by simpa using hu)
  | some i :: l, o :: r, ⟨h1, h2⟩ => by
    obtain ⟨e, q⟩ := RetO.get h2
    refine ⟨by simp [e], fun j u hu => ?_⟩
    cases j with
    | zero =>
      simp at hu; subst hu
      obtain ⟨u, hu, hr⟩ := fndK_spec h1
      exact .inr ⟨i, u, rfl, hu, hr⟩
    | succ j => simpa using q j u (by simpa using hu)
theorem mem_somes {i : Nat} : ∀ {l : List (Option Nat)} {j : Nat}, l[j]? = some (some i) → i ∈ somes l
  | [], j, h => by simp at h
  | none :: r, j, h => by
    cases j with
    | zero => simp at h
    | succ j => exact mem_somes (l := r) (by simpa using h)
  | some k :: r, j, h => by
    cases j with
    | zero => simp at h; subst h; simp [somes]
    | succ j => simp [somes, mem_somes (l := r) (j := j) (by simpa using h)]
theorem somes_inj {i : Nat} : ∀ {l : List (Option Nat)} {j k : Nat}, nodB (somes l) = true → l[j]? = some (some i) → l[k]? = some (some i) → j = k
  | [], j, k, _, h, _ => by simp at h
  | none :: r, j, k, hn, h, h' => by
    cases j with
    | zero => simp at h
    | succ j =>
      cases k with
      | zero => simp at h'
      | succ k => exact congrArg (· + 1) (somes_inj (l := r) hn (by simpa using h) (by simpa using h'))
  | some x :: r, j, k, hn, h, h' => by
    unfold somes nodB at hn
    cases hm : memB x (somes r) <;> simp only [hm] at hn
    · cases j with
      | zero =>
        cases k with
        | zero => rfl
        | succ k =>
          simp at h; subst h
          have := memB_of (mem_somes (l := r) (j := k) (by simpa using h'))
          rw [hm] at this; cases this
      | succ j =>
        cases k with
        | zero =>
          simp at h'; subst h'
          have := memB_of (mem_somes (l := r) (j := j) (by simpa using h))
          rw [hm] at this; cases this
        | succ k => exact congrArg (· + 1) (somes_inj (l := r) hn (by simpa using h) (by simpa using h'))
    · cases hn
def nuOf (m : Nat) (l : List (Option Nat)) (ρ : Rho) : Rho := fun i => match l[i - m]? with
  | some (some j) => ρ j
  | some none => some (.slice none 0 0)
  | none => none
theorem RetA.is_ {m : Nat} {l : List (Option Nat)} {ρ ρ0 : Rho} (h0 : ∀ i, i < m → ρ0 i = ρ i) : ∀ {a b : At} {x : Value}, RetA m l a b → b.is ρ x → a.is (glue m ρ0 (nuOf m l ρ)) x
  | .val u, .val y, x, h, hb => Eq.trans hb h
  | .val u, .tf b, x, h, hb => Eq.trans hb h
  | .val u, .prop p, x, h, hb => by
    cases u <;> try exact (show False from h).elim
    rename_i b
    obtain ⟨c, rfl, hc⟩ := hb
    show Value.bool c = Value.bool b
    congr 1
    rw [Bool.eq_iff_iff, hc]; exact h
  | .ref i, .ref j, x, h, hb => by
    refine ⟨?_, hb.2⟩
    have h : if i < m then i = j else l[i - m]? = some (some j) := h
    show glue m ρ0 (nuOf m l ρ) i = some x
    unfold glue nuOf
    split at h
    · rename_i hi; subst h; rw [if_pos hi, h0 i hi]; exact hb.1
    · rename_i hi; rw [if_neg hi, h]; exact hb.1
  | .ref i, .val (.slice none 0 0), x, h, hb => by
    have e : x = .slice none 0 0 := hb
    subst e
    refine ⟨?_, rfl⟩
    show glue m ρ0 (nuOf m l ρ) i = _
    unfold glue nuOf
    rw [if_neg (by have := h.1; omega), h.2]
  | .tf _, b, _, h, _ => by cases b <;> exact (show False from h).elim
  | .prop _, b, _, h, _ => by cases b <;> exact (show False from h).elim
  | .ptr _ _ _ _, b, _, h, _ => by cases b <;> exact (show False from h).elim
  | .clo _ _, b, _, h, _ => by cases b <;> exact (show False from h).elim
  | .val u, .ptr _ _ _ _, _, h, _ => by cases u <;> exact (show False from h).elim
  | .val u, .ref _, _, h, _ => by cases u <;> exact (show False from h).elim
  | .val u, .clo _ _, _, h, _ => by cases u <;> exact (show False from h).elim
  | .ref i, .tf _, _, h, _ => (show False from h).elim
  | .ref i, .prop _, _, h, _ => (show False from h).elim
  | .ref i, .ptr _ _ _ _, _, h, _ => (show False from h).elim
  | .ref i, .clo _ _, _, h, _ => (show False from h).elim
theorem RetAs.is_ {m : Nat} {l : List (Option Nat)} {ρ ρ0 : Rho} (h0 : ∀ i, i < m → ρ0 i = ρ i) : ∀ {a b : List At} {x : List Value}, RetAs m l a b → Ats ρ b x → Ats (glue m ρ0 (nuOf m l ρ)) a x
  | [], [], _, _, h => h
  | [], _ :: _, _, h, _ => h.elim
  | _ :: _, [], _, h, _ => h.elim
  | a :: r, b :: s, _, ⟨h1, h2⟩, ⟨u, q, hx, hu, hr⟩ => ⟨u, q, hx, RetA.is_ h0 h1 hu, RetAs.is_ h0 h2 hr⟩
theorem Ret1.is_ {m : Nat} {l : List (Option Nat)} {ρ ρ0 : Rho} (h0 : ∀ i, i < m → ρ0 i = ρ i) {a b : SV} {x : Value} (h : Ret1 m l a b) (hb : b.is1 ρ x) : a.is1 (glue m ρ0 (nuOf m l ρ)) x := by
  cases a <;> cases b <;> try exact (show False from h).elim
  · exact RetA.is_ h0 h hb
  · obtain ⟨c, hc, e⟩ := hb; exact ⟨c, RetAs.is_ h0 h hc, e⟩
theorem Rets.is_ {m : Nat} {l : List (Option Nat)} {ρ ρ0 : Rho} (h0 : ∀ i, i < m → ρ0 i = ρ i) : ∀ {a b : List SV} {x : List Value}, Rets m l a b → Svs ρ b x → Svs (glue m ρ0 (nuOf m l ρ)) a x
  | [], [], _, _, h => h
  | [], _ :: _, _, h, _ => h.elim
  | _ :: _, [], _, h, _ => h.elim
  | a :: r, b :: s, _, ⟨h1, h2⟩, ⟨u, q, hx, hu, hr⟩ => ⟨u, q, hx, Ret1.is_ h0 h1 hu, Rets.is_ h0 h2 hr⟩
theorem RetV.is_ {m : Nat} {l : List (Option Nat)} {ρ ρ0 : Rho} (h0 : ∀ i, i < m → ρ0 i = ρ i) {a b : SV} {x : Value} (h : RetV m l a b) (hb : b.is ρ x) : a.is (glue m ρ0 (nuOf m l ρ)) x := by
  cases a <;> cases b <;> try exact (show False from h).elim
  · exact RetA.is_ h0 h hb
  · obtain ⟨c, hc, e⟩ := hb; exact ⟨c, RetAs.is_ h0 h hc, e⟩
  · obtain ⟨c, hc, e⟩ := hb; exact ⟨c, Rets.is_ h0 h hc, e⟩
theorem flatten_len {s : Nat} : ∀ {rows : List (List At)}, (∀ r ∈ rows, r.length = s) → rows.flatten.length = rows.length * s
  | [], _ => by simp
  | r :: l, h => by
    rw [List.flatten_cons, List.length_append, flatten_len (rows := l) fun x hx => h x (List.mem_cons_of_mem _ hx), h r (List.mem_cons_self ..), List.length_cons, Nat.add_mul, Nat.one_mul, Nat.add_comm]
theorem ObRet.sat {B : Nat} {ρ ν : Rho} {w : World} {i j : Nat} {u o : Ob} (h : ObRet u o) (he : ν j = ρ i) (hs : Sat B ρ w i u) : isNew o = true ∧ Sat B ν w j o ∧ (∀ b, foot ν j o = some b → foot ρ i u = some b ∧ B ≤ b) ∧ u.mut = true := by
  cases u with
  | row t s n g =>
    obtain ⟨v, e, hr⟩ := hs
    have hf : ∀ b, foot ρ i (.row t s n g) = some b → B ≤ b := fun b hb => by
      obtain ⟨A, c, rfl, _, _, hc⟩ := hr
      rw [foot_row e] at hb
      split at hb
      · cases hb
      · rcases hc with ⟨_, q⟩ | ⟨g, cur, rfl, hB, _⟩
        · omega
        · simp at hb; omega
    cases o with
    | row t' s' n' g' =>
      obtain ⟨rfl, rfl, rfl, hg⟩ := h
      refine ⟨rfl, ⟨v, he.trans e, hr.congr fun k hk => (hg k hk).symm⟩, fun b hb => ?_, rfl⟩
      rw [foot_at he] at hb
      have hb' : foot ρ i (.row t s n g) = some b := hb
      exact ⟨hb', hf b hb'⟩
    | arr s' n' g' =>
      obtain ⟨rfl, rfl, hg⟩ := h
      refine ⟨rfl, ⟨v, he.trans e, (hr.congr fun k hk => (hg k hk).symm).arr⟩, fun b hb => ?_, rfl⟩
      rw [foot_at he] at hb
      have hb' : foot ρ i (.row t s n g) = some b := by
        obtain ⟨A, c, rfl, _, _, hc⟩ := hr
        unfold foot at hb ⊢
        rw [e]
        cases n with
        | zero => cases hb
        | succ n =>
          have hc0 : c ≠ 0 := by rcases hc with ⟨h, _⟩ | ⟨_, _, _, _, _, _, h, _⟩ <;> omega
          cases c with
          | zero => exact absurd rfl hc0
          | succ c => exact hb
      exact ⟨hb', hf b hb'⟩
    | rws t' e' s' n' vs' xs' =>
      obtain ⟨rfl, rfl, rfl, rfl⟩ := h
      have hr' : RowIs B w v t 1 0 fun k => [vs' k] := hr.congr fun k hk => absurd hk (Nat.not_lt_zero _)
      refine ⟨rfl, ⟨⟨_, he.trans e, hr'⟩, fun k _ _ hk => absurd hk (Nat.not_lt_zero _), fun j _ _ _ _ hj => absurd hj (Nat.not_lt_zero _)⟩, fun b hb => ?_, rfl⟩
      rw [foot_at he] at hb
      have hb' : foot ρ i (.row t 1 0 g) = some b := hb
      exact ⟨hb', hf b hb'⟩
    | _ => exact (show False from h).elim
  | rws t e s n vs xs =>
    cases o with
    | rws t' e' s' n' vs' xs' =>
      have hle : ObLe (.rws t e s n vs xs) (.rws t' e' s' n' vs' xs') := h
      obtain ⟨s1, s2, _⟩ := hle.sat hs
      refine ⟨rfl, s1.at_ rfl he, fun b hb => ?_, rfl⟩
      rw [foot_at he] at hb
      exact ⟨s2 b hb, mut_ge hs rfl (s2 b hb)⟩
    | _ => exact (show False from h).elim
  | lit t s rows =>
    cases o with
    | arr s' n' g' =>
      obtain ⟨h1, h2, h3⟩ := h
      obtain ⟨v, e, hr⟩ := ObTo.ro (σ := id) (u := .lit t s rows) (o := .arr s' n' g') ⟨h1, h2, h3⟩ hs (by obtain ⟨b', cs, e', hB, _, _, _, hh⟩ := hs; have := (Array.getElem?_eq_some_iff.1 hh).1; omega)
      refine ⟨rfl, ⟨v, he.trans e, hr⟩, fun b hb => ?_, rfl⟩
      rw [foot_at he] at hb
      obtain ⟨b', cs, e', hB, _⟩ := hs
      have hb' : foot ρ i (.lit t s rows) = some b := by
        unfold foot at hb ⊢
        cases n' with
        | zero => cases hb
        | succ n => exact hb
      refine ⟨hb', ?_⟩
      simp only [foot, base, e', Option.map_some] at hb'
      injection hb' with hb'; omega
    | row t' s' n' g' =>
      obtain ⟨rfl, rfl, rfl, h0, hg⟩ := h
      obtain ⟨b', cs, e', hB, hrs, hn, hl, hh⟩ := hs
      have hgk : ∀ k, k < rows.length → (cs.drop (k * s)).take s = g' k := fun k hk => by
        have hr : rows[k]? = some (rows[k]'hk) := List.getElem?_eq_getElem hk
        have e1 := FinL1.is_ (hg.get hr) (lit_at hrs hl hr)
        rwa [Nat.zero_add] at e1
      have hcs : cs.length = rows.length * s := by rw [hl.length]; exact flatten_len hrs
      have hfr : foot ρ i (.lit t s rows) = some b' := by simp only [foot, base, e', Option.map_some]
      refine ⟨rfl, ⟨_, he.trans e', _, _, rfl, hn, fun k hk => ?_, .inr ⟨b', cs.toArray, rfl, hB, hh, Nat.le_refl _, h0, by simp only [maxLen]; omega, by simpa using hcs, ?_⟩⟩, fun b hb => ?_, rfl⟩
      · rw [← hgk k hk]
        have : (k + 1) * s ≤ cs.length := by rw [hcs]; exact Nat.mul_le_mul_right _ hk
        rw [List.length_take, List.length_drop]
        rw [Nat.add_mul] at this
        omega
      · have e2 := flat_cut hcs
        have e3 : flat (fun k => (cs.drop (k * s)).take s) rows.length = flat g' rows.length := flat_congr hgk
        rw [List.take_of_length_le (by simp [hcs]), ← e3, e2]
      · rw [foot_row (he.trans e'), if_neg (by omega)] at hb
        injection hb with hb
        have hb : b' = b := hb
        subst hb
        exact ⟨hfr, hB⟩
    | _ => exact (show False from h).elim
  | _ => cases o <;> exact (show False from h).elim
theorem ObNil.sat {B : Nat} {ν : Rho} {w : World} {j : Nat} {o : Ob} (h : ObNil o) (he : ν j = some (.slice none 0 0)) : isNew o = true ∧ Sat B ν w j o ∧ ∀ b, foot ν j o ≠ some b := by
  cases o with
  | row t s n g =>
    have e : n = 0 := h
    subst e
    exact ⟨rfl, ⟨_, he, none, 0, rfl, by omega, fun k hk => by omega, .inl ⟨rfl, rfl⟩⟩, fun b hb => by rw [foot_row he] at hb; simp at hb⟩
  | arr s n g =>
    have e : n = 0 := h
    subst e
    exact ⟨rfl, ⟨_, he, none, 0, rfl, by omega, by omega, fun k hk => by omega⟩, fun b hb => by simp [foot] at hb⟩
  | rws t e s n vs xs =>
    have e : n = 0 := h
    subst e
    exact ⟨rfl, ⟨⟨_, he, none, 0, rfl, by omega, fun k hk => by omega, .inl ⟨rfl, rfl⟩⟩, fun k _ _ hk => absurd hk (Nat.not_lt_zero _), fun j _ _ _ _ hj => absurd hj (Nat.not_lt_zero _)⟩, fun b hb => by simp [foot, he] at hb⟩
  | _ => exact (show False from h).elim
theorem ObRet.sub {u o : Ob} (h : ObRet u o) {b : Nat} (hs : sub o b) : sub u b := by
  cases o with
  | rws t' e' s' n' vs' xs' =>
    cases u with
    | rws t e s n vs xs => exact ObLe.sub (o := .rws t e s n vs xs) (o' := .rws t' e' s' n' vs' xs') h hs
    | row t s n get =>
      obtain ⟨rfl, rfl, rfl, rfl⟩ := h
      obtain ⟨k, x, hk, _⟩ := hs
      exact absurd hk (Nat.not_lt_zero _)
    | _ => exact (show False from h).elim
  | _ => exact hs.elim
theorem ObNil.sub {o : Ob} (h : ObNil o) {b : Nat} : ¬ sub o b := by
  cases o with
  | rws t e s n vs xs =>
    have e : n = 0 := h
    subst e
    rintro ⟨k, x, hk, _⟩
    exact absurd hk (Nat.not_lt_zero _)
  | _ => exact fun h => h
theorem NRet.spec {m : Nat} {v : SV} {ros : List Ob} {v1 : SV} {obs' : Obs} {B nx' : Nat} {ρ ρ' : Rho} {w' : World} {y : Value} (hin : ∀ i, i < m → ρ i = ρ' i) (hv : v1.is ρ' y) (hC : Cls B ρ' obs' nx' w') (h : NRet m v ros v1 obs') : ∃ ν, v.is (glue m ρ ν) y ∧ News B m ν w' ros := by
  obtain ⟨⟨l, h0, h1, h2⟩⟩ := h
  obtain ⟨hl, hg⟩ := RetO.get h2
  have nu : ∀ (j : Nat) q, l[j]? = some q → nuOf m l ρ' (m + j) = match q with | some i => ρ' i | none => some (.slice none 0 0) := fun j q hq => by
    unfold nuOf
    rw [show m + j - m = j by omega, hq]
    cases q <;> rfl
  refine ⟨nuOf m l ρ', RetV.is_ hin h1 hv, ⟨fun j o ho => ?_, fun j k o o' b hj hk' hne f1 f2 => ?_, fun j k o o' b hj hk' hs => ?_⟩⟩
  · rcases hg j o ho with ⟨q1, q2⟩ | ⟨i, u, q1, q2, q3⟩
    · obtain ⟨_, s1, s2⟩ := q2.sat (B := B) (w := w') (nu j none q1)
      exact ⟨s1, fun b hb => absurd hb (s2 b)⟩
    · obtain ⟨_, s1, s2, _⟩ := q3.sat (nu j (some i) q1) (hC.sat i u q2)
      exact ⟨s1, fun b hb => (s2 b hb).2⟩
  · rcases hg j o hj with ⟨q1, q2⟩ | ⟨i, u, q1, q2, q3⟩
    · obtain ⟨_, s1, s2⟩ := q2.sat (B := B) (w := w') (nu j none q1)
      exact s2 b f1
    rcases hg k o' hk' with ⟨r1, r2⟩ | ⟨i', u', r1, r2, r3⟩
    · obtain ⟨_, s1, s2⟩ := r2.sat (B := B) (w := w') (nu k none r1)
      exact s2 b f2
    obtain ⟨_, _, s2, s3⟩ := q3.sat (nu j (some i) q1) (hC.sat i u q2)
    obtain ⟨_, _, t2, _⟩ := r3.sat (nu k (some i') r1) (hC.sat i' u' r2)
    refine hC.apart i i' u u' b q2 r2 (fun e => ?_) s3 (s2 b f1).1 (t2 b f2).1
    subst e
    exact hne (somes_inj h0 q1 r1)
  · rcases hg j o hj with ⟨q1, q2⟩ | ⟨i, u, q1, q2, q3⟩
    · exact absurd hs q2.sub
    have su := q3.sub hs
    rcases hg k o' hk' with ⟨r1, r2⟩ | ⟨i', u', r1, r2, r3⟩
    · obtain ⟨_, s1, s2⟩ := r2.sat (B := B) (w := w') (nu k none r1)
      exact ⟨s2 b, fun _ => r2.sub⟩
    obtain ⟨_, _, t2, _⟩ := r3.sat (nu k (some i') r1) (hC.sat i' u' r2)
    refine ⟨fun f => (hC.apx i i' u u' b q2 r2 su).1 (t2 b f).1, fun hne s' => ?_⟩
    refine (hC.apx i i' u u' b q2 r2 su).2 (fun e => ?_) (r3.sub s')
    subst e
    exact hne (somes_inj h0 q1 r1)
theorem FnR.mk_ {P : Program} {T : TT} (hT : TTok P T) (hm : P.follows .mixedOrders = true) {f : FuncId} {fn : Func} {c : Code} (hf : P.funcs[f]? = some fn) (hb : fn.body = some c) {sz : Nat} (hs : fn.ntmps = sz) {os : List Ob} {args : List SV} {v : SV} {ros : List Ob}
    (hB : hasBody P f = true) (hsz : Nat.ble args.length sz = true) (hab : (argB os.length args && os.all (obB os.length)) = true) (hn : ros.all isNew = true) (hk : svBv (os.length + ros.length) v = true) (h : vc P T sz os.length c (argEnv 0 args) (obsOf 0 os) os.length (fnK T fn.results.toList fun v1 obs1 _ => NRet os.length v ros v1 obs1)) : FnR P f os args v ros :=
  ⟨hB, hn, hk, fun w ρ xs hr ha => by
    have hr' : ∀ (i : Nat) o, os[i]? = some o → ∃ v, V.cut os.length ρ i = some v ∧ Ro (V.cut os.length ρ) w v o := fun i o ho => by
      obtain ⟨v, e, q⟩ := hr i o ho
      exact ⟨v, by rw [cut_lt (List.getElem?_eq_some_iff.1 ho).1]; exact e, q.cut (List.all_eq_true.1 ((Bool.and_eq_true _ _).mp hab).2 o (List.mem_of_getElem? ho))⟩
    refine (fn_sound hT hm hf hb hs hsz h (Cls.start hr' (fun i hi => if_neg (by omega))) (xs := xs.toArray) (by simpa using ha.cut ((Bool.and_eq_true _ _).mp hab).1)).mono ?_
    rintro e w' ⟨ρ', v1, obs', nx', y, hret, he, hv, hC, hw, hx, _⟩
    have hin : ∀ i, i < os.length → ρ i = ρ' i := fun i hi => by
      obtain ⟨u, eu, _⟩ := hr i _ (List.getElem?_eq_getElem hi)
      rw [eu]
      exact (hx i u (by rw [cut_lt hi]; exact eu)).symm
    obtain ⟨ν, q1, q2⟩ := hret.spec hin hv hC
    exact ⟨ν, y, he, q1, q2, hw⟩⟩
structure FnX {ι : Type} (P : Program) (f : FuncId) (os : List Ob) (args : List SV) (v : SV) (ros : ι → List Ob) : Prop where
  b : hasBody P f = true
  n : ∀ x, (ros x).all isNew = true
  k : ∀ x, svBv (os.length + (ros x).length) v = true
  c : ∀ w ρ xs, (∀ (i : Nat) o, os[i]? = some o → ∃ v, ρ i = some v ∧ Ro ρ w v o) → Svs ρ args xs → Calls P f xs.toArray w fun e w' => ∃ z ν x, e = .returned x ∧ v.is (glue os.length ρ ν) x ∧ News w.heap.size os.length ν w' (ros z) ∧ Belw w.heap.size w w'
structure NRetX {ι : Type} (m : Nat) (v : SV) (ros : ι → List Ob) (v1 : SV) (obs1 : Obs) : Prop where
  h : ∃ z, NRet m v (ros z) v1 obs1
theorem FnX.mk_ {ι : Type} {P : Program} {T : TT} (hT : TTok P T) (hm : P.follows .mixedOrders = true) {f : FuncId} {fn : Func} {c : Code} (hf : P.funcs[f]? = some fn) (hb : fn.body = some c) {sz : Nat} (hs : fn.ntmps = sz) {os : List Ob} {args : List SV} {v : SV} {ros : ι → List Ob}
    (hB : hasBody P f = true) (hsz : Nat.ble args.length sz = true) (hab : (argB os.length args && os.all (obB os.length)) = true) (hn : ∀ z, (ros z).all isNew = true) (hk : ∀ z, svBv (os.length + (ros z).length) v = true) (h : vc P T sz os.length c (argEnv 0 args) (obsOf 0 os) os.length (fnK T fn.results.toList fun v1 obs1 _ => NRetX os.length v ros v1 obs1)) : FnX P f os args v ros :=
  ⟨hB, hn, hk, fun w ρ xs hr ha => by
    have hr' : ∀ (i : Nat) o, os[i]? = some o → ∃ v, V.cut os.length ρ i = some v ∧ Ro (V.cut os.length ρ) w v o := fun i o ho => by
      obtain ⟨v, e, q⟩ := hr i o ho
      exact ⟨v, by rw [cut_lt (List.getElem?_eq_some_iff.1 ho).1]; exact e, q.cut (List.all_eq_true.1 ((Bool.and_eq_true _ _).mp hab).2 o (List.mem_of_getElem? ho))⟩
    refine (fn_sound hT hm hf hb hs hsz h (Cls.start hr' (fun i hi => if_neg (by omega))) (xs := xs.toArray) (by simpa using ha.cut ((Bool.and_eq_true _ _).mp hab).1)).mono ?_
    rintro e w' ⟨ρ', v1, obs', nx', y, ⟨z, hret⟩, he, hv, hC, hw, hx, _⟩
    have hin : ∀ i, i < os.length → ρ i = ρ' i := fun i hi => by
      obtain ⟨u, eu, _⟩ := hr i _ (List.getElem?_eq_getElem hi)
      rw [eu]
      exact (hx i u (by rw [cut_lt hi]; exact eu)).symm
    obtain ⟨ν, q1, q2⟩ := hret.spec hin hv hC
    exact ⟨z, ν, y, he, q1, q2, hw⟩⟩
theorem FnX.goA {ι : Type} {P : Program} {f : FuncId} {os : List Ob} {args args' : List SV} {v : SV} {ros : ι → List Ob} (h : FnX P f os args v ros) (σ : List Nat) {obs : Obs} {nx : Nat} {K : SV → Obs → Nat → Prop} (ha : SameS (sg σ) args args') (ho : ObsTo (sg σ) obs 0 os)
    (hK : ∀ z, K (renV (tau os.length σ nx) v) (newO nx (ros z) obs) (nx + (ros z).length)) : NCallA P f args' obs nx K :=
  ⟨h.b, fun B ρ w xs hC hs => by
    have hr := fun (i : Nat) o hi => by have := ObsTo.ro hC ho i o hi; simpa using this
    refine (h.c w (fun i => ρ (sg σ i)) xs hr (ha.is_ hs)).mono ?_
    rintro e w' ⟨z, ν, x, he, hv, hN, hw⟩
    let ρ' : Rho := fun i => if i < nx then ρ i else if i < nx + (ros z).length then ν (os.length + (i - nx)) else none
    have e1 : ∀ i, i < nx → ρ' i = ρ i := fun i hi => if_pos hi
    have e2 : ∀ j, j < (ros z).length → ρ' (nx + j) = ν (os.length + j) := fun j hj => by
      show (if nx + j < nx then _ else if nx + j < nx + (ros z).length then _ else _) = _
      rw [if_neg (by omega), if_pos (by omega)]; congr 2; omega
    have e3 : ∀ i, nx + (ros z).length ≤ i → ρ' i = none := fun i hi => by
      show (if i < nx then _ else if i < nx + (ros z).length then _ else _) = _
      rw [if_neg (by omega), if_neg (by omega)]
    refine ⟨_, _, _, ρ', x, hK z, fun i y hy => ?_, he, SV.renv (SV.is_agree (h.k z) (fun i hi => ?_) hv), hC.adds hw (h.n z) hN e1 e2 e3, hw⟩
    · by_cases hi : i < nx
      · rw [e1 i hi]; exact hy
      · rw [hC.new i (by omega)] at hy; cases hy
    · show glue os.length _ ν i = ρ' (tau os.length σ nx i)
      unfold glue tau
      by_cases hi' : i < os.length
      · rw [if_pos hi', if_pos hi']
        obtain ⟨y, hy, _⟩ := hr i _ (List.getElem?_eq_getElem hi')
        have hy : ρ (sg σ i) = some y := hy
        have : sg σ i < nx := by
          rcases Nat.lt_or_ge (sg σ i) nx with q | q
          · exact q
          · rw [hC.new _ q] at hy; cases hy
        exact (e1 _ this).symm
      · rw [if_neg hi', if_neg hi', e2 (i - os.length) (by omega)]; congr 1; omega⟩
theorem FnX.a_ {ι : Type} {P : Program} {f : FuncId} {os : List Ob} {args : List SV} {v : SV} {ros : ι → List Ob} (h : FnX P f os args v ros) (σ : List Nat) (hp : plainS args = true) {obs : Obs} {nx : Nat} {K : SV → Obs → Nat → Prop} (ho : ObsTo (sg σ) obs 0 os)
    (hK : ∀ z, K (renV (tau os.length σ nx) v) (newO nx (ros z) obs) (nx + (ros z).length)) : NCallA P f (args.map (renS (sg σ))) obs nx K :=
  h.goA σ (SameS.ren _ _ hp) ho hK
theorem FnX.k_ {ι : Type} {P : Program} {f : FuncId} {os : List Ob} {args : List SV} {v : SV} {ros : ι → List Ob} (h : FnX P f os args v ros) (σ : List Nat) (hp : plainS args = true) {obs : Obs} {nx : Nat} {K : SV → Obs → Nat → Prop} (ho : ObsTo (sg σ) obs 0 os)
    (hK : ∀ z, K (renV (tau os.length σ nx) v) (newO nx (ros z) obs) (nx + (ros z).length)) : NCall P f (args.map (renS (sg σ))) obs nx K :=
  (h.goA σ (SameS.ren _ _ hp) ho hK).to
theorem er {m : Nat} {v : SV} {ros : List Ob} {v1 : SV} {obs1 : Obs} (k : Nat) (h1 : RetV m [some k] v v1 := by (repeat' (first | exact rfl | exact trivial | refine ⟨?_, ?_⟩)); all_goals fail) (h2 : RetO obs1 [some k] ros := by exact ⟨⟨rfl, rfl, rfl, fun k hk => absurd hk (Nat.not_lt_zero _)⟩, trivial⟩) : NRet m v ros v1 obs1 := .mk_ [some k] rfl h1 h2
theorem erf {m : Nat} {v : SV} {ros : List Ob} {v1 : SV} {obs1 : Obs} (k : Nat) (h1 : RetV m [some k] v v1 := by (repeat' (first | exact rfl | exact trivial | refine ⟨?_, ?_⟩)); all_goals fail) (h2 : RetO obs1 [some k] ros := by exact ⟨⟨rfl, rfl, rfl, fun _ _ => rfl⟩, trivial⟩) : NRet m v ros v1 obs1 := .mk_ [some k] rfl h1 h2
end Go.Proofs.Ytdplkcciknfnhaa.V

namespace Go.Proofs.Ytdplkcciknfnhaa.V
open Go Go.RowKit Go.ChangeShapes Go.WideShapes Go.Deep
variable [Dr]
def ga {α : Type} [Inhabited α] (en : α → List Value) (l : List α) : Nat → List Value := fun k => en (l.getD k default)
def e1 (x : Int) : List Value := [.int .i64 x]
def eb (x : UInt8) : List Value := [.int .u8 x.toNat]
theorem ga_at {α : Type} [Inhabited α] {en : α → List Value} {l : List α} {k : Nat} (h : k < l.length) : ga en l k = en l[k] := by
  simp [ga, List.getD, List.getElem?_eq_getElem h]
theorem _root_.Go.Proofs.Ytdplkcciknfnhaa.V.NApp.one {α : Type} [Inhabited α] {en : α → List Value} {l : List α} {x : α} {bytes : Nat} {K : Nat → (Nat → List Value) → Prop} (h1 : (l.length + 1) * bytes ≤ 140737488355328) (h2 : l.length + 1 ≤ 9223372036854775807) (hK : K (l ++ [x]).length (ga en (l ++ [x]))) :
    NApp l.length 1 (ga en l) (listG [en x]) bytes K :=
  ⟨⟨_, _, by simp, by simpa using h2, by simpa using h1, fun k hk => by rw [ga_at (by simp; omega), ga_at hk, List.getElem_append_left hk], fun k hk => by
    obtain rfl : k = 0 := by omega
    rw [Nat.add_zero, ga_at (by simp)]; simp [listG], hK⟩⟩
theorem b4 {α : Type} [Inhabited α] {en : α → List Value} {l : List α} {x : α} {bytes : Nat} {K : Nat → (Nat → List Value) → Prop} (hK : K (l ++ [x]).length (ga en (l ++ [x]))) (h1 : (l.length + 1) * bytes ≤ 140737488355328 := by first | omega | (simp; omega)) (h2 : l.length + 1 ≤ 9223372036854775807 := by first | omega | (simp; omega)) :
    NApp l.length 1 (ga en l) (listG [en x]) bytes K := NApp.one h1 h2 hK
theorem _root_.Go.Proofs.Ytdplkcciknfnhaa.V.NApp.first {α : Type} [Inhabited α] {en : α → List Value} {x : α} {get : Nat → List Value} {bytes : Nat} {K : Nat → (Nat → List Value) → Prop} (h1 : bytes ≤ 140737488355328) (hK : K [x].length (ga en [x])) :
    NApp 0 1 get (listG [en x]) bytes K :=
  ⟨⟨_, _, rfl, by simp, by simpa using h1, fun k hk => absurd hk (by omega), fun k hk => by
    obtain rfl : k = 0 := by omega
    rfl, hK⟩⟩
theorem _root_.Go.Proofs.Ytdplkcciknfnhaa.V.NApp.all_ {α : Type} [Inhabited α] {en : α → List Value} {m : List α} {get : Nat → List Value} {bytes : Nat} {K : Nat → (Nat → List Value) → Prop} (h1 : m.length * bytes ≤ 140737488355328) (h2 : m.length ≤ 9223372036854775807) (hK : K m.length (ga en m)) :
    NApp 0 m.length get (ga en m) bytes K :=
  ⟨⟨_, _, by simp, h2, h1, fun k hk => absurd hk (by omega), fun k hk => by rw [Nat.zero_add], hK⟩⟩
theorem _root_.Go.Proofs.Ytdplkcciknfnhaa.V.NPut.at_ {α : Type} [Inhabited α] {en : α → List Value} {l : List α} {k : Nat} (x : α) {r : List Value} {K : (Nat → List Value) → Prop} (hr : r = en x) (hK : K (ga en (l.set k x))) :
    NPut l.length k (ga en l) r K :=
  ⟨⟨_, fun k' hk => by
    rw [ga_at (by simpa using hk), ga_at hk, List.getElem_set, hr]
    by_cases e : k = k'
    · subst e; simp
    · rw [if_neg e, if_neg (fun q => e q.symm)], hK⟩⟩
theorem _root_.Go.Proofs.Ytdplkcciknfnhaa.V.NPut.to {α : Type} [Inhabited α] {en : α → List Value} {l : List α} {n k : Nat} (x : α) {r : List Value} {K : (Nat → List Value) → Prop} (hn : l.length = n) (hr : r = en x) (hK : K (ga en (l.set k x))) :
    NPut n k (ga en l) r K := by
  subst hn
  exact NPut.at_ x hr hK
theorem _root_.Go.Proofs.Ytdplkcciknfnhaa.V.NPut.is_ {α : Type} [Inhabited α] {en : α → List Value} {l : List α} {n k : Nat} (x : α) (l' : List α) {r : List Value} {K : (Nat → List Value) → Prop} (e : l.set k x = l') (hn : l.length = n) (hr : r = en x) (hK : K (ga en l')) :
    NPut n k (ga en l) r K := by
  subst e
  exact NPut.to x hn hr hK
theorem _root_.Go.Proofs.Ytdplkcciknfnhaa.V.ObLe.is_ {α : Type} [Inhabited α] {en : α → List Value} {t s n : Nat} {l l' : List α} (e : l' = l) (hn : n = l'.length) : ObLe (.row t s n (ga en l)) (.row t s l'.length (ga en l')) := by
  subst e hn
  exact ⟨rfl, rfl, rfl, fun k hk => rfl⟩
section
variable {H : Type} {enc : TypeId × Value → H} {P : Program} {w : World} {base : Nat} {spare : Nat → Bool} {held : Bool}
theorem list_of {α : Type} {p : Nat → α → Prop} : ∀ (n : Nat), (∀ i, i < n → ∃ f, p i f) → ∃ l : List α, l.length = n ∧ ∀ i (hi : i < l.length), p i l[i]
  | 0, _ => ⟨[], rfl, fun i hi => absurd hi (by simp)⟩
  | n + 1, h => by
    obtain ⟨l, hl, hp⟩ := list_of n (fun i hi => h i (by omega))
    obtain ⟨f, hf⟩ := h n (by omega)
    refine ⟨l ++ [f], by simp [hl], fun i hi => ?_⟩
    by_cases hi' : i < l.length
    · rw [List.getElem_append_left hi']; exact hp i hi'
    · have : i = l.length := by simp at hi; omega
      subst this
      rw [List.getElem_append_right (by omega)]
      simpa [hl] using hf
theorem cell_lt {W : World} {a : Addr} {v : Value} (h : W.cell? a = some v) : a.block < W.heap.size := by
  rcases Nat.lt_or_ge a.block W.heap.size with hlt | hge
  · exact hlt
  · unfold World.cell? at h; rw [Array.getElem?_eq_none hge] at h; cases h
theorem open_list {α : Type} [Inhabited α] {en : α → List Value} {Wf : α → Prop} {t e s : Nat} (hu : P.underlying t = some (.slice e)) (hs : P.cellsOf e = s) (hs0 : 0 < s)
    (hel : ∀ fuel cs x, DataW.trod enc P w base spare held fuel e cs = some x → ∃ f : α, cs = en f ∧ Wf f) {r : Reach} {b0 : Nat} {v : Value} {d : DataW H} {p : List MemPlace} (hv : Value.okWide P w r b0 t v) (h : DataW.Trod enc P w base spare held t v d p) :
    ∃ l : List α, ArrIs w v s l.length (ga en l) ∧ ∀ f ∈ l, Wf f := by
  obtain ⟨a0, len, cap, rfl⟩ := okWide_slice hu hv
  obtain ⟨fuel, hf⟩ := h
  rcases Go.Deep.open_slice hu hf with ⟨hcs, _⟩ | ⟨a, len', cap', m, n, D, Pl, hcs, _, hl, hm, hmm, _, hi⟩
  · have e : (Value.slice a0 len cap) = .slice none 0 0 := by simpa [Value.cells] using hcs
    injection e with e1 e2 e3
    subst e1 e2 e3
    exact ⟨[], ⟨none, 0, rfl, by simp, by simp, fun k hk => absurd hk (by simp)⟩, by simp⟩
  · have e : (Value.slice a0 len cap) = .slice (some a) len' cap' := by simpa [Value.cells] using hcs
    injection e with e1 e2 e3
    subst e1 e2 e3
    have hml : len ≤ m := by rw [hmm]; split <;> omega
    have all : ∀ i, i < len → ∃ f : α, (en f).length = s ∧ (∀ j u, (en f)[j]? = some u → w.cell? (a.add (i * s + j)) = some u) ∧ Wf f := by
      intro i hi'
      obtain ⟨cs', hc, ht'⟩ := hi i (by omega)
      rw [hs] at hc
      obtain ⟨f, e, wf⟩ := hel _ _ _ ht'
      obtain ⟨_, hcl, hat⟩ := World.cells?_some hc
      refine ⟨f, by rw [← e]; exact hcl, fun j u hu => ?_, wf⟩
      rw [← e] at hu
      have hj : j < s := by have := (List.getElem?_eq_some_iff.1 hu).1; omega
      have h1 := hat j hj
      rw [add_of_add] at h1
      rw [h1]; exact hu
    obtain ⟨l, hl2, hp⟩ := list_of len all
    refine ⟨l, ⟨some a, cap, by rw [hl2], by unfold maxLen at hm; omega, by omega, fun k hk => ?_⟩, fun f hf' => ?_⟩
    · obtain ⟨e1, e2, _⟩ := hp k hk
      rw [ga_at hk]
      have h0 : (en l[k])[0]? = some ((en l[k])[0]'(by omega)) := List.getElem?_eq_getElem _
      have := cell_lt (e2 0 _ h0)
      rw [block_of_add] at this
      exact ⟨a, rfl, this, e1, e2⟩
    · obtain ⟨i, hi', rfl⟩ := List.getElem_of_mem hf'
      exact (hp i hi').2.2
end
theorem ArrIs.one {w : World} {v : Value} {s n : Nat} {get : Nat → List Value} (h : ArrIs w v s n get) : v.oneCell' = true := by
  obtain ⟨_, _, rfl, _⟩ := h; rfl
theorem Svs.nil_ {ρ : Rho} {nx : Nat} (hx : ρ nx = none) : ∀ {args : List SV} {xs : List Value} {j : Nat}, args[j]? = some (.one (.val (.slice none 0 0))) → Svs ρ args xs → Svs (upd ρ nx (.slice none 0 0)) (args.set j (.one (.ref nx))) xs
  | [], _, j, h, _ => by simp at h
  | a :: l, _, 0, h, ⟨u, r, e, ha, hr⟩ => by
    have ea : a = .one (.val (.slice none 0 0)) := by simpa using h
    subst ea
    have eu : u = .slice none 0 0 := ha
    subst eu
    exact ⟨_, r, e, ⟨upd_same _ _ _, rfl⟩, Svs.ext (ext_upd hx) hr⟩
  | a :: l, _, j + 1, h, ⟨u, r, e, ha, hr⟩ => ⟨u, r, e, SV.is1_ext (ext_upd hx) ha, Svs.nil_ hx (by simpa using h) hr⟩
theorem NCall.nil_ {P : Program} {f : FuncId} {args : List SV} {obs : Obs} {nx : Nat} {K : SV → Obs → Nat → Prop} (j s : Nat) (e : args[j]? = some (.one (.val (.slice none 0 0)))) (h : NCall P f (args.set j (.one (.ref nx))) ((nx, .arr s 0 fun _ => []) :: obs) (nx + 1) K) : NCall P f args obs nx K := by
  refine ⟨h.b, fun B ρ w xs hC ha => ?_⟩
  have hx := hC.new nx (Nat.le_refl _)
  have hC' := hC.more (v := .slice none 0 0) (o := .arr s 0 fun _ => []) (Belw.refl _ _) ⟨_, upd_same _ _ _, none, 0, rfl, by omega, by omega, fun k hk => by omega⟩ (fun b hf => by simp [foot] at hf)
  refine (h.h B _ w xs hC' (ha.nil_ hx e)).mono ?_
  rintro e w' ⟨v, obs', nx', ρ', x, hK, hE, r⟩
  exact ⟨v, obs', nx', ρ', x, hK, fun i y hy => hE i y (by have : i ≠ nx := fun q => (by rw [q, hx] at hy; cases hy); simpa [upd, this] using hy), r⟩
theorem Fn.lim {P : Program} {f : FuncId} {os : List Ob} {args : List SV} {x : Value} (hb : hasBody P f = true) (h : (∀ (i : Nat) s n g, os[i]? = some (.arr s n g) → n ≤ 9223372036854775807) → Fn P f os args x) : Fn P f os args x :=
  ⟨hb, fun w ρ xs ho hs => (h fun i s n g e => by
    obtain ⟨v, _, A, c, _, hn, _⟩ := ho i _ e
    exact hn).c w ρ xs ho hs⟩
end Go.Proofs.Ytdplkcciknfnhaa.V

namespace Go.Proofs.Ytdplkcciknfnhaa.V
open Go Go.RowKit
variable [Dr]
def aN (n : Nat) : At → At
  | .ref j => if j = n then .val (.slice none 0 0) else .ref j
  | a => a
def aNok (n : Nat) : At → Bool
  | .ptr i _ _ _ => i != n
  | .clo _ _ => false
  | _ => true
def rN (n : Nat) (ρ : Rho) : Rho := fun i => if i = n then some (.slice none 0 0) else ρ i
theorem At.nil_ {n : Nat} {ρ : Rho} {a : At} {x : Value} (hk : aNok n a = true) (h : (aN n a).is ρ x) : a.is (rN n ρ) x := by
  cases a with
  | val v => exact h
  | tf b => exact h
  | prop p => exact h
  | clo f c => cases hk
  | ptr i k j s =>
    have hne : i ≠ n := by simpa [aNok] using hk
    obtain ⟨b, e, q⟩ := h
    refine ⟨b, ?_, q⟩
    unfold base rN at *
    rw [if_neg hne]; exact e
  | ref i =>
    by_cases e : i = n
    · have h : (aN n (.ref i)).is ρ x := h
      rw [show aN n (.ref i) = .val (.slice none 0 0) from if_pos e] at h
      have h : x = .slice none 0 0 := h
      subst h
      exact ⟨if_pos e, rfl⟩
    · have h : (aN n (.ref i)).is ρ x := h
      rw [show aN n (.ref i) = .ref i from if_neg e] at h
      exact ⟨(if_neg e).trans h.1, h.2⟩
theorem Ats.nil_ {n : Nat} {ρ : Rho} : ∀ {l : List At} {xs : List Value}, l.all (aNok n) = true → Ats ρ (l.map (aN n)) xs → Ats (rN n ρ) l xs
  | [], _, _, h => h
  | a :: l, _, hk, ⟨x, r, e, h, hr⟩ => by
    simp only [List.all_cons, Bool.and_eq_true] at hk
    exact ⟨x, r, e, At.nil_ hk.1 h, Ats.nil_ hk.2 hr⟩
theorem NApp.to_ {α : Type} [Inhabited α] {en : α → List Value} {n m : Nat} (l' : List α) {get news : Nat → List Value} {bytes : Nat} {K : Nat → (Nat → List Value) → Prop} (h : n + m = l'.length) (hb : l'.length ≤ 9223372036854775807) (hr : l'.length * bytes ≤ 140737488355328) (h1 : ∀ k, k < n → ga en l' k = get k) (h2 : ∀ k, k < m → ga en l' (n + k) = news k) (hK : K l'.length (ga en l')) : NApp n m get news bytes K :=
  ⟨⟨_, _, h.symm, hb, hr, h1, h2, hK⟩⟩
theorem ga_take {α : Type} [Inhabited α] {en : α → List Value} {l : List α} {i k : Nat} (h : k < i) (hl : i ≤ l.length) : ga en (l.take i) k = ga en l k := by
  rw [ga_at (by rw [List.length_take]; omega), ga_at (by omega), List.getElem_take]
theorem ga_left {α : Type} [Inhabited α] {en : α → List Value} {l r : List α} {k : Nat} (h : k < l.length) : ga en (l ++ r) k = ga en l k := by
  rw [ga_at (by simp; omega), ga_at h, List.getElem_append_left h]
theorem ga_right {α : Type} [Inhabited α] {en : α → List Value} {l r : List α} {n k : Nat} (hn : n = l.length) (h : k < r.length) : ga en (l ++ r) (n + k) = ga en r k := by
  subst hn
  rw [ga_at (by simp; omega), ga_at h, List.getElem_append_right (by omega)]
  congr 2
  omega
end Go.Proofs.Ytdplkcciknfnhaa.V

namespace Go.Proofs.Ytdplkcciknfnhaa.V
open Go Go.RowKit
theorem ofInt_nat {n a : Nat} (h : a < 2 ^ n) : (BitVec.ofInt n (a : Int)).toNat = a := by
  rw [BitVec.toNat_ofInt]
  have : ((a : Int) % ((2 ^ n : Nat) : Int)) = a := Int.emod_eq_of_lt (by omega) (by exact_mod_cast h)
  rw [this]; rfl
theorem wrap_u {k : IntKind} {a : Nat} (hs : k.signed = false) (h : a < 2 ^ k.bits) : k.wrap (a : Int) = a := wrap_un hs (by omega) (by exact_mod_cast h)
theorem NBit.xorU {k : IntKind} {x y : Int} {K : Int → Prop} (hs : k.signed = false) (a b : Nat) (hx : x = a) (hy : y = b) (ha : a < 2 ^ k.bits) (hb : b < 2 ^ k.bits) (hK : K ((a ^^^ b : Nat) : Int)) : NBit .xor k x y K := by
  subst hx hy
  refine ⟨fun z hz => ?_⟩
  have := hz default default
  rw [intBits_xor, Sem.run_pure] at this
  injection this with this _
  injection this with _ this
  rw [← this]
  show K (k.wrap ((BitVec.ofInt k.bits (a : Int) ^^^ BitVec.ofInt k.bits (b : Int)).toNat : Int))
  rw [BitVec.toNat_xor, ofInt_nat ha, ofInt_nat hb, wrap_u hs (Nat.xor_lt_two_pow ha hb)]
  exact hK
theorem NBit.xorI {x y : Int} {K : Int → Prop} (a b : Nat) (hx : x = a) (hy : y = b) (ha : a < 2 ^ 63) (hb : b < 2 ^ 63) (hK : K ((a ^^^ b : Nat) : Int)) : NBit .xor .i64 x y K := by
  subst hx hy
  refine ⟨fun z hz => ?_⟩
  have := hz default default
  rw [intBits_xor, Sem.run_pure] at this
  injection this with this _
  injection this with _ this
  rw [← this]
  show K (IntKind.i64.wrap ((BitVec.ofInt IntKind.i64.bits (a : Int) ^^^ BitVec.ofInt IntKind.i64.bits (b : Int)).toNat : Int))
  have h := Nat.xor_lt_two_pow ha hb
  rw [BitVec.toNat_xor, ofInt_nat (n := IntKind.i64.bits) (show a < 2 ^ 64 by omega), ofInt_nat (n := IntKind.i64.bits) (show b < 2 ^ 64 by omega), IntWalk.i64_in _ ⟨by omega, by omega⟩]
  exact hK
theorem NBit.orI {x y : Int} {K : Int → Prop} (a b : Nat) (hx : x = a) (hy : y = b) (ha : a < 2 ^ 63) (hb : b < 2 ^ 63) (hK : K ((a ||| b : Nat) : Int)) : NBit .or .i64 x y K := by
  subst hx hy
  refine ⟨fun z hz => ?_⟩
  have := hz default default
  rw [intBits_or, Sem.run_pure] at this
  injection this with this _
  injection this with _ this
  rw [← this]
  show K (IntKind.i64.wrap ((BitVec.ofInt IntKind.i64.bits (a : Int) ||| BitVec.ofInt IntKind.i64.bits (b : Int)).toNat : Int))
  have h := Nat.or_lt_two_pow ha hb
  rw [BitVec.toNat_or, ofInt_nat (n := IntKind.i64.bits) (show a < 2 ^ 64 by omega), ofInt_nat (n := IntKind.i64.bits) (show b < 2 ^ 64 by omega), IntWalk.i64_in _ ⟨by omega, by omega⟩]
  exact hK
theorem NBit.oneU {k : IntKind} {x : Int} {K : Int → Prop} (hs : k.signed = false) (a : Nat) (hx : x = a) (ha : a < 2 ^ k.bits) (hb : 1 < 2 ^ k.bits) (hK : K ((a % 2 : Nat) : Int)) : NBit .and k x 1 K := by
  subst hx
  refine ⟨fun z hz => ?_⟩
  have := hz default default
  rw [intBits_and, Sem.run_pure] at this
  injection this with this _
  injection this with _ this
  rw [← this]
  show K (k.wrap ((BitVec.ofInt k.bits (a : Int) &&& BitVec.ofInt k.bits ((1 : Nat) : Int)).toNat : Int))
  rw [BitVec.toNat_and, ofInt_nat ha, ofInt_nat hb, Nat.and_one_is_mod, wrap_u hs (by omega)]
  exact hK
theorem NShr.nat {k : IntKind} {x y : Int} {K : Int → Prop} (a n : Nat) (hx : x = a) (hy : y = n) (hn : n ≤ k.bits) (hK : K ((a / 2 ^ n : Nat) : Int)) : NShr k x y K := by
  subst hx hy
  have p : (0 : Int) ≤ 2 ^ n := Int.le_of_lt (Int.pow_pos (by omega))
  refine ⟨by omega, ?_⟩
  rw [Int.toNat_natCast, Nat.min_eq_left hn, Int.fdiv_eq_ediv_of_nonneg _ p]
  have e : ((a : Int) / 2 ^ n) = ((a / 2 ^ n : Nat) : Int) := by rw [Int.natCast_ediv]; congr 1
  rw [e]; exact hK
theorem NShl.nat {x y : Int} {K : Int → Prop} (a n : Nat) (hx : x = a) (hy : y = n) (hn : n ≤ 64) (h : a * 2 ^ n < 2 ^ 63) (hK : K ((a * 2 ^ n : Nat) : Int)) : NShl .i64 x y K := by
  subst hx hy
  refine ⟨by omega, ?_⟩
  rw [Int.toNat_natCast, show IntKind.i64.bits = 64 from rfl, Nat.min_eq_left hn]
  have e : ((a : Int) * 2 ^ n) = ((a * 2 ^ n : Nat) : Int) := by rw [Int.natCast_mul]; congr 1
  rw [e, IntWalk.i64_in _ ⟨by omega, by omega⟩]; exact hK
theorem NWrap.u8m {x : Int} {K : Int → Prop} (a : Nat) (hx : x = a) (hK : K ((a % 256 : Nat) : Int)) : NWrap .u8 x K := by
  subst hx
  refine ⟨?_⟩
  have e : IntKind.u8.wrap (a : Int) = ((a % 256 : Nat) : Int) := by
    unfold IntKind.wrap
    simp only [show IntKind.u8.signed = false from rfl, Bool.false_and]
    rw [if_neg (by simp)]
    show (a : Int) % 2 ^ 8 = _
    omega
  rw [e]; exact hK
theorem or_byte {a b : Nat} (h : b < 256) : a * 2 ^ 8 ||| b = a * 256 + b := by
  rw [Nat.mul_comm]
  exact (Nat.two_pow_add_eq_or_of_lt (i := 8) (b := b) (by omega) a).symm.trans (by omega)
theorem Fn.v0 {P : Program} {f : FuncId} {args : List SV} {x : Value} (h : Fn P f [] args x) (hp : plain0 args = true) {obs : Obs} {nx : Nat} {K : SV → Obs → Nat → Prop} (hK : K (.one (.val x)) obs nx) : NCall P f args obs nx K :=
  NCallQ.to ⟨h.b, .one (.val x), hK, fun B ρ w xs hC hs => (h.c w (fun i => ρ (sg [] i)) xs (fun i o hi => by simp at hi) ((SameS.self hp).is_ hs)).mono fun e w' ⟨he, hw⟩ => ⟨x, he, rfl, hw⟩⟩
theorem NQuo.nat {x y : Int} {K : Int → Prop} (a b : Nat) (hx : x = a) (hy : y = b) (hb : 0 < b) (h : a < 2 ^ 63) (hK : K ((a / b : Nat) : Int)) : NQuo .i64 x y K := by
  subst hx hy
  have e : (a : Int).tdiv (b : Int) = ((a / b : Nat) : Int) := by rw [Int.tdiv_eq_ediv_of_nonneg (by omega), Int.natCast_ediv]
  have l : a / b ≤ a := Nat.div_le_self _ _
  generalize a / b = q at *
  exact NQuo.ok (by omega) (by rw [e]; omega) (by rw [e]; omega) (by rw [e]; exact hK)
theorem NRem.nat {x y : Int} {K : Int → Prop} (a b : Nat) (hx : x = a) (hy : y = b) (hb : 0 < b) (hK : K ((a % b : Nat) : Int)) : NRem x y K := by
  subst hx hy
  exact ⟨by omega, by rw [Int.tmod_eq_emod_of_nonneg (by omega), ← Int.natCast_emod]; exact hK⟩
end Go.Proofs.Ytdplkcciknfnhaa.V

namespace Go.Proofs.Ytdplkcciknfnhaa.V
open Go
def T : TT := [
  (3, ⟨.int .i64, 1, 8, [.int .i64 0], false⟩),
  (4, ⟨.bool, 1, 1, [.bool false], false⟩),
  (23, ⟨.int .i64, 1, 8, [.int .i64 0], false⟩),
  (22, ⟨.sl 5, 1, 24, [.slice none 0 0], false⟩),
  (28, ⟨.sl 22, 1, 24, [.slice none 0 0], false⟩),
  (1, ⟨.fn, 1, 8, [.nilFunc], false⟩),
  (2, ⟨.int .i64, 1, 8, [.int .i64 0], false⟩),
  (5, ⟨.int .u8, 1, 1, [.int .u8 0], false⟩),
  (9, ⟨.str, 1, 16, [.string ⟨#[]⟩], false⟩),
  (12, ⟨.int .u64, 1, 8, [.int .u64 0], false⟩),
  (20, ⟨.cl, 1, 16, [.nilIface], false⟩),
  (21, ⟨.int .i32, 1, 4, [.int .i32 0], false⟩),
  (25, ⟨.fn, 1, 8, [.nilFunc], false⟩),
  (27, ⟨.fn, 1, 8, [.nilFunc], false⟩),
  (30, ⟨.fn, 1, 8, [.nilFunc], false⟩),
  (31, ⟨.fn, 1, 8, [.nilFunc], false⟩),
  (32, ⟨.fn, 1, 8, [.nilFunc], false⟩),
  (34, ⟨.fn, 1, 8, [.nilFunc], false⟩),
  (35, ⟨.fn, 1, 8, [.nilFunc], false⟩),
  (36, ⟨.fn, 1, 8, [.nilFunc], false⟩),
  (37, ⟨.fn, 1, 8, [.nilFunc], false⟩),
  (38, ⟨.fn, 1, 8, [.nilFunc], false⟩),
  (39, ⟨.fn, 1, 8, [.nilFunc], false⟩),
  (40, ⟨.fn, 1, 8, [.nilFunc], false⟩),
  (41, ⟨.fn, 1, 8, [.nilFunc], false⟩),
  (42, ⟨.fn, 1, 8, [.nilFunc], false⟩),
  (43, ⟨.int .u32, 1, 4, [.int .u32 0], false⟩),
  (44, ⟨.fn, 1, 8, [.nilFunc], false⟩),
  (45, ⟨.fn, 1, 8, [.nilFunc], false⟩),
  (46, ⟨.fn, 1, 8, [.nilFunc], false⟩),
  (47, ⟨.fn, 1, 8, [.nilFunc], false⟩),
  (48, ⟨.fn, 1, 8, [.nilFunc], false⟩),
  (49, ⟨.arr 256 43, 256, 1024, [.int .u32 0, .int .u32 0, .int .u32 0, .int .u32 0, .int .u32 0, .int .u32 0, .int .u32 0, .int .u32 0, .int .u32 0, .int .u32 0, .int .u32 0, .int .u32 0, .int .u32 0, .int .u32 0, .int .u32 0, .int .u32 0, .int .u32 0, .int .u32 0, .int .u32 0, .int .u32 0, .int .u32 0, .int .u32 0, .int .u32 0, .int .u32 0, .int .u32 0, .int .u32 0, .int .u32 0, .int .u32 0, .int .u32 0, .int .u32 0, .int .u32 0, .int .u32 0, .int .u32 0, .int .u32 0, .int .u32 0, .int .u32 0, .int .u32 0, .int .u32 0, .int .u32 0, .int .u32 0, .int .u32 0, .int .u32 0, .int .u32 0, .int .u32 0, .int .u32 0, .int .u32 0, .int .u32 0, .int .u32 0, .int .u32 0, .int .u32 0, .int .u32 0, .int .u32 0, .int .u32 0, .int .u32 0, .int .u32 0, .int .u32 0, .int .u32 0, .int .u32 0, .int .u32 0, .int .u32 0, .int .u32 0, .int .u32 0, .int .u32 0, .int .u32 0, .int .u32 0, .int .u32 0, .int .u32 0, .int .u32 0, .int .u32 0, .int .u32 0, .int .u32 0, .int .u32 0, .int .u32 0, .int .u32 0, .int .u32 0, .int .u32 0, .int .u32 0, .int .u32 0, .int .u32 0, .int .u32 0, .int .u32 0, .int .u32 0, .int .u32 0, .int .u32 0, .int .u32 0, .int .u32 0, .int .u32 0, .int .u32 0, .int .u32 0, .int .u32 0, .int .u32 0, .int .u32 0, .int .u32 0, .int .u32 0, .int .u32 0, .int .u32 0, .int .u32 0, .int .u32 0, .int .u32 0, .int .u32 0, .int .u32 0, .int .u32 0, .int .u32 0, .int .u32 0, .int .u32 0, .int .u32 0, .int .u32 0, .int .u32 0, .int .u32 0, .int .u32 0, .int .u32 0, .int .u32 0, .int .u32 0, .int .u32 0, .int .u32 0, .int .u32 0, .int .u32 0, .int .u32 0, .int .u32 0, .int .u32 0, .int .u32 0, .int .u32 0, .int .u32 0, .int .u32 0, .int .u32 0, .int .u32 0, .int .u32 0, .int .u32 0, .int .u32 0, .int .u32 0, .int .u32 0, .int .u32 0, .int .u32 0, .int .u32 0, .int .u32 0, .int .u32 0, .int .u32 0, .int .u32 0, .int .u32 0, .int .u32 0, .int .u32 0, .int .u32 0, .int .u32 0, .int .u32 0, .int .u32 0, .int .u32 0, .int .u32 0, .int .u32 0, .int .u32 0, .int .u32 0, .int .u32 0, .int .u32 0, .int .u32 0, .int .u32 0, .int .u32 0, .int .u32 0, .int .u32 0, .int .u32 0, .int .u32 0, .int .u32 0, .int .u32 0, .int .u32 0, .int .u32 0, .int .u32 0, .int .u32 0, .int .u32 0, .int .u32 0, .int .u32 0, .int .u32 0, .int .u32 0, .int .u32 0, .int .u32 0, .int .u32 0, .int .u32 0, .int .u32 0, .int .u32 0, .int .u32 0, .int .u32 0, .int .u32 0, .int .u32 0, .int .u32 0, .int .u32 0, .int .u32 0, .int .u32 0, .int .u32 0, .int .u32 0, .int .u32 0, .int .u32 0, .int .u32 0, .int .u32 0, .int .u32 0, .int .u32 0, .int .u32 0, .int .u32 0, .int .u32 0, .int .u32 0, .int .u32 0, .int .u32 0, .int .u32 0, .int .u32 0, .int .u32 0, .int .u32 0, .int .u32 0, .int .u32 0, .int .u32 0, .int .u32 0, .int .u32 0, .int .u32 0, .int .u32 0, .int .u32 0, .int .u32 0, .int .u32 0, .int .u32 0, .int .u32 0, .int .u32 0, .int .u32 0, .int .u32 0, .int .u32 0, .int .u32 0, .int .u32 0, .int .u32 0, .int .u32 0, .int .u32 0, .int .u32 0, .int .u32 0, .int .u32 0, .int .u32 0, .int .u32 0, .int .u32 0, .int .u32 0, .int .u32 0, .int .u32 0, .int .u32 0, .int .u32 0, .int .u32 0, .int .u32 0, .int .u32 0, .int .u32 0, .int .u32 0, .int .u32 0, .int .u32 0, .int .u32 0, .int .u32 0, .int .u32 0, .int .u32 0, .int .u32 0, .int .u32 0, .int .u32 0, .int .u32 0, .int .u32 0, .int .u32 0, .int .u32 0, .int .u32 0, .int .u32 0, .int .u32 0, .int .u32 0], false⟩),
  (50, ⟨.fn, 1, 8, [.nilFunc], false⟩),
  (51, ⟨.int .u64, 1, 8, [.int .u64 0], false⟩),
  (52, ⟨.fn, 1, 8, [.nilFunc], false⟩),
  (53, ⟨.fn, 1, 8, [.nilFunc], false⟩),
  (54, ⟨.fn, 1, 8, [.nilFunc], false⟩),
  (60, ⟨.fn, 1, 8, [.nilFunc], false⟩),
  (63, ⟨.fn, 1, 8, [.nilFunc], false⟩),
  (64, ⟨.ptr 5, 1, 8, [.pointer none], false⟩)]
theorem Tok : TTok Try.prog T :=
  ⟨by kernel_rfl, by kernel_rfl, by kernel_rfl, by kernel_rfl, by kernel_rfl, by kernel_rfl, by kernel_rfl, by kernel_rfl, by kernel_rfl, by kernel_rfl, by kernel_rfl, by kernel_rfl, by kernel_rfl, by kernel_rfl, by kernel_rfl, by kernel_rfl, by kernel_rfl, by kernel_rfl, by kernel_rfl, by kernel_rfl, by kernel_rfl, by kernel_rfl, by kernel_rfl, by kernel_rfl, by kernel_rfl, by kernel_rfl, by kernel_rfl, by kernel_rfl, by kernel_rfl, by kernel_rfl, by kernel_rfl, by kernel_rfl, by kernel_rfl, by kernel_rfl, by kernel_rfl, by kernel_rfl, by kernel_rfl, by kernel_rfl, by kernel_rfl, by kernel_rfl, by kernel_rfl, trivial⟩
theorem mixed : Try.prog.follows .mixedOrders = true := by kernel_rfl
end Go.Proofs.Ytdplkcciknfnhaa.V

namespace Go.Proofs.Ytdplkcciknfnhaa
open Go Go.RowKit V
set_option maxHeartbeats 4000000
theorem by_info : ∃ i z, Try.prog.info? 5 = some i ∧ i.zero = some z ∧ i.size = 1 ∧ i.bytes = 1 ∧ z.cells.size = 1 := by
  obtain ⟨ty, i, d, z, ht, hi, hd, hz, e, h⟩ := fnd_ty V.Tok (t := 5) (K := fun ty => ty.size = 1 ∧ ty.bytes = 1 ∧ ty.zero.length = 1) (by (conv => whnf); exact ⟨rfl, rfl, rfl⟩)
  subst e
  exact ⟨i, z, hi, hz, h.1, h.2.1, by simpa using h.2.2⟩
theorem growB_any (n : Nat) (h : 1 ≤ n ∧ n ≤ 100000) (w : World) : Calls Try.prog 27 #[.slice none 0 0, .int .i64 n] w fun e w' => ∃ c cur, e = .returned (.slice (some ⟨w.heap.size, 0, none⟩) 0 c) ∧ 0 < c ∧ c ≤ maxLen ∧ cur.size = c * 1 ∧ w'.heap[w.heap.size]? = some (.cells cur 5 (0, 0)) ∧ Belw w.heap.size w w' := by
  obtain ⟨i, z, hi, hz, hs, hb, hzc⟩ := by_info
  have hrz : ∀ ty, (Builtin.append_ #[22, 3] ty #[.slice none 0 0, .int .i64 ((n : Nat) : Int)]).run Try.prog w = .ok (.slice (some ⟨w.heap.size, 0, none⟩) n (grownCap w n 0 5)) (w.drew.alloc (.cells (#[] ++ Builtin.zeroCells z.cells n ++ Builtin.zeroCells z.cells (grownCap w n 0 5 - n)) 5)) := fun ty => by
    have q := Lib.run_append_grow_zeros w 22 3 ty 5 i z .i64 .i64 Try.underlying22 Try.underlying3 hi hz none 0 0 [] (run_firstCells_none w.drew i.size 0 0 0) n (by omega) (by omega) (by omega) (by omega) (by rw [hb]; omega) (growslice_fits (by omega) (by rw [hb]; omega))
    rw [Nat.zero_add] at q
    exact q
  have hG := grownCap_ge w n 0 5
  have hG2 := grownCap_le_maxLen w n 0 5 (by unfold maxLen; omega)
  generalize grownCap w n 0 5 = G at *
  have hX : (#[] ++ Builtin.zeroCells z.cells n ++ Builtin.zeroCells z.cells (G - n)).size = G * 1 := by
    simp only [Array.size_append, size_zeroCells, hzc, Array.size_empty]
    have : G = n + (G - n) := by omega
    omega
  generalize #[] ++ Builtin.zeroCells z.cells n ++ Builtin.zeroCells z.cells (G - n) = X at *
  clear hzc hz hi hs hb
  have h1 : ¬ ((n : Int) < 0) := by omega
  have h2 : wrap64 ((0 : Int) - (0 : Int)) = 0 := by unfold wrap64; omega
  have h3 : wrap64 ((n : Int) - 0) = (n : Int) := by unfold wrap64; omega
  have h4 : (n : Int) > 0 := by omega
  go_enter Try.func27, Try.ntmps27
  go_wp2_with (at_builtin; refine Lib.wpList_append_run _ rfl _ _ _ _ rfl _ _ rfl rfl _ _ (hrz _) ?_)
  go_ret
  exact ⟨G, rfl, by omega, hG2, X, (by simpa using hX), heap_alloc_new _ _, ((Belw.refl _ _).alloc (Nat.le_refl _) _).drew⟩
theorem v_growB (n : Nat) (h : 1 ≤ n ∧ n ≤ 100000) : V.FnR Try.prog 27 [] [.one (.val (.slice none 0 0)), .one (.val (.int .i64 ((n : Int))))] (.one (.ref 0)) [.row 5 1 0 (fun _ => [])] :=
  ⟨by kernel_rfl, rfl, rfl, fun w ρ xs _ hs => by
    obtain ⟨_, _, rfl, h1, _, _, rfl, h2, h3⟩ := hs
    have e1 : _ = Value.slice none 0 0 := h1
    have e2 : _ = Value.int .i64 n := h2
    have e3 : _ = [] := h3
    subst e1 e2 e3
    refine (growB_any n h w).mono ?_
    rintro e w' ⟨c, cur, rfl, h0, h1, h2, h3, h4⟩
    refine ⟨fun i => if i = 0 then some (.slice (some ⟨w.heap.size, 0, none⟩) 0 c) else none, _, rfl, ?_, ⟨?_, ?_, ?_⟩, h4⟩
    · exact ⟨rfl, rfl⟩
    · intro j o hj
      match j, hj with
      | 0, hj =>
        injection hj with hj
        subst hj
        refine ⟨⟨_, rfl, _, c, rfl, by omega, fun k hk => by omega, .inr ⟨_, cur, rfl, Nat.le_refl _, h3, by omega, h0, h1, h2, by simp [flat]⟩⟩, fun b hb => ?_⟩
        match c, h0 with
        | c + 1, _ =>
          have hb : some w.heap.size = some b := hb
          injection hb with hb
          omega
      | j + 1, hj => cases hj
    · intro j k o o' b hj hk hne
      match j, k, hj, hk with
      | 0, 0, _, _ => exact absurd rfl hne
      | 0, k + 1, _, hk => cases hk
      | j + 1, _, hj, _ => cases hj
    · intro j k o o' b hj hk hs
      match j, hj with
      | 0, hj =>
        injection hj with hj
        subst hj
        exact hs.elim
      | j + 1, hj => cases hj⟩
end Go.Proofs.Ytdplkcciknfnhaa

namespace Go.Proofs.Ytdplkcciknfnhaa
theorem getD_at {α : Type} [Inhabited α] {l : List α} {k : Nat} (h : k < l.length) : l.getD k default = l[k] := by simp [List.getD, List.getElem?_eq_getElem h]
theorem getD_mem {α : Type} [Inhabited α] {l : List α} {k : Nat} (h : k < l.length) : l.getD k default ∈ l := by rw [getD_at h]; exact List.getElem_mem h
end Go.Proofs.Ytdplkcciknfnhaa

namespace Go.Proofs.Ytdplkcciknfnhaa
namespace Ta
def P0 : Nat := 3988292384
def h (r : Nat) : Nat := if r % 2 = 1 then r / 2 ^^^ P0 else r / 2
theorem xor_half (a b : Nat) : (a ^^^ b) / 2 = a / 2 ^^^ b / 2 := by
  apply Nat.eq_of_testBit_eq
  intro i
  rw [Nat.testBit_xor, Nat.testBit_div_two, Nat.testBit_div_two, Nat.testBit_div_two, Nat.testBit_xor]
theorem xor_par (a b : Nat) : (a ^^^ b) % 2 = (a + b) % 2 := by
  have h := Nat.testBit_xor a b 0
  simp only [Nat.testBit_zero] at h
  have ha := Nat.mod_two_eq_zero_or_one a
  have hb := Nat.mod_two_eq_zero_or_one b
  have hc := Nat.mod_two_eq_zero_or_one (a ^^^ b)
  rcases ha with ha | ha <;> rcases hb with hb | hb <;> rcases hc with hc | hc <;> simp [ha, hb, hc] at h <;> omega
theorem xor_self_r (a b : Nat) : a ^^^ b ^^^ b = a := by rw [Nat.xor_assoc, Nat.xor_self, Nat.xor_zero]
theorem h_xor (a b : Nat) : h (a ^^^ b) = h a ^^^ h b := by
  have p := xor_par a b
  unfold h
  rw [xor_half]
  by_cases ha : a % 2 = 1 <;> by_cases hb : b % 2 = 1
  · rw [if_neg (by omega), if_pos ha, if_pos hb, Nat.xor_comm (b / 2) P0, ← Nat.xor_assoc, Nat.xor_assoc (a / 2), Nat.xor_self, Nat.xor_zero]
  · rw [if_pos (by omega), if_pos ha, if_neg hb, Nat.xor_assoc, Nat.xor_comm (b / 2) P0, ← Nat.xor_assoc]
  · rw [if_pos (by omega), if_neg ha, if_pos hb, Nat.xor_assoc]
  · rw [if_neg (by omega), if_neg ha, if_neg hb]
theorem h_even (m : Nat) : h (2 * m) = m := by
  unfold h; rw [if_neg (by omega)]; omega
theorem h_lt {r : Nat} (hr : r < 2 ^ 32) : h r < 2 ^ 32 := by
  unfold h
  split
  · exact Nat.xor_lt_two_pow (by omega) (by decide)
  · omega
theorem h_zero : h 0 = 0 := by decide
theorem h_inj {a b : Nat} (ha : a < 2 ^ 32) (hb : b < 2 ^ 32) (e : h a = h b) : a = b := by
  have key : ∀ c, c < 2 ^ 32 → h c = 0 → c = 0 := fun c hc z => by
    unfold h at z
    split at z
    · have q : c / 2 = P0 := by
        have := xor_self_r (c / 2) P0
        rw [z, Nat.zero_xor] at this
        exact this.symm
      unfold P0 at q
      omega
    · omega
  have z := key (a ^^^ b) (Nat.xor_lt_two_pow ha hb) (by rw [h_xor, e, Nat.xor_self])
  have := xor_self_r a b
  rw [z, Nat.zero_xor] at this
  exact this.symm
def hn : Nat → Nat → Nat
  | 0, r => r
  | k + 1, r => hn k (h r)
theorem hn_succ : ∀ (k r : Nat), hn (k + 1) r = h (hn k r)
  | 0, r => rfl
  | k + 1, r => hn_succ k (h r)
theorem hn_add : ∀ (k m r : Nat), hn (k + m) r = hn m (hn k r)
  | 0, m, r => by rw [Nat.zero_add]; rfl
  | k + 1, m, r => by rw [show k + 1 + m = (k + m) + 1 by omega]; exact hn_add k m (h r)
theorem hn_xor : ∀ (k a b : Nat), hn k (a ^^^ b) = hn k a ^^^ hn k b
  | 0, _, _ => rfl
  | k + 1, a, b => by
    show hn k (h (a ^^^ b)) = _
    rw [h_xor, hn_xor k]; rfl
theorem hn_lt : ∀ (k : Nat) {r : Nat}, r < 2 ^ 32 → hn k r < 2 ^ 32
  | 0, _, hr => hr
  | k + 1, _, hr => hn_lt k (h_lt hr)
theorem hn_inj : ∀ (k : Nat) {a b : Nat}, a < 2 ^ 32 → b < 2 ^ 32 → hn k a = hn k b → a = b
  | 0, _, _, _, _, e => e
  | k + 1, a, b, ha, hb, e => h_inj ha hb (hn_inj k (h_lt ha) (h_lt hb) e)
theorem hn_zero : ∀ k : Nat, hn k 0 = 0
  | 0 => rfl
  | k + 1 => by show hn k (h 0) = 0; rw [h_zero]; exact hn_zero k
theorem hn_up : ∀ (k m : Nat), hn k (2 ^ k * m) = m
  | 0, m => by show 2 ^ 0 * m = m; omega
  | k + 1, m => by
    show hn k (h (2 ^ (k + 1) * m)) = m
    have e : 2 ^ (k + 1) * m = 2 * (2 ^ k * m) := by rw [Nat.pow_succ, Nat.mul_comm (2 ^ k) 2, Nat.mul_assoc]
    rw [e, h_even, hn_up k m]
def up (r x : Nat) : Nat := hn 8 (r ^^^ x)
def tab (i : Nat) : Nat := hn 8 i
theorem split8 (a : Nat) : a = (2 ^ 8 * (a / 2 ^ 8)) ^^^ (a % 2 ^ 8) := by
  apply Nat.eq_of_testBit_eq
  intro i
  rw [Nat.testBit_xor, Nat.testBit_two_pow_mul, Nat.testBit_mod_two_pow]
  by_cases hi : i < 8
  · simp [hi, show ¬ 8 ≤ i by omega]
  · rw [Nat.testBit_div_two_pow]
    simp [hi, show 8 ≤ i by omega, show 8 + (i - 8) = i by omega, show i - 8 + 8 = i by omega]
theorem div_xor8 {r x : Nat} (hx : x < 256) : (r ^^^ x) / 2 ^ 8 = r / 2 ^ 8 := by
  apply Nat.eq_of_testBit_eq
  intro i
  rw [Nat.testBit_div_two_pow, Nat.testBit_div_two_pow, Nat.testBit_xor]
  have : x.testBit (i + 8) = false := Nat.testBit_lt_two_pow (Nat.lt_of_lt_of_le hx (by
    have : 2 ^ 8 ≤ 2 ^ (i + 8) := Nat.pow_le_pow_right (by decide) (by omega)
    exact this))
  simp [this]
theorem up_tab {r x : Nat} (hx : x < 256) : up r x = (r / 256) ^^^ tab ((r % 256) ^^^ x) := by
  have e1 : (r ^^^ x) % 2 ^ 8 = (r % 256) ^^^ x := by
    rw [Nat.xor_mod_two_pow, Nat.mod_eq_of_lt hx]
  unfold up
  rw [split8 (r ^^^ x), hn_xor, hn_up, div_xor8 hx, e1]
  rfl
theorem up_lt {r x : Nat} (hr : r < 2 ^ 32) (hx : x < 256) : up r x < 2 ^ 32 := hn_lt 8 (Nat.xor_lt_two_pow hr (by omega))
theorem tab_lt {i : Nat} (h : i < 256) : tab i < 2 ^ 32 := hn_lt 8 (by omega)
def crc (r : Nat) (l : List Nat) : Nat := l.foldl up r
def By (l : List Nat) : Prop := ∀ x ∈ l, x < 256
theorem crc_lt : ∀ {l : List Nat} {r : Nat}, By l → r < 2 ^ 32 → crc r l < 2 ^ 32
  | [], _, _, hr => hr
  | x :: l, r, hl, hr => crc_lt (l := l) (fun y hy => hl y (List.mem_cons_of_mem _ hy)) (up_lt hr (hl x (by simp)))
theorem crc_snoc {r : Nat} {l : List Nat} {k : Nat} (hk : k < l.length) : crc r (l.take (k + 1)) = up (crc r (l.take k)) (l.getD k default) := by
  unfold crc
  rw [List.take_succ_eq_append_getElem hk, List.foldl_append, ← getD_at hk]
  rfl
theorem crc_app (r : Nat) (a b : List Nat) : crc r (a ++ b) = crc (crc r a) b := List.foldl_append ..
theorem crc_xor : ∀ (l : List Nat) (r d : Nat), crc (r ^^^ d) l = crc r l ^^^ hn (8 * l.length) d
  | [], _, _ => rfl
  | x :: l, r, d => by
    show crc (up (r ^^^ d) x) l = crc (up r x) l ^^^ _
    have e : up (r ^^^ d) x = up r x ^^^ hn 8 d := by
      unfold up
      rw [Nat.xor_assoc, Nat.xor_comm d x, ← Nat.xor_assoc, hn_xor]
    rw [e, crc_xor l, List.length_cons, show 8 * (l.length + 1) = 8 + 8 * l.length by omega, hn_add]
def F32 : Nat := 4294967295
def sm (l : List Nat) : Nat := crc F32 l ^^^ F32
theorem f32 : F32 < 2 ^ 32 := by decide
theorem sm_lt {l : List Nat} (h : By l) : sm l < 2 ^ 32 := Nat.xor_lt_two_pow (crc_lt h f32) f32
def g (n x : Nat) : Nat := hn (8 * n) x
theorem sm_set {l : List Nat} {p : Nat} (hp : p < l.length) (x : Nat) : sm (l.set p (l.getD p default ^^^ x)) = sm l ^^^ g (l.length - p) x := by
  have e1 : l.set p (l.getD p default ^^^ x) = l.take p ++ (l.getD p default ^^^ x) :: l.drop (p + 1) := by
    rw [List.set_eq_take_append_cons_drop, if_pos hp]
  have e2 : l = l.take p ++ l.getD p default :: l.drop (p + 1) := by
    rw [getD_at hp, List.getElem_cons_drop, List.take_append_drop]
  have e3 : sm l = sm (l.take p ++ l.getD p default :: l.drop (p + 1)) := congrArg sm e2
  rw [e3, e1]
  unfold sm
  rw [crc_app, crc_app]
  show crc (up (crc F32 (l.take p)) (l.getD p default ^^^ x)) (l.drop (p + 1)) ^^^ F32 = crc (up (crc F32 (l.take p)) (l.getD p default)) (l.drop (p + 1)) ^^^ F32 ^^^ _
  have e4 : up (crc F32 (l.take p)) (l.getD p default ^^^ x) = up (crc F32 (l.take p)) (l.getD p default) ^^^ hn 8 x := by
    unfold up
    rw [← Nat.xor_assoc, hn_xor]
  rw [e4, crc_xor, ← hn_add, List.length_drop, show 8 + 8 * (l.length - (p + 1)) = 8 * (l.length - p) by omega, Nat.xor_assoc, Nat.xor_comm (hn _ _) F32, ← Nat.xor_assoc]
  rfl
theorem g_zero {n x : Nat} (hx : x < 256) : g n x = 0 ↔ x = 0 := by
  constructor
  · intro e
    exact hn_inj (8 * n) (show x < 2 ^ 32 by omega) (by decide) (by rw [hn_zero]; exact e)
  · rintro rfl
    exact hn_zero _
theorem g_xor (n x y : Nat) : g n (x ^^^ y) = g n x ^^^ g n y := hn_xor _ _ _
theorem sums {l : List Nat} {p x y : Nat} (hp : p < l.length) (hx : x < 256) : (sm (l.set p (l.getD p default ^^^ x)) = sm l ↔ x = 0) ∧ sm l ^^^ sm (l.set p (l.getD p default ^^^ x)) ^^^ sm (l.set p (l.getD p default ^^^ y)) = sm (l.set p (l.getD p default ^^^ (x ^^^ y))) := by
  rw [sm_set hp, sm_set hp, sm_set hp, g_xor]
  generalize g (l.length - p) y = b
  have hz := g_zero (n := l.length - p) hx
  generalize g (l.length - p) x = a at *
  generalize sm l = s
  constructor
  · rw [← hz]
    constructor
    · intro e
      have := xor_self_r a s
      rw [Nat.xor_comm a s, e, Nat.xor_self] at this
      exact this.symm
    · rintro rfl; exact Nat.xor_zero _
  · rw [← Nat.xor_assoc s s a, Nat.xor_self, Nat.zero_xor, ← Nat.xor_assoc, Nat.xor_comm a s, Nat.xor_assoc]
end Ta
end Go.Proofs.Ytdplkcciknfnhaa

namespace Go.Proofs.Ytdplkcciknfnhaa
namespace Ta
def fo (s : Nat) : List Nat := [s / 16777216, s / 65536 % 256, s / 256 % 256, s % 256]
def rc (b : List Nat) : List Nat := [b.length / 256, b.length % 256] ++ (b ++ fo (sm b))
theorem rc_len (b : List Nat) : (rc b).length = b.length + 6 := by
  unfold rc fo
  simp only [List.length_append, List.length_cons, List.length_nil]
  omega
def hd (t : List Nat) : Nat := 256 * t.getD 0 0 + t.getD 1 0
def nxt (t : List Nat) : Option (List Nat) := if 2 ≤ t.length ∧ hd t ≠ 0 ∧ hd t + 6 ≤ t.length ∧ t.take (hd t + 6) = rc ((t.drop 2).take (hd t)) then some ((t.drop 2).take (hd t)) else none
theorem rc_hd {b r : List Nat} : hd (rc b ++ r) = b.length := by
  have e : hd (rc b ++ r) = 256 * (b.length / 256) + b.length % 256 := rfl
  rw [e]; omega
theorem rc_body (b r : List Nat) : ((rc b ++ r).drop 2).take b.length = b := by
  have e : (rc b ++ r).drop 2 = b ++ (fo (sm b) ++ r) := by
    show (b ++ fo (sm b)) ++ r = _
    rw [List.append_assoc]
  rw [e, List.take_left' rfl]
theorem nxt_rc {b r : List Nat} (h : b ≠ []) : nxt (rc b ++ r) = some b := by
  have h1 : 0 < b.length := List.length_pos_iff.2 h
  have l := rc_len b
  have e := rc_hd (b := b) (r := r)
  have t6 : (rc b ++ r).take (b.length + 6) = rc b := by rw [← l, List.take_left' rfl]
  unfold nxt
  rw [e, rc_body, if_pos ⟨by rw [List.length_append]; omega, by omega, by rw [List.length_append]; omega, t6⟩]
theorem nxt_some {t b : List Nat} (h : nxt t = some b) : b ≠ [] ∧ t = rc b ++ t.drop (b.length + 6) ∧ b.length + 6 ≤ t.length := by
  unfold nxt at h
  split at h
  · rename_i q
    obtain ⟨q1, q2, q3, q4⟩ := q
    injection h with h
    have hl : b.length = hd t := by rw [← h, List.length_take, List.length_drop]; omega
    rw [h] at q4
    refine ⟨fun e => by rw [e] at hl; simp at hl; omega, ?_, by omega⟩
    rw [hl, ← q4, List.take_append_drop]
  · cases h
def gets : Nat → List Nat → List (List Nat)
  | 0, _ => []
  | f + 1, t => match nxt t with
    | none => []
    | some b => b :: gets f (t.drop (b.length + 6))
def cat (L : List (List Nat)) : List Nat := (L.map rc).flatten
def get (t : List Nat) : List (List Nat) := gets t.length t
def en (t : List Nat) : Nat := (cat (get t)).length
def Fine (L : List (List Nat)) : Prop := ∀ b ∈ L, b ≠ []
theorem cat_app (L M : List (List Nat)) : cat (L ++ M) = cat L ++ cat M := by unfold cat; rw [List.map_append, List.flatten_append]
theorem cat_one (b : List Nat) : cat [b] = rc b := by unfold cat; simp
theorem gets_is : ∀ (L : List (List Nat)) (r : List Nat) (f : Nat), Fine L → nxt r = none → L.length ≤ f → gets f (cat L ++ r) = L
  | [], r, f, _, hr, _ => by
    show gets f r = []
    cases f with
    | zero => rfl
    | succ f => unfold gets; rw [hr]
  | b :: L, r, 0, _, _, hf => by simp at hf
  | b :: L, r, f + 1, hL, hr, hf => by
    have e : cat (b :: L) ++ r = rc b ++ (cat L ++ r) := by
      show (rc b ++ cat L) ++ r = _
      rw [List.append_assoc]
    rw [e]
    unfold gets
    rw [nxt_rc (hL b (by simp))]
    show b :: gets f ((rc b ++ (cat L ++ r)).drop (b.length + 6)) = _
    rw [← rc_len b, List.drop_left' rfl, gets_is L r f (fun x hx => hL x (List.mem_cons_of_mem _ hx)) hr (by simpa using hf)]
theorem cat_long : ∀ (L : List (List Nat)), Fine L → 7 * L.length ≤ (cat L).length
  | [], _ => by simp [cat]
  | b :: L, h => by
    have := cat_long L fun x hx => h x (List.mem_cons_of_mem _ hx)
    have hb : 0 < b.length := List.length_pos_iff.2 (h b (by simp))
    show 7 * (L.length + 1) ≤ (rc b ++ cat L).length
    rw [List.length_append, rc_len]
    omega
theorem get_is {L : List (List Nat)} {r : List Nat} (h : Fine L) (hr : nxt r = none) : get (cat L ++ r) = L ∧ en (cat L ++ r) = (cat L).length := by
  have e : get (cat L ++ r) = L := gets_is L r _ h hr (by have := cat_long L h; rw [List.length_append]; omega)
  exact ⟨e, by unfold en; rw [e]⟩
theorem gets_split : ∀ (f : Nat) (t : List Nat), t.length ≤ f → ∃ r, t = cat (gets f t) ++ r ∧ nxt r = none ∧ Fine (gets f t)
  | 0, t, h => ⟨t, rfl, by
      have : t = [] := List.eq_nil_of_length_eq_zero (by omega)
      subst this
      unfold nxt; rw [if_neg (by simp)], fun b hb => by simp [gets] at hb⟩
  | f + 1, t, h => by
    cases hn : nxt t with
    | none =>
      have e : gets (f + 1) t = [] := by unfold gets; rw [hn]
      rw [e]
      exact ⟨t, rfl, hn, fun b hb => by simp at hb⟩
    | some b =>
      obtain ⟨n1, n2, n3⟩ := nxt_some hn
      have e : gets (f + 1) t = b :: gets f (t.drop (b.length + 6)) := by
        show (match nxt t with | none => [] | some b => b :: gets f (t.drop (b.length + 6))) = _
        rw [hn]
      obtain ⟨r, h1, h2, h3⟩ := gets_split f (t.drop (b.length + 6)) (by rw [List.length_drop]; omega)
      rw [e]
      refine ⟨r, ?_, h2, fun x hx => ?_⟩
      · show t = (rc b ++ cat _) ++ r
        rw [List.append_assoc, ← h1]
        exact n2
      · rcases List.mem_cons.1 hx with rfl | hx
        · exact n1
        · exact h3 x hx
theorem get_split (t : List Nat) : ∃ r, t = cat (get t) ++ r ∧ nxt r = none ∧ Fine (get t) := gets_split t.length t (Nat.le_refl _)
theorem nxt_nil : nxt [] = none := by unfold nxt; rw [if_neg (by simp)]
theorem get_cat {L : List (List Nat)} (h : Fine L) : get (cat L) = L ∧ en (cat L) = (cat L).length := by
  have := get_is (r := []) h nxt_nil
  rwa [List.append_nil] at this
theorem get_on {L : List (List Nat)} (h : Fine L) (t : List Nat) : get (cat L ++ t) = L ++ get t := by
  obtain ⟨r, h1, h2, h3⟩ := get_split t
  have e : cat L ++ t = cat (L ++ get t) ++ r := by rw [cat_app, List.append_assoc, ← h1]
  rw [e]
  exact (get_is (fun x hx => (List.mem_append.1 hx).elim (h x) (h3 x)) h2).1
theorem en_le (t : List Nat) : en t ≤ t.length := by
  obtain ⟨r, h1, _, _⟩ := get_split t
  have := congrArg List.length h1
  rw [List.length_append] at this
  unfold en; omega
theorem back {t b : List Nat} (hb : b ≠ []) : (∃ M, get (t ++ rc b) = get t ++ M) ∧ (en t = t.length → get (t ++ rc b) = get t ++ [b] ∧ en (t ++ rc b) = (t ++ rc b).length) := by
  obtain ⟨r, h1, h2, h3⟩ := get_split t
  constructor
  · refine ⟨get (r ++ rc b), ?_⟩
    have e : t ++ rc b = cat (get t) ++ (r ++ rc b) := by rw [← List.append_assoc, ← h1]
    rw [e]
    exact get_on h3 _
  · intro q
    have l := congrArg List.length h1
    rw [List.length_append] at l
    unfold en at q
    have r0 : r = [] := List.eq_nil_of_length_eq_zero (by omega)
    rw [r0, List.append_nil] at h1
    have F : Fine (get t ++ [b]) := fun x hx => (List.mem_append.1 hx).elim (h3 x) fun y => by rw [List.mem_singleton.1 y]; exact hb
    have e : t ++ rc b = cat (get t ++ [b]) := by rw [cat_app, cat_one, ← h1]
    obtain ⟨g1, g2⟩ := get_cat F
    rw [← e] at g1 g2
    exact ⟨g1, g2⟩
theorem cut_end (c : List Nat) : c.take (en c) = cat (get c) ∧ Fine (get c) := by
  obtain ⟨r, h1, h2, h3⟩ := get_split c
  refine ⟨?_, h3⟩
  exact (congrArg (List.take (en c)) h1).trans (List.take_left' rfl)
theorem cut (c b : List Nat) (hb : b ≠ []) : get (c.take (en c) ++ rc b) = get c ++ [b] ∧ en (c.take (en c) ++ rc b) = (c.take (en c) ++ rc b).length := by
  obtain ⟨e, F⟩ := cut_end c
  have F2 : Fine (get c ++ [b]) := fun x hx => (List.mem_append.1 hx).elim (F x) fun y => by rw [List.mem_singleton.1 y]; exact hb
  have e2 : c.take (en c) ++ rc b = cat (get c ++ [b]) := by rw [e, cat_app, cat_one]
  obtain ⟨g1, g2⟩ := get_cat F2
  rw [← e2] at g1 g2
  exact ⟨g1, g2⟩
def pE (t b : List Nat) : Int := if 4000 < t.length then 2 else if b.length = 0 then 3 else if 4000 < t.length + b.length + 6 then 8 else 0
def pV (t b : List Nat) : List Nat := if pE t b = 0 then t ++ rc b else []
theorem p_ok {t b : List Nat} (h : pE t b = 0) : t.length + b.length + 6 ≤ 4000 ∧ b ≠ [] ∧ pV t b = t ++ rc b := by
  have e : pV t b = t ++ rc b := if_pos h
  unfold pE at h
  split at h
  · cases h
  · split at h
    · cases h
    · split at h
      · cases h
      · exact ⟨by omega, List.length_pos_iff.1 (by omega), e⟩
theorem p_no {t b : List Nat} (h : ¬ pE t b = 0) : pV t b = [] := if_neg h
def kept : List Nat → List (List Nat) → List (List Nat)
  | _, [] => []
  | t, b :: l => if pE t b = 0 then b :: kept (t ++ rc b) l else kept t l
end Ta
end Go.Proofs.Ytdplkcciknfnhaa

namespace Go.Proofs.Ytdplkcciknfnhaa
open Go Go.RowKit V
def ebn (n : Nat) : List Value := [.int .u8 (n : Int)]
def eu (n : Nat) : List Value := [.int .u32 (n : Int)]
def Ta.tb (i : Nat) : List Nat := (List.range 256).map fun k => if k < i then Ta.tab k else 0
theorem Ta.tb_len (i : Nat) : (Ta.tb i).length = 256 := by simp [Ta.tb]
theorem Ta.tb_at {i k : Nat} (h : k < 256) : (Ta.tb i).getD k default = if k < i then Ta.tab k else 0 := by
  rw [getD_at (by rw [Ta.tb_len]; exact h)]; simp [Ta.tb]
theorem Ta.tb_set {i : Nat} (h : i < 256) : Ta.tb (i + 1) = (Ta.tb i).set i (Ta.tab i) := by
  apply List.ext_getElem
  · simp [Ta.tb_len]
  · intro k h1 h2
    rw [List.getElem_set, ← getD_at h1]
    rw [Ta.tb_len] at h1
    rw [Ta.tb_at h1]
    by_cases e : i = k
    · subst e; rw [if_pos (by omega), if_pos rfl]
    · rw [if_neg e, ← getD_at (l := Ta.tb i) (by rw [Ta.tb_len]; exact h1), Ta.tb_at h1]
      by_cases q : k < i
      · rw [if_pos (by omega), if_pos q]
      · rw [if_neg (by omega), if_neg q]
theorem Ta.arrz {z : Value} {n : Nat} {l : List Value} (e : l = List.replicate n z) {k : Nat} (hk : k < n) : (l.drop (k * 1)).take 1 = [z] := by
  subst e
  rw [Nat.mul_one, List.drop_replicate, List.take_replicate, show min 1 (n - k) = 1 by omega]
  rfl
theorem Ta.tb0 {k : Nat} (hk : k < 256) : [Value.int .u32 0] = ga eu (Ta.tb 0) k := by
  show _ = eu ((Ta.tb 0).getD k default)
  rw [Ta.tb_at hk, if_neg (Nat.not_lt_zero _)]
  rfl
set_option maxHeartbeats 1000000 in
theorem v_row : V.Fn Try.prog 26 [] [] (.agg (flat (ga eu (Ta.tb 256)) 256).toArray) := by
  refine V.Fn.mk_ V.Tok V.mixed Try.func26 rfl Try.ntmps26 (by kernel_rfl) rfl rfl ?_
  repeat' ((conv => whnf); first | refine V.NCond.mk ?_ | refine V.NPick.l ?_ | refine V.NIf.not_ ?_ | refine V.NIf.dec_ ?_ | refine V.a4 ?_ | refine V.a5 ?_ | refine V.NIf.mk (fun _ => ?_) (fun _ => ?_) | refine V.a7 ?_ | refine V.a8 ?_ | refine V.a9 ?_ | refine V.NBoth.mk ?_ ?_ | refine V.b1 ?_ | refine V.b2 ?_ | refine V.NTF.dec ?_ | refine V.b3 ?_ | refine V.b4 ?_ | (refine V.NDraw.any (by kernel_rfl) ?_) | fail)
  all_goals (conv => whnf)
  refine V.NLoop.auto (fun (i : Nat) => [(3, .one (.val (.int .i64 i))), (0, .one (.ptr 0 0 0 0))]) (fun (i : Nat) => [(0, .row 49 1 256 (ga eu (Ta.tb i)))]) [] [] (fun (i : Nat) => 256 - i) (fun (i : Nat) => i ≤ 256) 0 (Nat.zero_le _) V.S_ (by (conv => whnf); exact ⟨⟨rfl, rfl, rfl, fun k hk => (Ta.arrz (n := 256) (by exact rfl) hk).trans (Ta.tb0 hk)⟩, trivial⟩) (fun _ => ⟨rfl, rfl⟩) ?_; (conv => whnf); refine ⟨⟨rfl, rfl⟩, ?_⟩
  rintro i hi
  by_cases hlt : i < 256
  · repeat' ((conv => whnf); first | refine V.NCond.mk ?_ | refine V.NPick.l ?_ | refine V.NIf.not_ ?_ | refine V.NIf.dec_ ?_ | refine V.a4 ?_ | refine V.a5 ?_ | refine V.NIf.mk (fun _ => ?_) (fun _ => ?_) | refine V.a7 ?_ | refine V.a8 ?_ | refine V.a9 ?_ | refine V.NBoth.mk ?_ ?_ | refine V.b1 ?_ | refine V.b2 ?_ | refine V.NTF.dec ?_ | refine V.b3 ?_ | refine V.b4 ?_ | (refine NWrap.u32 (by omega) (by omega) ?_) | (refine V.NDraw.any (by kernel_rfl) ?_) | fail)
    all_goals (conv => whnf)
    refine V.NLoop.auto (fun (k : Nat) => [(8, .one (.val (.int .i64 k))), (2, .one (.val (.int .u32 ((Ta.hn k i : Nat) : Int)))), (1, .one (.val (.int .i64 i))), (0, .one (.ptr 0 0 0 0)), (3, .one (.val (.int .i64 i)))]) (fun (k : Nat) => []) [] [] (fun (k : Nat) => 8 - k) (fun (k : Nat) => k ≤ 8) 0 (Nat.zero_le _) V.S_ V.S_ (fun _ => ⟨rfl, rfl⟩) ?_; (conv => whnf); refine ⟨⟨rfl, rfl⟩, ?_⟩
    rintro k hk
    have hr := Ta.hn_lt k (r := i) (by omega)
    have hs := Ta.hn_succ k i
    by_cases hlk : k < 8
    · by_cases h2 : Ta.hn k i % 2 = 1
      · have e : Ta.hn k i / 2 ^ 1 ^^^ 3988292384 = Ta.hn (k + 1) i := by rw [hs]; unfold Ta.h; rw [if_pos h2]; rfl
        generalize Ta.hn k i = r at *
        clear hs
        repeat' ((conv => whnf); first | (refine V.NIf.yes ?_ ?_; · (omega; done)) | (refine V.NIf.no ?_ ?_; · (omega; done)) | refine V.NCond.mk ?_ | refine V.NPick.l ?_ | refine V.NIf.not_ ?_ | refine V.NIf.dec_ ?_ | refine V.a4 ?_ | refine V.a5 ?_ | refine V.NIf.mk (fun _ => ?_) (fun _ => ?_) | refine V.a7 ?_ | refine V.a8 ?_ | refine V.a9 ?_ | refine V.NBoth.mk ?_ ?_ | refine V.b1 ?_ | refine V.b2 ?_ | refine V.NTF.dec ?_ | refine V.b3 ?_ | refine V.b4 ?_ | (refine NBit.oneU rfl r rfl hr (by decide) ?_) | (refine NShr.nat r 1 rfl rfl (by decide) ?_) | (refine NBit.xorU rfl (r / 2 ^ 1) 3988292384 rfl rfl (by show _ < 2 ^ 32; omega) (by decide) ?_) | (refine V.NDraw.any (by kernel_rfl) ?_) | fail)
        all_goals (conv => whnf)
        all_goals exact V.NBack.at_ (k + 1) [] (by omega) (by omega) ⟨V.S_, ⟨congrArg (fun z : Nat => V.SV.one (V.At.val (Value.int .u32 (z : Int)))) e, V.S_⟩⟩ rfl V.S_ V.S_ V.S_
      · have e : Ta.hn k i / 2 ^ 1 = Ta.hn (k + 1) i := by rw [hs]; unfold Ta.h; rw [if_neg h2]
        generalize Ta.hn k i = r at *
        clear hs
        repeat' ((conv => whnf); first | (refine V.NIf.yes ?_ ?_; · (omega; done)) | (refine V.NIf.no ?_ ?_; · (omega; done)) | refine V.NCond.mk ?_ | refine V.NPick.l ?_ | refine V.NIf.not_ ?_ | refine V.NIf.dec_ ?_ | refine V.a4 ?_ | refine V.a5 ?_ | refine V.NIf.mk (fun _ => ?_) (fun _ => ?_) | refine V.a7 ?_ | refine V.a8 ?_ | refine V.a9 ?_ | refine V.NBoth.mk ?_ ?_ | refine V.b1 ?_ | refine V.b2 ?_ | refine V.NTF.dec ?_ | refine V.b3 ?_ | refine V.b4 ?_ | (refine NBit.oneU rfl r rfl hr (by decide) ?_) | (refine NShr.nat r 1 rfl rfl (by decide) ?_) | (refine V.NDraw.any (by kernel_rfl) ?_) | fail)
        all_goals (conv => whnf)
        all_goals exact V.NBack.at_ (k + 1) [] (by omega) (by omega) ⟨V.S_, ⟨congrArg (fun z : Nat => V.SV.one (V.At.val (Value.int .u32 (z : Int)))) e, V.S_⟩⟩ rfl V.S_ V.S_ V.S_
    · obtain rfl : k = 8 := by omega
      have l8 := Ta.tb_len i
      have e8 := Ta.tb_set hlt
      repeat' ((conv => whnf); first | refine V.NCond.mk ?_ | refine V.NPick.l ?_ | refine V.NIf.not_ ?_ | refine V.NIf.dec_ ?_ | refine V.a4 ?_ | refine V.a5 ?_ | refine V.NIf.mk (fun _ => ?_) (fun _ => ?_) | refine V.a7 ?_ | refine V.a8 ?_ | refine V.a9 ?_ | refine V.NBoth.mk ?_ ?_ | refine V.b1 ?_ | refine V.b2 ?_ | refine V.NTF.dec ?_ | refine V.b3 ?_ | refine V.b4 ?_ | (refine NIdx.mk ⟨i, rfl, by omega, ?_⟩) | (refine NPut.is_ (en := eu) (l := Ta.tb i) (Ta.tab i) (Ta.tb (i + 1)) e8.symm (by omega) rfl ?_) | (refine V.NDraw.any (by kernel_rfl) ?_) | fail)
      all_goals (conv => whnf)
      all_goals exact V.NBack.at_ (i + 1) [] (by omega) (by omega) V.S_ rfl V.S_ V.S_ V.S_
  · obtain rfl : i = 256 := by omega
    repeat' ((conv => whnf); first | refine V.NCond.mk ?_ | refine V.NPick.l ?_ | refine V.NIf.not_ ?_ | refine V.NIf.dec_ ?_ | refine V.a4 ?_ | refine V.a5 ?_ | refine V.NIf.mk (fun _ => ?_) (fun _ => ?_) | refine V.a7 ?_ | refine V.a8 ?_ | refine V.a9 ?_ | refine V.NBoth.mk ?_ ?_ | refine V.b1 ?_ | refine V.b2 ?_ | refine V.NTF.dec ?_ | refine V.b3 ?_ | refine V.b4 ?_ | (refine NArr.mk ⟨ga eu (Ta.tb 256), rfl, fun k hk => ⟨rfl, fun u hu => by obtain rfl : u = _ := List.mem_singleton.1 hu; rfl⟩, ?_⟩) | (refine V.NDraw.any (by kernel_rfl) ?_) | fail)
    all_goals (conv => whnf)
set_option maxHeartbeats 1000000 in
theorem v_sum (b : List Nat) (hb : Ta.By b) (hl : b.length ≤ 9223372036854775807) : V.Fn Try.prog 20 [.arr 1 b.length (ga ebn b)] [.one (.ref 0)] (.int .u32 ((Ta.sm b : Nat) : Int)) := by
  have c1 := v_row
  have ca : Ta.crc Ta.F32 [] = 4294967295 := rfl
  obtain ⟨A, hA⟩ : ∃ A, A = Ta.tb 256 := ⟨_, rfl⟩
  have lA : A.length = 256 := by rw [hA]; exact Ta.tb_len _
  have aA : ∀ j, j < 256 → A.getD j default = Ta.tab j := fun j hj => by rw [hA, Ta.tb_at hj, if_pos hj]
  rw [← hA] at c1
  clear hA
  refine V.Fn.mk_ V.Tok V.mixed Try.func20 rfl Try.ntmps20 (by kernel_rfl) rfl rfl ?_
  repeat' ((conv => whnf); first | refine V.NCond.mk ?_ | refine V.NPick.l ?_ | refine V.NIf.not_ ?_ | refine V.NIf.dec_ ?_ | refine V.a4 ?_ | refine V.a5 ?_ | refine V.NIf.mk (fun _ => ?_) (fun _ => ?_) | refine V.a7 ?_ | refine V.a8 ?_ | refine V.a9 ?_ | refine V.NBoth.mk ?_ ?_ | refine V.b1 ?_ | refine V.b2 ?_ | refine V.NTF.dec ?_ | refine V.b3 ?_ | refine V.b4 ?_ | (refine V.Fn.v0 c1 rfl ?_) | (refine NArr.mk ⟨ga eu A, rfl, fun k hk => ⟨rfl, fun u hu => by obtain rfl : u = _ := List.mem_singleton.1 hu; rfl⟩, ?_⟩) | (refine V.NDraw.any (by kernel_rfl) ?_) | fail)
  all_goals (conv => whnf)
  refine V.NLoop.auto (fun (k : Nat) => [(10, .one (.val (.int .i64 k))), (4, .one (.val (.int .u32 ((Ta.crc Ta.F32 (b.take k) : Nat) : Int))))]) (fun (k : Nat) => []) [] [] (fun (k : Nat) => b.length - k) (fun (k : Nat) => k ≤ b.length) 0 (Nat.zero_le _) V.S_ V.S_ (fun _ => ⟨rfl, rfl⟩) ?_; (conv => whnf); refine ⟨⟨rfl, rfl⟩, ?_⟩
  rintro k hk
  have hr : Ta.crc Ta.F32 (b.take k) < 2 ^ 32 := Ta.crc_lt (fun x hx => hb x (List.mem_of_mem_take hx)) Ta.f32
  by_cases hlt : k < b.length
  · have hx := hb _ (getD_mem hlt)
    have cs := Ta.crc_snoc (r := Ta.F32) hlt
    rw [Ta.up_tab hx] at cs
    generalize Ta.crc Ta.F32 (b.take k) = r at *
    have hj : r % 256 ^^^ b.getD k default < 256 := Nat.xor_lt_two_pow (n := 8) (by omega) (by omega)
    have at_ := aA _ hj
    have tl := Ta.tab_lt hj
    rw [← at_] at tl cs
    repeat' ((conv => whnf); first | refine V.NCond.mk ?_ | refine V.NPick.l ?_ | refine V.NIf.not_ ?_ | refine V.NIf.dec_ ?_ | refine V.a4 ?_ | refine V.a5 ?_ | refine V.NIf.mk (fun _ => ?_) (fun _ => ?_) | refine V.a7 ?_ | refine V.a8 ?_ | refine V.a9 ?_ | refine V.NBoth.mk ?_ ?_ | refine V.b1 ?_ | refine V.b2 ?_ | refine V.NTF.dec ?_ | refine V.b3 ?_ | refine V.b4 ?_ | (refine NIdx.mk ⟨k, rfl, by omega, ?_⟩) | (refine NShr.nat r 8 rfl rfl (by decide) ?_) | (refine NWrap.u8m r rfl ?_) | (refine NBit.xorU rfl (r % 256) (b.getD k default) rfl rfl (by show _ < 2 ^ 8; omega) (by show _ < 2 ^ 8; omega) ?_) | (refine NIdx.mk ⟨r % 256 ^^^ b.getD k default, rfl, by omega, ?_⟩) | (refine NBit.xorU rfl (r / 2 ^ 8) (A.getD (r % 256 ^^^ b.getD k default) default) rfl rfl (by show _ < 2 ^ 32; omega) (by show _ < 2 ^ 32; omega) ?_) | (refine V.NDraw.any (by kernel_rfl) ?_) | fail)
    all_goals (conv => whnf)
    all_goals exact V.NBack.at_ (k + 1) [] (by omega) (by omega) ⟨V.S_, ⟨congrArg (fun z : Nat => V.SV.one (V.At.val (Value.int .u32 (z : Int)))) cs.symm, V.S_⟩⟩ rfl V.S_ V.S_ V.S_
  · obtain rfl : k = b.length := by omega
    rw [List.take_length] at *
    repeat' ((conv => whnf); first | refine V.NCond.mk ?_ | refine V.NPick.l ?_ | refine V.NIf.not_ ?_ | refine V.NIf.dec_ ?_ | refine V.a4 ?_ | refine V.a5 ?_ | refine V.NIf.mk (fun _ => ?_) (fun _ => ?_) | refine V.a7 ?_ | refine V.a8 ?_ | refine V.a9 ?_ | refine V.NBoth.mk ?_ ?_ | refine V.b1 ?_ | refine V.b2 ?_ | refine V.NTF.dec ?_ | refine V.b3 ?_ | refine V.b4 ?_ | (refine NBit.xorU rfl 4294967295 (Ta.crc Ta.F32 b) rfl rfl (by decide) hr ?_) | (refine V.NDraw.any (by kernel_rfl) ?_) | fail)
    all_goals (conv => whnf)
    all_goals exact congrArg (fun z : Nat => Value.int .u32 (z : Int)) (Nat.xor_comm _ _)
def Ta.suE (b : List Nat) : Int := if 4000 < b.length then 2 else 0
def Ta.suV (b : List Nat) : Int := if 4000 < b.length then 0 else (Ta.sm b : Nat)
theorem v_Sum (b : List Nat) (hb : Ta.By b) (hl : b.length ≤ 9223372036854775807) : V.Fn Try.prog 9 [.arr 1 b.length (ga ebn b)] [.one (.ref 0)] (.tuple #[.int .i64 (Ta.suV b), .int .i64 (Ta.suE b)]) := by
  have c1 := v_sum b hb hl
  have lt := Ta.sm_lt hb
  unfold Ta.suV Ta.suE
  by_cases h : 4000 < b.length
  · rw [if_pos h, if_pos h]
    refine V.Fn.mk_ V.Tok V.mixed Try.func9 rfl Try.ntmps9 (by kernel_rfl) rfl rfl ?_
    repeat' ((conv => whnf); first | (refine V.NIf.yes ?_ ?_; · (omega; done)) | (refine V.NIf.no ?_ ?_; · (omega; done)) | refine V.NCond.mk ?_ | refine V.NPick.l ?_ | refine V.NIf.not_ ?_ | refine V.NIf.dec_ ?_ | refine V.a4 ?_ | refine V.a5 ?_ | refine V.NIf.mk (fun _ => ?_) (fun _ => ?_) | refine V.a7 ?_ | refine V.a8 ?_ | refine V.a9 ?_ | refine V.NBoth.mk ?_ ?_ | refine V.b1 ?_ | refine V.b2 ?_ | refine V.NTF.dec ?_ | refine V.b3 ?_ | refine V.b4 ?_ | (refine V.NDraw.any (by kernel_rfl) ?_) | fail)
    all_goals (conv => whnf)
    all_goals exact ⟨rfl, rfl, trivial⟩
  · rw [if_neg h, if_neg h]
    generalize Ta.sm b = s at *
    refine V.Fn.mk_ V.Tok V.mixed Try.func9 rfl Try.ntmps9 (by kernel_rfl) rfl rfl ?_
    repeat' ((conv => whnf); first | (refine V.NIf.yes ?_ ?_; · (omega; done)) | (refine V.NIf.no ?_ ?_; · (omega; done)) | refine V.NCond.mk ?_ | refine V.NPick.l ?_ | refine V.NIf.not_ ?_ | refine V.NIf.dec_ ?_ | refine V.a4 ?_ | refine V.a5 ?_ | refine V.NIf.mk (fun _ => ?_) (fun _ => ?_) | refine V.a7 ?_ | refine V.a8 ?_ | refine V.a9 ?_ | refine V.NBoth.mk ?_ ?_ | refine V.b1 ?_ | refine V.b2 ?_ | refine V.NTF.dec ?_ | refine V.b3 ?_ | refine V.b4 ?_ | ((first | refine V.Fn.k (c1) [0] rfl ?_ ?_ | refine V.Fn.q (c1) [0] rfl ?_ ?_ | refine V.Fn.a (c1) [0] rfl ?_ ?_); · exact V.D_) | (refine V.NDraw.any (by kernel_rfl) ?_) | fail)
    all_goals (conv => whnf)
    all_goals exact ⟨rfl, rfl, trivial⟩
end Go.Proofs.Ytdplkcciknfnhaa

namespace Go.Proofs.Ytdplkcciknfnhaa
open Go Go.RowKit V
set_option maxHeartbeats 4000000
theorem v_frame (b : List Nat) (hb : Ta.By b) (hl : b.length ≤ 4000) : V.FnR Try.prog 22 [.arr 1 b.length (ga ebn b)] [.one (.ref 0)] (.one (.ref 1)) [.row 5 1 (Ta.rc b).length (ga ebn (Ta.rc b))] := by
  have c1 := v_sum b hb (by omega)
  have lt := Ta.sm_lt hb
  obtain ⟨sz, s0, s1, s2, s3⟩ : ∃ sz : Nat → Int, sz 0 = 0 ∧ sz 1 = 2 ∧ sz 2 = ((b.length + 2 : Nat) : Int) ∧ sz 3 = ((b.length + 6 : Nat) : Int) := ⟨fun k => if k = 0 then 0 else if k = 1 then 2 else if k = 2 then ((b.length + 2 : Nat) : Int) else ((b.length + 6 : Nat) : Int), rfl, rfl, rfl, rfl⟩
  obtain ⟨H, hH⟩ : ∃ H, H = [b.length / 256, b.length % 256] := ⟨_, rfl⟩
  obtain ⟨cc, d0, d1, d2, d3⟩ : ∃ cc : Nat → List Nat, cc 0 = [] ∧ cc 1 = H ∧ cc 2 = H ++ b ∧ cc 3 = Ta.rc b := ⟨fun k => if k = 0 then [] else if k = 1 then H else if k = 2 then H ++ b else Ta.rc b, rfl, rfl, rfl, rfl⟩
  have cg := v_growB (b.length + 6) (by omega)
  have rl := Ta.rc_len b
  rw [← s3] at cg
  have e2 : Ta.rc b = (H ++ b) ++ Ta.fo (Ta.sm b) := by rw [hH]; unfold Ta.rc; simp
  have h0 : ∀ k, k < 2 → ga ebn [b.length / 256, b.length % 256] (0 + k) = listG [[.int .u8 ((b.length / 2 ^ 8 % 256 : Nat) : Int)], [.int .u8 ((b.length % 256 : Nat) : Int)]] k := fun k hk => by
    match k, hk with
    | 0, _ => exact congrArg (fun z : Nat => [Value.int .u8 (z : Int)]) (by show b.length / 256 = b.length / 2 ^ 8 % 256; omega)
    | 1, _ => rfl
  have g2 : ∀ k, k < (H ++ b).length → ga ebn (Ta.rc b) k = ga ebn (H ++ b) k := fun k hk => by rw [e2]; exact ga_left hk
  have g3 : ∀ k, k < 4 → ga ebn (Ta.rc b) ((H ++ b).length + k) = listG [[.int .u8 ((Ta.sm b / 2 ^ 24 % 256 : Nat) : Int)], [.int .u8 ((Ta.sm b / 2 ^ 16 % 256 : Nat) : Int)], [.int .u8 ((Ta.sm b / 2 ^ 8 % 256 : Nat) : Int)], [.int .u8 ((Ta.sm b % 256 : Nat) : Int)]] k := fun k hk => by
    rw [e2, ga_right rfl (by simpa [Ta.fo] using hk)]
    match k, hk with
    | 0, _ => exact congrArg (fun z : Nat => [Value.int .u8 (z : Int)]) (by show Ta.sm b / 16777216 = Ta.sm b / 2 ^ 24 % 256; omega)
    | 1, _ => rfl
    | 2, _ => rfl
    | 3, _ => rfl
  have l0 : (cc 0).length = 0 := by rw [d0]; rfl
  have l1 : (cc 1).length = 2 := by rw [d1, hH]; rfl
  have l2 : (cc 2).length = b.length + 2 := by rw [d2, hH, List.length_append]; show 2 + _ = _; omega
  have l3 : (cc 3).length = b.length + 6 := by rw [d3, rl]
  refine V.FnR.mk_ V.Tok V.mixed Try.func22 rfl Try.ntmps22 (by kernel_rfl) rfl rfl rfl rfl ?_
  repeat' ((conv => whnf); first | refine V.NCond.mk ?_ | refine V.NPick.l ?_ | refine V.NIf.not_ ?_ | refine V.NIf.dec_ ?_ | refine V.a4 ?_ | refine V.a5 ?_ | refine V.NIf.mk (fun _ => ?_) (fun _ => ?_) | refine V.a7 ?_ | refine V.a8 ?_ | refine V.a9 ?_ | refine V.NBoth.mk ?_ ?_ | refine V.b1 ?_ | refine V.b2 ?_ | refine V.NTF.dec ?_ | refine V.b3 ?_ | refine V.b4 ?_ | ((first | refine V.Fn.k (c1) [0] rfl ?_ ?_ | refine V.Fn.q (c1) [0] rfl ?_ ?_ | refine V.Fn.a (c1) [0] rfl ?_ ?_); · exact V.D_) | (refine NShr.nat b.length 8 rfl rfl (by decide) ?_) | (refine NShr.nat (Ta.sm b) 24 rfl rfl (by decide) ?_) | (refine NShr.nat (Ta.sm b) 16 rfl rfl (by decide) ?_) | (refine NShr.nat (Ta.sm b) 8 rfl rfl (by decide) ?_) | (refine NWrap.u8m _ rfl ?_) | (refine V.NCall.inl (f := 21) V.Tok V.mixed Try.func21 rfl Try.ntmps21 (by kernel_rfl) rfl ?_) | (refine V.NDraw.any (by kernel_rfl) ?_) | fail)
  all_goals (conv => whnf)
  refine V.NLoop.auto (fun (k : Nat) => [(11, .one (.val (.int .i64 k))), (3, .one (.val (.int .i64 (sz k))))]) (fun (k : Nat) => []) [] [] (fun (k : Nat) => 3 - k) (fun (k : Nat) => k ≤ 3) 0 (Nat.zero_le _) (by (conv => whnf); exact ⟨rfl, congrArg (fun z : Int => V.SV.one (V.At.val (Value.int .i64 z))) s0.symm, trivial⟩) V.S_ (fun _ => ⟨rfl, rfl⟩) ?_; (conv => whnf); refine ⟨⟨rfl, rfl⟩, ?_⟩
  rintro k hk
  match k, hk with
  | 0, _ =>
    repeat' ((conv => whnf); first | (refine V.NIf.yes ?_ ?_; · (simp; done)) | (refine V.NIf.no ?_ ?_; · (simp; done)) | (refine V.NIf.no ?_ ?_; · (simp; omega; done)) | refine V.NCond.mk ?_ | refine V.NPick.l ?_ | refine V.NIf.not_ ?_ | refine V.NIf.dec_ ?_ | refine V.a4 ?_ | refine V.a5 ?_ | refine V.NIf.mk (fun _ => ?_) (fun _ => ?_) | refine V.a7 ?_ | refine V.a8 ?_ | refine V.a9 ?_ | refine V.NBoth.mk ?_ ?_ | refine V.b1 ?_ | refine V.b2 ?_ | refine V.NTF.dec ?_ | refine V.b3 ?_ | refine V.b4 ?_ | (refine NIdx.mk ⟨0, rfl, by simp, ?_⟩) | (refine NWrap.ok (by simp; omega) (by simp; omega) ?_) | (refine V.NDraw.any (by kernel_rfl) ?_) | fail)
    all_goals (conv => whnf)
    exact V.NBack.at_ 1 [] (by omega) (by omega) ⟨V.S_, congrArg (fun z : Int => V.SV.one (V.At.val (Value.int .i64 z))) (by simp; omega), trivial⟩ rfl V.S_ V.S_ V.S_
  | 1, _ =>
    repeat' ((conv => whnf); first | (refine V.NIf.yes ?_ ?_; · (simp; done)) | (refine V.NIf.no ?_ ?_; · (simp; done)) | refine V.NCond.mk ?_ | refine V.NPick.l ?_ | refine V.NIf.not_ ?_ | refine V.NIf.dec_ ?_ | refine V.a4 ?_ | refine V.a5 ?_ | refine V.NIf.mk (fun _ => ?_) (fun _ => ?_) | refine V.a7 ?_ | refine V.a8 ?_ | refine V.a9 ?_ | refine V.NBoth.mk ?_ ?_ | refine V.b1 ?_ | refine V.b2 ?_ | refine V.NTF.dec ?_ | refine V.b3 ?_ | refine V.b4 ?_ | (refine NIdx.mk ⟨1, rfl, by simp, ?_⟩) | (refine V.NDraw.any (by kernel_rfl) ?_) | fail)
    all_goals (conv => whnf)
    exact V.NBack.at_ 2 [] (by omega) (by omega) ⟨V.S_, congrArg (fun z : Int => V.SV.one (V.At.val (Value.int .i64 z))) (by omega), trivial⟩ rfl V.S_ V.S_ V.S_
  | 2, _ =>
    repeat' ((conv => whnf); first | (refine V.NIf.yes ?_ ?_; · (simp; done)) | (refine V.NIf.no ?_ ?_; · (simp; done)) | (refine V.NIf.no ?_ ?_; · (simp; omega; done)) | refine V.NCond.mk ?_ | refine V.NPick.l ?_ | refine V.NIf.not_ ?_ | refine V.NIf.dec_ ?_ | refine V.a4 ?_ | refine V.a5 ?_ | refine V.NIf.mk (fun _ => ?_) (fun _ => ?_) | refine V.a7 ?_ | refine V.a8 ?_ | refine V.a9 ?_ | refine V.NBoth.mk ?_ ?_ | refine V.b1 ?_ | refine V.b2 ?_ | refine V.NTF.dec ?_ | refine V.b3 ?_ | refine V.b4 ?_ | (refine NIdx.mk ⟨2, rfl, by simp, ?_⟩) | (refine NWrap.ok (by simp; omega) (by simp; omega) ?_) | (refine V.NDraw.any (by kernel_rfl) ?_) | fail)
    all_goals (conv => whnf)
    exact V.NBack.at_ 3 [] (by omega) (by omega) ⟨V.S_, congrArg (fun z : Int => V.SV.one (V.At.val (Value.int .i64 z))) (by simp; omega), trivial⟩ rfl V.S_ V.S_ V.S_
  | 3, _ =>
    repeat' ((conv => whnf); first | (refine V.NIf.yes ?_ ?_; · (simp; done)) | (refine V.NIf.no ?_ ?_; · (simp; done)) | refine V.NCond.mk ?_ | refine V.NPick.l ?_ | refine V.NIf.not_ ?_ | refine V.NIf.dec_ ?_ | refine V.a4 ?_ | refine V.a5 ?_ | refine V.NIf.mk (fun _ => ?_) (fun _ => ?_) | refine V.a7 ?_ | refine V.a8 ?_ | refine V.a9 ?_ | refine V.NBoth.mk ?_ ?_ | refine V.b1 ?_ | refine V.b2 ?_ | refine V.NTF.dec ?_ | refine V.b3 ?_ | refine V.b4 ?_ | (first | refine V.FnR.k0 (cg) rfl ?_ | refine V.FnR.a0 (cg) rfl ?_) | (refine V.NDraw.any (by kernel_rfl) ?_) | fail)
    all_goals (conv => whnf)
    refine V.NLoop.auto (fun (k : Nat) => [(27, .one (.val (.int .i64 k))), (6, .one (.ref 6))]) (fun (k : Nat) => [(6, .row 5 1 (cc k).length (ga ebn (cc k)))]) [] [] (fun (k : Nat) => 3 - k) (fun (k : Nat) => k ≤ 3) 0 (Nat.zero_le _) V.S_ (by (conv => whnf); exact ⟨⟨rfl, rfl, by rw [d0]; rfl, fun k hk => absurd hk (Nat.not_lt_zero _)⟩, trivial⟩) (fun _ => ⟨rfl, rfl⟩) ?_; (conv => whnf); refine ⟨⟨rfl, rfl⟩, ?_⟩
    rintro k hk
    match k, hk with
    | 0, _ =>
      repeat' ((conv => whnf); first | (refine V.NIf.yes ?_ ?_; · (simp; done)) | (refine V.NIf.no ?_ ?_; · (simp; done)) | refine V.NCond.mk ?_ | refine V.NPick.l ?_ | refine V.NIf.not_ ?_ | refine V.NIf.dec_ ?_ | refine V.a4 ?_ | refine V.a5 ?_ | refine V.NIf.mk (fun _ => ?_) (fun _ => ?_) | refine V.a7 ?_ | refine V.a8 ?_ | refine V.a9 ?_ | refine V.NBoth.mk ?_ ?_ | refine V.b1 ?_ | refine V.b2 ?_ | refine V.NTF.dec ?_ | refine V.b3 ?_ | refine V.b4 ?_ | (refine NIdx.mk ⟨0, rfl, by simp, ?_⟩) | (refine V.NApp.to_ (en := ebn) (cc 1) (by show (cc 0).length + 2 = _; omega) (by omega) (by show (cc 1).length * 1 ≤ _; omega) (fun k hk => absurd hk (by rw [d0]; exact Nat.not_lt_zero _)) (fun k hk => by rw [d0, d1, hH]; exact h0 k hk) ?_) | (refine V.NDraw.any (by kernel_rfl) ?_) | fail)
      all_goals (conv => whnf)
      exact V.NBack.at_ 1 [(6, 7)] (by omega) (by omega) V.S_ rfl ⟨⟨rfl, rfl, rfl, fun _ _ => rfl⟩, trivial⟩ V.S_ V.S_
    | 1, _ =>
      repeat' ((conv => whnf); first | (refine V.NIf.yes ?_ ?_; · (simp; done)) | (refine V.NIf.no ?_ ?_; · (simp; done)) | refine V.NCond.mk ?_ | refine V.NPick.l ?_ | refine V.NIf.not_ ?_ | refine V.NIf.dec_ ?_ | refine V.a4 ?_ | refine V.a5 ?_ | refine V.NIf.mk (fun _ => ?_) (fun _ => ?_) | refine V.a7 ?_ | refine V.a8 ?_ | refine V.a9 ?_ | refine V.NBoth.mk ?_ ?_ | refine V.b1 ?_ | refine V.b2 ?_ | refine V.NTF.dec ?_ | refine V.b3 ?_ | refine V.b4 ?_ | (refine NIdx.mk ⟨1, rfl, by simp, ?_⟩) | (refine NOne.mk ?_ ?_; · (intro k hk; rfl)) | (refine V.NApp.to_ (en := ebn) (cc 2) (by omega) (by omega) (by show (cc 2).length * 1 ≤ _; omega) (fun k hk => by rw [d2, d1]; exact ga_left (by rwa [d1] at hk)) (fun k hk => by rw [d2, d1]; exact ga_right rfl hk) ?_) | (refine V.NDraw.any (by kernel_rfl) ?_) | fail)
      all_goals (conv => whnf)
      exact V.NBack.at_ 2 [(6, 7)] (by omega) (by omega) V.S_ rfl ⟨⟨rfl, rfl, rfl, fun _ _ => rfl⟩, trivial⟩ V.S_ V.S_
    | 2, _ =>
      repeat' ((conv => whnf); first | (refine V.NIf.yes ?_ ?_; · (simp; done)) | (refine V.NIf.no ?_ ?_; · (simp; done)) | refine V.NCond.mk ?_ | refine V.NPick.l ?_ | refine V.NIf.not_ ?_ | refine V.NIf.dec_ ?_ | refine V.a4 ?_ | refine V.a5 ?_ | refine V.NIf.mk (fun _ => ?_) (fun _ => ?_) | refine V.a7 ?_ | refine V.a8 ?_ | refine V.a9 ?_ | refine V.NBoth.mk ?_ ?_ | refine V.b1 ?_ | refine V.b2 ?_ | refine V.NTF.dec ?_ | refine V.b3 ?_ | refine V.b4 ?_ | (refine NIdx.mk ⟨2, rfl, by simp, ?_⟩) | (refine V.NApp.to_ (en := ebn) (cc 3) (by show (cc 2).length + 4 = _; omega) (by omega) (by show (cc 3).length * 1 ≤ _; omega) (fun k hk => by rw [d3, d2]; exact g2 k (by rwa [d2] at hk)) (fun k hk => by rw [d3, d2]; exact g3 k hk) ?_) | (refine V.NDraw.any (by kernel_rfl) ?_) | fail)
      all_goals (conv => whnf)
      exact V.NBack.at_ 3 [(6, 7)] (by omega) (by omega) V.S_ rfl ⟨⟨rfl, rfl, rfl, fun _ _ => rfl⟩, trivial⟩ V.S_ V.S_
    | 3, _ =>
      repeat' ((conv => whnf); first | (refine V.NIf.yes ?_ ?_; · (simp; done)) | (refine V.NIf.no ?_ ?_; · (simp; done)) | refine V.NCond.mk ?_ | refine V.NPick.l ?_ | refine V.NIf.not_ ?_ | refine V.NIf.dec_ ?_ | refine V.a4 ?_ | refine V.a5 ?_ | refine V.NIf.mk (fun _ => ?_) (fun _ => ?_) | refine V.a7 ?_ | refine V.a8 ?_ | refine V.a9 ?_ | refine V.NBoth.mk ?_ ?_ | refine V.b1 ?_ | refine V.b2 ?_ | refine V.NTF.dec ?_ | refine V.b3 ?_ | refine V.b4 ?_ | (refine V.NDraw.any (by kernel_rfl) ?_) | fail)
      all_goals (conv => whnf)
      rw [d3]
      exact V.erf 6
theorem v_put (t b : List Nat) (ht : Ta.By t) (hb : Ta.By b) (hl : t.length ≤ 9223372036854775807) (hm : b.length ≤ 4611686018427387904) : V.FnR Try.prog 10 [.arr 1 t.length (ga ebn t), .arr 1 b.length (ga ebn b)] [.one (.ref 0), .one (.ref 1)] (.tup [.one (.ref 2), .one (.val (.int .i64 (Ta.pE t b)))]) [.row 5 1 (Ta.pV t b).length (ga ebn (Ta.pV t b))] := by
  by_cases e1 : 4000 < t.length
  · have q : Ta.pE t b = 2 := if_pos e1
    rw [Ta.p_no (by omega), q]
    refine V.FnR.mk_ V.Tok V.mixed Try.func10 rfl Try.ntmps10 (by kernel_rfl) rfl rfl rfl rfl ?_
    repeat' ((conv => whnf); first | (refine V.NIf.yes ?_ ?_; · (omega; done)) | (refine V.NIf.no ?_ ?_; · (omega; done)) | refine V.NCond.mk ?_ | refine V.NPick.l ?_ | refine V.NIf.not_ ?_ | refine V.NIf.dec_ ?_ | refine V.a4 ?_ | refine V.a5 ?_ | refine V.NIf.mk (fun _ => ?_) (fun _ => ?_) | refine V.a7 ?_ | refine V.a8 ?_ | refine V.a9 ?_ | refine V.NBoth.mk ?_ ?_ | refine V.b1 ?_ | refine V.b2 ?_ | refine V.NTF.dec ?_ | refine V.b3 ?_ | refine V.b4 ?_ | (refine V.NDraw.any (by kernel_rfl) ?_) | fail)
    all_goals (conv => whnf)
    all_goals exact V.er 3
  by_cases e2 : b.length = 0
  · have q : Ta.pE t b = 3 := (if_neg e1).trans (if_pos e2)
    rw [Ta.p_no (by omega), q]
    refine V.FnR.mk_ V.Tok V.mixed Try.func10 rfl Try.ntmps10 (by kernel_rfl) rfl rfl rfl rfl ?_
    repeat' ((conv => whnf); first | (refine V.NIf.yes ?_ ?_; · (omega; done)) | (refine V.NIf.no ?_ ?_; · (omega; done)) | refine V.NCond.mk ?_ | refine V.NPick.l ?_ | refine V.NIf.not_ ?_ | refine V.NIf.dec_ ?_ | refine V.a4 ?_ | refine V.a5 ?_ | refine V.NIf.mk (fun _ => ?_) (fun _ => ?_) | refine V.a7 ?_ | refine V.a8 ?_ | refine V.a9 ?_ | refine V.NBoth.mk ?_ ?_ | refine V.b1 ?_ | refine V.b2 ?_ | refine V.NTF.dec ?_ | refine V.b3 ?_ | refine V.b4 ?_ | (refine V.NDraw.any (by kernel_rfl) ?_) | fail)
    all_goals (conv => whnf)
    all_goals exact V.er 3
  by_cases e3 : 4000 < t.length + b.length + 6
  · have q : Ta.pE t b = 8 := (if_neg e1).trans ((if_neg e2).trans (if_pos e3))
    rw [Ta.p_no (by omega), q]
    refine V.FnR.mk_ V.Tok V.mixed Try.func10 rfl Try.ntmps10 (by kernel_rfl) rfl rfl rfl rfl ?_
    repeat' ((conv => whnf); first | (refine V.NIf.yes ?_ ?_; · (omega; done)) | (refine V.NIf.no ?_ ?_; · (omega; done)) | refine V.NCond.mk ?_ | refine V.NPick.l ?_ | refine V.NIf.not_ ?_ | refine V.NIf.dec_ ?_ | refine V.a4 ?_ | refine V.a5 ?_ | refine V.NIf.mk (fun _ => ?_) (fun _ => ?_) | refine V.a7 ?_ | refine V.a8 ?_ | refine V.a9 ?_ | refine V.NBoth.mk ?_ ?_ | refine V.b1 ?_ | refine V.b2 ?_ | refine V.NTF.dec ?_ | refine V.b3 ?_ | refine V.b4 ?_ | (refine V.NDraw.any (by kernel_rfl) ?_) | fail)
    all_goals (conv => whnf)
    all_goals exact V.er 3
  have q : Ta.pE t b = 0 := (if_neg e1).trans ((if_neg e2).trans (if_neg e3))
  rw [(Ta.p_ok q).2.2, q]
  have c1 := v_frame b hb (by omega)
  have rl := Ta.rc_len b
  generalize Ta.rc b = r at *
  obtain ⟨sz, s0, s1, s2⟩ : ∃ sz : Nat → Int, sz 0 = 0 ∧ sz 1 = t.length ∧ sz 2 = ((t.length + r.length : Nat) : Int) := ⟨fun k => if k = 0 then 0 else if k = 1 then t.length else ((t.length + r.length : Nat) : Int), rfl, rfl, rfl⟩
  obtain ⟨cc, d0, d1, d2⟩ : ∃ cc : Nat → List Nat, cc 0 = [] ∧ cc 1 = t ∧ cc 2 = t ++ r := ⟨fun k => if k = 0 then [] else if k = 1 then t else t ++ r, rfl, rfl, rfl⟩
  have cg := v_growB (t.length + r.length) (by omega)
  rw [← s2] at cg
  have l0 : (cc 0).length = 0 := by rw [d0]; rfl
  have l1 : (cc 1).length = t.length := by rw [d1]
  have l2 : (cc 2).length = t.length + r.length := by rw [d2, List.length_append]
  refine V.FnR.mk_ V.Tok V.mixed Try.func10 rfl Try.ntmps10 (by kernel_rfl) rfl rfl rfl rfl ?_
  repeat' ((conv => whnf); first | (refine V.NIf.yes ?_ ?_; · (omega; done)) | (refine V.NIf.no ?_ ?_; · (omega; done)) | refine V.NCond.mk ?_ | refine V.NPick.l ?_ | refine V.NIf.not_ ?_ | refine V.NIf.dec_ ?_ | refine V.a4 ?_ | refine V.a5 ?_ | refine V.NIf.mk (fun _ => ?_) (fun _ => ?_) | refine V.a7 ?_ | refine V.a8 ?_ | refine V.a9 ?_ | refine V.NBoth.mk ?_ ?_ | refine V.b1 ?_ | refine V.b2 ?_ | refine V.NTF.dec ?_ | refine V.b3 ?_ | refine V.b4 ?_ | ((first | refine V.FnR.k_ (c1) [1] rfl ?_ ?_ | refine V.FnR.a_ (c1) [1] rfl ?_ ?_); · exact V.D_) | (refine V.NCall.inl (f := 21) V.Tok V.mixed Try.func21 rfl Try.ntmps21 (by kernel_rfl) rfl ?_) | (refine V.NDraw.any (by kernel_rfl) ?_) | fail)
  all_goals (conv => whnf)
  refine V.NLoop.auto (fun (k : Nat) => [(11, .one (.val (.int .i64 k))), (3, .one (.val (.int .i64 (sz k))))]) (fun (k : Nat) => []) [] [] (fun (k : Nat) => 2 - k) (fun (k : Nat) => k ≤ 2) 0 (Nat.zero_le _) (by (conv => whnf); exact ⟨rfl, congrArg (fun z : Int => V.SV.one (V.At.val (Value.int .i64 z))) s0.symm, trivial⟩) V.S_ (fun _ => ⟨rfl, rfl⟩) ?_; (conv => whnf); refine ⟨⟨rfl, rfl⟩, ?_⟩
  rintro k hk
  match k, hk with
  | 0, _ =>
    repeat' ((conv => whnf); first | (refine V.NIf.yes ?_ ?_; · (simp; done)) | (refine V.NIf.no ?_ ?_; · (simp; done)) | refine V.NCond.mk ?_ | refine V.NPick.l ?_ | refine V.NIf.not_ ?_ | refine V.NIf.dec_ ?_ | refine V.a4 ?_ | refine V.a5 ?_ | refine V.NIf.mk (fun _ => ?_) (fun _ => ?_) | refine V.a7 ?_ | refine V.a8 ?_ | refine V.a9 ?_ | refine V.NBoth.mk ?_ ?_ | refine V.b1 ?_ | refine V.b2 ?_ | refine V.NTF.dec ?_ | refine V.b3 ?_ | refine V.b4 ?_ | (refine NIdx.mk ⟨0, rfl, by simp, ?_⟩) | (refine V.NDraw.any (by kernel_rfl) ?_) | fail)
    all_goals (conv => whnf)
    exact V.NBack.at_ 1 [] (by omega) (by omega) ⟨V.S_, congrArg (fun z : Int => V.SV.one (V.At.val (Value.int .i64 z))) (by omega), trivial⟩ rfl V.S_ V.S_ V.S_
  | 1, _ =>
    repeat' ((conv => whnf); first | (refine V.NIf.yes ?_ ?_; · (simp; done)) | (refine V.NIf.no ?_ ?_; · (simp; done)) | refine V.NCond.mk ?_ | refine V.NPick.l ?_ | refine V.NIf.not_ ?_ | refine V.NIf.dec_ ?_ | refine V.a4 ?_ | refine V.a5 ?_ | refine V.NIf.mk (fun _ => ?_) (fun _ => ?_) | refine V.a7 ?_ | refine V.a8 ?_ | refine V.a9 ?_ | refine V.NBoth.mk ?_ ?_ | refine V.b1 ?_ | refine V.b2 ?_ | refine V.NTF.dec ?_ | refine V.b3 ?_ | refine V.b4 ?_ | (refine NIdx.mk ⟨1, rfl, by simp, ?_⟩) | (refine V.NDraw.any (by kernel_rfl) ?_) | fail)
    all_goals (conv => whnf)
    exact V.NBack.at_ 2 [] (by omega) (by omega) ⟨V.S_, congrArg (fun z : Int => V.SV.one (V.At.val (Value.int .i64 z))) (by omega), trivial⟩ rfl V.S_ V.S_ V.S_
  | 2, _ =>
    repeat' ((conv => whnf); first | (refine V.NIf.yes ?_ ?_; · (simp; done)) | (refine V.NIf.no ?_ ?_; · (simp; done)) | refine V.NCond.mk ?_ | refine V.NPick.l ?_ | refine V.NIf.not_ ?_ | refine V.NIf.dec_ ?_ | refine V.a4 ?_ | refine V.a5 ?_ | refine V.NIf.mk (fun _ => ?_) (fun _ => ?_) | refine V.a7 ?_ | refine V.a8 ?_ | refine V.a9 ?_ | refine V.NBoth.mk ?_ ?_ | refine V.b1 ?_ | refine V.b2 ?_ | refine V.NTF.dec ?_ | refine V.b3 ?_ | refine V.b4 ?_ | (first | refine V.FnR.k0 (cg) rfl ?_ | refine V.FnR.a0 (cg) rfl ?_) | (refine V.NDraw.any (by kernel_rfl) ?_) | fail)
    all_goals (conv => whnf)
    refine V.NLoop.auto (fun (k : Nat) => [(27, .one (.val (.int .i64 k))), (6, .one (.ref 6))]) (fun (k : Nat) => [(6, .row 5 1 (cc k).length (ga ebn (cc k)))]) [] [] (fun (k : Nat) => 2 - k) (fun (k : Nat) => k ≤ 2) 0 (Nat.zero_le _) V.S_ (by (conv => whnf); exact ⟨⟨rfl, rfl, by rw [d0]; rfl, fun k hk => absurd hk (Nat.not_lt_zero _)⟩, trivial⟩) (fun _ => ⟨rfl, rfl⟩) ?_; (conv => whnf); refine ⟨⟨rfl, rfl⟩, ?_⟩
    rintro k hk
    match k, hk with
    | 0, _ =>
      repeat' ((conv => whnf); first | (refine V.NIf.yes ?_ ?_; · (simp; done)) | (refine V.NIf.no ?_ ?_; · (simp; done)) | refine V.NCond.mk ?_ | refine V.NPick.l ?_ | refine V.NIf.not_ ?_ | refine V.NIf.dec_ ?_ | refine V.a4 ?_ | refine V.a5 ?_ | refine V.NIf.mk (fun _ => ?_) (fun _ => ?_) | refine V.a7 ?_ | refine V.a8 ?_ | refine V.a9 ?_ | refine V.NBoth.mk ?_ ?_ | refine V.b1 ?_ | refine V.b2 ?_ | refine V.NTF.dec ?_ | refine V.b3 ?_ | refine V.b4 ?_ | (refine NIdx.mk ⟨0, rfl, by simp, ?_⟩) | (refine NOne.mk ?_ ?_; · (intro k hk; rfl)) | (refine V.NApp.to_ (en := ebn) (cc 1) (by omega) (by omega) (by show (cc 1).length * 1 ≤ _; omega) (fun k hk => absurd hk (by omega)) (fun k hk => by rw [l0, d1]; simp) ?_) | (refine V.NDraw.any (by kernel_rfl) ?_) | fail)
      all_goals (conv => whnf)
      exact V.NBack.at_ 1 [(6, 7)] (by omega) (by omega) V.S_ rfl ⟨⟨rfl, rfl, rfl, fun _ _ => rfl⟩, trivial⟩ V.S_ V.S_
    | 1, _ =>
      repeat' ((conv => whnf); first | (refine V.NIf.yes ?_ ?_; · (simp; done)) | (refine V.NIf.no ?_ ?_; · (simp; done)) | refine V.NCond.mk ?_ | refine V.NPick.l ?_ | refine V.NIf.not_ ?_ | refine V.NIf.dec_ ?_ | refine V.a4 ?_ | refine V.a5 ?_ | refine V.NIf.mk (fun _ => ?_) (fun _ => ?_) | refine V.a7 ?_ | refine V.a8 ?_ | refine V.a9 ?_ | refine V.NBoth.mk ?_ ?_ | refine V.b1 ?_ | refine V.b2 ?_ | refine V.NTF.dec ?_ | refine V.b3 ?_ | refine V.b4 ?_ | (refine NIdx.mk ⟨1, rfl, by simp, ?_⟩) | (refine NOne.mk ?_ ?_; · (intro k hk; rfl)) | (refine V.NApp.to_ (en := ebn) (cc 2) (by omega) (by omega) (by show (cc 2).length * 1 ≤ _; omega) (fun k hk => by rw [d2, d1]; exact ga_left (by omega)) (fun k hk => by rw [d2, d1]; exact ga_right rfl hk) ?_) | (refine V.NDraw.any (by kernel_rfl) ?_) | fail)
      all_goals (conv => whnf)
      exact V.NBack.at_ 2 [(6, 7)] (by omega) (by omega) V.S_ rfl ⟨⟨rfl, rfl, rfl, fun _ _ => rfl⟩, trivial⟩ V.S_ V.S_
    | 2, _ =>
      repeat' ((conv => whnf); first | (refine V.NIf.yes ?_ ?_; · (simp; done)) | (refine V.NIf.no ?_ ?_; · (simp; done)) | refine V.NCond.mk ?_ | refine V.NPick.l ?_ | refine V.NIf.not_ ?_ | refine V.NIf.dec_ ?_ | refine V.a4 ?_ | refine V.a5 ?_ | refine V.NIf.mk (fun _ => ?_) (fun _ => ?_) | refine V.a7 ?_ | refine V.a8 ?_ | refine V.a9 ?_ | refine V.NBoth.mk ?_ ?_ | refine V.b1 ?_ | refine V.b2 ?_ | refine V.NTF.dec ?_ | refine V.b3 ?_ | refine V.b4 ?_ | (refine V.NDraw.any (by kernel_rfl) ?_) | fail)
      all_goals (conv => whnf)
      rw [d2]
      exact V.erf 6
end Go.Proofs.Ytdplkcciknfnhaa
