/- The walk by verification conditions is sound: loops, code, whole functions; contracts. -/
import Derived.Test.YteblbhbfdfifpaaVDraw
namespace Go.Proofs.Yteblbhbfdfifpaa.V
open Go Go.RowKit
set_option linter.unusedVariables false
set_option linter.unusedSimpArgs false
set_option linter.unusedSectionVars false

/-! a loop's head: what is known is over ids that were there before it -/
def cut (nx : Nat) (ρ : Rho) : Rho := fun i => if i < nx then ρ i else none
theorem cut_lt {nx i : Nat} {ρ : Rho} (h : i < nx) : cut nx ρ i = ρ i := if_pos h
theorem CapsAre.cut {nx : Nat} {ρ : Rho} : ∀ {l : List Nat} {x : List Value}, (l.all fun i => Nat.blt i nx) = true → CapsAre ρ l x → CapsAre (V.cut nx ρ) l x
  | [], _, _, h => h
  | i :: l, _, hb, ⟨a, r, e, hx, hr⟩ => by
    simp only [List.all_cons, Bool.and_eq_true] at hb
    exact ⟨a, r, by rw [base_eq (cut_lt (by simpa [Nat.blt_eq] using hb.1))]; exact e, hx, CapsAre.cut hb.2 hr⟩
theorem At.is_cut {nx : Nat} {ρ : Rho} {a : At} {x : Value} (hb : atB nx a = true) (h : a.is ρ x) : a.is (cut nx ρ) x := by
  cases a with
  | val v => exact h
  | tf b => exact h
  | prop p => exact h
  | ptr i k j s =>
    obtain ⟨a, e, hx⟩ := h
    exact ⟨a, by rw [base_eq (cut_lt (by simpa [atB, Nat.blt_eq] using hb))]; exact e, hx⟩
  | ref i => exact ⟨by rw [cut_lt (by simpa [atB, Nat.blt_eq] using hb)]; exact h.1, h.2⟩
  | clo f l => obtain ⟨c, e, hx⟩ := h; exact ⟨c, e.cut hb, hx⟩
theorem Ats.cut {nx : Nat} {ρ : Rho} : ∀ {l : List At} {x : List Value}, l.all (atB nx) = true → Ats ρ l x → Ats (V.cut nx ρ) l x
  | [], _, _, h => h
  | a :: l, _, hb, ⟨u, r, hx, ha, hr⟩ => by
    simp only [List.all_cons, Bool.and_eq_true] at hb
    exact ⟨u, r, hx, At.is_cut hb.1 ha, Ats.cut hb.2 hr⟩
theorem SV.is_cut {nx : Nat} {ρ : Rho} {v : SV} {x : Value} (hb : svB nx v = true) (h : v.is ρ x) : v.is (cut nx ρ) x := by
  cases v with
  | one a => exact At.is_cut (a := a) hb h
  | agg l => obtain ⟨c, e, hx⟩ := h; exact ⟨c, e.cut hb, hx⟩
  | tup l =>
    have : l = [] := by simpa [svB] using hb
    subst this
    exact h
theorem fnd_all {α : Type} {p : Nat × α → Bool} : ∀ {l : List (Nat × α)} {t : Nat} {v : α}, l.all p = true → fnd l t = some v → p (t, v) = true
  | [], _, _, _, h => by cases h
  | (u, x) :: r, t, v, hp, h => by
    simp only [List.all_cons, Bool.and_eq_true] at hp
    rcases fnd_cons h with ⟨rfl, rfl⟩ | ⟨_, h⟩
    · exact hp.1
    · exact fnd_all hp.2 h
theorem EnvR.cut {sz nx : Nat} {ρ : Rho} {env : Env} {a : Act} (hb : (env.all fun p => svB nx p.2) = true) (h : EnvR sz ρ env a) : EnvR sz (V.cut nx ρ) env a :=
  ⟨h.size, fun t v ht => let ⟨x, e, hv⟩ := h.env t v ht; ⟨x, e, SV.is_cut (fnd_all (p := fun p => svB nx p.2) hb ht) hv⟩⟩
theorem Sat.cut {B nx : Nat} {ρ : Rho} {w : World} {i : Nat} {o : Ob} (hi : i < nx) (hb : obB nx o = true) (h : Sat B ρ w i o) : Sat B (V.cut nx ρ) w i o := by
  cases o with
  | box t l => obtain ⟨b, cs, e, hB, hl, hh⟩ := h; exact ⟨b, cs, by rw [cut_lt hi]; exact e, hB, hl.cut hb, hh⟩
  | lit t s rows => obtain ⟨b, cs, e, hB, hs, hn, hl, hh⟩ := h; exact ⟨b, cs, by rw [cut_lt hi]; exact e, hB, hs, hn, hl.cut (by simpa [obB] using hb), hh⟩
  | arr s n get => obtain ⟨v, e, r⟩ := h; exact ⟨v, by rw [cut_lt hi]; exact e, r⟩
  | cel l => obtain ⟨v, e, r⟩ := h; exact ⟨v, by rw [cut_lt hi]; exact e, r⟩
  | row t s n get => obtain ⟨v, e, r⟩ := h; exact ⟨v, by rw [cut_lt hi]; exact e, r⟩
  | lp L env st => obtain ⟨l, fn, tmps, D, e, hB, hh, r⟩ := h; exact ⟨l, fn, tmps, D, by rw [cut_lt hi]; exact e, hB, hh, r.cut hb⟩
  | gone => trivial
theorem CapsAre.map {σ : Nat → Nat} {ρ : Rho} : ∀ {l : List Nat} {x : List Value}, CapsAre ρ (l.map σ) x → CapsAre (fun i => ρ (σ i)) l x
  | [], _, h => h
  | i :: l, _, ⟨a, r, e, hx, hr⟩ => ⟨a, r, e, hx, CapsAre.map hr⟩
theorem SameA.is_ {σ : Nat → Nat} {ρ : Rho} {a b : At} {x : Value} (h : SameA σ a b) (hb : b.is ρ x) : a.is (fun i => ρ (σ i)) x := by
  cases a with
  | val v =>
    cases b with
    | val v' => exact Eq.trans hb (Eq.symm h)
    | tf b => (cases v <;> first | exact Eq.trans hb (Eq.symm h) | cases h)
    | prop p =>
      cases v <;> try exact (show False from h).elim
      obtain ⟨c, rfl, hc⟩ := hb
      rename_i b
      show Value.bool c = .bool b
      congr 1
      rw [Bool.eq_iff_iff, hc]
      exact (show b = true ↔ p from h).symm
    | _ => exact (by cases v <;> exact (show False from h).elim)
  | tf q =>
    cases b with
    | tf c => exact Eq.trans hb (congrArg Value.bool (Eq.symm h))
    | _ => exact (show False from h).elim
  | prop p =>
    cases b with
    | prop q =>
      obtain ⟨c, rfl, hc⟩ := hb
      exact ⟨c, rfl, hc.trans (Iff.symm h)⟩
    | _ => exact (show False from h).elim
  | ptr i k j s =>
    cases b with
    | ptr i' k' j' s' =>
      obtain ⟨rfl, rfl, rfl, rfl⟩ := h
      exact hb
    | _ => exact (show False from h).elim
  | ref i =>
    cases b with
    | ref i' =>
      have e : σ i = i' := h
      subst e
      exact hb
    | _ => exact (show False from h).elim
  | clo f l =>
    cases b with
    | clo f' l' =>
      obtain ⟨rfl, rfl⟩ := h
      obtain ⟨cs, hc, e⟩ := hb
      exact ⟨cs, hc.map, e⟩
    | _ => exact (show False from h).elim
theorem SameAs.is_ {σ : Nat → Nat} {ρ : Rho} : ∀ {l m : List At} {x : List Value}, SameAs σ l m → Ats ρ m x → Ats (fun i => ρ (σ i)) l x
  | [], [], _, _, h => h
  | [], _ :: _, _, h, _ => h.elim
  | _ :: _, [], _, h, _ => h.elim
  | a :: l, b :: m, _, ⟨h1, h2⟩, ⟨u, r, hx, hu, hr⟩ => ⟨u, r, hx, h1.is_ hu, h2.is_ hr⟩
theorem SameA.ren (σ : Nat → Nat) (a : At) : SameA σ a (renA σ a) := by
  cases a with
  | val v => exact rfl
  | tf b => exact rfl
  | prop p => exact Iff.rfl
  | ptr i k j s => exact ⟨rfl, rfl, rfl, rfl⟩
  | ref i => exact rfl
  | clo f l => exact ⟨rfl, rfl⟩
theorem SameAs.ren (σ : Nat → Nat) : ∀ l : List At, SameAs σ l (l.map (renA σ))
  | [] => trivial
  | a :: l => ⟨SameA.ren σ a, SameAs.ren σ l⟩
theorem SLe.is_ {ρ : Rho} {u v : SV} {x : Value} (h : SLe u v) (hu : u.is ρ x) : v.is ρ x := by
  unfold SLe at h
  split at h
  · rename_i b p; exact ⟨b, hu, h⟩
  · rename_i p b
    obtain ⟨c, rfl, hc⟩ := hu
    show Value.bool c = Value.bool b
    congr 1; rw [Bool.eq_iff_iff, hc]; exact h
  · rename_i p q
    obtain ⟨c, rfl, hc⟩ := hu
    exact ⟨c, rfl, hc.trans h⟩
  · exact Eq.trans hu h.symm
  · obtain ⟨b, rfl, hb⟩ := h; exact ⟨b, hu, hb⟩
  · obtain ⟨b, rfl, hb⟩ := h
    obtain ⟨c, rfl, hc⟩ := hu
    show Value.bool c = Value.bool b
    congr 1; rw [Bool.eq_iff_iff, hc, hb]
  · exact Eq.trans hu h
  · subst h; exact hu
theorem EnvLe.get {σ : Nat → Nat} {env : Env} : ∀ {l : Env}, EnvLe σ env l → ∀ t v, fnd l t = some v → ∃ u, fnd env t = some u ∧ SLe u (renS σ v)
  | [], _, _, _, h => by cases h
  | (u, x) :: r, hl, t, v, h => by
    rcases fnd_cons h with ⟨rfl, rfl⟩ | ⟨_, h⟩
    · exact fndK_spec hl.1
    · exact EnvLe.get hl.2 t v h
theorem ObsLe.get {σ : Nat → Nat} {obs : Obs} : ∀ {l : Obs}, ObsLe σ obs l → ∀ t o, fnd l t = some o → ∃ u, fnd obs (σ t) = some u ∧ ObLe u (renO σ o)
  | [], _, _, _, h => by cases h
  | (u, x) :: r, hl, t, v, h => by
    rcases fnd_cons h with ⟨rfl, rfl⟩ | ⟨_, h⟩
    · exact fndK_spec hl.1
    · exact ObsLe.get hl.2 t v h
theorem mem_iot {i : Nat} : ∀ {n : Nat}, i < n → i ∈ iot n
  | 0, h => by omega
  | n + 1, h => by
    unfold iot
    by_cases e : i = n
    · simp [e]
    · simp [mem_iot (show i < n by omega)]
theorem memB_of {x : Nat} : ∀ {l : List Nat}, x ∈ l → memB x l = true
  | [], h => by simp at h
  | y :: r, h => by
    unfold memB
    cases hb : Nat.beq x y
    · rcases List.mem_cons.1 h with rfl | h
      · rw [Nat.beq_refl] at hb; cases hb
      · exact memB_of h
    · rfl
theorem injB_spec {σ : Nat → Nat} : ∀ {n : Nat}, injB σ n = true → ∀ i j, i < n → j < n → σ i = σ j → i = j
  | 0, _, i, j, hi, _, _ => by omega
  | n + 1, h, i, j, hi, hj, e => by
    unfold injB iot at h
    rw [List.map_cons] at h
    unfold nodB at h
    cases hb : memB (σ n) ((iot n).map σ) <;> simp only [hb] at h
    · have no : ∀ k, k < n → σ k ≠ σ n := fun k hk q => by
        have : memB (σ n) ((iot n).map σ) = true := memB_of (List.mem_map.2 ⟨k, mem_iot hk, q⟩)
        rw [hb] at this; cases this
      by_cases h1 : i = n
      · by_cases h2 : j = n
        · omega
        · subst h1; exact absurd e.symm (no j (by omega))
      · by_cases h2 : j = n
        · subst h2; exact absurd e (no i (by omega))
        · exact injB_spec (n := n) h i j (by omega) (by omega) e
    · cases h
def via (σ : Nat → Nat) (ρ : Rho) : Rho := fun i => ρ (σ i)
theorem Ats.via {σ : Nat → Nat} {ρ : Rho} {l : List At} {x : List Value} (h : Ats ρ (l.map (renA σ)) x) : Ats (V.via σ ρ) l x := (SameAs.ren σ l).is_ h
theorem SV.is_via {σ : Nat → Nat} {ρ : Rho} {nx : Nat} {v : SV} {x : Value} (hb : svB nx v = true) (h : (renS σ v).is ρ x) : v.is (via σ ρ) x := by
  cases v with
  | one a => exact SameA.is_ (σ := σ) (ρ := ρ) (SameA.ren σ a) h
  | agg l => obtain ⟨c, e, hx⟩ := h; exact ⟨c, e.via, hx⟩
  | tup l =>
    have : l = [] := by simpa [svB] using hb
    subst this
    exact h
theorem fnd_ren {σ : Nat → Nat} : ∀ {env : Env} {t : Nat} {v : SV}, fnd env t = some v → fnd (env.map fun p => (p.1, renS σ p.2)) t = some (renS σ v)
  | [], _, _, h => by cases h
  | (u, x) :: r, t, v, h => by
    rw [List.map_cons]
    unfold fnd at h ⊢
    cases hb : Nat.beq u t <;> simp only [hb] at h ⊢
    · exact fnd_ren h
    · injection h with h; rw [h]
theorem EnvR.via {sz nx : Nat} {σ : Nat → Nat} {ρ : Rho} {env : Env} {a : Act} (hb : (env.all fun p => svB nx p.2) = true) (h : EnvR sz ρ (env.map fun p => (p.1, renS σ p.2)) a) : EnvR sz (V.via σ ρ) env a :=
  ⟨h.size, fun t v ht => let ⟨x, e, hv⟩ := h.env t _ (fnd_ren ht); ⟨x, e, SV.is_via (fnd_all (p := fun p => svB nx p.2) hb ht) hv⟩⟩
theorem Sat.via {nx : Nat} {B : Nat} {σ : Nat → Nat} {ρ : Rho} {w : World} {i : Nat} {o : Ob} (hb : obB nx o = true) (h : Sat B ρ w (σ i) (renO σ o)) : Sat B (V.via σ ρ) w i o := by
  cases o with
  | box t l => obtain ⟨b, cs, e, hB, hl, hh⟩ := h; exact ⟨b, cs, e, hB, hl.via, hh⟩
  | lit t s rows =>
    obtain ⟨b, cs, e, hB, hs, hn, hl, hh⟩ := h
    rw [List.length_map] at e hn
    refine ⟨b, cs, e, hB, fun r hr => ?_, hn, ?_, hh⟩
    · have := hs (r.map (renA σ)) (List.mem_map.2 ⟨r, hr, rfl⟩)
      simpa using this
    · refine Ats.via (l := rows.flatten) ?_
      rw [List.map_flatten]
      exact hl
  | arr s n get => exact h
  | cel l => exact h
  | row t s n get => exact h
  | lp L env st => obtain ⟨l, fn, tmps, D, e, hB, hh, r⟩ := h; exact ⟨l, fn, tmps, D, e, hB, hh, r.via hb⟩
  | gone => trivial
theorem foot_via {σ : Nat → Nat} {ρ : Rho} {i : Nat} {o : Ob} : foot (via σ ρ) i o = foot ρ (σ i) (renO σ o) := by
  cases o <;> rfl
theorem renO_mut {σ : Nat → Nat} {o : Ob} : (renO σ o).mut = o.mut := by cases o <;> rfl
theorem flat_congr {get get' : Nat → List Value} : ∀ {n : Nat}, (∀ k, k < n → get k = get' k) → flat get n = flat get' n
  | 0, _ => rfl
  | n + 1, h => by
    have e : ∀ g : Nat → List Value, flat g (n + 1) = flat g n ++ g n := fun g => by unfold flat; rw [List.range_succ, List.flatMap_append]; simp
    rw [e, e, flat_congr (fun k hk => h k (by omega)), h n (by omega)]
theorem ObLe.sat {B : Nat} {ρ : Rho} {w : World} {i : Nat} {o o' : Ob} (hl : ObLe o o') (h : Sat B ρ w i o) : Sat B ρ w i o' ∧ (∀ b, foot ρ i o' = some b → foot ρ i o = some b) ∧ (o'.mut = true → o.mut = true) := by
  cases o with
  | arr s n get =>
    cases o' with
    | arr s' n' get' =>
      obtain ⟨rfl, rfl, hg⟩ := hl
      obtain ⟨v, e, A, c, ev, hn, hc, hh⟩ := h
      refine ⟨⟨v, e, A, c, ev, hn, hc, fun k hk => ?_⟩, fun _ h => h, fun h => h⟩
      rw [← hg k hk]; exact hh k hk
    | _ => cases hl
  | row t s n get =>
    cases o' with
    | row t' s' n' get' =>
      obtain ⟨rfl, rfl, rfl, hg⟩ := hl
      obtain ⟨v, e, hr⟩ := h
      exact ⟨⟨v, e, hr.congr fun k hk => (hg k hk).symm⟩, fun _ h => h, fun h => h⟩
    | arr s' n' get' =>
      obtain ⟨rfl, rfl, hg⟩ := hl
      obtain ⟨v, e, hr⟩ := h
      refine ⟨⟨v, e, (hr.congr fun k hk => (hg k hk).symm).arr⟩, fun b hb => ?_, fun h => nomatch h⟩
      obtain ⟨A, c, rfl, _, _, hc⟩ := hr
      unfold foot at hb ⊢
      rw [e]
      cases n with
      | zero => cases hb
      | succ n =>
        have hc0 : c ≠ 0 := by rcases hc with ⟨h, _⟩ | ⟨_, _, _, _, _, _, h, _⟩ <;> omega
        cases c with
        | zero => exact absurd rfl hc0
        | succ c => exact hb
    | _ => cases hl
  | _ =>
    have e : _ = o' := hl
    subst e
    exact ⟨h, fun _ h => h, fun h => h⟩
theorem EnvR.head {σ : Nat → Nat} {sz nx : Nat} {ρ : Rho} {env l : Env} {a : Act} (hE : EnvR sz ρ env a) (hl : EnvLe σ env l) (hb : envB nx l = true) : EnvR sz (V.cut nx (V.via σ ρ)) l a :=
  ⟨hE.size, fun t v h => by
    obtain ⟨u, hu, hle⟩ := hl.get t v h
    obtain ⟨x, e, hv⟩ := hE.env t _ hu
    have hv := hle.is_ hv
    have hvb := fnd_all (p := fun p => svB nx p.2) hb h
    exact ⟨x, e, SV.is_cut hvb (SV.is_via hvb hv)⟩⟩
theorem Cls.head {σ : Nat → Nat} {B nx nx1 : Nat} {ρ : Rho} {obs l : Obs} {w : World} (hC : Cls B ρ obs nx1 w) (hl : ObsLe σ obs l) (hb : obsB nx l = true) (hi : injB σ nx = true) : Cls B (cut nx (via σ ρ)) l nx w := by
  have lt : ∀ i o, fnd l i = some o → i < nx ∧ obB nx o = true := fun i o h => by
    have := fnd_all (p := fun p => Nat.blt p.1 nx && obB nx p.2) hb h
    simpa [Nat.blt_eq] using this
  refine ⟨hC.le, fun i o h => ?_, fun i j o o' b h1 h2 hne hm hf => ?_, fun i hi => if_neg (by omega)⟩
  · obtain ⟨u, hu, hl'⟩ := hl.get i o h
    exact ((hl'.sat (hC.sat _ u hu)).1.via (lt i o h).2).cut (lt i o h).1 (lt i o h).2
  · obtain ⟨u, hu, hl1⟩ := hl.get i o h1
    obtain ⟨u', hu', hl2⟩ := hl.get j o' h2
    obtain ⟨_, f1, m1⟩ := hl1.sat (hC.sat _ u hu)
    obtain ⟨_, f2, m2⟩ := hl2.sat (hC.sat _ u' hu')
    rw [foot_eq (cut_lt (lt i o h1).1), foot_via] at hf
    rw [foot_eq (cut_lt (lt j o' h2).1), foot_via]
    exact fun q => hC.apart _ _ u u' b hu hu' (fun q => hne (injB_spec hi i j (lt i o h1).1 (lt j o' h2).1 q)) (m1 (by rw [renO_mut]; exact hm)) (f1 b hf) (f2 b q)

theorem sgm_pin {pin : Nat} : ∀ {l : List (Nat × Nat)}, pinB pin l = true → ∀ i, i < pin → sgm l i = i
  | [], _, _, _ => rfl
  | (a, b) :: r, h, i, hi => by
    simp only [pinB, List.all_cons, Bool.and_eq_true] at h
    have ha : pin ≤ a := by simpa using h.1
    have hr := sgm_pin (l := r) h.2 i hi
    unfold sgm fnd
    cases hb : Nat.beq a i
    · exact hr
    · have := Nat.eq_of_beq_eq_true hb; omega
theorem Wy.head {B m : Nat} {s : St} {ρ : Rho} {ds : List Deferred} {w : World} (h : Wy B s ρ ds w) (hm : s.pin ≤ m) {l : List (Nat × Nat)} (hl : pinB s.pin l = true) : Wy B s (cut m (via (sgm l) ρ)) ds w :=
  ⟨h.b, h.o, fun i y hi hy => by
    have e : cut m (via (sgm l) ρ) i = ρ (sgm l i) := cut_lt (by omega)
    rw [e, sgm_pin hl i hi]; exact h.e i y hi hy, h.m⟩
/-! code -/
theorem calm_region {id : Nat} {ops : Array Oper} {b : Bool} (h : calm (.region id ops b) = true) : noDef ops.toList = true := h
theorem no_out {B : Nat} {w0 : St} {sz : Nat} {K : Kon} : ¬ LetsOut (QK B w0 sz K) := fun ⟨_, _, q⟩ => q
theorem region_any_in {P : Program} {id : Nat} {ops : Array Oper} {Q : Exit → Act → World → Prop} {a : Act} {w : World} {ro : Option Nat} {n : Nat} (hm : P.follows .mixedOrders = true) (hd : ro = none ∨ noDef ops.toList = true) (hQ : ¬ LetsOut Q)
    (h : wpAny P .any ops Q ops.size (Array.replicate ops.size false) a { w with drawn := w.drawn + 1 }) : (Code.region id ops true).wpIn (Fz ro) n P Q a w :=
  wpIn_region_any hm (any_in hd hQ _ _ _ _ h)
theorem region_quiet_in {P : Program} {id : Nat} {ops : Array Oper} {Q : Exit → Act → World → Prop} {C : World → Prop} {a : Act} {w : World} {ro : Option Nat} {n : Nat} (hm : P.follows .mixedOrders = true) (hd : ro = none ∨ noDef ops.toList = true) (hQ : ¬ LetsOut Q)
    (hB : Region.lexB .any ops = true) (hC : C { w with drawn := w.drawn + 1 }) (h : wpQuiet P ops C (fun a' => ∀ w', C w' → Q .normal a' w') ops.toList a) : (Code.region id ops true).wpIn (Fz ro) n P Q a w := by
  simp only [Region.lexB, Bool.and_eq_true] at hB
  refine region_any_in hm hd hQ (wpAny_of_quiet (Q := fun a' => ∀ w', C w' → Q .normal a' w') (fun _ w' hw' h => h w' hw') _ _ _ _ hC ?_)
  have := wpAnyQ_lex (C := C) (md := .any) hB.1 ops.toList 0 (Array.replicate ops.size false) a (by simp) (by simpa using hB.2) h
  simpa using this
section
variable {P : Program} {T : TT} {sz : Nat} {B : Nat} {w0 : St} (hT : TTok P T) (hm : P.follows .mixedOrders = true)
include hT hm
omit hT hm in
theorem vc_cond {pin : Nat} {c : Operand} {x y : Code} {env : Env} {obs : Obs} {nx : Nat} {K : Kon} : vc P T sz pin (.cond c x y) env obs nx K = evK env c fun v => match v with
      | .one (.tf true) => vc P T sz pin x env obs nx K
      | .one (.tf false) => vc P T sz pin y env obs nx K
      | .one (.prop p) => NCond p (wr x ++ wr y) pin (vc P T sz pin x env obs nx) (vc P T sz pin y env obs nx) env obs nx K
      | .one (.val (.bool q)) => NCond (q = true) (wr x ++ wr y) pin (vc P T sz pin x env obs nx) (vc P T sz pin y env obs nx) env obs nx K
      | _ => False := rfl
theorem vc_sound {ro : Option Nat} {n : Nat} : ∀ (c : Code) {env : Env} {obs : Obs} {nx : Nat} {K : Kon} {ρ : Rho} {a : Act} {w : World}, (ro = none ∨ calm c = true) → vc P T sz w0.pin c env obs nx K → EnvR sz ρ env a → Cls B ρ obs nx w → Wy B w0 ρ a.defers w → c.wpIn (Fz ro) n P (QK B w0 sz K) a w
  | .skip, env, obs, nx, K, ρ, a, w, hcm, h, hE, hC, hW => wpIn_skip ⟨ρ, env, obs, nx, h, hE, hC, hW⟩
  | .label _, env, obs, nx, K, ρ, a, w, hcm, h, hE, hC, hW => wpIn_label ⟨ρ, env, obs, nx, h, hE, hC, hW⟩
  | .region id ops false, env, obs, nx, K, ρ, a, w, hcm, h, hE, hC, hW => by
    have h1 := ops_sound (ro := ro) (n := n) (Q := QK B w0 sz K) hT (fun a w q => q) ops.toList hE hC hW h
    exact wpIn_region_list (by simpa using h1)
  | .region id ops true, env, obs, nx, K, ρ, a, w, hcm, h, hE, hC, hW => by
    have hC1 : Cls B ρ obs nx { w with drawn := w.drawn + 1 } := hC.drawn _
    have hW1 : Wy B w0 ρ a.defers { w with drawn := w.drawn + 1 } := hW.trans ⟨rfl, rfl, rfl, Nat.le_refl _, fun _ _ => rfl⟩ (fun _ _ h => h)
    have go : ∀ K' : Env → Obs → Nat → Prop, freeB ops.toList = true → explK P T sz ops.toList ops.toList.length [] env obs nx K' → (∀ a w, Nx B w0 sz K' a w → QK B w0 sz K .normal a w) → (Code.region id ops true).wpIn (Fz ro) n P (QK B w0 sz K) a w := fun K' hf hx hR => by
      refine region_any_in hm (hcm.imp (fun q => q) calm_region) no_out ?_
      have := (expl_sound hT hf ops.toList.length [] (listed := Array.replicate ops.size false) (fun _ => True) ⟨by simp, fun j => by
        rw [show memB j [] = false from rfl]
        rcases Nat.lt_or_ge j ops.size with h | h
        · simp [h]
        · simp [Array.getElem?_eq_none, h]⟩ (down_start _) hE hC1 hW1 trivial (fun _ _ _ _ => trivial) hx).any (Q := QK B w0 sz K) hR
      simpa using this
    replace h : NDraw P T sz w0.pin ops.toList env obs nx (fun e o n => K .nrm e o n) := h
    cases h with
    | mk h2 h1 =>
      have h1 := ops_quiet (Q := fun a' => ∀ w', (Cls B ρ obs nx w' ∧ Wy B w0 ρ a.defers w') → QK B w0 sz K .normal a' w') hT hC hW (fun a2 env' hd hE' hK w' hw' => ⟨ρ, env', obs, nx, hK, hE', hw'.1, by rw [hd]; exact hw'.2⟩) ops.toList rfl hE h1
      exact region_quiet_in (C := fun w' => Cls B ρ obs nx w' ∧ Wy B w0 ρ a.defers w') hm (hcm.imp (fun q => q) calm_region) no_out (by simpa using h2) ⟨hC1, hW1⟩ (by simpa using h1)
    | any hf hx => exact go _ hf hx fun a w h => h
    | join hf E O m hx hp hb hk =>
      refine go _ hf hx ?_
      rintro a1 w1 ⟨ρ1, env1, obs1, nx1, ⟨⟨l, hl, hi, he, ho⟩⟩, hE1, hC1, hW1⟩
      exact ⟨cut m (via (sgm l) ρ1), E, O, m, hk, hE1.head he hb.1, hC1.head ho hb.2 hi, hW1.head (Nat.le_of_ble_eq_true hp) hl⟩
  | .seq x y, env, obs, nx, K, ρ, a, w, hcm, h, hE, hC, hW => by
    have hx : ro = none ∨ calm x = true := hcm.imp (fun q => q) fun q => (by unfold calm at q; simp only [Bool.and_eq_true] at q; exact q.1)
    have hy : ro = none ∨ calm y = true := hcm.imp (fun q => q) fun q => (by unfold calm at q; simp only [Bool.and_eq_true] at q; exact q.2)
    have h1 := vc_sound (n := n) x hx h hE hC hW
    refine wpIn_seq (wpIn_mono h1 ?_)
    intro e a1 w1 q
    cases e with
    | normal =>
      obtain ⟨ρ1, env1, obs1, nx1, hk, hE1, hC1, hW1⟩ := q
      exact vc_sound y hy hk hE1 hC1 hW1
    | exit i => exact q
    | ret => exact q
    | goto l => exact q
    | panic c => exact q
    | outgrown => exact q
  | .cond c x y, env, obs, nx, K, ρ, a, w, hcm, h, hE, hC, hW => by
    rw [vc_cond] at h
    have hx : ro = none ∨ calm x = true := hcm.imp (fun q => q) fun q => (by unfold calm at q; simp only [Bool.and_eq_true] at q; exact q.1)
    have hy : ro = none ∨ calm y = true := hcm.imp (fun q => q) fun q => (by unfold calm at q; simp only [Bool.and_eq_true] at q; exact q.2)
    have two : ∀ (p : Prop) (b : Bool), a.eval c = .bool b → (b = true ↔ p) → NCond p (wr x ++ wr y) w0.pin (vc P T sz w0.pin x env obs nx) (vc P T sz w0.pin y env obs nx) env obs nx K → (Code.cond c x y).wpIn (Fz ro) n P (QK B w0 sz K) a w := fun p b hb hp h => by
      have one : ∀ K', NIf p (vc P T sz w0.pin x env obs nx K') (vc P T sz w0.pin y env obs nx K') → (Code.cond c x y).wpIn (Fz ro) n P (QK B w0 sz K') a w := fun K' h => by
        cases b with
        | true => exact wpIn_cond_true hb (vc_sound x hx (h.t (hp.1 rfl)) hE hC hW)
        | false => exact wpIn_cond_false hb (vc_sound y hy (h.f (fun q => by have := hp.2 q; cases this)) hE hC hW)
      cases h with
      | mk h => exact one K h
      | join ι S m J hpm hsb h k =>
        refine wpIn_mono (one _ h) ?_
        intro e a1 w1 q
        cases e with
        | normal =>
          obtain ⟨ρ1, env1, obs1, nx1, ⟨i, l, hj, hl, hi, he, ho⟩, hE1, hC1, hW1⟩ := q
          exact ⟨cut m (via (sgm l) ρ1), (S i).1, (S i).2, m, k i hj, hE1.head he (hsb i).1, hC1.head ho (hsb i).2 hi, hW1.head hpm hl⟩
        | exit i => exact q
        | ret => exact q
        | goto l => exact q
        | panic c => exact q
        | outgrown => exact q
    obtain ⟨v, hv, h⟩ := evK_spec hE h
    split at h
    · exact wpIn_cond_true hv (vc_sound x hx h hE hC hW)
    · exact wpIn_cond_false hv (vc_sound y hy h hE hC hW)
    · obtain ⟨b, hb, hp⟩ := hv
      exact two _ b hb hp h
    · rename_i b
      exact two _ b hv Iff.rfl h
    · exact h.elim
  | .block id c, env, obs, nx, K, ρ, a, w, hcm, h, hE, hC, hW => by
    have h1 := vc_sound (n := n) c (hcm.imp (fun q => q) fun q => (by unfold calm at q; exact q)) h hE hC hW
    refine wpIn_block (wpIn_mono h1 ?_)
    intro e a1 w1 q
    cases e with
    | normal => exact q
    | exit i =>
      obtain ⟨ρ1, env1, obs1, nx1, hk, r⟩ := q
      simp only [Exit.inBlock]
      simp only at hk
      by_cases e : i = id
      · subst e
        rw [if_pos rfl]
        rw [Nat.beq_refl] at hk
        exact ⟨ρ1, env1, obs1, nx1, hk, r⟩
      · rw [if_neg e]
        cases hb : Nat.beq i id
        · rw [hb] at hk
          exact ⟨ρ1, env1, obs1, nx1, hk, r⟩
        · exact absurd (Nat.eq_of_beq_eq_true hb) e
    | ret => exact q
    | goto l => exact q
    | panic c => exact q
    | outgrown => exact q
  | .exit i, env, obs, nx, K, ρ, a, w, hcm, h, hE, hC, hW => wpIn_exit ⟨ρ, env, obs, nx, h, hE, hC, hW⟩
  | .ret, env, obs, nx, K, ρ, a, w, hcm, h, hE, hC, hW => wpIn_ret ⟨ρ, env, obs, nx, h, hE, hC, hW⟩
  | .loop c, env, obs, nx, K, ρ, a, w, hcm, h, hE, hC, hW => by
    obtain ⟨ι, S, μ, J, i0, m, hpin, hj, hi0, hel, hol, hb, hr⟩ := NLoop.h h
    refine wpIn_loop_ghost (fun n a w => ∃ i ρ, μ i = n ∧ J i ∧ EnvR sz ρ (S i).1 a ∧ Cls B ρ (S i).2 m w ∧ Wy B w0 ρ a.defers w) (μ i0)
      ⟨i0, _, rfl, hj, hE.head hel (hb i0).1, hC.head hol (hb i0).2 hi0, hW.head hpin (l := []) rfl⟩ ?_
    rintro n a1 w1 ⟨i, ρ1, rfl, hji, hE1, hC1, hW1⟩
    refine wpIn_mono (vc_sound c (hcm.imp (fun q => q) fun q => (by unfold calm at q; exact q)) (hr i hji) hE1 hC1 hW1) ?_
    intro e a2 w2 q
    cases e with
    | normal =>
      obtain ⟨ρ2, env2, obs2, nx2, ⟨i', l', hj', hlt, hp', hi', hel', hol'⟩, hE2, hC2, hW2⟩ := q
      exact ⟨μ i', hlt, i', _, rfl, hj', hE2.head hel' (hb i').1, hC2.head hol' (hb i').2 hi', hW2.head hpin hp'⟩
    | exit i => exact q
    | ret => exact q
    | goto l => exact q
    | panic c => exact q
    | outgrown => exact q
  | .rangeFunc f ps assign body, env, obs, nx, K, ρ, a, w, hcm, h, hE, hC, hW => by
    rcases hcm with rfl | q
    · exact NRange.h h B w0 ρ a w n hE hC hW
    · cases q
  | .scope _, _, _, _, _, _, _, _, _, h, _, _, _ => h.elim
  | .goto _, _, _, _, _, _, _, _, _, h, _, _, _ => h.elim
  | .refuse _, _, _, _, _, _, _, _, _, h, _, _, _ => h.elim
end
end Go.Proofs.Yteblbhbfdfifpaa.V
