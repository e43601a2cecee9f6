/- Regions that draw their order, walked by verification conditions: each order of what makes memory. -/
import Derived.Test.YteblbhbfdfifpaaVSound2
import Derived.Test.YteblbhbfdfifpaaVDraw0
namespace Go.Proofs.Yteblbhbfdfifpaa.V
open Go Go.RowKit
set_option linter.unusedVariables false
set_option linter.unusedSimpArgs false
set_option linter.unusedSectionVars false

theorem ancB_spec {all : List Oper} {k : Nat} : ∀ {f j : Nat}, ancB all f k j = true → Anc .any all.toArray k j
  | 0, _, h => by cases h
  | f + 1, j, h => by
    unfold ancB at h
    cases ho : all[j]? with
    | none => rw [ho] at h; cases h
    | some o =>
      rw [ho] at h
      obtain ⟨e, he, h⟩ := List.any_eq_true.1 h
      simp only [Bool.and_eq_true, Bool.or_eq_true] at h
      obtain ⟨hb, h⟩ := h
      have ho' : all.toArray[j]? = some o := by simpa using ho
      have he' : e ∈ o.after := by simpa using he
      rcases h with h | h
      · have := Nat.eq_of_beq_eq_true h
        subst this
        exact .one ho' he' hb
      · exact .more ho' he' hb (ancB_spec h)
theorem allB_spec {p : Nat → Bool} : ∀ {n : Nat}, allB p n = true → ∀ i, i < n → p i = true
  | 0, _, i, hi => by omega
  | n + 1, h, i, hi => by
    unfold allB at h
    cases hp : p n <;> simp only [hp] at h
    · cases h
    · by_cases e : i = n
      · subst e; exact hp
      · exact allB_spec h i (by omega)
theorem freeB_spec {all : List Oper} (h : freeB all = true) : Region.noSelect all.toArray = true ∧ ∀ (i j : Nat) (oi oj : Oper), all[i]? = some oi → all[j]? = some oj → j ≠ i → Anc .any all.toArray i j ∨ Anc .any all.toArray j i ∨ oi.apart all.toArray oj = true := by
  unfold freeB at h
  simp only [Bool.and_eq_true] at h
  refine ⟨h.1, fun i j oi oj hi hj hne => ?_⟩
  have h1 := allB_spec (allB_spec h.2 i (List.getElem?_eq_some_iff.1 hi).1) j (List.getElem?_eq_some_iff.1 hj).1
  simp only [hi, hj, Bool.or_eq_true] at h1
  rcases h1 with ((h1 | h1) | h1) | h1
  · exact absurd (Nat.eq_of_beq_eq_true h1).symm hne
  · exact .inl (ancB_spec h1)
  · exact .inr (.inl (ancB_spec h1))
  · exact .inr (.inr h1)
/-- what is listed is what is done -/
structure Corr (n : Nat) (listed : Array Bool) (done : List Nat) : Prop where
  size : listed.size = n
  c : ∀ j, listed.getD j false = memB j done
theorem Corr.set {n i : Nat} {listed : Array Bool} {done : List Nat} (h : Corr n listed done) (hi : i < n) : Corr n (listed.setIfInBounds i true) (i :: done) :=
  ⟨by simp [h.size], fun j => by
    unfold memB
    by_cases e : i = j
    · subst e
      rw [Nat.beq_refl]
      simp [h.size, hi]
    · rw [getD_set_ne false e]
      cases hb : Nat.beq j i
      · exact h.c j
      · exact absurd (Nat.eq_of_beq_eq_true hb).symm e⟩
theorem depsIn_spec {done : List Nat} : ∀ {l : List Edge}, depsIn done l = true ↔ ∀ e ∈ l, Region.binds .any e = true → memB e.on done = true
  | [] => by simp [depsIn]
  | e :: r => by
    unfold depsIn
    cases hb : Region.binds .any e <;> simp only [List.mem_cons, forall_eq_or_imp, hb]
    · rw [depsIn_spec]; simp
    · cases hm : memB e.on done <;> simp [depsIn_spec]
theorem readyL_spec {done : List Nat} {k : Nat} {o : Oper} : ∀ {l : List Oper} {n : Nat}, (k, o) ∈ readyL done n l ↔ n ≤ k ∧ l[k - n]? = some o ∧ memB k done = false ∧ depsIn done o.after.toList = true
  | [], n => by simp [readyL]
  | u :: r, n => by
    unfold readyL
    have ih := @readyL_spec done k o r (n + 1)
    have step : (n + 1 ≤ k ∧ r[k - (n + 1)]? = some o ∧ memB k done = false ∧ depsIn done o.after.toList = true) ↔ (n < k ∧ (u :: r)[k - n]? = some o ∧ memB k done = false ∧ depsIn done o.after.toList = true) := by
      constructor
      · rintro ⟨h1, h2⟩
        refine ⟨by omega, ?_⟩
        rw [show k - n = (k - (n + 1)) + 1 by omega]; simpa using h2
      · rintro ⟨h1, h2⟩
        refine ⟨by omega, ?_⟩
        rw [show k - n = (k - (n + 1)) + 1 by omega] at h2; simpa using h2
    cases hm : memB n done
    · cases hd : depsIn done u.after.toList
      · simp only
        rw [ih, step]
        constructor
        · rintro ⟨h1, h2⟩; exact ⟨by omega, h2⟩
        · rintro ⟨h1, h2, h3, h4⟩
          rcases Nat.lt_or_ge n k with q | q
          · exact ⟨q, h2, h3, h4⟩
          · have e : k = n := by omega
            subst e
            simp at h2; subst h2
            rw [hd] at h4; cases h4
      · simp only [List.mem_cons]
        rw [ih, step]
        constructor
        · rintro (q | ⟨h1, h2⟩)
          · injection q with q1 q2
            subst q1 q2
            exact ⟨Nat.le_refl _, by simp, hm, hd⟩
          · exact ⟨by omega, h2⟩
        · rintro ⟨h1, h2, h3, h4⟩
          rcases Nat.lt_or_ge n k with q | q
          · exact .inr ⟨q, h2, h3, h4⟩
          · have e : k = n := by omega
            subst e
            simp at h2; subst h2
            exact .inl rfl
    · simp only
      rw [ih, step]
      constructor
      · rintro ⟨h1, h2⟩; exact ⟨by omega, h2⟩
      · rintro ⟨h1, h2, h3, h4⟩
        rcases Nat.lt_or_ge n k with q | q
        · exact ⟨q, h2, h3, h4⟩
        · have e : k = n := by omega
          subst e
          rw [hm] at h3; cases h3
theorem ready_iff {all : List Oper} {listed : Array Bool} {done : List Nat} (hc : Corr all.length listed done) {k : Nat} : k ∈ Region.ready .any all.toArray listed ↔ ∃ o, (k, o) ∈ readyL done 0 all := by
  rw [mem_ready]
  constructor
  · rintro ⟨h1, o, h2, h3⟩
    refine ⟨o, readyL_spec.2 ⟨Nat.zero_le _, by simpa using h2, ?_, depsIn_spec.2 fun e he hb => ?_⟩⟩
    · rw [← hc.c]
      rcases Nat.lt_or_ge k listed.size with h | h
      · simpa [h] using h1
      · simp [Array.getElem?_eq_none h]
    · rw [← hc.c]; exact h3 e (by simpa using he) hb
  · rintro ⟨o, h⟩
    obtain ⟨_, h2, h3, h4⟩ := readyL_spec.1 h
    have h2 : all[k]? = some o := by simpa using h2
    have hk : k < listed.size := by rw [hc.size]; exact (List.getElem?_eq_some_iff.1 h2).1
    refine ⟨?_, o, by simpa using h2, fun e he hb => ?_⟩
    · have := hc.c k
      rw [h3] at this
      simpa [hk] using this
    · rw [hc.c]; exact depsIn_spec.1 h4 e (by simpa using he) hb
theorem pick0_mem {T : TT} {all : List Oper} {i : Nat} {o : Oper} : ∀ {l : List (Nat × Oper)}, pick0 T all l = some (i, o) → (i, o) ∈ l ∧ kindK T o.op = 0 ∧ firmB all i = true
  | [], h => by cases h
  | (k, u) :: r, h => by
    unfold pick0 at h
    split at h
    · rename_i hk
      split at h
      · rename_i hf
        injection h with h; injection h with h1 h2; subst h1 h2; exact ⟨by simp, hk, hf⟩
      · obtain ⟨h1, h2⟩ := pick0_mem h
        exact ⟨List.mem_cons_of_mem _ h1, h2⟩
    · obtain ⟨h1, h2⟩ := pick0_mem h
      exact ⟨List.mem_cons_of_mem _ h1, h2⟩
theorem eachK_spec {K : Nat → Oper → Prop} : ∀ {l : List (Nat × Oper)}, eachK l K → ∀ i o, (i, o) ∈ l → K i o
  | [], _, _, _, h => by cases h
  | [(k, u)], h, i, o, hm => by
    obtain ⟨rfl, rfl⟩ : i = k ∧ o = u := by simpa using hm
    exact h
  | (k, u) :: v :: r, h, i, o, hm => by
    rcases List.mem_cons.1 hm with q | q
    · injection q with q1 q2; subst q1 q2; exact h.l
    · exact eachK_spec (l := v :: r) h.r i o q
section
variable {P : Program} {T : TT} {sz : Nat} {B : Nat} {w0 : St} (hT : TTok P T)
include hT
/-- an operation that leaves the world -/
theorem still_spec {ρ : Rho} {env : Env} {a : Act} {obs : Obs} {nx : Nat} {w : World} (hE : EnvR sz ρ env a) (hC : Cls B ρ obs nx w) {o : Oper} {K : Env → Obs → Nat → Prop} (hk : kindK T o.op = 0) (h : opK P T sz true o env obs nx K) :
    ∃ x env', (∀ w1, Cls B ρ obs nx w1 → (execOp a.eval o).run P w1 = .ok (.value x) w1) ∧ K env' obs nx ∧ EnvR sz ρ env' (a.put o.dst x) := by
  have pur : (pureK T env obs o.op fun v => putK sz o.dst v env fun env' => K env' obs nx) → ∃ x env', (∀ w1, Cls B ρ obs nx w1 → (execOp a.eval o).run P w1 = .ok (.value x) w1) ∧ K env' obs nx ∧ EnvR sz ρ env' (a.put o.dst x) := fun h => by
    obtain ⟨v, x, hv, h, hr⟩ := pure_sound hT hE hC h
    obtain ⟨env', hK, hE'⟩ := putK_spec hE hv h
    exact ⟨x, env', fun w1 h1 => hr o rfl w1 h1, hK, hE'⟩
  cases hop : o.op
  case box t x => rw [hop] at hk; cases hk
  case alloc t => rw [hop] at hk; cases hk
  case store t x y => rw [hop] at hk; cases hk
  case buildSlice t n ps => rw [hop] at hk; cases hk
  case makeSlice t x y => rw [hop] at hk; cases hk
  case slice t x lo hi mx =>
    cases mx with
    | none =>
      unfold opK at h
      rw [hop] at h
      obtain ⟨ty, _, h⟩ := fndK_spec h
      split at h
      · exact h.elim
      · exact pur (by rw [hop]; exact h)
    | some m => exact pur (by unfold opK at h; rw [hop] at h ⊢; exact h)
  case assign x =>
    refine pur ?_
    unfold opK at h
    rw [hop] at h ⊢
    split at h
    all_goals first | (rename_i e; cases e; done) | skip
    all_goals first | (rename_i e; injection e with e; subst e; exact h) | exact h
  case call c =>
    obtain ⟨cl, args, ts⟩ := c
    cases cl with
    | value g => rw [hop] at hk; cases hk
    | invoke r m => exact pur (by unfold opK at h; rw [hop] at h ⊢; exact h)
    | builtin b =>
      by_cases happ : ∃ x y t t', b = .append ∧ args = #[x, y] ∧ ts = #[t, t']
      · obtain ⟨x, y, t, t', rfl, rfl, rfl⟩ := happ
        unfold opK at h
        rw [hop] at h
        exact h.elim
      · refine pur ?_
        unfold opK at h
        rw [hop] at h ⊢
        split at h
        all_goals first | (rename_i e; cases e; done) | skip
        all_goals first | (rename_i e; injection e with e; injection e with e1 e2 e3; injection e1 with e1; exact absurd ⟨_, _, _, _, e1, e2, e3⟩ happ) | exact h
  all_goals exact pur (by unfold opK at h; rw [hop] at h ⊢; exact h)
/-- an operation that makes memory alone -/
theorem makes_spec {ρ : Rho} {env : Env} {a : Act} {obs : Obs} {nx : Nat} {w : World} (hE : EnvR sz ρ env a) (hC : Cls B ρ obs nx w) (hW : Wy B w0 ρ a.defers w) {o : Oper} {K : Env → Obs → Nat → Prop} {Q : Exit → Act → World → Prop} (hk : kindK T o.op = 1) (h : opK P T sz false o env obs nx K) :
    o.wp P a w (NxA B w0 sz K w) Q := by
  cases hop : o.op
  case box t x => exact op_box hT hE hC hW hop h
  case alloc t => exact op_alloc hT hE hC hW hop h
  case buildSlice t n ps => exact op_buildSlice hT hE hC hW hop h
  case makeSlice t x y => exact op_makeSlice hT hE hC hW hop h
  case slice t x lo hi mx =>
    cases mx with
    | none => exact op_slice hT hE hC hW hop h
    | some m => rw [hop] at hk; cases hk
  case call c =>
    obtain ⟨cl, args, ts⟩ := c
    rw [hop] at hk
    cases cl with
    | value g => cases hk
    | invoke r m => cases hk
    | builtin b => cases b <;> cases hk
  all_goals (rw [hop] at hk; cases hk)
theorem callA_spec {ρ : Rho} {env : Env} {a : Act} {obs : Obs} {nx : Nat} {w : World} (hE : EnvR sz ρ env a) (hC : Cls B ρ obs nx w) (hW : Wy B w0 ρ a.defers w) {o : Oper} {g : Operand} {args : Array Operand} {ts : Array TypeId} {K : Env → Obs → Nat → Prop} {Q : Exit → Act → World → Prop}
    (ho : o.op = .call ⟨.value g, args, ts⟩) (h : evK env g fun v => match v with
      | .one (.clo f caps) => evsK env args.toList fun l => capE l caps fun l => NCallA P f l obs nx fun u obs' nx' => putK sz o.dst u env fun env' => K env' obs' nx'
      | _ => False) : o.wp P a w (NxA B w0 sz K w) Q := by
  obtain ⟨v, hv, h⟩ := evK_spec hE h
  split at h
  · rename_i f caps
    obtain ⟨cs, hcs, hg⟩ := hv
    obtain ⟨vs0, h, hvs0⟩ := evsK_spec hE h
    obtain ⟨vs, h, hvs⟩ := capE_spec hvs0 hcs h
    unfold Oper.wp
    rw [run_call h.b ho hg w]
    have hc := h.h B ρ w _ hC hvs
    have e : (args.toList.map a.eval ++ cs).toArray = args.map a.eval ++ cs.toArray := by cases args; simp
    rw [e] at hc
    refine hc.mono fun e w' ⟨v, obs', nx', ρ', x, hK, hx, he, hv, hC', hb⟩ => ?_
    subst he
    obtain ⟨env', hK, hE'⟩ := putK_spec (hE.ext hx) hv hK
    exact ⟨ρ', env', obs', nx', hK, hE', hC', ((below_of hW hC.le hb).ext hx).put, hb⟩
  · exact h.elim
theorem expl_sound {all : List Oper} (hfree : freeB all = true) {K : Env → Obs → Nat → Prop} : ∀ (f : Nat) (done : List Nat) {listed : Array Bool} {ρ : Rho} {env : Env} {a : Act} {obs : Obs} {nx : Nat} {w : World} (C : World → Prop),
    Corr all.length listed done → Down .any all.toArray listed → EnvR sz ρ env a → Cls B ρ obs nx w → Wy B w0 ρ a.defers w → C w → (∀ v v', C v → Below v.heap.size v v' → C v') →
    explK P T sz all f done env obs nx K → wpX P .any all.toArray (fun k => ∃ o, all[k]? = some o ∧ kindK T o.op = 0 ∧ firmB all k = true) (Nx B w0 sz K) f listed a w (fun v => C v ∧ Cls B ρ obs nx v ∧ Wy B w0 ρ a.defers v) := by
  obtain ⟨hns, hap⟩ := freeB_spec hfree
  have hsel := Region.noSelect_spec hns
  intro f
  induction f with
  | zero =>
    intro done listed ρ env a obs nx w C hc hd hE hC hW hCw hgrow h
    rw [explK_zero] at h
    split at h
    · rename_i hr
      refine ⟨⟨hCw, hC, hW⟩, List.eq_nil_iff_forall_not_mem.2 fun k hk => ?_, ρ, env, obs, nx, h, hE, hC, hW⟩
      obtain ⟨o, ho⟩ := (ready_iff hc).1 hk
      rw [hr] at ho; cases ho
    · exact h.elim
  | succ f ih =>
    intro done listed ρ env a obs nx w C hc hd hE hC hW hCw hgrow h
    have hgrow' : ∀ v v', (C v ∧ Cls B ρ obs nx v ∧ Wy B w0 ρ a.defers v) → Below v.heap.size v v' → (C v' ∧ Cls B ρ obs nx v' ∧ Wy B w0 ρ a.defers v') := fun v v' ⟨h1, h2, h3⟩ hb => ⟨hgrow v v' h1 hb, h2.below hb, below_of h3 h2.le hb⟩
    rw [explK_succ] at h
    split at h
    · rename_i hr
      refine ⟨⟨hCw, hC, hW⟩, fun _ => ⟨ρ, env, obs, nx, h, hE, hC, hW⟩, fun k hk => ?_⟩
      obtain ⟨o, ho⟩ := (ready_iff hc).1 hk
      rw [hr] at ho; cases ho
    split at h
    · rename_i i o hp
      obtain ⟨hm, hkind, hfirm⟩ := pick0_mem hp
      obtain ⟨_, ho, _, _⟩ := readyL_spec.1 hm
      have ho : all[i]? = some o := by simpa using ho
      have hlt : i < all.length := (List.getElem?_eq_some_iff.1 ho).1
      have hready : i ∈ Region.ready .any all.toArray listed := (ready_iff hc).2 ⟨o, hm⟩
      obtain ⟨env1, hE1, h⟩ := guardK_spec hE h
      have hoa : all.toArray[i]? = some o := by simpa using ho
      have fr : ∀ j oj, all.toArray[j]? = some oj → j ≠ i → Anc .any all.toArray i j ∨ Anc .any all.toArray j i ∨ o.apart all.toArray oj = true := fun j oj hj hne => hap i j o oj ho (by simpa using hj) hne
      rcases h with ⟨hw, h⟩ | ⟨hw, h⟩
      · obtain ⟨x, env2, hx, h2, hE2⟩ := still_spec hT hE1 hC hkind h
        refine wpX_first (v := x) ⟨o, ho, hkind, hfirm⟩ hoa (fun j u cs b hj => hsel j u cs b hj) fr f listed a w _ hd hready ?_ ⟨hCw, hC, hW⟩ (by have := ih (i :: done) C (hc.set hlt) (hd.set hready) hE2 hC hW.put hCw hgrow h2; rwa [put_dfs] at this)
        unfold YS
        rw [wanted_eq, if_pos hw]
        exact fun w1 hw1 => hx w1 hw1.2.1
      · obtain ⟨env2, h2, hE2⟩ := putK_spec hE1 (undef_is ρ) h
        refine wpX_first (v := undef) ⟨o, ho, hkind, hfirm⟩ hoa (fun j u cs b hj => hsel j u cs b hj) fr f listed a w _ hd hready ?_ ⟨hCw, hC, hW⟩ (by have := ih (i :: done) C (hc.set hlt) (hd.set hready) hE2 hC hW.put hCw hgrow h2; rwa [put_dfs] at this)
        unfold YS
        rw [wanted_eq, if_neg (by rw [hw]; decide)]
    · refine ⟨⟨hCw, hC, hW⟩, fun q => ?_, fun i hi => ?_⟩
      · rename_i hne _ _
        exfalso
        refine hne (List.eq_nil_iff_forall_not_mem.2 fun p hp => ?_)
        obtain ⟨k, o⟩ := p
        have := (ready_iff hc).2 ⟨o, hp⟩
        rw [q] at this; cases this
      · obtain ⟨o, hm⟩ := (ready_iff hc).1 hi
        have h := eachK_spec h i o hm
        obtain ⟨_, ho, _, _⟩ := readyL_spec.1 hm
        have ho : all[i]? = some o := by simpa using ho
        have hlt : i < all.length := (List.getElem?_eq_some_iff.1 ho).1
        have hoa : all.toArray[i]? = some o := by simpa using ho
        obtain ⟨env1, hE1, h⟩ := guardK_spec hE h
        rcases h with ⟨hw, h⟩ | ⟨hw, h⟩
        · have fin : o.wp P a w (NxA B w0 sz (fun e' o' n' => explK P T sz all f (i :: done) e' o' n' K) w) noQ →
              opG P all.toArray i (fun a' w' => ∃ C' : World → Prop, (∀ v, C' v → (C v ∧ Cls B ρ obs nx v ∧ Wy B w0 ρ a.defers v)) ∧ wpX P .any all.toArray (fun k => ∃ o, all[k]? = some o ∧ kindK T o.op = 0 ∧ firmB all k = true) (Nx B w0 sz K) f (listed.setIfInBounds i true) a' w' C') a w := fun hh => by
            unfold opG
            simp only [hoa]
            rw [wanted_eq, if_pos hw]
            refine wp_next hh ?_
            rintro a' w' ⟨ρ', env', obs', nx', hK, hE', hC', hW', hb⟩
            exact ⟨_, fun v hv => hv.1, ih (i :: done) (fun v => C v ∧ Cls B ρ obs nx v ∧ Wy B w0 ρ a.defers v) (hc.set hlt) (hd.set hi) hE' hC' hW' (hgrow' w w' ⟨hCw, hC, hW⟩ hb) hgrow' hK⟩
          unfold kidK at h
          split at h
          · rename_i hk
            obtain ⟨x, env2, hx, h2, hE2⟩ := still_spec hT hE1 hC hk h
            refine .inl (fin ?_)
            unfold Oper.wp
            rw [hx w hC]
            exact ⟨ρ, env2, obs, nx, h2, hE2, hC, hW.put, Below.refl _ _⟩
          · rename_i hk; exact .inl (fin (makes_spec hT hE1 hC hW hk h))
          · rename_i hk2
            split at h
            · rename_i hall
              refine .inr ⟨fun k ⟨uk, huk, hkk, hkf⟩ hk => ?_, ?_⟩
              · rw [hc.c] at hk
                have hk : k ∈ done := by
                  have : ∀ l : List Nat, memB k l = true → k ∈ l := fun l => by
                    induction l with
                    | nil => intro q; cases q
                    | cons y r ih =>
                      intro q
                      unfold memB at q
                      cases hb : Nat.beq k y
                      · rw [hb] at q; exact List.mem_cons_of_mem _ (ih q)
                      · rw [Nat.eq_of_beq_eq_true hb]; simp
                  exact this _ hk
                have := List.all_eq_true.1 hall k hk
                simp only [huk, hkk, hkf] at this
                exact ancB_spec this
              · unfold opG
                simp only [hoa]
                rw [wanted_eq, if_pos hw]
                refine wp_next (op_sound hT hE1 hC hW (fun g args ts q => by rw [q] at hk2; cases hk2) h) ?_
                rintro a' w' ⟨ρ', env', obs', nx', hK, hE', hC', hW'⟩
                exact ⟨_, ih (i :: done) (fun _ => True) (hc.set hlt) (hd.set hi) hE' hC' hW' trivial (fun _ _ _ _ => trivial) hK⟩
            · exact h.elim
          · split at h
            · rename_i hop; exact .inl (fin (callA_spec hT hE1 hC hW hop h))
            · exact h.elim
          · exact h.elim
        · obtain ⟨env2, h2, hE2⟩ := putK_spec hE1 (undef_is ρ) h
          left
          unfold opG
          simp only [hoa]
          rw [wanted_eq, if_neg (by rw [hw]; decide)]
          exact ⟨_, fun v hv => by rwa [put_dfs] at hv, ih (i :: done) C (hc.set hlt) (hd.set hi) hE2 hC hW.put hCw hgrow h2⟩
end
end Go.Proofs.Yteblbhbfdfifpaa.V
