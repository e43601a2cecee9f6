/- The walk by verification conditions: how loops and other questions are answered. -/
import Derived.Test.YtblibhmmliljgaaVFn
namespace Go.Proofs.Ytblibhmmliljgaa.V
open Go Go.RowKit
set_option linter.unusedVariables false

theorem NIf.dec {p : Prop} [Decidable p] {A B : Prop} (t : p → A) (f : ¬ p → B) : NIf (decide p = true) A B := ⟨fun h => t (of_decide_eq_true h), fun h => f (fun q => h (decide_eq_true q))⟩
theorem NIf.ndec {p : Prop} [Decidable p] {A B : Prop} (t : ¬ p → A) (f : p → B) : NIf (¬ decide p = true) A B := ⟨fun h => t (fun q => h (decide_eq_true q)), fun h => f (Classical.byContradiction fun q => h (fun r => q (of_decide_eq_true r)))⟩
theorem NIf.neg {p : Prop} {A B : Prop} (t : ¬ p → A) (f : p → B) : NIf (¬ p) A B := ⟨t, fun h => f (Classical.not_not.1 h)⟩
theorem NIf.dec_ {p : Prop} [Decidable p] {A B : Prop} (h : NIf p A B) : NIf (decide p = true) A B := .dec h.t h.f
theorem NIf.not_ {p : Prop} {A B : Prop} (h : NIf p B A) : NIf (¬ p) A B := ⟨fun q => h.f q, fun q => h.t (Classical.not_not.1 q)⟩
theorem NIf.yes {p : Prop} {A B : Prop} (h : p) (t : A) : NIf p A B := ⟨fun _ => t, fun q => absurd h q⟩
theorem NIf.no {p : Prop} {A B : Prop} (h : ¬ p) (f : B) : NIf p A B := ⟨fun q => absurd q h, fun _ => f⟩
def keepK {α : Type} (env : List (Nat × α)) : List Nat → (List (Nat × α) → Prop) → Prop
  | [], K => K []
  | t :: r, K => fndK env t fun v => keepK env r fun l => K ((t, v) :: l)
def appK {α : Type} : List α → List α → (List α → Prop) → Prop
  | [], m, K => K m
  | x :: l, m, K => appK l m fun r => K (x :: r)
theorem appK_spec {α : Type} : ∀ {l m : List α} {K : List α → Prop}, appK l m K → K (l ++ m)
  | [], _, _, h => h
  | x :: l, m, K, h => appK_spec (l := l) (K := fun r => K (x :: r)) h
theorem fndK_of {α : Type} {l : List (Nat × α)} {t : Nat} {v : α} {K : α → Prop} (e : fnd l t = some v) (h : K v) : fndK l t K := by
  induction l with
  | nil => cases e
  | cons p r ih =>
    obtain ⟨u, x⟩ := p
    unfold fnd at e
    unfold fndK
    cases hb : Nat.beq u t <;> simp only [hb] at e ⊢
    · exact ih e
    · injection e with e; rw [e]; exact h
theorem sgm_nil (i : Nat) : sgm [] i = i := rfl
theorem renA_nil (a : At) : renA (sgm []) a = a := by
  have : ∀ l : List Nat, l.map (sgm []) = l := fun l => by
    induction l with
    | nil => rfl
    | cons a r ih => rw [List.map_cons, ih]; rfl
  cases a <;> simp [renA, this, sgm_nil]
theorem renS_nil (v : SV) : renS (sgm []) v = v := by
  cases v with
  | one a => simp [renS, renA_nil]
  | agg l => simp [renS, funext renA_nil]
  | tup l => rfl
theorem renO_nil (o : Ob) : renO (sgm []) o = o := by
  cases o <;> simp [renO, funext renA_nil]
theorem ObLe.refl (o : Ob) : ObLe o o := by
  cases o <;> first | exact rfl | exact ⟨rfl, rfl, fun _ _ => rfl⟩ | exact ⟨rfl, rfl, rfl, fun _ _ => rfl⟩
theorem keepE_spec {env : Env} : ∀ {l : List Nat} {K : Env → Prop}, keepK env l K → ∃ b, EnvLe (sgm []) env b ∧ K b
  | [], K, h => ⟨[], trivial, h⟩
  | t :: r, K, h => by
    obtain ⟨v, e, h⟩ := fndK_spec h
    obtain ⟨b, hb, hK⟩ := keepE_spec h
    exact ⟨(t, v) :: b, ⟨fndK_of e (renS_nil v).symm, hb⟩, hK⟩
theorem keepO_spec {obs : Obs} : ∀ {l : List Nat} {K : Obs → Prop}, keepK obs l K → ∃ b, ObsLe (sgm []) obs b ∧ K b
  | [], K, h => ⟨[], trivial, h⟩
  | t :: r, K, h => by
    obtain ⟨v, e, h⟩ := fndK_spec h
    obtain ⟨b, hb, hK⟩ := keepO_spec h
    exact ⟨(t, v) :: b, ⟨fndK_of e (by rw [renO_nil]; exact ObLe.refl v), hb⟩, hK⟩
theorem EnvLe.app {σ : Nat → Nat} {env : Env} : ∀ {l m : Env}, EnvLe σ env l → EnvLe σ env m → EnvLe σ env (l ++ m)
  | [], _, _, h => h
  | _ :: _, _, h, k => ⟨h.1, EnvLe.app h.2 k⟩
theorem ObsLe.app {σ : Nat → Nat} {obs : Obs} : ∀ {l m : Obs}, ObsLe σ obs l → ObsLe σ obs m → ObsLe σ obs (l ++ m)
  | [], _, _, h => h
  | _ :: _, _, h, k => ⟨h.1, ObsLe.app h.2 k⟩
theorem EnvLe.left {σ : Nat → Nat} {env : Env} : ∀ {l m : Env}, EnvLe σ env (l ++ m) → EnvLe σ env l
  | [], _, _ => trivial
  | _ :: _, _, h => ⟨h.1, EnvLe.left h.2⟩
theorem EnvLe.right {σ : Nat → Nat} {env : Env} : ∀ {l m : Env}, EnvLe σ env (l ++ m) → EnvLe σ env m
  | [], _, h => h
  | _ :: _, _, h => EnvLe.right h.2
theorem ObsLe.left {σ : Nat → Nat} {env : Obs} : ∀ {l m : Obs}, ObsLe σ env (l ++ m) → ObsLe σ env l
  | [], _, _ => trivial
  | _ :: _, _, h => ⟨h.1, ObsLe.left h.2⟩
theorem ObsLe.right {σ : Nat → Nat} {env : Obs} : ∀ {l m : Obs}, ObsLe σ env (l ++ m) → ObsLe σ env m
  | [], _, h => h
  | _ :: _, _, h => ObsLe.right h.2
/-- a round's end: the relation at a smaller measure; an object at the head may be another one now -/
structure NBack {ι : Type} (chg : ι → Env) (ob : ι → Obs) (μ : ι → Nat) (J : ι → Prop) (base : Env) (bo : Obs) (nx m : Nat) (env1 : Env) (obs1 : Obs) : Prop where
  h : ∃ i' l, J i' ∧ μ i' < m ∧ injB (sgm l) nx = true ∧ EnvLe (sgm l) env1 (chg i') ∧ EnvLe (sgm l) env1 base ∧ ObsLe (sgm l) obs1 (ob i') ∧ ObsLe (sgm l) obs1 bo
theorem NBack.at_ {ι : Type} {chg : ι → Env} {ob : ι → Obs} {μ : ι → Nat} {J : ι → Prop} {base : Env} {bo : Obs} {nx m : Nat} {env1 : Env} {obs1 : Obs} (i' : ι) (l : List (Nat × Nat)) (h1 : J i') (h2 : μ i' < m) (h3 : EnvLe (sgm l) env1 (chg i')) (h0 : injB (sgm l) nx = true) (h5 : ObsLe (sgm l) obs1 (ob i')) (h4 : EnvLe (sgm l) env1 base) (h6 : ObsLe (sgm l) obs1 bo) :
    NBack chg ob μ J base bo nx m env1 obs1 := ⟨⟨i', l, h1, h2, h0, h3, h4, h5, h6⟩⟩
theorem injB_id : ∀ n : Nat, injB (sgm []) n = true := by
  have no : ∀ (n x : Nat), n ≤ x → memB (sgm [] x) ((iot n).map (sgm [])) = false := by
    intro n
    induction n with
    | zero => intro x _; rfl
    | succ n ih =>
      intro x hx
      unfold iot
      rw [List.map_cons]
      unfold memB
      have : Nat.beq (sgm [] x) (sgm [] n) = false := by
        rw [sgm_nil, sgm_nil]
        cases hb : Nat.beq x n
        · rfl
        · have := Nat.eq_of_beq_eq_true hb; omega
      rw [this]
      exact ih x (by omega)
  intro n
  induction n with
  | zero => rfl
  | succ n ih =>
    unfold injB iot
    rw [List.map_cons]
    unfold nodB
    rw [no n n (Nat.le_refl _)]
    exact ih
/-- a loop: what slots (chg) and objects (ob) are at each round's head, which slots and objects stay (keep, ko) -/
theorem NLoop.go {body : Env → Obs → Nat → Kon → Prop} {env : Env} {obs : Obs} {nx : Nat} {K : Kon} {ι : Type} (chg : ι → Env) (ob : ι → Obs) (keep ko : List Nat) (μ : ι → Nat) (J : ι → Prop) (i0 : ι) (h0 : J i0)
    (he : EnvLe (sgm []) env (chg i0)) (ho : ObsLe (sgm []) obs (ob i0)) (hb : ∀ i, envB nx (chg i) = true ∧ obsB nx (ob i) = true)
    (hr : keepK env keep fun base => keepK obs ko fun bo => (envB nx base = true ∧ obsB nx bo = true) ∧ ∀ i, J i → appK (chg i) base fun E => appK (ob i) bo fun O => body E O nx fun e env1 obs1 nx1 => match e with
      | .nrm => NBack chg ob μ J base bo nx (μ i) env1 obs1
      | .exit n => K (.exit n) env1 obs1 nx1
      | .ret => K .ret env1 obs1 nx1) : NLoop body env obs nx K := by
  obtain ⟨base, hbase, hr⟩ := keepE_spec hr
  obtain ⟨bo, hbo, ⟨q1, q2⟩, hr⟩ := keepO_spec hr
  refine ⟨⟨ι, fun i => (chg i ++ base, ob i ++ bo), μ, J, i0, nx, sgm [], h0, injB_id nx, he.app hbase, ho.app hbo, fun i => ⟨?_, ?_⟩, fun i hi => ?_⟩⟩
  · simp only [envB, List.all_append, Bool.and_eq_true]; exact ⟨(hb i).1, q1⟩
  · simp only [obsB, List.all_append, Bool.and_eq_true]; exact ⟨(hb i).2, q2⟩
  · have := appK_spec (appK_spec (hr i hi))
    refine cast ?_ this
    congr 1
    funext e env1 obs1 nx1
    cases e
    · apply propext
      constructor
      · rintro ⟨i', l, a, b, c, d, e, f, g⟩; exact ⟨i', l, a, b, c, d.app e, f.app g⟩
      · rintro ⟨i', l, a, b, c, d, e⟩
        exact ⟨i', l, a, b, c, d.left, d.right, e.left, e.right⟩
    · rfl
    · rfl
end Go.Proofs.Ytblibhmmliljgaa.V
