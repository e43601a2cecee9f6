/- The walk by verification conditions: how loops and other questions are answered. -/
import Derived.Test.YteblbhbfdfifpaaVFn
namespace Go.Proofs.Yteblbhbfdfifpaa.V
open Go Go.RowKit
set_option linter.unusedVariables false

theorem wrap_un {k : IntKind} {e : Int} (hs : k.signed = false) (h1 : 0 ≤ e) (h2 : e < 2 ^ k.bits) : k.wrap e = e := by
  unfold IntKind.wrap; simp only [hs, Bool.false_and]; rw [if_neg (by simp)]; exact Int.emod_eq_of_lt h1 h2
theorem NWrap.u64 {e : Int} {K : Int → Prop} (h1 : 0 ≤ e) (h2 : e ≤ 18446744073709551615) (hK : K e) : NWrap .u64 e K := ⟨by rw [wrap_un rfl h1 (by show e < 2 ^ 64; omega)]; exact hK⟩
theorem NWrap.u32 {e : Int} {K : Int → Prop} (h1 : 0 ≤ e) (h2 : e ≤ 4294967295) (hK : K e) : NWrap .u32 e K := ⟨by rw [wrap_un rfl h1 (by show e < 2 ^ 32; omega)]; exact hK⟩
theorem NWrap.u16 {e : Int} {K : Int → Prop} (h1 : 0 ≤ e) (h2 : e ≤ 65535) (hK : K e) : NWrap .u16 e K := ⟨by rw [wrap_un rfl h1 (by show e < 2 ^ 16; omega)]; exact hK⟩
theorem NWrap.u8 {e : Int} {K : Int → Prop} (h1 : 0 ≤ e) (h2 : e ≤ 255) (hK : K e) : NWrap .u8 e K := ⟨by rw [wrap_un rfl h1 (by show e < 2 ^ 8; omega)]; exact hK⟩
/-- leaves: what is given back, by equations -/
theorem fin1 {x u : Int} (h : u = x) : Fin1 (.one (.val (.int .i64 x))) (.int .i64 u) := congrArg _ h.symm
theorem fin2 {x y u v : Int} (h : u = x ∧ v = y) : Fin1 (.one (.val (.int .i64 x))) (.int .i64 u) ∧ FinL [.one (.val (.int .i64 y))] [.int .i64 v] := ⟨fin1 h.1, fin1 h.2, trivial⟩
theorem fin3 {x y z u v t : Int} (h : u = x ∧ v = y ∧ t = z) : Fin1 (.one (.val (.int .i64 x))) (.int .i64 u) ∧ FinL [.one (.val (.int .i64 y)), .one (.val (.int .i64 z))] [.int .i64 v, .int .i64 t] := ⟨fin1 h.1, fin1 h.2.1, fin1 h.2.2, trivial⟩
theorem nif2 {x y u v : Int} (h : x = u ∧ y = v) : Fin1 (.one (.val (.int .i64 x))) (.int .i64 u) ∧ FinL [.one (.val (.int .i64 y))] [.int .i64 v] := fin2 ⟨h.1.symm, h.2.symm⟩
/-- Go's quotient and rest -/
theorem tq (x : Int) {y : Int} (hy : 0 < y) : x.tdiv y * y + x.tmod y = x ∧ -y < x.tmod y ∧ x.tmod y < y ∧ (0 ≤ x → 0 ≤ x.tmod y) ∧ (x ≤ 0 → x.tmod y ≤ 0) := by
  have e := Int.mul_tdiv_add_tmod x y
  have pos : 0 ≤ x → 0 ≤ x.tmod y ∧ x.tmod y < y := fun h => ⟨Int.tmod_nonneg _ h, Int.tmod_lt_of_pos _ hy⟩
  have neg : x ≤ 0 → x.tmod y ≤ 0 ∧ -y < x.tmod y := fun h => by
    have e2 : x.tmod y = -((-x).tmod y) := by rw [Int.neg_tmod, Int.neg_neg]
    have h1 : 0 ≤ (-x).tmod y := Int.tmod_nonneg _ (by omega)
    have h2 : (-x).tmod y < y := Int.tmod_lt_of_pos _ hy
    omega
  rw [Int.mul_comm] at e
  refine ⟨e, ?_, ?_, fun h => (pos h).1, fun h => (neg h).1⟩ <;> (rcases Int.le_total 0 x with h | h <;> first | (have := pos h; omega) | (have := neg h; omega))
theorem NQuo.ok {x y : Int} {K : Int → Prop} (h0 : y ≠ 0) (h1 : -9223372036854775808 ≤ x.tdiv y) (h2 : x.tdiv y ≤ 9223372036854775807) (hK : K (x.tdiv y)) : NQuo .i64 x y K := ⟨h0, by rw [IntWalk.i64_in _ ⟨h1, h2⟩]; exact hK⟩
theorem NQuo.pos {x y : Int} {K : Int → Prop} (h1 : 0 ≤ x) (h2 : 0 < y) (h3 : x ≤ 9223372036854775807) (hK : ∀ z, z = x / y → 0 ≤ z → z ≤ x → K z) : NQuo .i64 x y K := by
  have e : x.tdiv y = x / y := Int.tdiv_eq_ediv_of_nonneg h1
  have g1 : 0 ≤ x / y := Int.ediv_nonneg h1 (by omega)
  have g2 : x / y ≤ x := Int.ediv_le_self _ h1
  exact NQuo.ok (by omega) (by omega) (by omega) (by rw [e]; exact hK _ rfl g1 g2)
theorem NRem.pos {x y : Int} {K : Int → Prop} (h1 : 0 ≤ x) (h2 : 0 < y) (hK : ∀ z, z = x % y → 0 ≤ z → z < y → K z) : NRem x y K :=
  ⟨by omega, by rw [Int.tmod_eq_emod_of_nonneg h1]; exact hK _ rfl (Int.emod_nonneg _ (by omega)) (Int.emod_lt_of_pos _ h2)⟩
theorem NShr.i64 {x y : Int} {K : Int → Prop} (n : Nat) (hy : y = n) (hn : n ≤ 64) (h1 : 0 ≤ x) (hK : ∀ z, z = x / 2 ^ n → 0 ≤ z → z ≤ x → K z) : NShr .i64 x y K := by
  subst hy
  have p : (0 : Int) ≤ 2 ^ n := Int.le_of_lt (Int.pow_pos (by omega))
  refine ⟨by omega, ?_⟩
  rw [Int.toNat_natCast, show IntKind.i64.bits = 64 from rfl, Nat.min_eq_left hn, Int.fdiv_eq_ediv_of_nonneg _ p]
  exact hK _ rfl (Int.ediv_nonneg h1 p) (Int.ediv_le_self _ h1)
theorem NIf.dec {p : Prop} [Decidable p] {A B : Prop} (t : p → A) (f : ¬ p → B) : NIf (decide p = true) A B := ⟨fun h => t (of_decide_eq_true h), fun h => f (fun q => h (decide_eq_true q))⟩
theorem NIf.ndec {p : Prop} [Decidable p] {A B : Prop} (t : ¬ p → A) (f : p → B) : NIf (¬ decide p = true) A B := ⟨fun h => t (fun q => h (decide_eq_true q)), fun h => f (Classical.byContradiction fun q => h (fun r => q (of_decide_eq_true r)))⟩
theorem NIf.neg {p : Prop} {A B : Prop} (t : ¬ p → A) (f : p → B) : NIf (¬ p) A B := ⟨t, fun h => f (Classical.not_not.1 h)⟩
theorem NIf.dec_ {p : Prop} [Decidable p] {A B : Prop} (h : NIf p A B) : NIf (decide p = true) A B := .dec h.t h.f
theorem NIf.not_ {p : Prop} {A B : Prop} (h : NIf p B A) : NIf (¬ p) A B := ⟨fun q => h.f q, fun q => h.t (Classical.not_not.1 q)⟩
theorem NIf.yes {p : Prop} {A B : Prop} (h : p) (t : A) : NIf p A B := ⟨fun _ => t, fun q => absurd h q⟩
theorem NIf.no {p : Prop} {A B : Prop} (h : ¬ p) (f : B) : NIf p A B := ⟨fun q => absurd q h, fun _ => f⟩
def keepK {α : Type} (env : List (Nat × α)) : List Nat → (List (Nat × α) → Prop) → Prop
  | [], K => K []
  | t :: r, K => fndK env t fun v => keepK env r fun l => K ((t, v) :: l)
def appK {α : Type} : List α → List α → (List α → Prop) → Prop
  | [], m, K => K m
  | x :: l, m, K => appK l m fun r => K (x :: r)
theorem appK_spec {α : Type} : ∀ {l m : List α} {K : List α → Prop}, appK l m K → K (l ++ m)
  | [], _, _, h => h
  | x :: l, m, K, h => appK_spec (l := l) (K := fun r => K (x :: r)) h
theorem fndK_of {α : Type} {l : List (Nat × α)} {t : Nat} {v : α} {K : α → Prop} (e : fnd l t = some v) (h : K v) : fndK l t K := by
  induction l with
  | nil => cases e
  | cons p r ih =>
    obtain ⟨u, x⟩ := p
    unfold fnd at e
    unfold fndK
    cases hb : Nat.beq u t <;> simp only [hb] at e ⊢
    · exact ih e
    · injection e with e; rw [e]; exact h
theorem sgm_nil (i : Nat) : sgm [] i = i := rfl
theorem renA_nil (a : At) : renA (sgm []) a = a := by
  have : ∀ l : List Nat, l.map (sgm []) = l := fun l => by
    induction l with
    | nil => rfl
    | cons a r ih => rw [List.map_cons, ih]; rfl
  cases a <;> simp [renA, this, sgm_nil]
theorem renS_nil (v : SV) : renS (sgm []) v = v := by
  cases v with
  | one a => simp [renS, renA_nil]
  | agg l => simp [renS, funext renA_nil]
  | tup l => rfl
theorem renO_nil (o : Ob) : renO (sgm []) o = o := by
  cases o <;> simp [renO, funext renA_nil, renS_nil]
theorem ObLe.refl (o : Ob) : ObLe o o := by
  cases o <;> first | exact rfl | exact ⟨rfl, rfl, fun _ _ => rfl⟩ | exact ⟨rfl, rfl, rfl, fun _ _ => rfl⟩
theorem SLe.of {u v : SV} (h : u = v) : SLe u v := by
  subst h
  cases u with
  | one a => cases a <;> first | exact rfl | exact Iff.rfl
  | _ => exact rfl
theorem keepE_spec {env : Env} : ∀ {l : List Nat} {K : Env → Prop}, keepK env l K → ∃ b, EnvLe (sgm []) env b ∧ K b
  | [], K, h => ⟨[], trivial, h⟩
  | t :: r, K, h => by
    obtain ⟨v, e, h⟩ := fndK_spec h
    obtain ⟨b, hb, hK⟩ := keepE_spec h
    exact ⟨(t, v) :: b, ⟨fndK_of e (.of (renS_nil v).symm), hb⟩, hK⟩
theorem keepO_spec {obs : Obs} : ∀ {l : List Nat} {K : Obs → Prop}, keepK obs l K → ∃ b, ObsLe (sgm []) obs b ∧ K b
  | [], K, h => ⟨[], trivial, h⟩
  | t :: r, K, h => by
    obtain ⟨v, e, h⟩ := fndK_spec h
    obtain ⟨b, hb, hK⟩ := keepO_spec h
    exact ⟨(t, v) :: b, ⟨fndK_of e (by rw [renO_nil]; exact ObLe.refl v), hb⟩, hK⟩
theorem EnvLe.app {σ : Nat → Nat} {env : Env} : ∀ {l m : Env}, EnvLe σ env l → EnvLe σ env m → EnvLe σ env (l ++ m)
  | [], _, _, h => h
  | _ :: _, _, h, k => ⟨h.1, EnvLe.app h.2 k⟩
theorem ObsLe.app {σ : Nat → Nat} {obs : Obs} : ∀ {l m : Obs}, ObsLe σ obs l → ObsLe σ obs m → ObsLe σ obs (l ++ m)
  | [], _, _, h => h
  | _ :: _, _, h, k => ⟨h.1, ObsLe.app h.2 k⟩
theorem EnvLe.left {σ : Nat → Nat} {env : Env} : ∀ {l m : Env}, EnvLe σ env (l ++ m) → EnvLe σ env l
  | [], _, _ => trivial
  | _ :: _, _, h => ⟨h.1, EnvLe.left h.2⟩
theorem EnvLe.right {σ : Nat → Nat} {env : Env} : ∀ {l m : Env}, EnvLe σ env (l ++ m) → EnvLe σ env m
  | [], _, h => h
  | _ :: _, _, h => EnvLe.right h.2
theorem ObsLe.left {σ : Nat → Nat} {env : Obs} : ∀ {l m : Obs}, ObsLe σ env (l ++ m) → ObsLe σ env l
  | [], _, _ => trivial
  | _ :: _, _, h => ⟨h.1, ObsLe.left h.2⟩
theorem ObsLe.right {σ : Nat → Nat} {env : Obs} : ∀ {l m : Obs}, ObsLe σ env (l ++ m) → ObsLe σ env m
  | [], _, h => h
  | _ :: _, _, h => ObsLe.right h.2
/-- a round's end: the relation at a smaller measure; an object at the head may be another one now -/
structure NBack {ι : Type} (pin : Nat) (chg : ι → Env) (ob : ι → Obs) (μ : ι → Nat) (J : ι → Prop) (base : Env) (bo : Obs) (nx m : Nat) (env1 : Env) (obs1 : Obs) : Prop where
  h : ∃ i' l, J i' ∧ μ i' < m ∧ pinB pin l = true ∧ injB (sgm l) nx = true ∧ EnvLe (sgm l) env1 (chg i') ∧ EnvLe (sgm l) env1 base ∧ ObsLe (sgm l) obs1 (ob i') ∧ ObsLe (sgm l) obs1 bo
theorem NBack.at_ {ι : Type} {pin : Nat} {chg : ι → Env} {ob : ι → Obs} {μ : ι → Nat} {J : ι → Prop} {base : Env} {bo : Obs} {nx m : Nat} {env1 : Env} {obs1 : Obs} (i' : ι) (l : List (Nat × Nat)) (h1 : J i') (h2 : μ i' < m) (h3 : EnvLe (sgm l) env1 (chg i')) (h0 : injB (sgm l) nx = true) (h5 : ObsLe (sgm l) obs1 (ob i')) (h4 : EnvLe (sgm l) env1 base) (h6 : ObsLe (sgm l) obs1 bo) (hp : pinB pin l = true := by rfl) :
    NBack pin chg ob μ J base bo nx m env1 obs1 := ⟨⟨i', l, h1, h2, hp, h0, h3, h4, h5, h6⟩⟩
theorem injB_id : ∀ n : Nat, injB (sgm []) n = true := by
  have no : ∀ (n x : Nat), n ≤ x → memB (sgm [] x) ((iot n).map (sgm [])) = false := by
    intro n
    induction n with
    | zero => intro x _; rfl
    | succ n ih =>
      intro x hx
      unfold iot
      rw [List.map_cons]
      unfold memB
      have : Nat.beq (sgm [] x) (sgm [] n) = false := by
        rw [sgm_nil, sgm_nil]
        cases hb : Nat.beq x n
        · rfl
        · have := Nat.eq_of_beq_eq_true hb; omega
      rw [this]
      exact ih x (by omega)
  intro n
  induction n with
  | zero => rfl
  | succ n ih =>
    unfold injB iot
    rw [List.map_cons]
    unfold nodB
    rw [no n n (Nat.le_refl _)]
    exact ih
/-- a loop: what slots (chg) and objects (ob) are at each round's head, which slots and objects stay (keep, ko) -/
theorem NLoop.go {ws : List Nat} {pin : Nat} {body : Env → Obs → Nat → Kon → Prop} {env : Env} {obs : Obs} {nx : Nat} {K : Kon} {ι : Type} (chg : ι → Env) (ob : ι → Obs) (keep ko : List Nat) (μ : ι → Nat) (J : ι → Prop) (i0 : ι) (h0 : J i0)
    (he : EnvLe (sgm []) env (chg i0)) (ho : ObsLe (sgm []) obs (ob i0)) (hb : ∀ i, envB nx (chg i) = true ∧ obsB nx (ob i) = true)
    (hr : keepK env keep fun base => keepK obs ko fun bo => (envB nx base = true ∧ obsB nx bo = true) ∧ ∀ i, J i → appK (chg i) base fun E => appK (ob i) bo fun O => body E O nx fun e env1 obs1 nx1 => match e with
      | .nrm => NBack pin chg ob μ J base bo nx (μ i) env1 obs1
      | .exit n => K (.exit n) env1 obs1 nx1
      | .ret => K .ret env1 obs1 nx1) (hp : pin ≤ nx := by exact Nat.le_of_ble_eq_true rfl) : NLoop ws pin body env obs nx K := by
  obtain ⟨base, hbase, hr⟩ := keepE_spec hr
  obtain ⟨bo, hbo, ⟨q1, q2⟩, hr⟩ := keepO_spec hr
  refine ⟨⟨ι, fun i => (chg i ++ base, ob i ++ bo), μ, J, i0, nx, hp, h0, injB_id nx, he.app hbase, ho.app hbo, fun i => ⟨?_, ?_⟩, fun i hi => ?_⟩⟩
  · simp only [envB, List.all_append, Bool.and_eq_true]; exact ⟨(hb i).1, q1⟩
  · simp only [obsB, List.all_append, Bool.and_eq_true]; exact ⟨(hb i).2, q2⟩
  · have := appK_spec (appK_spec (hr i hi))
    refine cast ?_ this
    congr 1
    funext e env1 obs1 nx1
    cases e
    · apply propext
      constructor
      · rintro ⟨i', l, a, b, p, c, d, e, f, g⟩; exact ⟨i', l, a, b, p, c, d.app e, f.app g⟩
      · rintro ⟨i', l, a, b, p, c, d, e⟩
        exact ⟨i', l, a, b, p, c, d.left, d.right, e.left, e.right⟩
    · rfl
    · rfl
/-- all slots that a loop does not write, all objects that are not told to change -/
def autoK (ws is : List Nat) : Env → (Env → Prop) → Prop
  | [], K => K []
  | (t, v) :: r, K => match memB t ws with
    | true => autoK ws is r K
    | false => match v with
      | .tup _ => autoK (t :: ws) is r K
      | .one (.ref i) => match memB i is with
        | true => autoK (t :: ws) is r K
        | false => autoK (t :: ws) is r fun l => K ((t, .one (.ref i)) :: l)
      | v => autoK (t :: ws) is r fun l => K ((t, v) :: l)
def autoO (ws : List Nat) : Obs → (Obs → Prop) → Prop
  | [], K => K []
  | (t, o) :: r, K => match memB t ws with
    | true => autoO ws r K
    | false => match o with
      | .gone => autoO (t :: ws) r K
      | o => autoO (t :: ws) r fun l => K ((t, o) :: l)
theorem fndK_skip {α : Type} {l : List (Nat × α)} {t u : Nat} {v x : α} (h : t ≠ u) (e : fnd l t = some v) : fnd ((u, x) :: l) t = some v := by
  unfold fnd
  cases hb : Nat.beq u t
  · exact e
  · exact absurd (Nat.eq_of_beq_eq_true hb).symm h
theorem fnd_top {α : Type} {l : List (Nat × α)} {t : Nat} {v : α} : fnd ((t, v) :: l) t = some v := by
  unfold fnd; rw [Nat.beq_refl]
theorem memB_ne {x y : Nat} {l : List Nat} (hx : memB x l = true) (hy : memB y l = false) : y ≠ x := by
  rintro rfl; rw [hx] at hy; cases hy
theorem memB_self {t : Nat} {ws : List Nat} : memB t (t :: ws) = true := by unfold memB; rw [Nat.beq_refl]
theorem memB_cons {x t : Nat} {ws : List Nat} (h : memB x (t :: ws) = false) : memB x ws = false ∧ x ≠ t := by
  unfold memB at h
  cases hb : Nat.beq x t
  · rw [hb] at h; exact ⟨h, fun e => by subst e; rw [Nat.beq_refl] at hb; cases hb⟩
  · rw [hb] at h; cases h
theorem autoE_spec {env : Env} {is : List Nat} : ∀ {r : Env} {ws : List Nat} {K : Env → Prop}, (∀ t v, memB t ws = false → fnd r t = some v → fnd env t = some v) → autoK ws is r K → ∃ b, EnvLe (sgm []) env b ∧ K b
  | [], ws, K, _, h => ⟨[], trivial, h⟩
  | (t, v) :: r, ws, K, hs, h => by
    unfold autoK at h
    cases hm : memB t ws
    · simp only [hm] at h
      have hs' : ∀ u x, memB u (t :: ws) = false → fnd r u = some x → fnd env u = some x := fun u x hu hx =>
        hs u x (memB_cons hu).1 (fndK_skip (memB_cons hu).2 hx)
      have one : ∀ v', v' = v → (autoK (t :: ws) is r fun l => K ((t, v') :: l)) → ∃ b, EnvLe (sgm []) env b ∧ K b := fun v' e h2 => by
        subst e
        obtain ⟨b, hb, hK⟩ := autoE_spec hs' h2
        exact ⟨(t, v') :: b, ⟨fndK_of (hs t v' hm fnd_top) (.of (renS_nil v').symm), hb⟩, hK⟩
      cases v with
      | tup l => exact autoE_spec hs' h
      | one a =>
        cases a with
        | ref i =>
          simp only at h
          cases hi : memB i is <;> simp only [hi] at h
          · exact one _ rfl h
          · exact autoE_spec hs' h
        | _ => exact one _ rfl h
      | agg l => exact one _ rfl h
    · simp only [hm] at h
      exact autoE_spec (fun u x hu hx => hs u x hu (fndK_skip (memB_ne hm hu) hx)) h
theorem autoO_spec {env : Obs} : ∀ {r : Obs} {ws : List Nat} {K : Obs → Prop}, (∀ t v, memB t ws = false → fnd r t = some v → fnd env t = some v) → autoO ws r K → ∃ b, ObsLe (sgm []) env b ∧ K b
  | [], ws, K, _, h => ⟨[], trivial, h⟩
  | (t, v) :: r, ws, K, hs, h => by
    unfold autoO at h
    cases hm : memB t ws
    · simp only [hm] at h
      have hs' : ∀ u x, memB u (t :: ws) = false → fnd r u = some x → fnd env u = some x := fun u x hu hx =>
        hs u x (memB_cons hu).1 (fndK_skip (memB_cons hu).2 hx)
      have one : ∀ v', v' = v → (autoO (t :: ws) r fun l => K ((t, v') :: l)) → ∃ b, ObsLe (sgm []) env b ∧ K b := fun v' e h2 => by
        subst e
        obtain ⟨b, hb, hK⟩ := autoO_spec hs' h2
        exact ⟨(t, v') :: b, ⟨fndK_of (hs t v' hm fnd_top) (by rw [renO_nil]; exact ObLe.refl v'), hb⟩, hK⟩
      cases v with
      | gone => exact autoO_spec hs' h
      | _ => exact one _ rfl h
    · simp only [hm] at h
      exact autoO_spec (fun u x hu hx => hs u x hu (fndK_skip (memB_ne hm hu) hx)) h
def keysK {α : Type} : List (Nat × α) → List Nat → (List Nat → Prop) → Prop
  | [], ws, K => K ws
  | (t, _) :: r, ws, K => keysK r (t :: ws) K
theorem keysK_spec {α : Type} : ∀ {l : List (Nat × α)} {ws : List Nat} {K : List Nat → Prop}, keysK l ws K → ∃ ws', K ws'
  | [], ws, _, h => ⟨ws, h⟩
  | (t, _) :: r, _, _, h => keysK_spec (l := r) h
/-- a list, cell by cell -/
def litK (l : List Nat) : (List Nat → Prop) → Prop :=
  @List.rec Nat (fun _ => (List Nat → Prop) → Prop) (fun K => K []) (fun x _ ih K => ih fun l => K (x :: l)) l
theorem litK_eq : ∀ {l : List Nat} {K : List Nat → Prop}, litK l K = K l
  | [], _ => rfl
  | x :: r, K => litK_eq (l := r) (K := fun l => K (x :: l))
/-- a loop: what slots (chg) and objects (ob) are at each round's head; whatever the loop does not write stays; dr: slots, dro: objects that are let go -/
theorem NLoop.auto {ws : List Nat} {pin : Nat} {body : Env → Obs → Nat → Kon → Prop} {env : Env} {obs : Obs} {nx : Nat} {K : Kon} {ι : Type} (chg : ι → Env) (ob : ι → Obs) (dr dro : List Nat) (μ : ι → Nat) (J : ι → Prop) (i0 : ι) (h0 : J i0)
    (he : EnvLe (sgm []) env (chg i0)) (ho : ObsLe (sgm []) obs (ob i0)) (hb : ∀ i, envB nx (chg i) = true ∧ obsB nx (ob i) = true)
    (hr : litK (dr ++ ws) fun ws0 => keysK (chg i0) ws0 fun ws1 => keysK (ob i0) [] fun is => autoK ws1 is env fun base => keysK (ob i0) dro fun ws2 => autoO ws2 obs fun bo => (envB nx base = true ∧ obsB nx bo = true) ∧ ∀ i, J i → appK (chg i) base fun E => appK (ob i) bo fun O => body E O nx fun e env1 obs1 nx1 => match e with
      | .nrm => NBack pin chg ob μ J base bo nx (μ i) env1 obs1
      | .exit n => K (.exit n) env1 obs1 nx1
      | .ret => K .ret env1 obs1 nx1) (hp : pin ≤ nx := by exact Nat.le_of_ble_eq_true rfl) : NLoop ws pin body env obs nx K := by
  rw [litK_eq] at hr
  obtain ⟨ws1, hr⟩ := keysK_spec hr
  obtain ⟨is, hr⟩ := keysK_spec hr
  obtain ⟨base, hbase, hr⟩ := autoE_spec (fun _ _ _ h => h) hr
  obtain ⟨ws2, hr⟩ := keysK_spec hr
  obtain ⟨bo, hbo, ⟨q1, q2⟩, hr⟩ := autoO_spec (fun _ _ _ h => h) hr
  refine ⟨⟨ι, fun i => (chg i ++ base, ob i ++ bo), μ, J, i0, nx, hp, h0, injB_id nx, he.app hbase, ho.app hbo, fun i => ⟨?_, ?_⟩, fun i hi => ?_⟩⟩
  · simp only [envB, List.all_append, Bool.and_eq_true]; exact ⟨(hb i).1, q1⟩
  · simp only [obsB, List.all_append, Bool.and_eq_true]; exact ⟨(hb i).2, q2⟩
  · have := appK_spec (appK_spec (hr i hi))
    refine cast ?_ this
    congr 1
    funext e env1 obs1 nx1
    cases e
    · apply propext
      constructor
      · rintro ⟨i', l, a, b, p, c, d, e, f, g⟩; exact ⟨i', l, a, b, p, c, d.app e, f.app g⟩
      · rintro ⟨i', l, a, b, p, c, d, e⟩
        exact ⟨i', l, a, b, p, c, d.left, d.right, e.left, e.right⟩
    · rfl
    · rfl
/-- a way's end, where two ways meet -/
structure NMeet {ι : Type} (pin : Nat) (chg : ι → Env) (ob : ι → Obs) (J : ι → Prop) (base : Env) (bo : Obs) (nx : Nat) (env1 : Env) (obs1 : Obs) : Prop where
  h : ∃ i l, J i ∧ pinB pin l = true ∧ injB (sgm l) nx = true ∧ EnvLe (sgm l) env1 (chg i) ∧ EnvLe (sgm l) env1 base ∧ ObsLe (sgm l) obs1 (ob i) ∧ ObsLe (sgm l) obs1 bo
theorem NMeet.at_ {ι : Type} {pin : Nat} {chg : ι → Env} {ob : ι → Obs} {J : ι → Prop} {base : Env} {bo : Obs} {nx : Nat} {env1 : Env} {obs1 : Obs} (i : ι) (l : List (Nat × Nat)) (h1 : J i) (h3 : EnvLe (sgm l) env1 (chg i)) (h0 : injB (sgm l) nx = true) (h5 : ObsLe (sgm l) obs1 (ob i)) (h4 : EnvLe (sgm l) env1 base) (h6 : ObsLe (sgm l) obs1 bo) (hp : pinB pin l = true := by rfl) :
    NMeet pin chg ob J base bo nx env1 obs1 := ⟨⟨i, l, h1, hp, h0, h3, h4, h5, h6⟩⟩
/-- two ways that meet: what slots (chg) and objects (ob) are then; whatever is not written on them stays -/
theorem NCond.auto {p : Prop} {ws : List Nat} {pin : Nat} {A B : Kon → Prop} {env : Env} {obs : Obs} {nx : Nat} {K : Kon} {ι : Type} (chg : ι → Env) (ob : ι → Obs) (dr dro : List Nat) (J : ι → Prop) (m : Nat) (i0 : ι) (hb : ∀ i, envB m (chg i) = true ∧ obsB m (ob i) = true)
    (hr : litK (dr ++ ws) fun ws0 => keysK (chg i0) ws0 fun ws1 => keysK (ob i0) [] fun is => autoK ws1 is env fun base => keysK (ob i0) dro fun ws2 => autoO ws2 obs fun bo => (envB m base = true ∧ obsB m bo = true) ∧
      NIf p (A fun e env1 obs1 nx1 => match e with
        | .nrm => NMeet pin chg ob J base bo m env1 obs1
        | .exit n => K (.exit n) env1 obs1 nx1
        | .ret => K .ret env1 obs1 nx1) (B fun e env1 obs1 nx1 => match e with
        | .nrm => NMeet pin chg ob J base bo m env1 obs1
        | .exit n => K (.exit n) env1 obs1 nx1
        | .ret => K .ret env1 obs1 nx1) ∧ ∀ i, J i → appK (chg i) base fun E => appK (ob i) bo fun O => K .nrm E O m) (hp : pin ≤ m := by exact Nat.le_of_ble_eq_true rfl) : NCond p ws pin A B env obs nx K := by
  rw [litK_eq] at hr
  obtain ⟨ws1, hr⟩ := keysK_spec hr
  obtain ⟨is, hr⟩ := keysK_spec hr
  obtain ⟨base, hbase, hr⟩ := autoE_spec (fun _ _ _ h => h) hr
  obtain ⟨ws2, hr⟩ := keysK_spec hr
  obtain ⟨bo, hbo, ⟨q1, q2⟩, ⟨ht, hf⟩, hk⟩ := autoO_spec (fun _ _ _ h => h) hr
  have same : (fun e env1 obs1 nx1 => match e with
        | .nrm => NMeet pin chg ob J base bo m env1 obs1
        | .exit n => K (.exit n) env1 obs1 nx1
        | .ret => K .ret env1 obs1 nx1) = meetK pin m (fun i => (chg i ++ base, ob i ++ bo)) J K := by
    funext e env1 obs1 nx1
    cases e
    · apply propext
      constructor
      · rintro ⟨i, l, a, p, c, d, e, f, g⟩; exact ⟨i, l, a, p, c, d.app e, f.app g⟩
      · rintro ⟨i, l, a, p, c, d, e⟩; exact ⟨⟨i, l, a, p, c, d.left, d.right, e.left, e.right⟩⟩
    · rfl
    · rfl
  rw [same] at ht hf
  refine .join ι (fun i => (chg i ++ base, ob i ++ bo)) m J hp (fun i => ⟨?_, ?_⟩) ⟨ht, hf⟩ fun i hi => appK_spec (appK_spec (hk i hi))
  · simp only [envB, List.all_append, Bool.and_eq_true]; exact ⟨(hb i).1, q1⟩
  · simp only [obsB, List.all_append, Bool.and_eq_true]; exact ⟨(hb i).2, q2⟩
/-- no operation makes memory or writes it (calls: of contracts that answer values) -/
def quietB (T : TT) (all : List Oper) : Bool := all.all fun o => match kindK T o.op with | 0 => true | 3 => true | _ => false
theorem NDraw.q {P : Program} {T : TT} {sz pin : Nat} {all : List Oper} {env : Env} {obs : Obs} {nx : Nat} {K : Env → Obs → Nat → Prop} (hq : quietB T all = true) (lex : Region.lexB .any all.toArray = true) (h : opsK P T sz true all all env obs nx K) : NDraw P T sz pin all env obs nx K := .mk lex h
/-- the first order's end is what all end in; another one's, but for names -/
theorem NJoin.first {pin m n : Nat} {E env : Env} {O obs : Obs} (h : autoK [] [] env fun E' => autoO [] obs fun O' => E = E' ∧ O = O' ∧ m = n) : NJoin pin m E O env obs n := by
  obtain ⟨b, hb, h⟩ := autoE_spec (fun _ _ _ h => h) h
  obtain ⟨c, hc, h1, h2, _⟩ := autoO_spec (fun _ _ _ h => h) h
  subst h1 h2
  exact ⟨⟨[], rfl, injB_id _, hb, hc⟩⟩
theorem NJoin.by_ {pin m n : Nat} {E env : Env} {O obs : Obs} (l : List (Nat × Nat)) (h1 : pinB pin l = true) (h2 : injB (sgm l) m = true) (h3 : EnvLe (sgm l) env E) (h4 : ObsLe (sgm l) obs O) : NJoin pin m E O env obs n := ⟨⟨l, h1, h2, h3, h4⟩⟩
theorem NTF.dec {p : Prop} [Decidable p] {K : Bool → Prop} (h : K (decide p)) : NTF p K := ⟨fun b hb => by
  have e : b = decide p := by rw [Bool.eq_iff_iff, hb]; simp
  rw [e]; exact h⟩
theorem NTF.yes {p : Prop} {K : Bool → Prop} (hp : p) (h : K true) : NTF p K := ⟨fun b hb => by rw [hb.2 hp]; exact h⟩
theorem NTF.no {p : Prop} {K : Bool → Prop} (hp : ¬ p) (h : K false) : NTF p K := ⟨fun b hb => by
  have e : b = false := by rw [Bool.eq_false_iff]; exact fun q => hp (hb.1 q)
  rw [e]; exact h⟩
end Go.Proofs.Yteblbhbfdfifpaa.V
