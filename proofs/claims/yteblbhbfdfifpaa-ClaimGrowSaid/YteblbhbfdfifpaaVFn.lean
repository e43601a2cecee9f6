/- The walk by verification conditions: whole functions, contracts, and how a contract is used at a call. -/
import Derived.Test.YteblbhbfdfifpaaVCode
namespace Go.Proofs.Yteblbhbfdfifpaa.V
open Go Go.RowKit
set_option linter.unusedVariables false
set_option linter.unusedSimpArgs false
set_option linter.unusedSectionVars false

def argEnv : Nat → List SV → Env
  | _, [] => []
  | i, v :: r => (i, v) :: argEnv (i + 1) r
def resK (T : TT) (env : Env) (obs : Obs) : List ResultVar → (List SV → Prop) → Prop
  | [], K => K []
  | .tmp t :: r, K => fndK env t fun v => match v with
    | .one a => resK T env obs r fun l => K (.one a :: l)
    | .agg c => resK T env obs r fun l => K (.agg c :: l)
    | .tup _ => False
  | .cell t ty :: r, K => fndK env t fun v => match v with
    | .one (.ptr i k j s) => fndK T ty fun y => fndK obs i fun o => elemK y k j s (fun u => match u with
      | .one a => resK T env obs r fun l => K (.one a :: l)
      | .agg c => resK T env obs r fun l => K (.agg c :: l)
      | .tup _ => False) o
    | _ => False
def fnK (T : TT) (rs : List ResultVar) (R : SV → Obs → Nat → Prop) : Kon := fun e env obs nx => match e with
  | .nrm | .ret => resK T env obs rs fun l => match l with
    | [v] => R v obs nx
    | l => R (.tup l) obs nx
  | .exit _ => False

theorem Svs.length {ρ : Rho} : ∀ {l : List SV} {x : List Value}, Svs ρ l x → x.length = l.length
  | [], _, h => by rw [h]; rfl
  | _ :: _, _, ⟨a, r, hx, ha, hr⟩ => by rw [hx, List.length_cons, List.length_cons, Svs.length hr]
def resF (tmps : Array Value) : ResultVar → Sem Value
  | .tmp t => pure (tmps.getD t undef)
  | .cell a t => do loadVar t (← asAddr (tmps.getD a undef))
theorem results_eq (fn : Func) (tmps : Array Value) : results fn tmps = (do let vs ← fn.results.mapM (resF tmps); pure (if h : vs.size = 1 then vs[0] else .tuple vs)) := by
  unfold results
  have e : (fun r => match r with | ResultVar.tmp t => (pure (tmps.getD t undef) : Sem Value) | .cell a t => do loadVar t (← asAddr (tmps.getD a undef))) = resF tmps := by
    funext r; cases r <;> rfl
  rw [← e]
  rfl
theorem run_mapM_cons {P : Program} {α : Type} {f : α → Sem Value} {x : α} {r : List α} {y : Value} {ys : List Value} {w : World} (h1 : (f x).run P w = .ok y w) (h2 : (r.mapM f).run P w = .ok ys w) : ((x :: r).mapM f).run P w = .ok (y :: ys) w := by
  rw [List.mapM_cons]
  simp [Sem.run_bind, h1, h2]
section
variable {P : Program} {T : TT} {sz : Nat} {ρ : Rho} {env : Env} {a : Act} {B nx : Nat} {obs : Obs} {w : World} (hT : TTok P T) (hE : EnvR sz ρ env a) (hC : Cls B ρ obs nx w)
include hT hE hC
theorem resK_spec : ∀ {rs : List ResultVar} {K : List SV → Prop}, resK T env obs rs K → ∃ l xs, K l ∧ Svs ρ l xs ∧
    (rs.mapM (resF a.tmps)).run P w = .ok xs w
  | [], K, h => ⟨[], [], h, rfl, rfl⟩
  | .tmp t :: r, K, h => by
    unfold resK at h
    obtain ⟨v, e, h⟩ := fndK_spec h
    obtain ⟨x, ex, hv⟩ := hE.env t v e
    have e2 : a.tmps.getD t undef = x := by simp [Array.getD_eq_getD_getElem?, ex]
    split at h
    · obtain ⟨l, xs, hK, hs, hr⟩ := resK_spec h
      exact ⟨_, x :: xs, hK, ⟨x, xs, rfl, hv, hs⟩, run_mapM_cons (by simp only [resF, e2, Sem.run_pure]) hr⟩
    · obtain ⟨l, xs, hK, hs, hr⟩ := resK_spec h
      exact ⟨_, x :: xs, hK, ⟨x, xs, rfl, hv, hs⟩, run_mapM_cons (by simp only [resF, e2, Sem.run_pure]) hr⟩
    · exact h.elim
  | .cell t ty :: r, K, h => by
    unfold resK at h
    obtain ⟨v, e, h⟩ := fndK_spec h
    obtain ⟨x, ex, hv⟩ := hE.env t v e
    have e2 : a.tmps.getD t undef = x := by simp [Array.getD_eq_getD_getElem?, ex]
    split at h
    · rename_i i k j s
      obtain ⟨a0, hb, hx⟩ := hv
      obtain ⟨y, ey, h⟩ := fndK_spec h
      obtain ⟨o, eo, h⟩ := fndK_spec h
      obtain ⟨u, z, hu, h, hl⟩ := load_spec hC eo (hT.get ey) h
      have hl := hl w hC a0 hb
      split at h
      · obtain ⟨l, xs, hK, hs, hr⟩ := resK_spec h
        exact ⟨_, z :: xs, hK, ⟨z, xs, rfl, hu, hs⟩, run_mapM_cons (by simp only [resF, Sem.run_bind, Sem.run_pure, Result.andThen_ok, e2, hx, asAddr, hl]) hr⟩
      · obtain ⟨l, xs, hK, hs, hr⟩ := resK_spec h
        exact ⟨_, z :: xs, hK, ⟨z, xs, rfl, hu, hs⟩, run_mapM_cons (by simp only [resF, Sem.run_bind, Sem.run_pure, Result.andThen_ok, e2, hx, asAddr, hl]) hr⟩
      · exact h.elim
    · exact h.elim
theorem results_spec {fn : Func} {R : SV → Obs → Nat → Prop} (h : resK T env obs fn.results.toList fun l => match l with
    | [v] => R v obs nx
    | l => R (.tup l) obs nx) : ∃ v x, R v obs nx ∧ v.is ρ x ∧ (results fn a.tmps).run P w = .ok x w := by
  obtain ⟨l, xs, hK, hs, hr⟩ := resK_spec hT hE hC h
  have hm : (fn.results.mapM (resF a.tmps)).run P w = .ok xs.toArray w := by
    rw [Array.mapM_eq_mapM_toList]
    simp [Sem.run_map, hr]
  rw [results_eq]
  split at hK
  · rename_i v
    obtain ⟨x, r, rfl, hv, hr'⟩ := hs
    have e : r = [] := hr'
    subst e
    refine ⟨v, x, hK, SV.is_of1 hv, ?_⟩
    rw [Sem.run_bind, hm]
    simp
  · rename_i hn
    refine ⟨_, .tuple xs.toArray, hK, ⟨xs, hs, rfl⟩, ?_⟩
    rw [Sem.run_bind, hm]
    have hl : xs.length ≠ 1 := by
      intro e
      have : l.length = xs.length := hs.length.symm
      match l, this with
      | [v], _ => exact hn v rfl
      | [], q => simp [e] at q
      | _ :: _ :: _, q => simp [e] at q
    simp [hl]
end
theorem argEnv_get {ρ : Rho} : ∀ {l : List SV} {xs : List Value} {i t : Nat} {v : SV}, Svs ρ l xs → fnd (argEnv i l) t = some v → ∃ x, i ≤ t ∧ xs[t - i]? = some x ∧ v.is ρ x
  | [], _, _, _, _, _, h => by cases h
  | u :: l, _, i, t, v, ⟨x, r, hx, hu, hr⟩, h => by
    rcases fnd_cons h with ⟨rfl, rfl⟩ | ⟨hn, h⟩
    · exact ⟨x, Nat.le_refl _, by rw [hx]; simp, SV.is_of1 hu⟩
    · obtain ⟨y, hle, hy, hv⟩ := argEnv_get hr h
      refine ⟨y, by omega, ?_, hv⟩
      rw [hx, show t - i = (t - (i + 1)) + 1 by omega]
      simpa using hy
/-- a mark's block, shut -/
theorem heap_shut {w : World} {D b : Nat} {l : Option (List Deferred)} {o o' : Obj} (hD : w.heap[D]? = some (.deferred l)) (hb : w.heap[b]? = some o) (hne : ∀ l, o ≠ .deferred l) : (w.putObj D o').heap[b]? = some o := by
  rw [World.putObj_heap_other]
  · exact hb
  · intro e; subst e; rw [hD] at hb; injection hb with hb; exact hne l hb.symm
theorem cell_shut {w : World} {D : Nat} {l : Option (List Deferred)} {o' : Obj} (hD : w.heap[D]? = some (.deferred l)) {a : Addr} {v : Value} (h : w.cell? a = some v) : (w.putObj D o').cell? a = some v := by
  rw [← h]
  refine World.cell?_of_block (World.putObj_heap_other fun e => ?_)
  unfold World.cell? at h
  rw [e, hD] at h; cases h
theorem Cls.shut {B nx : Nat} {ρ : Rho} {obs : Obs} {w : World} {D : Nat} {l : Option (List Deferred)} (h : Cls B ρ obs nx w) (hD : w.heap[D]? = some (.deferred l)) (o : Obj) : Cls B ρ obs nx (w.putObj D o) := by
  refine ⟨by rw [World.putObj_size]; exact h.le, fun i u hu => ?_, h.apart, h.new⟩
  have hs := h.sat i u hu
  cases u with
  | box t l => obtain ⟨b', cs, e, hB, hl, hh⟩ := hs; exact ⟨b', cs, e, hB, hl, heap_shut hD hh (fun _ q => by cases q)⟩
  | lit t s rows => obtain ⟨b', cs, e, hB, h1, h2, h3, hh⟩ := hs; exact ⟨b', cs, e, hB, h1, h2, h3, heap_shut hD hh (fun _ q => by cases q)⟩
  | arr s n get =>
    obtain ⟨v, e, A, c, ev, h1, h2, hh⟩ := hs
    refine ⟨v, e, A, c, ev, h1, h2, fun k hk => ?_⟩
    obtain ⟨a, ea, hlt, hl, hc⟩ := hh k hk
    exact ⟨a, ea, by rw [World.putObj_size]; exact hlt, hl, fun j u hu => cell_shut hD (hc j u hu)⟩
  | cel l =>
    obtain ⟨v, e, a, ev, hlt, hc⟩ := hs
    exact ⟨v, e, a, ev, by rw [World.putObj_size]; exact hlt, fun j u hu => cell_shut hD (hc j u hu)⟩
  | row t s n get =>
    obtain ⟨v, e, A, c, ev, h1, h2, hh⟩ := hs
    refine ⟨v, e, A, c, ev, h1, h2, ?_⟩
    rcases hh with q | ⟨g, cur, q1, q2, hg, r⟩
    · exact .inl q
    · exact .inr ⟨g, cur, q1, q2, heap_shut hD hg (fun _ q => by cases q), r⟩
  | lp L env st => obtain ⟨l, fn, tmps, D', e, hB, hh, r⟩ := hs; exact ⟨l, fn, tmps, D', e, hB, heap_shut hD hh (fun _ q => by cases q), r⟩
  | gone => trivial
/-- what is left to do at a function's end: its marks, one by one -/
theorem leaves_marks {P : Program} {fn : Func} {tmps : Array Value} {R : Ending → World → Prop} {B nx : Nat} {ρ : Rho} {obs : Obs} {v : World} : ∀ (Ds : List Nat) (w : World), Ds.Nodup → (∀ D ∈ Ds, B ≤ D ∧ v.heap.size ≤ D ∧ w.heap[D]? = some (.deferred (some []))) → Cls B ρ obs nx w → Below B v w → Oth v w →
    (∀ w', Cls B ρ obs nx w' → Below B v w' → Oth v w' → ∃ x, (results fn tmps).run P w' = .ok x w' ∧ R (.returned x) w') → LeavesInM Fence.wide 0 P fn tmps R (Ds.map fun D => { target := .collected D, args := #[] }) .returning w
  | [], w, _, _, hC, hb, ho, h => h w hC hb ho
  | D :: Ds, w, hn, hd, hC, hb, ho, h => by
    obtain ⟨h1, h2, h3⟩ := hd D (by simp)
    rw [List.nodup_cons] at hn
    refine ⟨by simp, .inl ⟨D, _, rfl, run_takeDeferred h3, ?_⟩⟩
    refine leaves_marks Ds _ hn.2 (fun E hE => ?_) (hC.shut h3 _) ⟨hb.os, hb.tape, hb.output, by rw [World.putObj_size]; exact hb.size, fun k hk => (World.putObj_heap_other (by omega)).trans (hb.block k hk)⟩ (fun k q hq => ?_) h
    · obtain ⟨a, b, c⟩ := hd E (by simp [hE])
      exact ⟨a, b, (World.putObj_heap_other (fun e => hn.1 (by rw [← e]; exact hE))).trans c⟩
    · have := (Array.getElem?_eq_some_iff.1 hq).1
      exact (World.putObj_heap_other (by omega)).trans (ho k q hq)
/-- a whole function -/
theorem fn_sound_pin {P : Program} {T : TT} (hT : TTok P T) (hm : P.follows .mixedOrders = true) {f : FuncId} {fn : Func} {c : Code} (hf : P.funcs[f]? = some fn) (hb : fn.body = some c) {sz : Nat} (hs : fn.ntmps = sz) {args : List SV} (hsz : Nat.ble args.length sz = true)
    {obs : Obs} {pin nx B : Nat} {R : SV → Obs → Nat → Prop} (h : vc P T sz pin c (argEnv 0 args) obs nx (fnK T fn.results.toList R)) {w : World} {ρ : Rho} {xs : Array Value} (hC : Cls B ρ obs nx w) (ha : Svs ρ args xs.toList) :
    Calls P f xs w fun e w' => ∃ ρ' v obs' nx' x, R v obs' nx' ∧ e = .returned x ∧ v.is ρ' x ∧ Cls B ρ' obs' nx' w' ∧ Below B w w' ∧ (∀ i y, i < pin → ρ i = some y → ρ' i = some y) ∧ Oth w w' := by
  subst hs
  have hlen : xs.size ≤ fn.ntmps := by
    have h1 := ha.length
    have h2 := Nat.le_of_ble_eq_true hsz
    simp at h1; omega
  have hx : ∀ ρ1 ds w1, Wy B ⟨w, ρ, pin⟩ ρ1 ds w1 → ∀ i y, i < pin → ρ i = some y → ρ1 i = some y := fun ρ1 ds w1 hW i y hi hy => hW.e i y hi hy
  refine (callsIn_wide (n := 0)).1 (callsIn_of_wp_marks (F := Fence.wide) hf hb trivial (wpIn_mono (vc_sound (ro := none) (n := 0) (w0 := ⟨w, ρ, pin⟩) hT hm c (.inl rfl) h ⟨by simp; omega, fun t v ht => ?_⟩ hC ⟨Below.refl _ _, Oth.refl _, fun _ _ _ h => h, [], rfl, List.nodup_nil, by simp⟩) ?_))
  · obtain ⟨x, _, hx, hv⟩ := argEnv_get ha ht
    refine ⟨x, ?_, hv⟩
    have hlt : t < xs.size := by
      have := (List.getElem?_eq_some_iff.1 hx).1
      simpa using this
    rw [Array.getElem?_append_left hlt]
    simpa using hx
  · intro e a1 w1 q
    have fin : ∀ (K : Env → Obs → Nat → Prop), (∀ env1 obs1 nx1, K env1 obs1 nx1 → fnK T fn.results.toList R .ret env1 obs1 nx1) → Nx B ⟨w, ρ, pin⟩ fn.ntmps K a1 w1 → bodyPostM Fence.wide 0 P fn (fun e w' => ∃ ρ' v obs' nx' x, R v obs' nx' ∧ e = .returned x ∧ v.is ρ' x ∧ Cls B ρ' obs' nx' w' ∧ Below B w w' ∧ (∀ i y, i < pin → ρ i = some y → ρ' i = some y) ∧ Oth w w') .ret a1 w1 := by
      rintro K hK ⟨ρ1, env1, obs1, nx1, hk, hE1, hC1, hW1⟩
      obtain ⟨Ds, hd, hn, hD⟩ := hW1.m
      show LeavesInM Fence.wide 0 P fn a1.tmps _ a1.defers .returning w1
      rw [hd]
      refine leaves_marks Ds w1 hn hD hC1 hW1.b hW1.o fun w' hC' hb' ho' => ?_
      obtain ⟨v, x, hR, hv, hr⟩ := results_spec (nx := nx1) hT hE1 hC' (hK _ _ _ hk)
      exact ⟨x, hr, ρ1, v, obs1, nx1, x, hR, rfl, hv, hC', hb', hx _ _ _ hW1, ho'⟩
    cases e with
    | normal => exact fin _ (fun _ _ _ q => q) q
    | ret => exact fin _ (fun _ _ _ q => q) q
    | exit i => obtain ⟨ρ1, env1, obs1, nx1, hk, _⟩ := q; exact hk.elim
    | goto l => exact q
    | panic c => exact (show False from q).elim
    | outgrown => exact (show False from q).elim
theorem fn_sound {P : Program} {T : TT} (hT : TTok P T) (hm : P.follows .mixedOrders = true) {f : FuncId} {fn : Func} {c : Code} (hf : P.funcs[f]? = some fn) (hb : fn.body = some c) {sz : Nat} (hs : fn.ntmps = sz) {args : List SV} (hsz : Nat.ble args.length sz = true)
    {obs : Obs} {nx B : Nat} {R : SV → Obs → Nat → Prop} (h : vc P T sz nx c (argEnv 0 args) obs nx (fnK T fn.results.toList R)) {w : World} {ρ : Rho} {xs : Array Value} (hC : Cls B ρ obs nx w) (ha : Svs ρ args xs.toList) :
    Calls P f xs w fun e w' => ∃ ρ' v obs' nx' x, R v obs' nx' ∧ e = .returned x ∧ v.is ρ' x ∧ Cls B ρ' obs' nx' w' ∧ Below B w w' ∧ (∀ i y, ρ i = some y → ρ' i = some y) ∧ Oth w w' :=
  (fn_sound_pin hT hm hf hb hs hsz h hC ha).mono fun e w' ⟨ρ', v, obs', nx', x, hR, he, hv, hC', hb', hx, ho⟩ => ⟨ρ', v, obs', nx', x, hR, he, hv, hC', hb', fun i y hy => (by
    by_cases hi : i < nx
    · exact hx i y hi hy
    · rw [hC.new i (by omega)] at hy; cases hy), ho⟩
/-- a call whose callee is walked in place: it may write the caller's objects -/
theorem NCall.inl {P : Program} {T : TT} (hT : TTok P T) (hm : P.follows .mixedOrders = true) {f : FuncId} {fn : Func} {c : Code} (hf : P.funcs[f]? = some fn) (hb : fn.body = some c) {sz : Nat} (hs : fn.ntmps = sz) {args : List SV}
    (hB : hasBody P f = true) (hsz : Nat.ble args.length sz = true) {obs : Obs} {nx : Nat} {K : SV → Obs → Nat → Prop} (h : vc P T sz nx c (argEnv 0 args) obs nx (fnK T fn.results.toList K)) : NCall P f args obs nx K :=
  ⟨hB, fun B ρ w xs hC ha => (fn_sound hT hm hf hb hs hsz h hC (xs := xs.toArray) (by simpa using ha)).mono fun e w' ⟨ρ', v, obs', nx', x, hR, he, hv, hC', hb, hx, ho⟩ => ⟨v, obs', nx', ρ', x, hR, hx, he, hv, hC', hb, ho⟩⟩

/-! contracts -/
/-- the value that a symbolic value stands for, whatever the objects -/
def FinL1 : List At → List Value → Prop
  | [], [] => True
  | a :: l, x :: r => (match a with
    | .val v => v = x
    | .tf b => Value.bool b = x
    | .prop p => ∃ b, x = .bool b ∧ (p ↔ b = true)
    | _ => False) ∧ FinL1 l r
  | _, _ => False
def Fin1 : SV → Value → Prop
  | .one (.val v), x => v = x
  | .one (.tf b), x => Value.bool b = x
  | .one (.prop p), x => ∃ b, x = .bool b ∧ (p ↔ b = true)
  | .agg l, .agg cs => FinL1 l cs.toList
  | _, _ => False
def FinL : List SV → List Value → Prop
  | [], [] => True
  | a :: l, x :: r => Fin1 a x ∧ FinL l r
  | _, _ => False
def Fin : SV → Value → Prop
  | .tup l, .tuple cs => FinL l cs.toList
  | .tup _, _ => False
  | v, x => Fin1 v x
theorem FinL1.is_ {ρ : Rho} : ∀ {l : List At} {xs ys : List Value}, FinL1 l xs → Ats ρ l ys → ys = xs
  | [], [], _, _, h => h
  | [], _ :: _, _, h, _ => h.elim
  | _ :: _, [], _, h, _ => h.elim
  | a :: l, x :: r, _, ⟨h1, h2⟩, ⟨y, s, hy, ha, hr⟩ => by
    rw [hy, FinL1.is_ h2 hr]
    congr 1
    cases a with
    | val v => exact Eq.trans ha h1
    | tf b => exact Eq.trans ha h1
    | prop p =>
      obtain ⟨b, rfl, hb⟩ := h1
      obtain ⟨c, rfl, hc⟩ := ha
      congr 1
      rw [Bool.eq_iff_iff, hc, hb]
    | _ => exact h1.elim
theorem Fin1.is_ {ρ : Rho} {v : SV} {x y : Value} (h : Fin1 v x) (k : v.is1 ρ y) : y = x := by
  cases v with
  | one a =>
    cases a with
    | val v => exact Eq.trans k h
    | tf b => exact Eq.trans k h
    | prop p =>
      obtain ⟨b, rfl, hb⟩ := h
      obtain ⟨c, rfl, hc⟩ := k
      congr 1
      rw [Bool.eq_iff_iff, hc, hb]
    | _ => exact (show False from h).elim
  | agg l =>
    cases x <;> try exact (show False from h).elim
    obtain ⟨cs, hcs, rfl⟩ := k
    rw [FinL1.is_ h hcs]
  | tup l => exact k.elim
theorem FinL.is_ {ρ : Rho} : ∀ {l : List SV} {xs ys : List Value}, FinL l xs → Svs ρ l ys → ys = xs
  | [], [], _, _, h => h
  | [], _ :: _, _, h, _ => h.elim
  | _ :: _, [], _, h, _ => h.elim
  | a :: l, x :: r, _, ⟨h1, h2⟩, ⟨y, s, hy, ha, hr⟩ => by rw [hy, FinL.is_ h2 hr, Fin1.is_ h1 ha]
theorem Fin.is_ {ρ : Rho} {v : SV} {x y : Value} (h : Fin v x) (k : v.is ρ y) : y = x := by
  cases v with
  | one a => exact Fin1.is_ (v := .one a) h k
  | agg l => exact Fin1.is_ (v := .agg l) h k
  | tup l =>
    cases x <;> try exact (show False from h).elim
    obtain ⟨cs, hcs, rfl⟩ := k
    rw [FinL.is_ h hcs]
def ofV1 : Value → SV
  | .agg cs => .agg (vals cs.toList)
  | v => .one (.val v)
def ofV : Value → SV
  | .tuple vs => .tup (vs.toList.map ofV1)
  | .agg cs => .agg (vals cs.toList)
  | v => .one (.val v)
theorem ofV1_is (ρ : Rho) (x : Value) : (ofV1 x).is1 ρ x := by
  cases x with
  | agg cs => exact ⟨cs.toList, Ats.vals ρ _, rfl⟩
  | _ => exact rfl
theorem ofV1s_is (ρ : Rho) : ∀ (xs : List Value), Svs ρ (xs.map ofV1) xs
  | [] => rfl
  | x :: r => ⟨x, r, rfl, ofV1_is ρ x, ofV1s_is ρ r⟩
theorem ofV_is (ρ : Rho) (x : Value) : (ofV x).is ρ x := by
  cases x with
  | agg cs => exact ⟨cs.toList, Ats.vals ρ _, rfl⟩
  | tuple vs => exact ⟨vs.toList, ofV1s_is ρ _, rfl⟩
  | _ => exact rfl
/-- readable objects that come with the arguments -/
def Ro (w : World) (v : Value) : Ob → Prop
  | .arr s n get => ArrIs w v s n get
  | .cel l => CelIs w v l
  | _ => False
def obsOf : Nat → List Ob → Obs
  | _, [] => []
  | i, o :: r => (i, o) :: obsOf (i + 1) r
theorem obsOf_get : ∀ {l : List Ob} {i t : Nat} {o : Ob}, fnd (obsOf i l) t = some o → i ≤ t ∧ l[t - i]? = some o
  | [], _, _, _, h => by cases h
  | u :: l, i, t, o, h => by
    rcases fnd_cons h with ⟨rfl, rfl⟩ | ⟨hn, h⟩
    · exact ⟨Nat.le_refl _, by simp⟩
    · obtain ⟨hle, hy⟩ := obsOf_get h
      refine ⟨by omega, ?_⟩
      rw [show t - i = (t - (i + 1)) + 1 by omega]
      simpa using hy
theorem Cls.start {w : World} {ρ : Rho} {os : List Ob} (h : ∀ (i : Nat) o, os[i]? = some o → ∃ v, ρ i = some v ∧ Ro w v o) (hn : ∀ i, os.length ≤ i → ρ i = none) : Cls w.heap.size ρ (obsOf 0 os) os.length w := by
  refine ⟨Nat.le_refl _, fun i o ho => ?_, fun i j o o' b h1 h2 hne hm => ?_, hn⟩
  · obtain ⟨_, e⟩ := obsOf_get ho
    obtain ⟨v, hv, hr⟩ := h i o (by simpa using e)
    cases o <;> first | exact ⟨v, hv, hr⟩ | exact hr.elim
  · obtain ⟨_, e⟩ := obsOf_get h1
    obtain ⟨v, hv, hr⟩ := h i o (by simpa using e)
    cases o <;> first | exact hr.elim | cases hm
/-- A CONTRACT: the function f, handed the arguments args (over the objects os, that it only reads), answers x and leaves alone whatever was there. -/
structure Fn (P : Program) (f : FuncId) (os : List Ob) (args : List SV) (x : Value) : Prop where
  b : hasBody P f = true
  c : ∀ w ρ xs, (∀ (i : Nat) o, os[i]? = some o → ∃ v, ρ i = some v ∧ Ro w v o) → Svs ρ args xs → Calls P f xs.toArray w fun e w' => e = .returned x ∧ Below w.heap.size w w'
def argB (nx : Nat) (l : List SV) : Bool := l.all (svB nx)
theorem Svs.cut {nx : Nat} {ρ : Rho} : ∀ {l : List SV} {xs : List Value}, argB nx l = true → Svs ρ l xs → Svs (V.cut nx ρ) l xs
  | [], _, _, h => h
  | v :: l, _, hb, ⟨x, r, hx, hv, hr⟩ => by
    simp only [argB, List.all_cons, Bool.and_eq_true] at hb
    refine ⟨x, r, hx, ?_, Svs.cut (l := l) hb.2 hr⟩
    cases v with
    | one a => exact At.is_cut (a := a) hb.1 hv
    | agg c => obtain ⟨cs, hc, e⟩ := hv; exact ⟨cs, hc.cut hb.1, e⟩
    | tup l => exact hv.elim
theorem Fn.mk_ {P : Program} {T : TT} (hT : TTok P T) (hm : P.follows .mixedOrders = true) {f : FuncId} {fn : Func} {c : Code} (hf : P.funcs[f]? = some fn) (hb : fn.body = some c) {sz : Nat} (hs : fn.ntmps = sz) {os : List Ob} {args : List SV} {x : Value}
    (hB : hasBody P f = true) (hsz : Nat.ble args.length sz = true) (hab : argB os.length args = true) (h : vc P T sz os.length c (argEnv 0 args) (obsOf 0 os) os.length (fnK T fn.results.toList fun v _ _ => Fin v x)) : Fn P f os args x :=
  ⟨hB, fun w ρ xs hr ha => by
    have hr' : ∀ (i : Nat) o, os[i]? = some o → ∃ v, V.cut os.length ρ i = some v ∧ Ro w v o := fun i o ho => by
      obtain ⟨v, e, q⟩ := hr i o ho
      exact ⟨v, by rw [cut_lt (List.getElem?_eq_some_iff.1 ho).1]; exact e, q⟩
    refine (fn_sound hT hm hf hb hs hsz h (Cls.start hr' (fun i hi => if_neg (by omega))) (xs := xs.toArray) (by simpa using ha.cut hab)).mono ?_
    rintro e w' ⟨ρ', v, obs', nx', y, hR, he, hv, _, hw, _, _⟩
    rw [hR.is_ hv] at he
    exact ⟨he, hw⟩⟩
/-- a contract in plain words, where no objects are handed -/
theorem Fn.calls {P : Program} {f : FuncId} {xs : List Value} {x : Value} (h : Fn P f [] (xs.map ofV1) x) (w : World) : Calls P f xs.toArray w fun e w' => e = .returned x ∧ Below w.heap.size w w' :=
  h.c w (fun _ => none) xs (fun i o ho => by simp at ho) (ofV1s_is _ _)
theorem Fn.of_calls {P : Program} {f : FuncId} {args : List SV} {xs : List Value} {x : Value} (hb : hasBody P f = true) (ha : FinL args xs) (h : ∀ w, Calls P f xs.toArray w fun e w' => e = .returned x ∧ Below w.heap.size w w') : Fn P f [] args x :=
  ⟨hb, fun w ρ ys _ hy => by rw [ha.is_ hy]; exact h w⟩

/-! at a call -/
def sg (l : List Nat) (i : Nat) : Nat := l.getD i 0
/-- the rows of a slice that is written out, as a list has them -/
def LitTo (get : Nat → List Value) : Nat → List (List At) → Prop
  | _, [] => True
  | k, r :: rs => FinL1 r (get k) ∧ LitTo get (k + 1) rs
theorem LitTo.get {get : Nat → List Value} : ∀ {rows : List (List At)} {i k : Nat} {r : List At}, LitTo get i rows → rows[k]? = some r → FinL1 r (get (i + k))
  | [], _, _, _, _, h => by simp at h
  | q :: rows, i, 0, r, hl, h => by
    have e : q = r := by simpa using h
    subst e; exact hl.1
  | q :: rows, i, k + 1, r, hl, h => by
    have := LitTo.get (k := k) hl.2 (by simpa using h)
    rw [show i + (k + 1) = i + 1 + k by omega]; exact this
/-- the callee's objects, as the caller has them -/
def ObTo : Ob → Ob → Prop
  | .arr s n get, .arr s' n' get' => s = s' ∧ n = n' ∧ ∀ k, k < n → get k = get' k
  | .row _ s n get, .arr s' n' get' => s = s' ∧ n = n' ∧ ∀ k, k < n → get k = get' k
  | .lit _ s rows, .arr s' n' get' => s = s' ∧ rows.length = n' ∧ LitTo get' 0 rows
  | .cel l, .cel l' => l = l'
  | .box _ l, .cel l' => FinL1 l l'
  | _, _ => False
def ObsTo (σ : Nat → Nat) (obs : Obs) : Nat → List Ob → Prop
  | _, [] => True
  | i, o :: r => fndK obs (σ i) (fun u => ObTo u o) ∧ ObsTo σ obs (i + 1) r
theorem SameS.is_ {σ : Nat → Nat} {ρ : Rho} : ∀ {l m : List SV} {x : List Value}, SameS σ l m → Svs ρ m x → Svs (fun i => ρ (σ i)) l x
  | [], [], _, _, h => h
  | [], _ :: _, _, h, _ => h.elim
  | .one a :: l, .one b :: m, _, ⟨h1, h2⟩, ⟨u, r, hx, hu, hr⟩ => ⟨u, r, hx, SameA.is_ (b := b) h1 hu, h2.is_ hr⟩
  | .agg c :: l, .agg d :: m, _, ⟨h1, h2⟩, ⟨u, r, hx, ⟨cs, hc, e⟩, hr⟩ => ⟨u, r, hx, ⟨cs, h1.is_ hc, e⟩, h2.is_ hr⟩
  | .one _ :: _, [], _, h, _ => h.elim
  | .one _ :: _, .agg _ :: _, _, h, _ => h.elim
  | .one _ :: _, .tup _ :: _, _, h, _ => h.elim
  | .agg _ :: _, [], _, h, _ => h.elim
  | .agg _ :: _, .one _ :: _, _, h, _ => h.elim
  | .agg _ :: _, .tup _ :: _, _, h, _ => h.elim
  | .tup _ :: _, _, _, h, _ => (by simp [SameS] at h)
theorem ObTo.ro {B : Nat} {ρ : Rho} {w : World} {i : Nat} {u o : Ob} (h : ObTo u o) (hs : Sat B ρ w i u) : ∃ v, ρ i = some v ∧ Ro w v o := by
  cases u with
  | arr s n get =>
    cases o with
    | arr s' n' get' =>
      obtain ⟨rfl, rfl, hg⟩ := h
      obtain ⟨v, e, A, c, ev, hn, hc, hh⟩ := hs
      refine ⟨v, e, A, c, ev, hn, hc, fun k hk => ?_⟩
      rw [← hg k hk]; exact hh k hk
    | _ => exact (show False from h).elim
  | row t s n get =>
    cases o with
    | arr s' n' get' =>
      obtain ⟨rfl, rfl, hg⟩ := h
      obtain ⟨v, e, hr⟩ := hs
      exact ⟨v, e, (hr.congr fun k hk => (hg k hk).symm).arr⟩
    | _ => exact (show False from h).elim
  | lit t s rows =>
    cases o with
    | arr s' n' get' =>
      obtain ⟨rfl, rfl, hg⟩ := h
      obtain ⟨b, cs, e, hB, hrs, hn, hl, hh⟩ := hs
      refine ⟨_, e, _, _, rfl, hn, Nat.le_refl _, fun k hk => ?_⟩
      have hr : rows[k]? = some (rows[k]'hk) := List.getElem?_eq_getElem hk
      have e1 := FinL1.is_ (hg.get hr) (lit_at hrs hl hr)
      rw [Nat.zero_add] at e1
      have hlen : (get' k).length = s := by
        rw [← e1]
        have := (lit_at hrs hl hr).length
        rw [this]; exact hrs _ (List.getElem_mem _)
      refine ⟨_, rfl, (Array.getElem?_eq_some_iff.1 hh).1, hlen, fun j u hu => ?_⟩
      rw [show (⟨b, 0, none⟩ : Addr).add (k * s + j) = ⟨b, k * s + j, none⟩ by unfold Addr.add; split <;> simp_all, cell_of_row w b _ cs.toArray t (0, 0) hh]
      rw [← e1, List.getElem?_take] at hu
      split at hu
      · rw [List.getElem?_drop] at hu
        simpa using hu
      · cases hu
    | _ => exact (show False from h).elim
  | cel l =>
    cases o with
    | cel l' =>
      have e : l = l' := h
      subst e
      obtain ⟨v, e, q⟩ := hs
      exact ⟨v, e, q⟩
    | _ => exact (show False from h).elim
  | box t l =>
    cases o with
    | cel l' =>
      obtain ⟨b, cs, e, hB, hl, hh⟩ := hs
      have ecs : cs = l' := FinL1.is_ h hl
      subst ecs
      refine ⟨_, e, ⟨b, 0, none⟩, rfl, (Array.getElem?_eq_some_iff.1 hh).1, fun j u hu => ?_⟩
      rw [show (⟨b, 0, none⟩ : Addr).add j = ⟨b, j, none⟩ by unfold Addr.add; split <;> simp_all, cell_of_row w b j cs.toArray t (0, 0) hh]
      simpa using hu
    | _ => exact (show False from h).elim
  | gone => cases o <;> exact (show False from h).elim
  | lp _ _ _ => cases o <;> exact (show False from h).elim
theorem ObsTo.ro {B nx : Nat} {ρ : Rho} {w : World} {obs : Obs} {σ : Nat → Nat} (hC : Cls B ρ obs nx w) : ∀ {os : List Ob} {n : Nat}, ObsTo σ obs n os → ∀ (i : Nat) o, os[i]? = some o → ∃ v, ρ (σ (n + i)) = some v ∧ Ro w v o
  | [], _, _, _, _, h => by simp at h
  | q :: os, n, ⟨h1, h2⟩, i, o, ho => by
    cases i with
    | zero =>
      have e : q = o := by simpa using ho
      subst e
      obtain ⟨u, hu, hq⟩ := fndK_spec h1
      exact hq.ro (hC.sat _ u hu)
    | succ i =>
      have := ObsTo.ro hC h2 i o (by simpa using ho)
      rw [show n + (i + 1) = n + 1 + i by omega]
      exact this
/-- a contract, at a call -/
theorem Fn.use {P : Program} {f : FuncId} {os : List Ob} {args args' : List SV} {x : Value} (h : Fn P f os args x) (σ : List Nat) {obs : Obs} {nx : Nat} {K : SV → Prop} (ha : SameS (sg σ) args args') (ho : ObsTo (sg σ) obs 0 os) (hK : K (ofV x)) : NCallQ P f args' obs nx K :=
  ⟨h.b, ofV x, hK, fun B ρ w xs hC hs => (h.c w (fun i => ρ (sg σ i)) xs (fun i o hi => by have := ObsTo.ro hC ho i o hi; simpa using this) (ha.is_ hs)).mono fun e w' ⟨he, hw⟩ => ⟨x, he, ofV_is ρ x, hw⟩⟩
theorem NCallA.to {P : Program} {f : FuncId} {args : List SV} {obs : Obs} {nx : Nat} {K : SV → Obs → Nat → Prop} (h : NCallA P f args obs nx K) : NCall P f args obs nx K :=
  ⟨h.b, fun B ρ w xs hC hs => (h.h B ρ w xs hC hs).mono fun e w' ⟨v, obs', nx', ρ', x, hK, hx, he, hv, hC', hb⟩ => ⟨v, obs', nx', ρ', x, hK, hx, he, hv, hC', hb.mono hC.le, oth_of hb⟩⟩
theorem NCallQ.toA {P : Program} {f : FuncId} {args : List SV} {obs : Obs} {nx : Nat} {K : SV → Obs → Nat → Prop} (h : NCallQ P f args obs nx fun v => K v obs nx) : NCallA P f args obs nx K :=
  ⟨h.b, let ⟨v, hK, hc⟩ := h.h; fun B ρ w xs hC hs => (hc B ρ w xs hC hs).mono fun e w' ⟨x, he, hv, hb⟩ => ⟨v, obs, nx, ρ, x, hK, fun _ _ q => q, he, hv, hC.below hb, hb⟩⟩
theorem NCallQ.to {P : Program} {f : FuncId} {args : List SV} {obs : Obs} {nx : Nat} {K : SV → Obs → Nat → Prop} (h : NCallQ P f args obs nx fun v => K v obs nx) : NCall P f args obs nx K :=
  ⟨h.b, let ⟨v, hK, hc⟩ := h.h; fun B ρ w xs hC hs => (hc B ρ w xs hC hs).mono fun e w' ⟨x, he, hv, hb⟩ => ⟨v, obs, nx, ρ, x, hK, fun _ _ q => q, he, hv, hC.below hb, hb.mono hC.le, oth_of hb⟩⟩
theorem Fn.go {P : Program} {f : FuncId} {os : List Ob} {args args' : List SV} {x : Value} (h : Fn P f os args x) (σ : List Nat) {obs : Obs} {nx : Nat} {K : SV → Obs → Nat → Prop} (ha : SameS (sg σ) args args') (ho : ObsTo (sg σ) obs 0 os) (hK : K (ofV x) obs nx) : NCall P f args' obs nx K :=
  NCallQ.to (h.use σ ha ho hK)
/-- where nothing is handed but values -/
theorem Fn.use0 {P : Program} {f : FuncId} {args args' : List SV} {x : Value} (h : Fn P f [] args x) {obs : Obs} {nx : Nat} {K : SV → Prop} (ha : SameS (sg []) args args') (hK : K (ofV x)) : NCallQ P f args' obs nx K := h.use [] ha trivial hK
theorem Fn.go0 {P : Program} {f : FuncId} {args args' : List SV} {x : Value} (h : Fn P f [] args x) {obs : Obs} {nx : Nat} {K : SV → Obs → Nat → Prop} (ha : SameS (sg []) args args') (hK : K (ofV x) obs nx) : NCall P f args' obs nx K := h.go [] ha trivial hK

def plainS : List SV → Bool
  | [] => true
  | .tup _ :: _ => false
  | _ :: r => plainS r
theorem SameS.ren (σ : Nat → Nat) : ∀ l : List SV, plainS l = true → SameS σ l (l.map (renS σ))
  | [], _ => trivial
  | .one a :: l, h => ⟨SameA.ren σ a, SameS.ren σ l h⟩
  | .agg c :: l, h => ⟨SameAs.ren σ c, SameS.ren σ l h⟩
  | .tup _ :: _, h => by cases h
/-- a contract at a call, by the arguments themselves -/
theorem Fn.k {P : Program} {f : FuncId} {os : List Ob} {args : List SV} {x : Value} (h : Fn P f os args x) (σ : List Nat) (hp : plainS args = true) {obs : Obs} {nx : Nat} {K : SV → Obs → Nat → Prop} (ho : ObsTo (sg σ) obs 0 os) (hK : K (ofV x) obs nx) : NCall P f (args.map (renS (sg σ))) obs nx K :=
  h.go σ (SameS.ren _ _ hp) ho hK
theorem Fn.q {P : Program} {f : FuncId} {os : List Ob} {args : List SV} {x : Value} (h : Fn P f os args x) (σ : List Nat) (hp : plainS args = true) {obs : Obs} {nx : Nat} {K : SV → Prop} (ho : ObsTo (sg σ) obs 0 os) (hK : K (ofV x)) : NCallQ P f (args.map (renS (sg σ))) obs nx K :=
  h.use σ (SameS.ren _ _ hp) ho hK
theorem SameA.self {a : At} (h : atB 0 a = true) : SameA (sg []) a a := by
  cases a with
  | val v => exact rfl
  | tf b => exact rfl
  | prop p => exact Iff.rfl
  | ptr i k j s => simp [atB, Nat.blt] at h
  | ref i => simp [atB, Nat.blt] at h
  | clo f l =>
    cases l with
    | nil => exact ⟨rfl, rfl⟩
    | cons i l => simp [atB, Nat.blt] at h
theorem SameAs.self : ∀ {l : List At}, l.all (atB 0) = true → SameAs (sg []) l l
  | [], _ => trivial
  | a :: l, h => by
    simp only [List.all_cons, Bool.and_eq_true] at h
    exact ⟨SameA.self h.1, SameAs.self h.2⟩
def plain0 : List SV → Bool
  | [] => true
  | .one a :: r => atB 0 a && plain0 r
  | .agg c :: r => c.all (atB 0) && plain0 r
  | .tup _ :: _ => false
theorem SameS.self : ∀ {l : List SV}, plain0 l = true → SameS (sg []) l l
  | [], _ => trivial
  | .one a :: l, h => by
    simp only [plain0, Bool.and_eq_true] at h
    exact ⟨SameA.self h.1, SameS.self h.2⟩
  | .agg c :: l, h => by
    simp only [plain0, Bool.and_eq_true] at h
    exact ⟨SameAs.self h.1, SameS.self h.2⟩
  | .tup _ :: _, h => by cases h
theorem Fn.a {P : Program} {f : FuncId} {os : List Ob} {args : List SV} {x : Value} (h : Fn P f os args x) (σ : List Nat) (hp : plainS args = true) {obs : Obs} {nx : Nat} {K : SV → Obs → Nat → Prop} (ho : ObsTo (sg σ) obs 0 os) (hK : K (ofV x) obs nx) : NCallA P f (args.map (renS (sg σ))) obs nx K :=
  NCallQ.toA (h.use σ (SameS.ren _ _ hp) ho hK)
theorem Fn.a0 {P : Program} {f : FuncId} {args : List SV} {x : Value} (h : Fn P f [] args x) (hp : plain0 args = true) {obs : Obs} {nx : Nat} {K : SV → Obs → Nat → Prop} (hK : K (ofV x) obs nx) : NCallA P f args obs nx K := NCallQ.toA (h.use [] (SameS.self hp) trivial hK)
theorem Fn.k0 {P : Program} {f : FuncId} {args : List SV} {x : Value} (h : Fn P f [] args x) (hp : plain0 args = true) {obs : Obs} {nx : Nat} {K : SV → Obs → Nat → Prop} (hK : K (ofV x) obs nx) : NCall P f args obs nx K := h.go [] (SameS.self hp) trivial hK
theorem Fn.q0 {P : Program} {f : FuncId} {args : List SV} {x : Value} (h : Fn P f [] args x) (hp : plain0 args = true) {obs : Obs} {nx : Nat} {K : SV → Prop} (hK : K (ofV x)) : NCallQ P f args obs nx K := h.use [] (SameS.self hp) trivial hK

/-! how the questions are answered -/
theorem NWrap.ok {e : Int} {K : Int → Prop} (h1 : -9223372036854775808 ≤ e) (h2 : e ≤ 9223372036854775807) (hK : K e) : NWrap .i64 e K :=
  ⟨by rw [IntWalk.i64_in e ⟨h1, h2⟩]; exact hK⟩
end Go.Proofs.Yteblbhbfdfifpaa.V
