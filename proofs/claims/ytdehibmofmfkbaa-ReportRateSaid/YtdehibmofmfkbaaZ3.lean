/- Shared texts, one behind the other: VFn, VT, VAns, VFail, VRet, VOpen, VFailM, VRef, VFailL, VFailB, AgePl2, MoneyPl2, MarginPl, VNet0, ClaimPl, PenPl, RepPl, DivPl, DivPl2, DivPl3 -/
import Derived.Deep.Slices
import Derived.Deep.Fields
import Derived.OpenShut
import Derived.Lib.SmallJoins
import Derived.Maps.OwnSet
import Derived.Maps.AppendAt
import Derived.Lib.BitFns
import Derived.Test.YtdehibmofmfkbaaZ1
import Derived.Test.YtdehibmofmfkbaaZ2
set_option linter.unusedVariables false
set_option linter.unusedSimpArgs false
set_option linter.unusedSectionVars false
set_option maxRecDepth 100000

namespace Go.Proofs.Ytdehibmofmfkbaa.V
open Go Go.RowKit
variable [Dr]
set_option linter.unusedSectionVars false
def argEnv : Nat → List SV → Env
  | _, [] => []
  | i, v :: r => (i, v) :: argEnv (i + 1) r
def resK (T : TT) (env : Env) (obs : Obs) : List ResultVar → (List SV → Prop) → Prop
  | [], K => K []
  | .tmp t :: r, K => fndK env t fun v => match v with
    | .one a => resK T env obs r fun l => K (.one a :: l)
    | .agg c => resK T env obs r fun l => K (.agg c :: l)
    | .tup _ => False
  | .cell t ty :: r, K => fndK env t fun v => match v with
    | .one (.ptr i k j s) => fndK T ty fun y => fndK obs i fun o => elemK obs y k j s (fun u => match u with
      | .one a => resK T env obs r fun l => K (.one a :: l)
      | .agg c => resK T env obs r fun l => K (.agg c :: l)
      | .tup _ => False) o
    | _ => False
def fnK (T : TT) (rs : List ResultVar) (R : SV → Obs → Nat → Prop) : Kon := fun e env obs nx => match e with
  | .nrm | .ret => resK T env obs rs fun l => match l with
    | [v] => R v obs nx
    | l => R (.tup l) obs nx
  | .exit _ => False
theorem Svs.length {ρ : Rho} : ∀ {l : List SV} {x : List Value}, Svs ρ l x → x.length = l.length
  | [], _, h => by rw [h]; rfl
  | _ :: _, _, ⟨a, r, hx, ha, hr⟩ => by rw [hx, List.length_cons, List.length_cons, Svs.length hr]
def resF (tmps : Array Value) : ResultVar → Sem Value
  | .tmp t => pure (tmps.getD t undef)
  | .cell a t => do loadVar t (← asAddr (tmps.getD a undef))
theorem results_eq (fn : Func) (tmps : Array Value) : results fn tmps = (do let vs ← fn.results.mapM (resF tmps); pure (if h : vs.size = 1 then vs[0] else .tuple vs)) := by
  unfold results
  have e : (fun r => match r with | ResultVar.tmp t => (pure (tmps.getD t undef) : Sem Value) | .cell a t => do loadVar t (← asAddr (tmps.getD a undef))) = resF tmps := by
    funext r; cases r <;> rfl
  rw [← e]
  rfl
theorem run_mapM_cons {P : Program} {α : Type} {f : α → Sem Value} {x : α} {r : List α} {y : Value} {ys : List Value} {w : World} (h1 : (f x).run P w = .ok y w) (h2 : (r.mapM f).run P w = .ok ys w) : ((x :: r).mapM f).run P w = .ok (y :: ys) w := by
  rw [List.mapM_cons]
  simp [Sem.run_bind, h1, h2]
section
variable {P : Program} {T : TT} {sz : Nat} {ρ : Rho} {env : Env} {a : Act} {B nx : Nat} {obs : Obs} {w : World} (hT : TTok P T) (hE : EnvR sz ρ env a) (hC : Cls B ρ obs nx w)
include hT hE hC
theorem resK_spec : ∀ {rs : List ResultVar} {K : List SV → Prop}, resK T env obs rs K → ∃ l xs, K l ∧ Svs ρ l xs ∧
    (rs.mapM (resF a.tmps)).run P w = .ok xs w
  | [], K, h => ⟨[], [], h, rfl, rfl⟩
  | .tmp t :: r, K, h => by
    unfold resK at h
    obtain ⟨v, e, h⟩ := fndK_spec h
    obtain ⟨x, ex, hv⟩ := hE.env t v e
    have e2 : a.tmps.getD t undef = x := by simp [Array.getD_eq_getD_getElem?, ex]
    split at h
    · obtain ⟨l, xs, hK, hs, hr⟩ := resK_spec h
      exact ⟨_, x :: xs, hK, ⟨x, xs, rfl, hv, hs⟩, run_mapM_cons (by simp only [resF, e2, Sem.run_pure]) hr⟩
    · obtain ⟨l, xs, hK, hs, hr⟩ := resK_spec h
      exact ⟨_, x :: xs, hK, ⟨x, xs, rfl, hv, hs⟩, run_mapM_cons (by simp only [resF, e2, Sem.run_pure]) hr⟩
    · exact h.elim
  | .cell t ty :: r, K, h => by
    unfold resK at h
    obtain ⟨v, e, h⟩ := fndK_spec h
    obtain ⟨x, ex, hv⟩ := hE.env t v e
    have e2 : a.tmps.getD t undef = x := by simp [Array.getD_eq_getD_getElem?, ex]
    split at h
    · rename_i i k j s
      obtain ⟨a0, hb, hx⟩ := hv
      obtain ⟨y, ey, h⟩ := fndK_spec h
      obtain ⟨o, eo, h⟩ := fndK_spec h
      obtain ⟨u, z, hu, h, hl⟩ := load_spec hC eo (hT.get ey) h
      have hl := hl w hC a0 hb
      split at h
      · obtain ⟨l, xs, hK, hs, hr⟩ := resK_spec h
        exact ⟨_, z :: xs, hK, ⟨z, xs, rfl, hu, hs⟩, run_mapM_cons (by simp only [resF, Sem.run_bind, Sem.run_pure, Result.andThen_ok, e2, hx, asAddr, hl]) hr⟩
      · obtain ⟨l, xs, hK, hs, hr⟩ := resK_spec h
        exact ⟨_, z :: xs, hK, ⟨z, xs, rfl, hu, hs⟩, run_mapM_cons (by simp only [resF, Sem.run_bind, Sem.run_pure, Result.andThen_ok, e2, hx, asAddr, hl]) hr⟩
      · exact h.elim
    · exact h.elim
theorem results_spec {fn : Func} {R : SV → Obs → Nat → Prop} (h : resK T env obs fn.results.toList fun l => match l with
    | [v] => R v obs nx
    | l => R (.tup l) obs nx) : ∃ v x, R v obs nx ∧ v.is ρ x ∧ (results fn a.tmps).run P w = .ok x w := by
  obtain ⟨l, xs, hK, hs, hr⟩ := resK_spec hT hE hC h
  have hm : (fn.results.mapM (resF a.tmps)).run P w = .ok xs.toArray w := by
    rw [Array.mapM_eq_mapM_toList]
    simp [Sem.run_map, hr]
  rw [results_eq]
  split at hK
  · rename_i v
    obtain ⟨x, r, rfl, hv, hr'⟩ := hs
    have e : r = [] := hr'
    subst e
    refine ⟨v, x, hK, SV.is_of1 hv, ?_⟩
    rw [Sem.run_bind, hm]
    simp
  · rename_i hn
    refine ⟨_, .tuple xs.toArray, hK, ⟨xs, hs, rfl⟩, ?_⟩
    rw [Sem.run_bind, hm]
    have hl : xs.length ≠ 1 := by
      intro e
      have : l.length = xs.length := hs.length.symm
      match l, this with
      | [v], _ => exact hn v rfl
      | [], q => simp [e] at q
      | _ :: _ :: _, q => simp [e] at q
    simp [hl]
end
theorem argEnv_get {ρ : Rho} : ∀ {l : List SV} {xs : List Value} {i t : Nat} {v : SV}, Svs ρ l xs → fnd (argEnv i l) t = some v → ∃ x, i ≤ t ∧ xs[t - i]? = some x ∧ v.is ρ x
  | [], _, _, _, _, _, h => by cases h
  | u :: l, _, i, t, v, ⟨x, r, hx, hu, hr⟩, h => by
    rcases fnd_cons h with ⟨rfl, rfl⟩ | ⟨hn, h⟩
    · exact ⟨x, Nat.le_refl _, by rw [hx]; simp, SV.is_of1 hu⟩
    · obtain ⟨y, hle, hy, hv⟩ := argEnv_get hr h
      refine ⟨y, by omega, ?_, hv⟩
      rw [hx, show t - i = (t - (i + 1)) + 1 by omega]
      simpa using hy
theorem heap_shut {w : World} {D b : Nat} {l : Option (List Deferred)} {o o' : Obj} (hD : w.heap[D]? = some (.deferred l)) (hb : w.heap[b]? = some o) (hne : ∀ l, o ≠ .deferred l) : (w.putObj D o').heap[b]? = some o := by
  rw [World.putObj_heap_other]
  · exact hb
  · intro e; subst e; rw [hD] at hb; injection hb with hb; exact hne l hb.symm
theorem cell_shut {w : World} {D : Nat} {l : Option (List Deferred)} {o' : Obj} (hD : w.heap[D]? = some (.deferred l)) {a : Addr} {v : Value} (h : w.cell? a = some v) : (w.putObj D o').cell? a = some v := by
  rw [← h]
  refine World.cell?_of_block (World.putObj_heap_other fun e => ?_)
  unfold World.cell? at h
  rw [e, hD] at h; cases h
theorem Cls.shut {B nx : Nat} {ρ : Rho} {obs : Obs} {w : World} {D : Nat} {l : Option (List Deferred)} (h : Cls B ρ obs nx w) (hD : w.heap[D]? = some (.deferred l)) (o : Obj) : Cls B ρ obs nx (w.putObj D o) := by
  refine ⟨by rw [World.putObj_size]; exact h.le, fun i u hu => ?_, h.apart, h.new, h.apx⟩
  have hs := h.sat i u hu
  have rows : ∀ {v t s n get}, RowIs B w v t s n get → RowIs B (w.putObj D o) v t s n get := fun hr => hr.kept fun b hb => by
    obtain ⟨_, _, cur, hc⟩ := hr.foot hb
    exact (heap_shut hD hc (fun _ q => by cases q)).trans hc.symm
  cases u with
  | box t l => obtain ⟨b', cs, e, hB, hl, hh⟩ := hs; exact ⟨b', cs, e, hB, hl, heap_shut hD hh (fun _ q => by cases q)⟩
  | lit t s rows => obtain ⟨b', cs, e, hB, h1, h2, h3, hh⟩ := hs; exact ⟨b', cs, e, hB, h1, h2, h3, heap_shut hD hh (fun _ q => by cases q)⟩
  | arr s n get =>
    obtain ⟨v, e, A, c, ev, h1, h2, hh⟩ := hs
    refine ⟨v, e, A, c, ev, h1, h2, fun k hk => ?_⟩
    obtain ⟨a, ea, hlt, hl, hc⟩ := hh k hk
    exact ⟨a, ea, by rw [World.putObj_size]; exact hlt, hl, fun j u hu => cell_shut hD (hc j u hu)⟩
  | cel l =>
    obtain ⟨v, cs, e, hl, a, ev, hlt, hc⟩ := hs
    exact ⟨v, cs, e, hl, a, ev, by rw [World.putObj_size]; exact hlt, fun j u hu => cell_shut hD (hc j u hu)⟩
  | row t s n get =>
    obtain ⟨v, e, A, c, ev, h1, h2, hh⟩ := hs
    refine ⟨v, e, A, c, ev, h1, h2, ?_⟩
    rcases hh with q | ⟨g, cur, q1, q2, hg, r⟩
    · exact .inl q
    · exact .inr ⟨g, cur, q1, q2, heap_shut hD hg (fun _ q => by cases q), r⟩
  | tab g l => obtain ⟨e, hlt, hc⟩ := hs; exact ⟨e, by rw [World.putObj_size]; exact hlt, fun j u hu => cell_shut hD (hc j u hu)⟩
  | lp L env st => obtain ⟨l, fn, tmps, D', e, hB, hh, r⟩ := hs; exact ⟨l, fn, tmps, D', e, hB, heap_shut hD hh (fun _ q => by cases q), r⟩
  | rov v t s n get => exact ⟨hs.1, rows hs.2⟩
  | rws t e s N vs xs => obtain ⟨⟨v, e, hr⟩, r, q⟩ := hs; exact ⟨⟨v, e, rows hr⟩, fun k n g h1 h2 => rows (r k n g h1 h2), q⟩
  | vw r a s => exact hs
  | gone => trivial
theorem leaves_marks {P : Program} {fn : Func} {tmps : Array Value} {R : Ending → World → Prop} {B nx : Nat} {ρ : Rho} {obs : Obs} {v : World} : ∀ (Ds : List Nat) (w : World), Ds.Nodup → (∀ D ∈ Ds, B ≤ D ∧ v.heap.size ≤ D ∧ w.heap[D]? = some (.deferred (some []))) → Cls B ρ obs nx w → Belw B v w → Oth v w →
    (∀ w', Cls B ρ obs nx w' → Belw B v w' → Oth v w' → ∃ x, (results fn tmps).run P w' = .ok x w' ∧ R (.returned x) w') → LeavesInM Fence.wide 0 P fn tmps R (Ds.map fun D => { target := .collected D, args := #[] }) .returning w
  | [], w, _, _, hC, hb, ho, h => h w hC hb ho
  | D :: Ds, w, hn, hd, hC, hb, ho, h => by
    obtain ⟨h1, h2, h3⟩ := hd D (by simp)
    rw [List.nodup_cons] at hn
    refine ⟨by simp, .inl ⟨D, _, rfl, run_takeDeferred h3, ?_⟩⟩
    refine leaves_marks Ds _ hn.2 (fun E hE => ?_) (hC.shut h3 _) ⟨⟨hb.os, hb.tape, hb.output, by rw [World.putObj_size]; exact hb.size, fun k hk => (World.putObj_heap_other (by omega)).trans (hb.block k hk)⟩, hb.drawn⟩ (fun k q hq => ?_) h
    · obtain ⟨a, b, c⟩ := hd E (by simp [hE])
      exact ⟨a, b, (World.putObj_heap_other (fun e => hn.1 (by rw [← e]; exact hE))).trans c⟩
    · have := (Array.getElem?_eq_some_iff.1 hq).1
      exact (World.putObj_heap_other (by omega)).trans (ho k q hq)
theorem fn_sound_pin {P : Program} {T : TT} (hT : TTok P T) (hm : P.follows .mixedOrders = true) {f : FuncId} {fn : Func} {c : Code} (hf : P.funcs[f]? = some fn) (hb : fn.body = some c) {sz : Nat} (hs : fn.ntmps = sz) {args : List SV} (hsz : Nat.ble args.length sz = true)
    {obs : Obs} {pin nx B : Nat} {R : SV → Obs → Nat → Prop} (h : vc P T sz pin c (argEnv 0 args) obs nx (fnK T fn.results.toList R)) {w : World} {ρ : Rho} {xs : Array Value} (hC : Cls B ρ obs nx w) (ha : Svs ρ args xs.toList) :
    Calls P f xs w fun e w' => ∃ ρ' v obs' nx' x, R v obs' nx' ∧ e = .returned x ∧ v.is ρ' x ∧ Cls B ρ' obs' nx' w' ∧ Belw B w w' ∧ (∀ i y, i < pin → ρ i = some y → ρ' i = some y) ∧ Oth w w' := by
  subst hs
  have hlen : xs.size ≤ fn.ntmps := by
    have h1 := ha.length
    have h2 := Nat.le_of_ble_eq_true hsz
    simp at h1; omega
  have hx : ∀ ρ1 ds w1, Wy B ⟨w, ρ, pin⟩ ρ1 ds w1 → ∀ i y, i < pin → ρ i = some y → ρ1 i = some y := fun ρ1 ds w1 hW i y hi hy => hW.e i y hi hy
  refine (callsIn_wide (n := 0)).1 (callsIn_of_wp_marks (F := Fence.wide) hf hb trivial (wpIn_mono (vc_sound (ro := none) (n := 0) (w0 := ⟨w, ρ, pin⟩) hT hm c (.inl rfl) h ⟨by simp; omega, fun t v ht => ?_⟩ hC ⟨Belw.refl _ _, Oth.refl _, fun _ _ _ h => h, [], rfl, List.nodup_nil, by simp⟩) ?_))
  · obtain ⟨x, _, hx, hv⟩ := argEnv_get ha ht
    refine ⟨x, ?_, hv⟩
    have hlt : t < xs.size := by
      have := (List.getElem?_eq_some_iff.1 hx).1
      simpa using this
    rw [Array.getElem?_append_left hlt]
    simpa using hx
  · intro e a1 w1 q
    have fin : ∀ (K : Env → Obs → Nat → Prop), (∀ env1 obs1 nx1, K env1 obs1 nx1 → fnK T fn.results.toList R .ret env1 obs1 nx1) → Nx B ⟨w, ρ, pin⟩ fn.ntmps K a1 w1 → bodyPostM Fence.wide 0 P fn (fun e w' => ∃ ρ' v obs' nx' x, R v obs' nx' ∧ e = .returned x ∧ v.is ρ' x ∧ Cls B ρ' obs' nx' w' ∧ Belw B w w' ∧ (∀ i y, i < pin → ρ i = some y → ρ' i = some y) ∧ Oth w w') .ret a1 w1 := by
      rintro K hK ⟨ρ1, env1, obs1, nx1, hk, hE1, hC1, hW1⟩
      obtain ⟨Ds, hd, hn, hD⟩ := hW1.m
      show LeavesInM Fence.wide 0 P fn a1.tmps _ a1.defers .returning w1
      rw [hd]
      refine leaves_marks Ds w1 hn hD hC1 hW1.b hW1.o fun w' hC' hb' ho' => ?_
      obtain ⟨v, x, hR, hv, hr⟩ := results_spec (nx := nx1) hT hE1 hC' (hK _ _ _ hk)
      exact ⟨x, hr, ρ1, v, obs1, nx1, x, hR, rfl, hv, hC', hb', hx _ _ _ hW1, ho'⟩
    cases e with
    | normal => exact fin _ (fun _ _ _ q => q) q
    | ret => exact fin _ (fun _ _ _ q => q) q
    | exit i => obtain ⟨ρ1, env1, obs1, nx1, hk, _⟩ := q; exact hk.elim
    | goto l => exact q
    | panic c => exact (show False from q).elim
    | outgrown => exact (show False from q).elim
theorem fn_sound {P : Program} {T : TT} (hT : TTok P T) (hm : P.follows .mixedOrders = true) {f : FuncId} {fn : Func} {c : Code} (hf : P.funcs[f]? = some fn) (hb : fn.body = some c) {sz : Nat} (hs : fn.ntmps = sz) {args : List SV} (hsz : Nat.ble args.length sz = true)
    {obs : Obs} {nx B : Nat} {R : SV → Obs → Nat → Prop} (h : vc P T sz nx c (argEnv 0 args) obs nx (fnK T fn.results.toList R)) {w : World} {ρ : Rho} {xs : Array Value} (hC : Cls B ρ obs nx w) (ha : Svs ρ args xs.toList) :
    Calls P f xs w fun e w' => ∃ ρ' v obs' nx' x, R v obs' nx' ∧ e = .returned x ∧ v.is ρ' x ∧ Cls B ρ' obs' nx' w' ∧ Belw B w w' ∧ (∀ i y, ρ i = some y → ρ' i = some y) ∧ Oth w w' :=
  (fn_sound_pin hT hm hf hb hs hsz h hC ha).mono fun e w' ⟨ρ', v, obs', nx', x, hR, he, hv, hC', hb', hx, ho⟩ => ⟨ρ', v, obs', nx', x, hR, he, hv, hC', hb', fun i y hy => (by
    by_cases hi : i < nx
    · exact hx i y hi hy
    · rw [hC.new i (by omega)] at hy; cases hy), ho⟩
theorem NCall.inl {P : Program} {T : TT} (hT : TTok P T) (hm : P.follows .mixedOrders = true) {f : FuncId} {fn : Func} {c : Code} (hf : P.funcs[f]? = some fn) (hb : fn.body = some c) {sz : Nat} (hs : fn.ntmps = sz) {args : List SV}
    (hB : hasBody P f = true) (hsz : Nat.ble args.length sz = true) {obs : Obs} {nx : Nat} {K : SV → Obs → Nat → Prop} (h : vc P T sz nx c (argEnv 0 args) obs nx (fnK T fn.results.toList K)) : NCall P f args obs nx K :=
  ⟨hB, fun B ρ w xs hC ha => (fn_sound hT hm hf hb hs hsz h hC (xs := xs.toArray) (by simpa using ha)).mono fun e w' ⟨ρ', v, obs', nx', x, hR, he, hv, hC', hb, hx, ho⟩ => ⟨v, obs', nx', ρ', x, hR, hx, he, hv, hC', hb, ho⟩⟩
def FinL1 : List At → List Value → Prop
  | [], [] => True
  | a :: l, x :: r => (match a with
    | .val v => v = x
    | .tf b => Value.bool b = x
    | .prop p => ∃ b, x = .bool b ∧ (p ↔ b = true)
    | _ => False) ∧ FinL1 l r
  | _, _ => False
def Fin1 : SV → Value → Prop
  | .one (.val v), x => v = x
  | .one (.tf b), x => Value.bool b = x
  | .one (.prop p), x => ∃ b, x = .bool b ∧ (p ↔ b = true)
  | .agg l, .agg cs => FinL1 l cs.toList
  | _, _ => False
def FinL : List SV → List Value → Prop
  | [], [] => True
  | a :: l, x :: r => Fin1 a x ∧ FinL l r
  | _, _ => False
def Fin : SV → Value → Prop
  | .tup l, .tuple cs => FinL l cs.toList
  | .tup _, _ => False
  | v, x => Fin1 v x
theorem FinL1.is_ {ρ : Rho} : ∀ {l : List At} {xs ys : List Value}, FinL1 l xs → Ats ρ l ys → ys = xs
  | [], [], _, _, h => h
  | [], _ :: _, _, h, _ => h.elim
  | _ :: _, [], _, h, _ => h.elim
  | a :: l, x :: r, _, ⟨h1, h2⟩, ⟨y, s, hy, ha, hr⟩ => by
    rw [hy, FinL1.is_ h2 hr]
    congr 1
    cases a with
    | val v => exact Eq.trans ha h1
    | tf b => exact Eq.trans ha h1
    | prop p =>
      obtain ⟨b, rfl, hb⟩ := h1
      obtain ⟨c, rfl, hc⟩ := ha
      congr 1
      rw [Bool.eq_iff_iff, hc, hb]
    | _ => exact h1.elim
theorem Fin1.is_ {ρ : Rho} {v : SV} {x y : Value} (h : Fin1 v x) (k : v.is1 ρ y) : y = x := by
  cases v with
  | one a =>
    cases a with
    | val v => exact Eq.trans k h
    | tf b => exact Eq.trans k h
    | prop p =>
      obtain ⟨b, rfl, hb⟩ := h
      obtain ⟨c, rfl, hc⟩ := k
      congr 1
      rw [Bool.eq_iff_iff, hc, hb]
    | _ => exact (show False from h).elim
  | agg l =>
    cases x <;> try exact (show False from h).elim
    obtain ⟨cs, hcs, rfl⟩ := k
    rw [FinL1.is_ h hcs]
  | tup l => exact k.elim
theorem FinL.is_ {ρ : Rho} : ∀ {l : List SV} {xs ys : List Value}, FinL l xs → Svs ρ l ys → ys = xs
  | [], [], _, _, h => h
  | [], _ :: _, _, h, _ => h.elim
  | _ :: _, [], _, h, _ => h.elim
  | a :: l, x :: r, _, ⟨h1, h2⟩, ⟨y, s, hy, ha, hr⟩ => by rw [hy, FinL.is_ h2 hr, Fin1.is_ h1 ha]
theorem Fin.is_ {ρ : Rho} {v : SV} {x y : Value} (h : Fin v x) (k : v.is ρ y) : y = x := by
  cases v with
  | one a => exact Fin1.is_ (v := .one a) h k
  | agg l => exact Fin1.is_ (v := .agg l) h k
  | tup l =>
    cases x <;> try exact (show False from h).elim
    obtain ⟨cs, hcs, rfl⟩ := k
    rw [FinL.is_ h hcs]
def ofV1 : Value → SV
  | .agg cs => .agg (vals cs.toList)
  | v => .one (.val v)
def ofV : Value → SV
  | .tuple vs => .tup (vs.toList.map ofV1)
  | .agg cs => .agg (vals cs.toList)
  | v => .one (.val v)
theorem ofV1_is (ρ : Rho) (x : Value) : (ofV1 x).is1 ρ x := by
  cases x with
  | agg cs => exact ⟨cs.toList, Ats.vals ρ _, rfl⟩
  | _ => exact rfl
theorem ofV1s_is (ρ : Rho) : ∀ (xs : List Value), Svs ρ (xs.map ofV1) xs
  | [] => rfl
  | x :: r => ⟨x, r, rfl, ofV1_is ρ x, ofV1s_is ρ r⟩
theorem ofV_is (ρ : Rho) (x : Value) : (ofV x).is ρ x := by
  cases x with
  | agg cs => exact ⟨cs.toList, Ats.vals ρ _, rfl⟩
  | tuple vs => exact ⟨vs.toList, ofV1s_is ρ _, rfl⟩
  | _ => exact rfl
def Ro (ρ : Rho) (w : World) (v : Value) : Ob → Prop
  | .arr s n get => ArrIs w v s n get
  | .cel l => ∃ cs, Ats ρ l cs ∧ CelIs w v cs
  | .tab g l => v = .pointer (some ⟨g, 0, none⟩) ∧ TabIs w g l
  | _ => False
def obsOf : Nat → List Ob → Obs
  | _, [] => []
  | i, o :: r => (i, o) :: obsOf (i + 1) r
theorem obsOf_get : ∀ {l : List Ob} {i t : Nat} {o : Ob}, fnd (obsOf i l) t = some o → i ≤ t ∧ l[t - i]? = some o
  | [], _, _, _, h => by cases h
  | u :: l, i, t, o, h => by
    rcases fnd_cons h with ⟨rfl, rfl⟩ | ⟨hn, h⟩
    · exact ⟨Nat.le_refl _, by simp⟩
    · obtain ⟨hle, hy⟩ := obsOf_get h
      refine ⟨by omega, ?_⟩
      rw [show t - i = (t - (i + 1)) + 1 by omega]
      simpa using hy
theorem Cls.start {w : World} {ρ : Rho} {os : List Ob} (h : ∀ (i : Nat) o, os[i]? = some o → ∃ v, ρ i = some v ∧ Ro ρ w v o) (hn : ∀ i, os.length ≤ i → ρ i = none) : Cls w.heap.size ρ (obsOf 0 os) os.length w := by
  refine ⟨Nat.le_refl _, fun i o ho => ?_, fun i j o o' b h1 h2 hne hm => ?_, hn, fun i j o o' b h1 h2 hs => ?_⟩
  rotate_left 2
  · obtain ⟨_, e⟩ := obsOf_get h1
    obtain ⟨v, hv, hr⟩ := h i o (by simpa using e)
    cases o <;> first | exact hr.elim | exact hs.elim
  · obtain ⟨_, e⟩ := obsOf_get ho
    obtain ⟨v, hv, hr⟩ := h i o (by simpa using e)
    cases o <;> first | exact ⟨v, hv, hr⟩ | exact ⟨by rw [hv, hr.1], hr.2⟩ | exact (let ⟨cs, hl, hc⟩ := hr; ⟨v, cs, hv, hl, hc⟩) | exact hr.elim
  · obtain ⟨_, e⟩ := obsOf_get h1
    obtain ⟨v, hv, hr⟩ := h i o (by simpa using e)
    cases o <;> first | exact hr.elim | cases hm
theorem Ro.cut {n : Nat} {ρ : Rho} {w : World} {v : Value} {o : Ob} (hb : obB n o = true) (h : Ro ρ w v o) : Ro (V.cut n ρ) w v o := by
  cases o <;> first | exact h | exact (let ⟨cs, hl, hc⟩ := h; ⟨cs, hl.cut hb, hc⟩)
structure Fn (P : Program) (f : FuncId) (os : List Ob) (args : List SV) (x : Value) : Prop where
  b : hasBody P f = true
  c : ∀ w ρ xs, (∀ (i : Nat) o, os[i]? = some o → ∃ v, ρ i = some v ∧ Ro ρ w v o) → Svs ρ args xs → Calls P f xs.toArray w fun e w' => e = .returned x ∧ Belw w.heap.size w w'
def argB (nx : Nat) (l : List SV) : Bool := l.all (svB nx)
theorem Svs.cut {nx : Nat} {ρ : Rho} : ∀ {l : List SV} {xs : List Value}, argB nx l = true → Svs ρ l xs → Svs (V.cut nx ρ) l xs
  | [], _, _, h => h
  | v :: l, _, hb, ⟨x, r, hx, hv, hr⟩ => by
    simp only [argB, List.all_cons, Bool.and_eq_true] at hb
    refine ⟨x, r, hx, ?_, Svs.cut (l := l) hb.2 hr⟩
    cases v with
    | one a => exact At.is_cut (a := a) hb.1 hv
    | agg c => obtain ⟨cs, hc, e⟩ := hv; exact ⟨cs, hc.cut hb.1, e⟩
    | tup l => exact hv.elim
theorem Fn.mk_ {P : Program} {T : TT} (hT : TTok P T) (hm : P.follows .mixedOrders = true) {f : FuncId} {fn : Func} {c : Code} (hf : P.funcs[f]? = some fn) (hb : fn.body = some c) {sz : Nat} (hs : fn.ntmps = sz) {os : List Ob} {args : List SV} {x : Value}
    (hB : hasBody P f = true) (hsz : Nat.ble args.length sz = true) (hab : (argB os.length args && os.all (obB os.length)) = true) (h : vc P T sz os.length c (argEnv 0 args) (obsOf 0 os) os.length (fnK T fn.results.toList fun v _ _ => Fin v x)) : Fn P f os args x :=
  ⟨hB, fun w ρ xs hr ha => by
    have hr' : ∀ (i : Nat) o, os[i]? = some o → ∃ v, V.cut os.length ρ i = some v ∧ Ro (V.cut os.length ρ) w v o := fun i o ho => by
      obtain ⟨v, e, q⟩ := hr i o ho
      exact ⟨v, by rw [cut_lt (List.getElem?_eq_some_iff.1 ho).1]; exact e, q.cut (List.all_eq_true.1 ((Bool.and_eq_true _ _).mp hab).2 o (List.mem_of_getElem? ho))⟩
    refine (fn_sound hT hm hf hb hs hsz h (Cls.start hr' (fun i hi => if_neg (by omega))) (xs := xs.toArray) (by simpa using ha.cut ((Bool.and_eq_true _ _).mp hab).1)).mono ?_
    rintro e w' ⟨ρ', v, obs', nx', y, hR, he, hv, _, hw, _, _⟩
    rw [hR.is_ hv] at he
    exact ⟨he, hw⟩⟩
theorem Fn.calls {P : Program} {f : FuncId} {xs : List Value} {x : Value} (h : Fn P f [] (xs.map ofV1) x) (w : World) : Calls P f xs.toArray w fun e w' => e = .returned x ∧ Belw w.heap.size w w' :=
  h.c w (fun _ => none) xs (fun i o ho => by simp at ho) (ofV1s_is _ _)
theorem Fn.of_calls {P : Program} {f : FuncId} {args : List SV} {xs : List Value} {x : Value} (hb : hasBody P f = true) (ha : FinL args xs) (h : ∀ w, Calls P f xs.toArray w fun e w' => e = .returned x ∧ Belw w.heap.size w w') : Fn P f [] args x :=
  ⟨hb, fun w ρ ys _ hy => by rw [ha.is_ hy]; exact h w⟩
def sg (l : List Nat) (i : Nat) : Nat := l.getD i 0
def LitTo (get : Nat → List Value) : Nat → List (List At) → Prop
  | _, [] => True
  | k, r :: rs => FinL1 r (get k) ∧ LitTo get (k + 1) rs
theorem LitTo.get {get : Nat → List Value} : ∀ {rows : List (List At)} {i k : Nat} {r : List At}, LitTo get i rows → rows[k]? = some r → FinL1 r (get (i + k))
  | [], _, _, _, _, h => by simp at h
  | q :: rows, i, 0, r, hl, h => by
    have e : q = r := by simpa using h
    subst e; exact hl.1
  | q :: rows, i, k + 1, r, hl, h => by
    have := LitTo.get (k := k) hl.2 (by simpa using h)
    rw [show i + (k + 1) = i + 1 + k by omega]; exact this
def ObTo (σ : Nat → Nat) : Ob → Ob → Prop
  | .arr s n get, .arr s' n' get' => s = s' ∧ n = n' ∧ ∀ k, k < n → get k = get' k
  | .row _ s n get, .arr s' n' get' => s = s' ∧ n = n' ∧ ∀ k, k < n → get k = get' k
  | .lit _ s rows, .arr s' n' get' => s = s' ∧ rows.length = n' ∧ LitTo get' 0 rows
  | .cel l, .cel l' => SameAs σ l' l
  | .box _ l, .cel l' => SameAs σ l' l
  | .tab g l, .tab g' l' => g = g' ∧ l = l'
  | _, _ => False
def ObsTo (σ : Nat → Nat) (obs : Obs) : Nat → List Ob → Prop
  | _, [] => True
  | i, o :: r => fndK obs (σ i) (fun u => ObTo σ u o) ∧ ObsTo σ obs (i + 1) r
theorem SameS.is_ {σ : Nat → Nat} {ρ : Rho} : ∀ {l m : List SV} {x : List Value}, SameS σ l m → Svs ρ m x → Svs (fun i => ρ (σ i)) l x
  | [], [], _, _, h => h
  | [], _ :: _, _, h, _ => h.elim
  | .one a :: l, .one b :: m, _, ⟨h1, h2⟩, ⟨u, r, hx, hu, hr⟩ => ⟨u, r, hx, SameA.is_ (b := b) h1 hu, h2.is_ hr⟩
  | .agg c :: l, .agg d :: m, _, ⟨h1, h2⟩, ⟨u, r, hx, ⟨cs, hc, e⟩, hr⟩ => ⟨u, r, hx, ⟨cs, h1.is_ hc, e⟩, h2.is_ hr⟩
  | .one _ :: _, [], _, h, _ => h.elim
  | .one _ :: _, .agg _ :: _, _, h, _ => h.elim
  | .one _ :: _, .tup _ :: _, _, h, _ => h.elim
  | .agg _ :: _, [], _, h, _ => h.elim
  | .agg _ :: _, .one _ :: _, _, h, _ => h.elim
  | .agg _ :: _, .tup _ :: _, _, h, _ => h.elim
  | .tup _ :: _, _, _, h, _ => (by simp [SameS] at h)
theorem ObTo.ro {σ : Nat → Nat} {B : Nat} {ρ : Rho} {w : World} {i : Nat} {u o : Ob} (h : ObTo σ u o) (hs : Sat B ρ w i u) : ∃ v, ρ i = some v ∧ Ro (fun i => ρ (σ i)) w v o := by
  cases u with
  | arr s n get =>
    cases o with
    | arr s' n' get' =>
      obtain ⟨rfl, rfl, hg⟩ := h
      obtain ⟨v, e, A, c, ev, hn, hc, hh⟩ := hs
      refine ⟨v, e, A, c, ev, hn, hc, fun k hk => ?_⟩
      rw [← hg k hk]; exact hh k hk
    | _ => exact (show False from h).elim
  | row t s n get =>
    cases o with
    | arr s' n' get' =>
      obtain ⟨rfl, rfl, hg⟩ := h
      obtain ⟨v, e, hr⟩ := hs
      exact ⟨v, e, (hr.congr fun k hk => (hg k hk).symm).arr⟩
    | _ => exact (show False from h).elim
  | lit t s rows =>
    cases o with
    | arr s' n' get' =>
      obtain ⟨rfl, rfl, hg⟩ := h
      obtain ⟨b, cs, e, hB, hrs, hn, hl, hh⟩ := hs
      refine ⟨_, e, _, _, rfl, hn, Nat.le_refl _, fun k hk => ?_⟩
      have hr : rows[k]? = some (rows[k]'hk) := List.getElem?_eq_getElem hk
      have e1 := FinL1.is_ (hg.get hr) (lit_at hrs hl hr)
      rw [Nat.zero_add] at e1
      have hlen : (get' k).length = s := by
        rw [← e1]
        have := (lit_at hrs hl hr).length
        rw [this]; exact hrs _ (List.getElem_mem _)
      refine ⟨_, rfl, (Array.getElem?_eq_some_iff.1 hh).1, hlen, fun j u hu => ?_⟩
      rw [show (⟨b, 0, none⟩ : Addr).add (k * s + j) = ⟨b, k * s + j, none⟩ by unfold Addr.add; split <;> simp_all, cell_of_row w b _ cs.toArray t (0, 0) hh]
      rw [← e1, List.getElem?_take] at hu
      split at hu
      · rw [List.getElem?_drop] at hu
        simpa using hu
      · cases hu
    | _ => exact (show False from h).elim
  | cel l =>
    cases o with
    | cel l' =>
      obtain ⟨v, cs, e, hl, q⟩ := hs
      exact ⟨v, e, cs, SameAs.is_ h hl, q⟩
    | _ => exact (show False from h).elim
  | box t l =>
    cases o with
    | cel l' =>
      obtain ⟨b, cs, e, hB, hl, hh⟩ := hs
      refine ⟨_, e, cs, SameAs.is_ h hl, ⟨b, 0, none⟩, rfl, (Array.getElem?_eq_some_iff.1 hh).1, fun j u hu => ?_⟩
      rw [show (⟨b, 0, none⟩ : Addr).add j = ⟨b, j, none⟩ by unfold Addr.add; split <;> simp_all, cell_of_row w b j cs.toArray t (0, 0) hh]
      simpa using hu
    | _ => exact (show False from h).elim
  | rov v s n get => cases o <;> exact (show False from h).elim
  | rws t e s N vs xs => cases o <;> exact (show False from h).elim
  | vw r a s => cases o <;> exact (show False from h).elim
  | gone => cases o <;> exact (show False from h).elim
  | lp _ _ _ => cases o <;> exact (show False from h).elim
  | tab g l =>
    cases o with
    | tab g' l' =>
      obtain ⟨rfl, rfl⟩ := h
      exact ⟨_, hs.1, rfl, hs.2⟩
    | _ => exact (show False from h).elim
theorem ObsTo.ro {B nx : Nat} {ρ : Rho} {w : World} {obs : Obs} {σ : Nat → Nat} (hC : Cls B ρ obs nx w) : ∀ {os : List Ob} {n : Nat}, ObsTo σ obs n os → ∀ (i : Nat) o, os[i]? = some o → ∃ v, ρ (σ (n + i)) = some v ∧ Ro (fun i => ρ (σ i)) w v o
  | [], _, _, _, _, h => by simp at h
  | q :: os, n, ⟨h1, h2⟩, i, o, ho => by
    cases i with
    | zero =>
      have e : q = o := by simpa using ho
      subst e
      obtain ⟨u, hu, hq⟩ := fndK_spec h1
      exact hq.ro (hC.sat _ u hu)
    | succ i =>
      have := ObsTo.ro hC h2 i o (by simpa using ho)
      rw [show n + (i + 1) = n + 1 + i by omega]
      exact this
theorem Fn.use {P : Program} {f : FuncId} {os : List Ob} {args args' : List SV} {x : Value} (h : Fn P f os args x) (σ : List Nat) {obs : Obs} {nx : Nat} {K : SV → Prop} (ha : SameS (sg σ) args args') (ho : ObsTo (sg σ) obs 0 os) (hK : K (ofV x)) : NCallQ P f args' obs nx K :=
  ⟨h.b, ofV x, hK, fun B ρ w xs hC hs => (h.c w (fun i => ρ (sg σ i)) xs (fun i o hi => by have := ObsTo.ro hC ho i o hi; simpa using this) (ha.is_ hs)).mono fun e w' ⟨he, hw⟩ => ⟨x, he, ofV_is ρ x, hw⟩⟩
theorem NCallA.to {P : Program} {f : FuncId} {args : List SV} {obs : Obs} {nx : Nat} {K : SV → Obs → Nat → Prop} (h : NCallA P f args obs nx K) : NCall P f args obs nx K :=
  ⟨h.b, fun B ρ w xs hC hs => (h.h B ρ w xs hC hs).mono fun e w' ⟨v, obs', nx', ρ', x, hK, hx, he, hv, hC', hb⟩ => ⟨v, obs', nx', ρ', x, hK, hx, he, hv, hC', hb.mono hC.le, oth_of hb⟩⟩
theorem NCallQ.toA {P : Program} {f : FuncId} {args : List SV} {obs : Obs} {nx : Nat} {K : SV → Obs → Nat → Prop} (h : NCallQ P f args obs nx fun v => K v obs nx) : NCallA P f args obs nx K :=
  ⟨h.b, let ⟨v, hK, hc⟩ := h.h; fun B ρ w xs hC hs => (hc B ρ w xs hC hs).mono fun e w' ⟨x, he, hv, hb⟩ => ⟨v, obs, nx, ρ, x, hK, fun _ _ q => q, he, hv, hC.below hb, hb⟩⟩
theorem NCallQ.to {P : Program} {f : FuncId} {args : List SV} {obs : Obs} {nx : Nat} {K : SV → Obs → Nat → Prop} (h : NCallQ P f args obs nx fun v => K v obs nx) : NCall P f args obs nx K :=
  ⟨h.b, let ⟨v, hK, hc⟩ := h.h; fun B ρ w xs hC hs => (hc B ρ w xs hC hs).mono fun e w' ⟨x, he, hv, hb⟩ => ⟨v, obs, nx, ρ, x, hK, fun _ _ q => q, he, hv, hC.below hb, hb.mono hC.le, oth_of hb⟩⟩
theorem Fn.go {P : Program} {f : FuncId} {os : List Ob} {args args' : List SV} {x : Value} (h : Fn P f os args x) (σ : List Nat) {obs : Obs} {nx : Nat} {K : SV → Obs → Nat → Prop} (ha : SameS (sg σ) args args') (ho : ObsTo (sg σ) obs 0 os) (hK : K (ofV x) obs nx) : NCall P f args' obs nx K :=
  NCallQ.to (h.use σ ha ho hK)
def plainS : List SV → Bool
  | [] => true
  | .tup _ :: _ => false
  | _ :: r => plainS r
theorem SameS.ren (σ : Nat → Nat) : ∀ l : List SV, plainS l = true → SameS σ l (l.map (renS σ))
  | [], _ => trivial
  | .one a :: l, h => ⟨SameA.ren σ a, SameS.ren σ l h⟩
  | .agg c :: l, h => ⟨SameAs.ren σ c, SameS.ren σ l h⟩
  | .tup _ :: _, h => by cases h
theorem Fn.k {P : Program} {f : FuncId} {os : List Ob} {args : List SV} {x : Value} (h : Fn P f os args x) (σ : List Nat) (hp : plainS args = true) {obs : Obs} {nx : Nat} {K : SV → Obs → Nat → Prop} (ho : ObsTo (sg σ) obs 0 os) (hK : K (ofV x) obs nx) : NCall P f (args.map (renS (sg σ))) obs nx K :=
  h.go σ (SameS.ren _ _ hp) ho hK
theorem Fn.q {P : Program} {f : FuncId} {os : List Ob} {args : List SV} {x : Value} (h : Fn P f os args x) (σ : List Nat) (hp : plainS args = true) {obs : Obs} {nx : Nat} {K : SV → Prop} (ho : ObsTo (sg σ) obs 0 os) (hK : K (ofV x)) : NCallQ P f (args.map (renS (sg σ))) obs nx K :=
  h.use σ (SameS.ren _ _ hp) ho hK
theorem SameA.self {a : At} (h : atB 0 a = true) : SameA (sg []) a a := by
  cases a with
  | val v => exact rfl
  | tf b => exact rfl
  | prop p => exact Iff.rfl
  | ptr i k j s => simp [atB, Nat.blt] at h
  | ref i => simp [atB, Nat.blt] at h
  | clo f l =>
    cases l with
    | nil => exact ⟨rfl, rfl⟩
    | cons i l => simp [atB, Nat.blt] at h
theorem SameAs.self : ∀ {l : List At}, l.all (atB 0) = true → SameAs (sg []) l l
  | [], _ => trivial
  | a :: l, h => by
    simp only [List.all_cons, Bool.and_eq_true] at h
    exact ⟨SameA.self h.1, SameAs.self h.2⟩
def plain0 : List SV → Bool
  | [] => true
  | .one a :: r => atB 0 a && plain0 r
  | .agg c :: r => c.all (atB 0) && plain0 r
  | .tup _ :: _ => false
theorem SameS.self : ∀ {l : List SV}, plain0 l = true → SameS (sg []) l l
  | [], _ => trivial
  | .one a :: l, h => by
    simp only [plain0, Bool.and_eq_true] at h
    exact ⟨SameA.self h.1, SameS.self h.2⟩
  | .agg c :: l, h => by
    simp only [plain0, Bool.and_eq_true] at h
    exact ⟨SameAs.self h.1, SameS.self h.2⟩
  | .tup _ :: _, h => by cases h
theorem Fn.a {P : Program} {f : FuncId} {os : List Ob} {args : List SV} {x : Value} (h : Fn P f os args x) (σ : List Nat) (hp : plainS args = true) {obs : Obs} {nx : Nat} {K : SV → Obs → Nat → Prop} (ho : ObsTo (sg σ) obs 0 os) (hK : K (ofV x) obs nx) : NCallA P f (args.map (renS (sg σ))) obs nx K :=
  NCallQ.toA (h.use σ (SameS.ren _ _ hp) ho hK)
theorem Fn.a0 {P : Program} {f : FuncId} {args : List SV} {x : Value} (h : Fn P f [] args x) (hp : plain0 args = true) {obs : Obs} {nx : Nat} {K : SV → Obs → Nat → Prop} (hK : K (ofV x) obs nx) : NCallA P f args obs nx K := NCallQ.toA (h.use [] (SameS.self hp) trivial hK)
theorem Fn.k0 {P : Program} {f : FuncId} {args : List SV} {x : Value} (h : Fn P f [] args x) (hp : plain0 args = true) {obs : Obs} {nx : Nat} {K : SV → Obs → Nat → Prop} (hK : K (ofV x) obs nx) : NCall P f args obs nx K := h.go [] (SameS.self hp) trivial hK
theorem Fn.q0 {P : Program} {f : FuncId} {args : List SV} {x : Value} (h : Fn P f [] args x) (hp : plain0 args = true) {obs : Obs} {nx : Nat} {K : SV → Prop} (hK : K (ofV x)) : NCallQ P f args obs nx K := h.use [] (SameS.self hp) trivial hK
theorem NWrap.ok {e : Int} {K : Int → Prop} (h1 : -9223372036854775808 ≤ e) (h2 : e ≤ 9223372036854775807) (hK : K e) : NWrap .i64 e K :=
  ⟨by rw [IntWalk.i64_in e ⟨h1, h2⟩]; exact hK⟩
theorem S_ {p : Prop} (h : p := by repeat' (first | exact rfl | exact Iff.rfl | exact trivial | exact (fun _ _ => rfl) | exact (fun _ h => absurd h (Nat.not_lt_zero _)) | refine ⟨?_, ?_⟩ | exact Iff.rfl | exact congrArg (fun z => V.SV.one (V.At.val (Value.int .i64 z))) (by omega))) : p := h
theorem D_ {p : Prop} (h : p := by (repeat' (first | exact rfl | exact Iff.rfl | exact trivial | exact (fun _ _ => rfl) | exact (fun _ h => absurd h (Nat.not_lt_zero _)) | refine ⟨?_, ?_⟩ | exact Iff.rfl | exact congrArg (fun z => V.SV.one (V.At.val (Value.int .i64 z))) (by omega))); all_goals fail) : p := h
theorem a7 {e : Int} {K : Int → Prop} (hK : K e) (h1 : -9223372036854775808 ≤ e := by omega) (h2 : e ≤ 9223372036854775807 := by omega) : NWrap .i64 e K := .ok h1 h2 hK
theorem a9 {k n : Nat} {K : Prop} (h : K) (lt : k < n := by omega) : NLt k n K := ⟨lt, h⟩
end Go.Proofs.Ytdehibmofmfkbaa.V

namespace Go.Proofs.Ytdehibmofmfkbaa.V
open Go
def T : TT := [
  (3, ⟨.int .i64, 1, 8, [.int .i64 0], false⟩),
  (4, ⟨.bool, 1, 1, [.bool false], false⟩),
  (26, ⟨.int .i64, 1, 8, [.int .i64 0], false⟩),
  (24, ⟨.st [(0, 1, 1), (1, 1, 1)], 2, 32, [.int .i64 0, .slice none 0 0], false⟩),
  (38, ⟨.st [(0, 1, 1), (1, 1, 1), (2, 1, 1), (3, 1, 1), (4, 1, 1), (5, 1, 1), (6, 1, 1), (7, 1, 1), (8, 1, 1), (9, 1, 1)], 10, 80, [.int .i64 0, .int .i64 0, .int .i64 0, .int .i64 0, .int .i64 0, .int .i64 0, .int .i64 0, .int .i64 0, .int .i64 0, .int .i64 0], true⟩),
  (68, ⟨.st [(0, 1, 1), (1, 1, 1)], 2, 16, [.int .i64 0, .int .i64 0], true⟩),
  (22, ⟨.sl 3, 1, 24, [.slice none 0 0], false⟩),
  (25, ⟨.sl 38, 1, 24, [.slice none 0 0], false⟩),
  (64, ⟨.sl 68, 1, 24, [.slice none 0 0], false⟩),
  (77, ⟨.sl 4, 1, 24, [.slice none 0 0], false⟩),
  (1, ⟨.fn, 1, 8, [.nilFunc], false⟩),
  (2, ⟨.int .i64, 1, 8, [.int .i64 0], false⟩),
  (5, ⟨.int .u8, 1, 1, [.int .u8 0], false⟩),
  (9, ⟨.str, 1, 16, [.string ⟨#[]⟩], false⟩),
  (12, ⟨.int .u64, 1, 8, [.int .u64 0], false⟩),
  (20, ⟨.cl, 1, 16, [.nilIface], false⟩),
  (21, ⟨.int .i32, 1, 4, [.int .i32 0], false⟩),
  (23, ⟨.st [(0, 1, 1), (1, 1, 1)], 2, 32, [.int .i64 0, .slice none 0 0], false⟩),
  (28, ⟨.fn, 1, 8, [.nilFunc], false⟩),
  (30, ⟨.fn, 1, 8, [.nilFunc], false⟩),
  (31, ⟨.fn, 1, 8, [.nilFunc], false⟩),
  (33, ⟨.fn, 1, 8, [.nilFunc], false⟩),
  (34, ⟨.fn, 1, 8, [.nilFunc], false⟩),
  (35, ⟨.fn, 1, 8, [.nilFunc], false⟩),
  (36, ⟨.fn, 1, 8, [.nilFunc], false⟩),
  (37, ⟨.st [(0, 1, 1), (1, 1, 1), (2, 1, 1), (3, 1, 1), (4, 1, 1), (5, 1, 1), (6, 1, 1), (7, 1, 1), (8, 1, 1), (9, 1, 1)], 10, 80, [.int .i64 0, .int .i64 0, .int .i64 0, .int .i64 0, .int .i64 0, .int .i64 0, .int .i64 0, .int .i64 0, .int .i64 0, .int .i64 0], true⟩),
  (39, ⟨.fn, 1, 8, [.nilFunc], false⟩),
  (40, ⟨.fn, 1, 8, [.nilFunc], false⟩),
  (41, ⟨.fn, 1, 8, [.nilFunc], false⟩),
  (42, ⟨.fn, 1, 8, [.nilFunc], false⟩),
  (43, ⟨.fn, 1, 8, [.nilFunc], false⟩),
  (44, ⟨.fn, 1, 8, [.nilFunc], false⟩),
  (45, ⟨.fn, 1, 8, [.nilFunc], false⟩),
  (46, ⟨.fn, 1, 8, [.nilFunc], false⟩),
  (47, ⟨.fn, 1, 8, [.nilFunc], false⟩),
  (48, ⟨.fn, 1, 8, [.nilFunc], false⟩),
  (49, ⟨.fn, 1, 8, [.nilFunc], false⟩),
  (50, ⟨.fn, 1, 8, [.nilFunc], false⟩),
  (51, ⟨.fn, 1, 8, [.nilFunc], false⟩),
  (52, ⟨.fn, 1, 8, [.nilFunc], false⟩),
  (53, ⟨.fn, 1, 8, [.nilFunc], false⟩),
  (55, ⟨.fn, 1, 8, [.nilFunc], false⟩),
  (56, ⟨.fn, 1, 8, [.nilFunc], false⟩),
  (57, ⟨.fn, 1, 8, [.nilFunc], false⟩),
  (58, ⟨.fn, 1, 8, [.nilFunc], false⟩),
  (59, ⟨.fn, 1, 8, [.nilFunc], false⟩),
  (60, ⟨.fn, 1, 8, [.nilFunc], false⟩),
  (61, ⟨.fn, 1, 8, [.nilFunc], false⟩),
  (63, ⟨.fn, 1, 8, [.nilFunc], false⟩),
  (66, ⟨.fn, 1, 8, [.nilFunc], false⟩),
  (67, ⟨.st [(0, 1, 1), (1, 1, 1)], 2, 16, [.int .i64 0, .int .i64 0], true⟩),
  (69, ⟨.fn, 1, 8, [.nilFunc], false⟩),
  (70, ⟨.fn, 1, 8, [.nilFunc], false⟩),
  (71, ⟨.fn, 1, 8, [.nilFunc], false⟩),
  (72, ⟨.fn, 1, 8, [.nilFunc], false⟩),
  (73, ⟨.fn, 1, 8, [.nilFunc], false⟩),
  (74, ⟨.fn, 1, 8, [.nilFunc], false⟩),
  (75, ⟨.fn, 1, 8, [.nilFunc], false⟩),
  (76, ⟨.fn, 1, 8, [.nilFunc], false⟩),
  (78, ⟨.fn, 1, 8, [.nilFunc], false⟩),
  (79, ⟨.fn, 1, 8, [.nilFunc], false⟩),
  (80, ⟨.fn, 1, 8, [.nilFunc], false⟩),
  (82, ⟨.fn, 1, 8, [.nilFunc], false⟩),
  (84, ⟨.fn, 1, 8, [.nilFunc], false⟩),
  (85, ⟨.fn, 1, 8, [.nilFunc], false⟩),
  (86, ⟨.fn, 1, 8, [.nilFunc], false⟩),
  (87, ⟨.cl, 1, 8, [.map none], false⟩),
  (88, ⟨.st [], 0, 0, [], true⟩),
  (90, ⟨.fn, 1, 8, [.nilFunc], false⟩),
  (91, ⟨.fn, 1, 8, [.nilFunc], false⟩),
  (92, ⟨.int .u64, 1, 8, [.int .u64 0], false⟩),
  (93, ⟨.fn, 1, 8, [.nilFunc], false⟩),
  (94, ⟨.fn, 1, 8, [.nilFunc], false⟩),
  (95, ⟨.fn, 1, 8, [.nilFunc], false⟩),
  (96, ⟨.fn, 1, 8, [.nilFunc], false⟩),
  (97, ⟨.fn, 1, 8, [.nilFunc], false⟩),
  (99, ⟨.fn, 1, 8, [.nilFunc], false⟩),
  (100, ⟨.fn, 1, 8, [.nilFunc], false⟩),
  (101, ⟨.fn, 1, 8, [.nilFunc], false⟩),
  (102, ⟨.int .i64, 1, 8, [.int .i64 0], false⟩),
  (104, ⟨.fn, 1, 8, [.nilFunc], false⟩),
  (105, ⟨.fn, 1, 8, [.nilFunc], false⟩),
  (106, ⟨.fn, 1, 8, [.nilFunc], false⟩),
  (107, ⟨.fn, 1, 8, [.nilFunc], false⟩),
  (108, ⟨.fn, 1, 8, [.nilFunc], false⟩),
  (109, ⟨.int .u32, 1, 4, [.int .u32 0], false⟩),
  (110, ⟨.fn, 1, 8, [.nilFunc], false⟩),
  (111, ⟨.int .u64, 1, 8, [.int .u64 0], false⟩),
  (113, ⟨.fn, 1, 8, [.nilFunc], false⟩),
  (114, ⟨.int .u64, 1, 8, [.int .u64 0], false⟩),
  (115, ⟨.fn, 1, 8, [.nilFunc], false⟩),
  (116, ⟨.fn, 1, 8, [.nilFunc], false⟩),
  (117, ⟨.fn, 1, 8, [.nilFunc], false⟩),
  (118, ⟨.ptr 3, 1, 8, [.pointer none], false⟩),
  (119, ⟨.fn, 1, 8, [.nilFunc], false⟩),
  (121, ⟨.fn, 1, 8, [.nilFunc], false⟩),
  (122, ⟨.fn, 1, 8, [.nilFunc], false⟩),
  (123, ⟨.ptr 114, 1, 8, [.pointer none], false⟩),
  (124, ⟨.fn, 1, 8, [.nilFunc], false⟩),
  (125, ⟨.cl, 1, 16, [.nilIface], false⟩),
  (126, ⟨.cl, 1, 16, [.nilIface], false⟩),
  (127, ⟨.ptr 144, 1, 8, [.pointer none], false⟩),
  (128, ⟨.fn, 1, 8, [.nilFunc], false⟩),
  (134, ⟨.fn, 1, 8, [.nilFunc], false⟩),
  (137, ⟨.fn, 1, 8, [.nilFunc], false⟩),
  (138, ⟨.ptr 5, 1, 8, [.pointer none], false⟩),
  (143, ⟨.st [(0, 1, 1)], 1, 16, [.string ⟨#[]⟩], false⟩),
  (144, ⟨.st [(0, 1, 1)], 1, 16, [.string ⟨#[]⟩], false⟩)]
theorem Tok : TTok Try.prog T :=
  ⟨by kernel_rfl, by kernel_rfl, by kernel_rfl, by kernel_rfl, by kernel_rfl, by kernel_rfl, by kernel_rfl, by kernel_rfl, by kernel_rfl, by kernel_rfl, by kernel_rfl, by kernel_rfl, by kernel_rfl, by kernel_rfl, by kernel_rfl, by kernel_rfl, by kernel_rfl, by kernel_rfl, by kernel_rfl, by kernel_rfl, by kernel_rfl, by kernel_rfl, by kernel_rfl, by kernel_rfl, by kernel_rfl, by kernel_rfl, by kernel_rfl, by kernel_rfl, by kernel_rfl, by kernel_rfl, by kernel_rfl, by kernel_rfl, by kernel_rfl, by kernel_rfl, by kernel_rfl, by kernel_rfl, by kernel_rfl, by kernel_rfl, by kernel_rfl, by kernel_rfl, by kernel_rfl, by kernel_rfl, by kernel_rfl, by kernel_rfl, by kernel_rfl, by kernel_rfl, by kernel_rfl, by kernel_rfl, by kernel_rfl, by kernel_rfl, by kernel_rfl, by kernel_rfl, by kernel_rfl, by kernel_rfl, by kernel_rfl, by kernel_rfl, by kernel_rfl, by kernel_rfl, by kernel_rfl, by kernel_rfl, by kernel_rfl, by kernel_rfl, by kernel_rfl, by kernel_rfl, by kernel_rfl, by kernel_rfl, by kernel_rfl, by kernel_rfl, by kernel_rfl, by kernel_rfl, by kernel_rfl, by kernel_rfl, by kernel_rfl, by kernel_rfl, by kernel_rfl, by kernel_rfl, by kernel_rfl, by kernel_rfl, by kernel_rfl, by kernel_rfl, by kernel_rfl, by kernel_rfl, by kernel_rfl, by kernel_rfl, by kernel_rfl, by kernel_rfl, by kernel_rfl, by kernel_rfl, by kernel_rfl, by kernel_rfl, by kernel_rfl, by kernel_rfl, by kernel_rfl, by kernel_rfl, by kernel_rfl, by kernel_rfl, by kernel_rfl, by kernel_rfl, by kernel_rfl, by kernel_rfl, by kernel_rfl, by kernel_rfl, by kernel_rfl, by kernel_rfl, by kernel_rfl, by kernel_rfl, by kernel_rfl, by kernel_rfl, trivial⟩
theorem mixed : Try.prog.follows .mixedOrders = true := by kernel_rfl
end Go.Proofs.Ytdehibmofmfkbaa.V

namespace Go.Proofs.Ytdehibmofmfkbaa.V
open Go Go.RowKit
variable [Dr]
theorem wrap_un {k : IntKind} {e : Int} (hs : k.signed = false) (h1 : 0 ≤ e) (h2 : e < 2 ^ k.bits) : k.wrap e = e := by
  unfold IntKind.wrap; simp only [hs, Bool.false_and]; rw [if_neg (by simp)]; exact Int.emod_eq_of_lt h1 h2
theorem NWrap.u64 {e : Int} {K : Int → Prop} (h1 : 0 ≤ e) (h2 : e ≤ 18446744073709551615) (hK : K e) : NWrap .u64 e K := ⟨by rw [wrap_un rfl h1 (by show e < 2 ^ 64; omega)]; exact hK⟩
theorem NWrap.u32 {e : Int} {K : Int → Prop} (h1 : 0 ≤ e) (h2 : e ≤ 4294967295) (hK : K e) : NWrap .u32 e K := ⟨by rw [wrap_un rfl h1 (by show e < 2 ^ 32; omega)]; exact hK⟩
theorem NWrap.u16 {e : Int} {K : Int → Prop} (h1 : 0 ≤ e) (h2 : e ≤ 65535) (hK : K e) : NWrap .u16 e K := ⟨by rw [wrap_un rfl h1 (by show e < 2 ^ 16; omega)]; exact hK⟩
theorem NWrap.u8 {e : Int} {K : Int → Prop} (h1 : 0 ≤ e) (h2 : e ≤ 255) (hK : K e) : NWrap .u8 e K := ⟨by rw [wrap_un rfl h1 (by show e < 2 ^ 8; omega)]; exact hK⟩
theorem fin1 {x u : Int} (h : u = x) : Fin1 (.one (.val (.int .i64 x))) (.int .i64 u) := congrArg _ h.symm
theorem fin2 {x y u v : Int} (h : u = x ∧ v = y) : Fin1 (.one (.val (.int .i64 x))) (.int .i64 u) ∧ FinL [.one (.val (.int .i64 y))] [.int .i64 v] := ⟨fin1 h.1, fin1 h.2, trivial⟩
theorem nif2 {x y u v : Int} (h : x = u ∧ y = v) : Fin1 (.one (.val (.int .i64 x))) (.int .i64 u) ∧ FinL [.one (.val (.int .i64 y))] [.int .i64 v] := fin2 ⟨h.1.symm, h.2.symm⟩
theorem NQuo.ok {x y : Int} {K : Int → Prop} (h0 : y ≠ 0) (h1 : -9223372036854775808 ≤ x.tdiv y) (h2 : x.tdiv y ≤ 9223372036854775807) (hK : K (x.tdiv y)) : NQuo .i64 x y K := ⟨h0, by rw [IntWalk.i64_in _ ⟨h1, h2⟩]; exact hK⟩
theorem NQuo.pos {x y : Int} {K : Int → Prop} (h1 : 0 ≤ x) (h2 : 0 < y) (h3 : x ≤ 9223372036854775807) (hK : ∀ z, z = x / y → 0 ≤ z → z ≤ x → K z) : NQuo .i64 x y K := by
  have e : x.tdiv y = x / y := Int.tdiv_eq_ediv_of_nonneg h1
  have g1 : 0 ≤ x / y := Int.ediv_nonneg h1 (by omega)
  have g2 : x / y ≤ x := Int.ediv_le_self _ h1
  exact NQuo.ok (by omega) (by omega) (by omega) (by rw [e]; exact hK _ rfl g1 g2)
theorem NRem.pos {x y : Int} {K : Int → Prop} (h1 : 0 ≤ x) (h2 : 0 < y) (hK : ∀ z, z = x % y → 0 ≤ z → z < y → K z) : NRem x y K :=
  ⟨by omega, by rw [Int.tmod_eq_emod_of_nonneg h1]; exact hK _ rfl (Int.emod_nonneg _ (by omega)) (Int.emod_lt_of_pos _ h2)⟩
theorem NShr.i64 {x y : Int} {K : Int → Prop} (n : Nat) (hy : y = n) (hn : n ≤ 64) (h1 : 0 ≤ x) (hK : ∀ z, z = x / 2 ^ n → 0 ≤ z → z ≤ x → K z) : NShr .i64 x y K := by
  subst hy
  have p : (0 : Int) ≤ 2 ^ n := Int.le_of_lt (Int.pow_pos (by omega))
  refine ⟨by omega, ?_⟩
  rw [Int.toNat_natCast, show IntKind.i64.bits = 64 from rfl, Nat.min_eq_left hn, Int.fdiv_eq_ediv_of_nonneg _ p]
  exact hK _ rfl (Int.ediv_nonneg h1 p) (Int.ediv_le_self _ h1)
theorem NIf.dec {p : Prop} [Decidable p] {A B : Prop} (t : p → A) (f : ¬ p → B) : NIf (decide p = true) A B := ⟨fun h => t (of_decide_eq_true h), fun h => f (fun q => h (decide_eq_true q))⟩
theorem NIf.neg {p : Prop} {A B : Prop} (t : ¬ p → A) (f : p → B) : NIf (¬ p) A B := ⟨t, fun h => f (Classical.not_not.1 h)⟩
theorem NIf.dec_ {p : Prop} [Decidable p] {A B : Prop} (h : NIf p A B) : NIf (decide p = true) A B := .dec h.t h.f
theorem NIf.not_ {p : Prop} {A B : Prop} (h : NIf p B A) : NIf (¬ p) A B := ⟨fun q => h.f q, fun q => h.t (Classical.not_not.1 q)⟩
theorem NIf.yes {p : Prop} {A B : Prop} (h : p) (t : A) : NIf p A B := ⟨fun _ => t, fun q => absurd h q⟩
theorem NIf.no {p : Prop} {A B : Prop} (h : ¬ p) (f : B) : NIf p A B := ⟨fun q => absurd q h, fun _ => f⟩
def keepK {α : Type} (env : List (Nat × α)) : List Nat → (List (Nat × α) → Prop) → Prop
  | [], K => K []
  | t :: r, K => fndK env t fun v => keepK env r fun l => K ((t, v) :: l)
def appK {α : Type} : List α → List α → (List α → Prop) → Prop
  | [], m, K => K m
  | x :: l, m, K => appK l m fun r => K (x :: r)
theorem appK_spec {α : Type} : ∀ {l m : List α} {K : List α → Prop}, appK l m K → K (l ++ m)
  | [], _, _, h => h
  | x :: l, m, K, h => appK_spec (l := l) (K := fun r => K (x :: r)) h
theorem fndK_of {α : Type} {l : List (Nat × α)} {t : Nat} {v : α} {K : α → Prop} (e : fnd l t = some v) (h : K v) : fndK l t K := by
  induction l with
  | nil => cases e
  | cons p r ih =>
    obtain ⟨u, x⟩ := p
    unfold fnd at e
    unfold fndK
    cases hb : Nat.beq u t <;> simp only [hb] at e ⊢
    · exact ih e
    · injection e with e; rw [e]; exact h
theorem sgm_nil (i : Nat) : sgm [] i = i := rfl
theorem renA_nil (a : At) : renA (sgm []) a = a := by
  have : ∀ l : List Nat, l.map (sgm []) = l := fun l => by
    induction l with
    | nil => rfl
    | cons a r ih => rw [List.map_cons, ih]; rfl
  cases a <;> simp [renA, this, sgm_nil]
theorem renS_nil (v : SV) : renS (sgm []) v = v := by
  cases v with
  | one a => simp [renS, renA_nil]
  | agg l => simp [renS, funext renA_nil]
  | tup l => rfl
theorem renO_nil (o : Ob) : renO (sgm []) o = o := by
  cases o <;> first | rfl | (simp [renO, funext renA_nil, renS_nil]; done)
theorem ObLe.refl (o : Ob) : ObLe o o := by
  cases o <;> first | exact rfl | exact ⟨rfl, rfl, fun _ _ => rfl⟩ | exact ⟨rfl, rfl, rfl, fun _ _ => rfl⟩ | exact ⟨rfl, rfl, rfl, rfl, fun _ _ => ⟨rfl, fun _ g' h => ⟨g', h, fun _ _ => rfl⟩⟩⟩
theorem SLe.of {u v : SV} (h : u = v) : SLe u v := by
  subst h
  cases u with
  | one a => cases a <;> first | exact rfl | exact Iff.rfl
  | _ => exact rfl
theorem keepE_spec {env : Env} : ∀ {l : List Nat} {K : Env → Prop}, keepK env l K → ∃ b, EnvLe (sgm []) env b ∧ K b
  | [], K, h => ⟨[], trivial, h⟩
  | t :: r, K, h => by
    obtain ⟨v, e, h⟩ := fndK_spec h
    obtain ⟨b, hb, hK⟩ := keepE_spec h
    exact ⟨(t, v) :: b, ⟨fndK_of e (.of (renS_nil v).symm), hb⟩, hK⟩
theorem keepO_spec {obs : Obs} : ∀ {l : List Nat} {K : Obs → Prop}, keepK obs l K → ∃ b, ObsLe (sgm []) obs b ∧ K b
  | [], K, h => ⟨[], trivial, h⟩
  | t :: r, K, h => by
    obtain ⟨v, e, h⟩ := fndK_spec h
    obtain ⟨b, hb, hK⟩ := keepO_spec h
    exact ⟨(t, v) :: b, ⟨fndK_of e (by rw [renO_nil]; exact ObLe.refl v), hb⟩, hK⟩
theorem EnvLe.app {σ : Nat → Nat} {env : Env} : ∀ {l m : Env}, EnvLe σ env l → EnvLe σ env m → EnvLe σ env (l ++ m)
  | [], _, _, h => h
  | _ :: _, _, h, k => ⟨h.1, EnvLe.app h.2 k⟩
theorem ObsLe.app {σ : Nat → Nat} {obs : Obs} : ∀ {l m : Obs}, ObsLe σ obs l → ObsLe σ obs m → ObsLe σ obs (l ++ m)
  | [], _, _, h => h
  | _ :: _, _, h, k => ⟨h.1, ObsLe.app h.2 k⟩
theorem EnvLe.left {σ : Nat → Nat} {env : Env} : ∀ {l m : Env}, EnvLe σ env (l ++ m) → EnvLe σ env l
  | [], _, _ => trivial
  | _ :: _, _, h => ⟨h.1, EnvLe.left h.2⟩
theorem EnvLe.right {σ : Nat → Nat} {env : Env} : ∀ {l m : Env}, EnvLe σ env (l ++ m) → EnvLe σ env m
  | [], _, h => h
  | _ :: _, _, h => EnvLe.right h.2
theorem ObsLe.left {σ : Nat → Nat} {env : Obs} : ∀ {l m : Obs}, ObsLe σ env (l ++ m) → ObsLe σ env l
  | [], _, _ => trivial
  | _ :: _, _, h => ⟨h.1, ObsLe.left h.2⟩
theorem ObsLe.right {σ : Nat → Nat} {env : Obs} : ∀ {l m : Obs}, ObsLe σ env (l ++ m) → ObsLe σ env m
  | [], _, h => h
  | _ :: _, _, h => ObsLe.right h.2
structure NBack {ι : Type} (pin : Nat) (chg : ι → Env) (ob : ι → Obs) (μ : ι → Nat) (J : ι → Prop) (base : Env) (bo : Obs) (nx m : Nat) (env1 : Env) (obs1 : Obs) : Prop where
  h : ∃ i' l, J i' ∧ μ i' < m ∧ pinB pin l = true ∧ injB (sgm l) nx = true ∧ EnvLe (sgm l) env1 (chg i') ∧ EnvLe (sgm l) env1 base ∧ ObsLe (sgm l) obs1 (ob i') ∧ ObsLe (sgm l) obs1 bo
theorem NBack.at_ {ι : Type} {pin : Nat} {chg : ι → Env} {ob : ι → Obs} {μ : ι → Nat} {J : ι → Prop} {base : Env} {bo : Obs} {nx m : Nat} {env1 : Env} {obs1 : Obs} (i' : ι) (l : List (Nat × Nat)) (h1 : J i') (h2 : μ i' < m) (h3 : EnvLe (sgm l) env1 (chg i')) (h0 : injB (sgm l) nx = true) (h5 : ObsLe (sgm l) obs1 (ob i')) (h4 : EnvLe (sgm l) env1 base) (h6 : ObsLe (sgm l) obs1 bo) (hp : pinB pin l = true := by rfl) :
    NBack pin chg ob μ J base bo nx m env1 obs1 := ⟨⟨i', l, h1, h2, hp, h0, h3, h4, h5, h6⟩⟩
theorem injB_id : ∀ n : Nat, injB (sgm []) n = true := by
  have no : ∀ (n x : Nat), n ≤ x → memB (sgm [] x) ((iot n).map (sgm [])) = false := by
    intro n
    induction n with
    | zero => intro x _; rfl
    | succ n ih =>
      intro x hx
      unfold iot
      rw [List.map_cons]
      unfold memB
      have : Nat.beq (sgm [] x) (sgm [] n) = false := by
        rw [sgm_nil, sgm_nil]
        cases hb : Nat.beq x n
        · rfl
        · have := Nat.eq_of_beq_eq_true hb; omega
      rw [this]
      exact ih x (by omega)
  intro n
  induction n with
  | zero => rfl
  | succ n ih =>
    unfold injB iot
    rw [List.map_cons]
    unfold nodB
    rw [no n n (Nat.le_refl _)]
    exact ih
theorem NLoop.go {ws : List Nat} {pin : Nat} {body : Env → Obs → Nat → Kon → Prop} {env : Env} {obs : Obs} {nx : Nat} {K : Kon} {ι : Type} (chg : ι → Env) (ob : ι → Obs) (keep ko : List Nat) (μ : ι → Nat) (J : ι → Prop) (i0 : ι) (h0 : J i0)
    (he : EnvLe (sgm []) env (chg i0)) (ho : ObsLe (sgm []) obs (ob i0)) (hb : ∀ i, envB nx (chg i) = true ∧ obsB nx (ob i) = true)
    (hr : keepK env keep fun base => keepK obs ko fun bo => (envB nx base = true ∧ obsB nx bo = true) ∧ ∀ i, J i → appK (chg i) base fun E => appK (ob i) bo fun O => body E O nx fun e env1 obs1 nx1 => match e with
      | .nrm => NBack pin chg ob μ J base bo nx (μ i) env1 obs1
      | .exit n => K (.exit n) env1 obs1 nx1
      | .ret => K .ret env1 obs1 nx1) (hp : pin ≤ nx := by exact Nat.le_of_ble_eq_true rfl) : NLoop ws pin body env obs nx K := by
  obtain ⟨base, hbase, hr⟩ := keepE_spec hr
  obtain ⟨bo, hbo, ⟨q1, q2⟩, hr⟩ := keepO_spec hr
  refine ⟨⟨ι, fun i => (chg i ++ base, ob i ++ bo), μ, J, i0, nx, hp, h0, injB_id nx, he.app hbase, ho.app hbo, fun i => ⟨?_, ?_⟩, fun i hi => ?_⟩⟩
  · simp only [envB, List.all_append, Bool.and_eq_true]; exact ⟨(hb i).1, q1⟩
  · simp only [obsB, List.all_append, Bool.and_eq_true]; exact ⟨(hb i).2, q2⟩
  · have := appK_spec (appK_spec (hr i hi))
    refine cast ?_ this
    congr 1
    funext e env1 obs1 nx1
    cases e
    · apply propext
      constructor
      · rintro ⟨i', l, a, b, p, c, d, e, f, g⟩; exact ⟨i', l, a, b, p, c, d.app e, f.app g⟩
      · rintro ⟨i', l, a, b, p, c, d, e⟩
        exact ⟨i', l, a, b, p, c, d.left, d.right, e.left, e.right⟩
    · rfl
    · rfl
def autoK (ws is : List Nat) : Env → (Env → Prop) → Prop
  | [], K => K []
  | (t, v) :: r, K => match memB t ws with
    | true => autoK ws is r K
    | false => match v with
      | .tup _ => autoK (t :: ws) is r K
      | .one (.ref i) => match memB i is with
        | true => autoK (t :: ws) is r K
        | false => autoK (t :: ws) is r fun l => K ((t, .one (.ref i)) :: l)
      | v => autoK (t :: ws) is r fun l => K ((t, v) :: l)
def autoO (ws : List Nat) : Obs → (Obs → Prop) → Prop
  | [], K => K []
  | (t, o) :: r, K => match memB t ws with
    | true => autoO ws r K
    | false => match o with
      | .gone => autoO (t :: ws) r K
      | o => autoO (t :: ws) r fun l => K ((t, o) :: l)
theorem fndK_skip {α : Type} {l : List (Nat × α)} {t u : Nat} {v x : α} (h : t ≠ u) (e : fnd l t = some v) : fnd ((u, x) :: l) t = some v := by
  unfold fnd
  cases hb : Nat.beq u t
  · exact e
  · exact absurd (Nat.eq_of_beq_eq_true hb).symm h
theorem fnd_top {α : Type} {l : List (Nat × α)} {t : Nat} {v : α} : fnd ((t, v) :: l) t = some v := by
  unfold fnd; rw [Nat.beq_refl]
theorem memB_ne {x y : Nat} {l : List Nat} (hx : memB x l = true) (hy : memB y l = false) : y ≠ x := by
  rintro rfl; rw [hx] at hy; cases hy
theorem memB_cons {x t : Nat} {ws : List Nat} (h : memB x (t :: ws) = false) : memB x ws = false ∧ x ≠ t := by
  unfold memB at h
  cases hb : Nat.beq x t
  · rw [hb] at h; exact ⟨h, fun e => by subst e; rw [Nat.beq_refl] at hb; cases hb⟩
  · rw [hb] at h; cases h
theorem autoE_spec {env : Env} {is : List Nat} : ∀ {r : Env} {ws : List Nat} {K : Env → Prop}, (∀ t v, memB t ws = false → fnd r t = some v → fnd env t = some v) → autoK ws is r K → ∃ b, EnvLe (sgm []) env b ∧ K b
  | [], ws, K, _, h => ⟨[], trivial, h⟩
  | (t, v) :: r, ws, K, hs, h => by
    unfold autoK at h
    cases hm : memB t ws
    · simp only [hm] at h
      have hs' : ∀ u x, memB u (t :: ws) = false → fnd r u = some x → fnd env u = some x := fun u x hu hx =>
        hs u x (memB_cons hu).1 (fndK_skip (memB_cons hu).2 hx)
      have one : ∀ v', v' = v → (autoK (t :: ws) is r fun l => K ((t, v') :: l)) → ∃ b, EnvLe (sgm []) env b ∧ K b := fun v' e h2 => by
        subst e
        obtain ⟨b, hb, hK⟩ := autoE_spec hs' h2
        exact ⟨(t, v') :: b, ⟨fndK_of (hs t v' hm fnd_top) (.of (renS_nil v').symm), hb⟩, hK⟩
      cases v with
      | tup l => exact autoE_spec hs' h
      | one a =>
        cases a with
        | ref i =>
          simp only at h
          cases hi : memB i is <;> simp only [hi] at h
          · exact one _ rfl h
          · exact autoE_spec hs' h
        | _ => exact one _ rfl h
      | agg l => exact one _ rfl h
    · simp only [hm] at h
      exact autoE_spec (fun u x hu hx => hs u x hu (fndK_skip (memB_ne hm hu) hx)) h
theorem autoO_spec {env : Obs} : ∀ {r : Obs} {ws : List Nat} {K : Obs → Prop}, (∀ t v, memB t ws = false → fnd r t = some v → fnd env t = some v) → autoO ws r K → ∃ b, ObsLe (sgm []) env b ∧ K b
  | [], ws, K, _, h => ⟨[], trivial, h⟩
  | (t, v) :: r, ws, K, hs, h => by
    unfold autoO at h
    cases hm : memB t ws
    · simp only [hm] at h
      have hs' : ∀ u x, memB u (t :: ws) = false → fnd r u = some x → fnd env u = some x := fun u x hu hx =>
        hs u x (memB_cons hu).1 (fndK_skip (memB_cons hu).2 hx)
      have one : ∀ v', v' = v → (autoO (t :: ws) r fun l => K ((t, v') :: l)) → ∃ b, ObsLe (sgm []) env b ∧ K b := fun v' e h2 => by
        subst e
        obtain ⟨b, hb, hK⟩ := autoO_spec hs' h2
        exact ⟨(t, v') :: b, ⟨fndK_of (hs t v' hm fnd_top) (by rw [renO_nil]; exact ObLe.refl v'), hb⟩, hK⟩
      cases v with
      | gone => exact autoO_spec hs' h
      | _ => exact one _ rfl h
    · simp only [hm] at h
      exact autoO_spec (fun u x hu hx => hs u x hu (fndK_skip (memB_ne hm hu) hx)) h
def keysK {α : Type} : List (Nat × α) → List Nat → (List Nat → Prop) → Prop
  | [], ws, K => K ws
  | (t, _) :: r, ws, K => keysK r (t :: ws) K
theorem keysK_spec {α : Type} : ∀ {l : List (Nat × α)} {ws : List Nat} {K : List Nat → Prop}, keysK l ws K → ∃ ws', K ws'
  | [], ws, _, h => ⟨ws, h⟩
  | (t, _) :: r, _, _, h => keysK_spec (l := r) h
def litK (l : List Nat) : (List Nat → Prop) → Prop :=
  @List.rec Nat (fun _ => (List Nat → Prop) → Prop) (fun K => K []) (fun x _ ih K => ih fun l => K (x :: l)) l
theorem litK_eq : ∀ {l : List Nat} {K : List Nat → Prop}, litK l K = K l
  | [], _ => rfl
  | x :: r, K => litK_eq (l := r) (K := fun l => K (x :: l))
theorem NLoop.auto {ws : List Nat} {pin : Nat} {body : Env → Obs → Nat → Kon → Prop} {env : Env} {obs : Obs} {nx : Nat} {K : Kon} {ι : Type} (chg : ι → Env) (ob : ι → Obs) (dr dro : List Nat) (μ : ι → Nat) (J : ι → Prop) (i0 : ι) (h0 : J i0)
    (he : EnvLe (sgm []) env (chg i0)) (ho : ObsLe (sgm []) obs (ob i0)) (hb : ∀ i, envB nx (chg i) = true ∧ obsB nx (ob i) = true)
    (hr : litK (dr ++ ws) fun ws0 => keysK (chg i0) ws0 fun ws1 => keysK (ob i0) [] fun is => autoK ws1 is env fun base => keysK (ob i0) dro fun ws2 => autoO ws2 obs fun bo => (envB nx base = true ∧ obsB nx bo = true) ∧ ∀ i, J i → appK (chg i) base fun E => appK (ob i) bo fun O => body E O nx fun e env1 obs1 nx1 => match e with
      | .nrm => NBack pin chg ob μ J base bo nx (μ i) env1 obs1
      | .exit n => K (.exit n) env1 obs1 nx1
      | .ret => K .ret env1 obs1 nx1) (hp : pin ≤ nx := by exact Nat.le_of_ble_eq_true rfl) : NLoop ws pin body env obs nx K := by
  rw [litK_eq] at hr
  obtain ⟨ws1, hr⟩ := keysK_spec hr
  obtain ⟨is, hr⟩ := keysK_spec hr
  obtain ⟨base, hbase, hr⟩ := autoE_spec (fun _ _ _ h => h) hr
  obtain ⟨ws2, hr⟩ := keysK_spec hr
  obtain ⟨bo, hbo, ⟨q1, q2⟩, hr⟩ := autoO_spec (fun _ _ _ h => h) hr
  refine ⟨⟨ι, fun i => (chg i ++ base, ob i ++ bo), μ, J, i0, nx, hp, h0, injB_id nx, he.app hbase, ho.app hbo, fun i => ⟨?_, ?_⟩, fun i hi => ?_⟩⟩
  · simp only [envB, List.all_append, Bool.and_eq_true]; exact ⟨(hb i).1, q1⟩
  · simp only [obsB, List.all_append, Bool.and_eq_true]; exact ⟨(hb i).2, q2⟩
  · have := appK_spec (appK_spec (hr i hi))
    refine cast ?_ this
    congr 1
    funext e env1 obs1 nx1
    cases e
    · apply propext
      constructor
      · rintro ⟨i', l, a, b, p, c, d, e, f, g⟩; exact ⟨i', l, a, b, p, c, d.app e, f.app g⟩
      · rintro ⟨i', l, a, b, p, c, d, e⟩
        exact ⟨i', l, a, b, p, c, d.left, d.right, e.left, e.right⟩
    · rfl
    · rfl
structure NMeet {ι : Type} (pin : Nat) (chg : ι → Env) (ob : ι → Obs) (J : ι → Prop) (base : Env) (bo : Obs) (nx : Nat) (env1 : Env) (obs1 : Obs) : Prop where
  h : ∃ i l, J i ∧ pinB pin l = true ∧ injB (sgm l) nx = true ∧ EnvLe (sgm l) env1 (chg i) ∧ EnvLe (sgm l) env1 base ∧ ObsLe (sgm l) obs1 (ob i) ∧ ObsLe (sgm l) obs1 bo
theorem NMeet.at_ {ι : Type} {pin : Nat} {chg : ι → Env} {ob : ι → Obs} {J : ι → Prop} {base : Env} {bo : Obs} {nx : Nat} {env1 : Env} {obs1 : Obs} (i : ι) (l : List (Nat × Nat)) (h1 : J i) (h3 : EnvLe (sgm l) env1 (chg i)) (h0 : injB (sgm l) nx = true) (h5 : ObsLe (sgm l) obs1 (ob i)) (h4 : EnvLe (sgm l) env1 base) (h6 : ObsLe (sgm l) obs1 bo) (hp : pinB pin l = true := by rfl) :
    NMeet pin chg ob J base bo nx env1 obs1 := ⟨⟨i, l, h1, hp, h0, h3, h4, h5, h6⟩⟩
theorem NCond.auto {p : Prop} {ws : List Nat} {pin : Nat} {A B : Kon → Prop} {env : Env} {obs : Obs} {nx : Nat} {K : Kon} {ι : Type} (chg : ι → Env) (ob : ι → Obs) (dr dro : List Nat) (J : ι → Prop) (m : Nat) (i0 : ι) (hb : ∀ i, envB m (chg i) = true ∧ obsB m (ob i) = true)
    (hr : litK (dr ++ ws) fun ws0 => keysK (chg i0) ws0 fun ws1 => keysK (ob i0) [] fun is => autoK ws1 is env fun base => keysK (ob i0) dro fun ws2 => autoO ws2 obs fun bo => (envB m base = true ∧ obsB m bo = true) ∧
      NIf p (A fun e env1 obs1 nx1 => match e with
        | .nrm => NMeet pin chg ob J base bo m env1 obs1
        | .exit n => K (.exit n) env1 obs1 nx1
        | .ret => K .ret env1 obs1 nx1) (B fun e env1 obs1 nx1 => match e with
        | .nrm => NMeet pin chg ob J base bo m env1 obs1
        | .exit n => K (.exit n) env1 obs1 nx1
        | .ret => K .ret env1 obs1 nx1) ∧ ∀ i, J i → appK (chg i) base fun E => appK (ob i) bo fun O => K .nrm E O m) (hp : pin ≤ m := by exact Nat.le_of_ble_eq_true rfl) : NCond p ws pin A B env obs nx K := by
  rw [litK_eq] at hr
  obtain ⟨ws1, hr⟩ := keysK_spec hr
  obtain ⟨is, hr⟩ := keysK_spec hr
  obtain ⟨base, hbase, hr⟩ := autoE_spec (fun _ _ _ h => h) hr
  obtain ⟨ws2, hr⟩ := keysK_spec hr
  obtain ⟨bo, hbo, ⟨q1, q2⟩, ⟨ht, hf⟩, hk⟩ := autoO_spec (fun _ _ _ h => h) hr
  have same : (fun e env1 obs1 nx1 => match e with
        | .nrm => NMeet pin chg ob J base bo m env1 obs1
        | .exit n => K (.exit n) env1 obs1 nx1
        | .ret => K .ret env1 obs1 nx1) = meetK pin m (fun i => (chg i ++ base, ob i ++ bo)) J K := by
    funext e env1 obs1 nx1
    cases e
    · apply propext
      constructor
      · rintro ⟨i, l, a, p, c, d, e, f, g⟩; exact ⟨i, l, a, p, c, d.app e, f.app g⟩
      · rintro ⟨i, l, a, p, c, d, e⟩; exact ⟨⟨i, l, a, p, c, d.left, d.right, e.left, e.right⟩⟩
    · rfl
    · rfl
  rw [same] at ht hf
  refine .join ι (fun i => (chg i ++ base, ob i ++ bo)) m J hp (fun i => ⟨?_, ?_⟩) ⟨ht, hf⟩ fun i hi => appK_spec (appK_spec (hk i hi))
  · simp only [envB, List.all_append, Bool.and_eq_true]; exact ⟨(hb i).1, q1⟩
  · simp only [obsB, List.all_append, Bool.and_eq_true]; exact ⟨(hb i).2, q2⟩
def quietB (T : TT) (all : List Oper) : Bool := all.all fun o => match kindK T o.op with | 0 => true | 3 => true | _ => false
theorem NDraw.q {P : Program} {T : TT} {sz pin : Nat} {all : List Oper} {env : Env} {obs : Obs} {nx : Nat} {K : Env → Obs → Nat → Prop} (hq : quietB T all = true) (lex : Region.lexB .any all.toArray = true) (h : opsK P T sz true all all env obs nx K) : NDraw P T sz pin all env obs nx K := .mk lex h
theorem NJoin.first {pin m n : Nat} {E env : Env} {O obs : Obs} (h : autoK [] [] env fun E' => autoO [] obs fun O' => E = E' ∧ O = O' ∧ m = n) : NJoin pin m E O env obs n := by
  obtain ⟨b, hb, h⟩ := autoE_spec (fun _ _ _ h => h) h
  obtain ⟨c, hc, h1, h2, _⟩ := autoO_spec (fun _ _ _ h => h) h
  subst h1 h2
  exact ⟨⟨[], rfl, injB_id _, hb, hc⟩⟩
theorem NTF.dec {p : Prop} [Decidable p] {K : Bool → Prop} (h : K (decide p)) : NTF p K := ⟨fun b hb => by
  have e : b = decide p := by rw [Bool.eq_iff_iff, hb]; simp
  rw [e]; exact h⟩
theorem NTF.yes {p : Prop} {K : Bool → Prop} (hp : p) (h : K true) : NTF p K := ⟨fun b hb => by rw [hb.2 hp]; exact h⟩
theorem NTF.no {p : Prop} {K : Bool → Prop} (hp : ¬ p) (h : K false) : NTF p K := ⟨fun b hb => by
  have e : b = false := by rw [Bool.eq_false_iff]; exact fun q => hp (hb.1 q)
  rw [e]; exact h⟩
theorem NPick.l {A B : Prop} (h : A) : NPick A B := ⟨.inl h⟩
theorem NPick.r {A B : Prop} (h : B) : NPick A B := ⟨.inr h⟩
theorem a4 {p : Prop} {A B : Prop} (f : B) (h : ¬ p := by omega) : NIf p A B := .no h f
theorem a5 {p : Prop} {A B : Prop} (t : A) (h : p := by omega) : NIf p A B := .yes h t
theorem a8 {e : Int} {K : Int → Prop} (hK : K e) (h1 : 0 ≤ e := by omega) (h2 : e ≤ 18446744073709551615 := by omega) : NWrap .u64 e K := .u64 h1 h2 hK
theorem b1 {p : Prop} {K : Bool → Prop} (h : K true) (hp : p := by omega) : NTF p K := .yes hp h
theorem b2 {p : Prop} {K : Bool → Prop} (h : K false) (hp : ¬ p := by omega) : NTF p K := .no hp h
theorem b3 {P : Program} {T : TT} {sz pin : Nat} {all : List Oper} {env : Env} {obs : Obs} {nx : Nat} {K : Env → Obs → Nat → Prop} (h : opsK P T sz true all all env obs nx K) (hq : quietB T all = true := by exact rfl) (lex : Region.lexB .any all.toArray = true := by kernel_rfl) : NDraw P T sz pin all env obs nx K := .q hq lex h
end Go.Proofs.Ytdehibmofmfkbaa.V

namespace Go.Proofs.Ytdehibmofmfkbaa
open Go Go.RowKit V
theorem v_fwithin (n a b : Int) : V.Fn Try.prog 72 [] [.one (.val (.int .i64 n)), .one (.val (.int .i64 a)), .one (.val (.int .i64 b))] (.bool (decide (a ≤ n ∧ n ≤ b))) := by
  refine V.Fn.mk_ V.Tok V.mixed Try.func72 rfl Try.ntmps72 (by kernel_rfl) rfl rfl ?_
  repeat' ((conv => whnf); first | refine V.NCond.mk ?_ | refine V.NPick.l ?_ | refine V.NIf.not_ ?_ | refine V.NIf.dec_ ?_ | refine V.a4 ?_ | refine V.a5 ?_ | refine V.NIf.mk (fun _ => ?_) (fun _ => ?_) | refine V.a7 ?_ | refine V.a8 ?_ | refine V.a9 ?_ | refine V.NBoth.mk ?_ ?_ | refine V.b1 ?_ | refine V.b2 ?_ | refine V.NTF.dec ?_ | refine V.b3 ?_ | refine V.b4 ?_ | (refine V.NDraw.any (by kernel_rfl) ?_) | fail)
  · exact ⟨_, rfl, by simp_all⟩
  · exact congrArg Value.bool (by simp_all; omega)
theorem v_dcheck (n : Int) : V.Fn Try.prog 30 [] [.one (.val (.int .i64 n))] (.int .i64 (D.chk n)) := by
  refine V.Fn.mk_ V.Tok V.mixed Try.func30 rfl Try.ntmps30 (by kernel_rfl) rfl rfl ?_
  repeat' ((conv => whnf); first | refine V.NCond.mk ?_ | refine V.NPick.l ?_ | refine V.NIf.not_ ?_ | refine V.NIf.dec_ ?_ | refine V.a4 ?_ | refine V.a5 ?_ | refine V.NIf.mk (fun _ => ?_) (fun _ => ?_) | refine V.a7 ?_ | refine V.a8 ?_ | refine V.a9 ?_ | refine V.NBoth.mk ?_ ?_ | refine V.b1 ?_ | refine V.b2 ?_ | refine V.NTF.dec ?_ | refine V.b3 ?_ | refine V.b4 ?_ | (refine V.NDraw.any (by kernel_rfl) ?_) | fail)
  all_goals ((conv => whnf); refine congrArg _ ?_; unfold D.chk; (repeat' split) <;> first | rfl | omega | (exfalso; omega) | (simp_all; done) | (simp_all; omega))
theorem v_known (f : Fl) : V.Fn Try.prog 71 [] [.agg [.val (.int .i64 f.id), .val (.int .i64 f.fr), .val (.int .i64 f.to), .val (.int .i64 f.cl), .val (.int .i64 f.pa), .val (.int .i64 f.day), .val (.int .i64 f.un), .val (.int .i64 f.de), .val (.int .i64 f.bo), .val (.int .i64 f.pd)]] (.bool (decide (F.Kn f))) := by
  have k : D.chk f.day = 0 ↔ (0 ≤ f.day ∧ f.day ≤ 3652058) := by unfold D.chk; split <;> omega
  refine V.Fn.mk_ V.Tok V.mixed Try.func71 rfl Try.ntmps71 (by kernel_rfl) rfl rfl ?_
  repeat' ((conv => whnf); first | refine V.NCond.mk ?_ | refine V.NPick.l ?_ | refine V.NIf.not_ ?_ | refine V.NIf.dec_ ?_ | refine V.a4 ?_ | refine V.a5 ?_ | refine V.NIf.mk (fun _ => ?_) (fun _ => ?_) | refine V.a7 ?_ | refine V.a8 ?_ | refine V.a9 ?_ | refine V.NBoth.mk ?_ ?_ | refine V.b1 ?_ | refine V.b2 ?_ | refine V.NTF.dec ?_ | refine V.b3 ?_ | refine V.b4 ?_ | (first | refine V.Fn.k0 (v_fwithin _ _ _) rfl ?_ | refine V.Fn.q0 (v_fwithin _ _ _) rfl ?_ | refine V.Fn.a0 (v_fwithin _ _ _) rfl ?_) | (first | refine V.Fn.k0 (v_dcheck _) rfl ?_ | refine V.Fn.q0 (v_dcheck _) rfl ?_ | refine V.Fn.a0 (v_dcheck _) rfl ?_) | (refine V.NDraw.any (by kernel_rfl) ?_) | fail)
  · exact congrArg Value.bool (decide_eq_decide.2 (by unfold F.Kn; omega))
  all_goals exact congrArg Value.bool (decide_eq_false (by unfold F.Kn; omega)).symm
theorem v_fcheck (f : Fl) : V.Fn Try.prog 56 [] [.agg [.val (.int .i64 f.id), .val (.int .i64 f.fr), .val (.int .i64 f.to), .val (.int .i64 f.cl), .val (.int .i64 f.pa), .val (.int .i64 f.day), .val (.int .i64 f.un), .val (.int .i64 f.de), .val (.int .i64 f.bo), .val (.int .i64 f.pd)]] (.int .i64 (F.chk f)) := by
  have kun : F.Kn f → f.un ≤ 1073741824 := fun h => h.2.2.2.2.2.2.2
  refine V.Fn.mk_ V.Tok V.mixed Try.func56 rfl Try.ntmps56 (by kernel_rfl) rfl rfl ?_
  repeat' ((conv => whnf); first | refine V.NCond.mk ?_ | refine V.NPick.l ?_ | refine V.NIf.not_ ?_ | refine V.NIf.dec_ ?_ | refine V.a4 ?_ | refine V.a5 ?_ | refine V.NIf.mk (fun _ => ?_) (fun _ => ?_) | refine V.a7 ?_ | refine V.a8 ?_ | refine V.a9 ?_ | refine V.NBoth.mk ?_ ?_ | refine V.b1 ?_ | refine V.b2 ?_ | refine V.NTF.dec ?_ | refine V.b3 ?_ | refine V.b4 ?_ | (first | refine V.Fn.k0 (v_fwithin _ _ _) rfl ?_ | refine V.Fn.q0 (v_fwithin _ _ _) rfl ?_ | refine V.Fn.a0 (v_fwithin _ _ _) rfl ?_) | (first | refine V.Fn.k0 (v_known _) rfl ?_ | refine V.Fn.q0 (v_known _) rfl ?_ | refine V.Fn.a0 (v_known _) rfl ?_) | (refine V.NWrap.ok (by have := kun (by assumption); omega) (by have := kun (by assumption); omega) ?_) | (refine V.NDraw.any (by kernel_rfl) ?_) | fail)
  all_goals ((conv => whnf); refine congrArg _ ?_; unfold F.chk F.Pt; (repeat' split) <;> first | rfl | omega | (exfalso; omega) | (simp_all; done) | (simp_all; omega))
theorem v_fleft (f : Fl) (h : F.Ok f) : V.Fn Try.prog 35 [] [.agg [.val (.int .i64 f.id), .val (.int .i64 f.fr), .val (.int .i64 f.to), .val (.int .i64 f.cl), .val (.int .i64 f.pa), .val (.int .i64 f.day), .val (.int .i64 f.un), .val (.int .i64 f.de), .val (.int .i64 f.bo), .val (.int .i64 f.pd)]] (.int .i64 (F.left f)) := by
  have hb := F.ok_bounds h
  refine V.Fn.mk_ V.Tok V.mixed Try.func35 rfl Try.ntmps35 (by kernel_rfl) rfl rfl ?_
  repeat' ((conv => whnf); first | refine V.NCond.mk ?_ | refine V.NPick.l ?_ | refine V.NIf.not_ ?_ | refine V.NIf.dec_ ?_ | refine V.a4 ?_ | refine V.a5 ?_ | refine V.NIf.mk (fun _ => ?_) (fun _ => ?_) | refine V.a7 ?_ | refine V.a8 ?_ | refine V.a9 ?_ | refine V.NBoth.mk ?_ ?_ | refine V.b1 ?_ | refine V.b2 ?_ | refine V.NTF.dec ?_ | refine V.b3 ?_ | refine V.b4 ?_ | (refine V.NDraw.any (by kernel_rfl) ?_) | fail)
  exact rfl
theorem v_less (f : Fl) (u : Int) : V.Fn Try.prog 57 [] [.agg [.val (.int .i64 f.id), .val (.int .i64 f.fr), .val (.int .i64 f.to), .val (.int .i64 f.cl), .val (.int .i64 f.pa), .val (.int .i64 f.day), .val (.int .i64 f.un), .val (.int .i64 f.de), .val (.int .i64 f.bo), .val (.int .i64 f.pd)], .one (.val (.int .i64 u))] (.int .i64 (F.less f u)) := by
  refine V.Fn.mk_ V.Tok V.mixed Try.func57 rfl Try.ntmps57 (by kernel_rfl) rfl rfl ?_
  repeat' ((conv => whnf); first | refine V.NCond.mk ?_ | refine V.NPick.l ?_ | refine V.NIf.not_ ?_ | refine V.NIf.dec_ ?_ | refine V.a4 ?_ | refine V.a5 ?_ | refine V.NIf.mk (fun _ => ?_) (fun _ => ?_) | refine V.a7 ?_ | refine V.a8 ?_ | refine V.a9 ?_ | refine V.NBoth.mk ?_ ?_ | refine V.b1 ?_ | refine V.b2 ?_ | refine V.NTF.dec ?_ | refine V.b3 ?_ | refine V.b4 ?_ | (first | refine V.Fn.k0 (v_fwithin _ _ _) rfl ?_ | refine V.Fn.q0 (v_fwithin _ _ _) rfl ?_ | refine V.Fn.a0 (v_fwithin _ _ _) rfl ?_) | (first | refine V.Fn.k0 (v_fcheck _) rfl ?_ | refine V.Fn.q0 (v_fcheck _) rfl ?_ | refine V.Fn.a0 (v_fcheck _) rfl ?_) | (first | refine V.Fn.k0 (v_fleft f (F.chk_ok (by omega))) rfl ?_ | refine V.Fn.q0 (v_fleft f (F.chk_ok (by omega))) rfl ?_ | refine V.Fn.a0 (v_fleft f (F.chk_ok (by omega))) rfl ?_) | (refine V.NDraw.any (by kernel_rfl) ?_) | fail)
  all_goals ((conv => whnf); refine congrArg _ ?_; unfold F.less; (repeat' split) <;> first | rfl | omega | (exfalso; omega) | (simp_all; done) | (simp_all; omega))
theorem v_deliver (f : Fl) (u : Int) : V.Fn Try.prog 27 [] [.agg [.val (.int .i64 f.id), .val (.int .i64 f.fr), .val (.int .i64 f.to), .val (.int .i64 f.cl), .val (.int .i64 f.pa), .val (.int .i64 f.day), .val (.int .i64 f.un), .val (.int .i64 f.de), .val (.int .i64 f.bo), .val (.int .i64 f.pd)], .one (.val (.int .i64 u))] (.tuple #[.agg #[.int .i64 (F.deliver f u).id, .int .i64 (F.deliver f u).fr, .int .i64 (F.deliver f u).to, .int .i64 (F.deliver f u).cl, .int .i64 (F.deliver f u).pa, .int .i64 (F.deliver f u).day, .int .i64 (F.deliver f u).un, .int .i64 (F.deliver f u).de, .int .i64 (F.deliver f u).bo, .int .i64 (F.deliver f u).pd], .int .i64 (F.less f u)]) := by
  have key : F.less f u = 0 → f.de + u ≤ 1073741824 * 2 ∧ 0 ≤ f.de + u := fun h => by have h1 := F.less_ok h; have := F.ok_bounds h1.1; omega
  refine V.Fn.mk_ V.Tok V.mixed Try.func27 rfl Try.ntmps27 (by kernel_rfl) rfl rfl ?_
  repeat' ((conv => whnf); first | refine V.NCond.mk ?_ | refine V.NPick.l ?_ | refine V.NIf.not_ ?_ | refine V.NIf.dec_ ?_ | refine V.a4 ?_ | refine V.a5 ?_ | refine V.NIf.mk (fun _ => ?_) (fun _ => ?_) | refine V.a7 ?_ | refine V.a8 ?_ | refine V.a9 ?_ | refine V.NBoth.mk ?_ ?_ | refine V.b1 ?_ | refine V.b2 ?_ | refine V.NTF.dec ?_ | refine V.b3 ?_ | refine V.b4 ?_ | (first | refine V.Fn.k0 (v_less _ _) rfl ?_ | refine V.Fn.q0 (v_less _ _) rfl ?_ | refine V.Fn.a0 (v_less _ _) rfl ?_) | (refine V.NDraw.any (by kernel_rfl) ?_) | fail)
  all_goals rename_i h
  · rw [F.deliver_yes h, h]; exact V.S_
  · rw [F.deliver_no h]; exact V.S_
theorem v_buy (f : Fl) (u : Int) : V.Fn Try.prog 53 [] [.agg [.val (.int .i64 f.id), .val (.int .i64 f.fr), .val (.int .i64 f.to), .val (.int .i64 f.cl), .val (.int .i64 f.pa), .val (.int .i64 f.day), .val (.int .i64 f.un), .val (.int .i64 f.de), .val (.int .i64 f.bo), .val (.int .i64 f.pd)], .one (.val (.int .i64 u))] (.tuple #[.agg #[.int .i64 (F.buy f u).id, .int .i64 (F.buy f u).fr, .int .i64 (F.buy f u).to, .int .i64 (F.buy f u).cl, .int .i64 (F.buy f u).pa, .int .i64 (F.buy f u).day, .int .i64 (F.buy f u).un, .int .i64 (F.buy f u).de, .int .i64 (F.buy f u).bo, .int .i64 (F.buy f u).pd], .int .i64 (F.less f u)]) := by
  have key : F.less f u = 0 → f.bo + u ≤ 1073741824 * 2 ∧ 0 ≤ f.bo + u := fun h => by have h1 := F.less_ok h; have := F.ok_bounds h1.1; omega
  refine V.Fn.mk_ V.Tok V.mixed Try.func53 rfl Try.ntmps53 (by kernel_rfl) rfl rfl ?_
  repeat' ((conv => whnf); first | refine V.NCond.mk ?_ | refine V.NPick.l ?_ | refine V.NIf.not_ ?_ | refine V.NIf.dec_ ?_ | refine V.a4 ?_ | refine V.a5 ?_ | refine V.NIf.mk (fun _ => ?_) (fun _ => ?_) | refine V.a7 ?_ | refine V.a8 ?_ | refine V.a9 ?_ | refine V.NBoth.mk ?_ ?_ | refine V.b1 ?_ | refine V.b2 ?_ | refine V.NTF.dec ?_ | refine V.b3 ?_ | refine V.b4 ?_ | (first | refine V.Fn.k0 (v_less _ _) rfl ?_ | refine V.Fn.q0 (v_less _ _) rfl ?_ | refine V.Fn.a0 (v_less _ _) rfl ?_) | (refine V.NDraw.any (by kernel_rfl) ?_) | fail)
  all_goals rename_i h
  · rw [F.buy_yes h, h]; exact V.S_
  · rw [F.buy_no h]; exact V.S_
theorem v_pay (f : Fl) : V.Fn Try.prog 54 [] [.agg [.val (.int .i64 f.id), .val (.int .i64 f.fr), .val (.int .i64 f.to), .val (.int .i64 f.cl), .val (.int .i64 f.pa), .val (.int .i64 f.day), .val (.int .i64 f.un), .val (.int .i64 f.de), .val (.int .i64 f.bo), .val (.int .i64 f.pd)]] (.tuple #[.agg #[.int .i64 (F.pay f).id, .int .i64 (F.pay f).fr, .int .i64 (F.pay f).to, .int .i64 (F.pay f).cl, .int .i64 (F.pay f).pa, .int .i64 (F.pay f).day, .int .i64 (F.pay f).un, .int .i64 (F.pay f).de, .int .i64 (F.pay f).bo, .int .i64 (F.pay f).pd], .int .i64 (F.paid f), .int .i64 (F.less f 1)]) := by
  have key : F.less f 1 = 0 → f.pd + F.left f ≤ 1073741824 * 2 ∧ 0 ≤ f.pd + F.left f := fun h => by have h1 := F.less_ok h; have := F.ok_bounds h1.1; omega
  refine V.Fn.mk_ V.Tok V.mixed Try.func54 rfl Try.ntmps54 (by kernel_rfl) rfl rfl ?_
  repeat' ((conv => whnf); first | refine V.NCond.mk ?_ | refine V.NPick.l ?_ | refine V.NIf.not_ ?_ | refine V.NIf.dec_ ?_ | refine V.a4 ?_ | refine V.a5 ?_ | refine V.NIf.mk (fun _ => ?_) (fun _ => ?_) | refine V.a7 ?_ | refine V.a8 ?_ | refine V.a9 ?_ | refine V.NBoth.mk ?_ ?_ | refine V.b1 ?_ | refine V.b2 ?_ | refine V.NTF.dec ?_ | refine V.b3 ?_ | refine V.b4 ?_ | (first | refine V.Fn.k0 (v_less _ _) rfl ?_ | refine V.Fn.q0 (v_less _ _) rfl ?_ | refine V.Fn.a0 (v_less _ _) rfl ?_) | (first | refine V.Fn.k0 (v_fleft f (F.less_ok (by assumption)).1) rfl ?_ | refine V.Fn.q0 (v_fleft f (F.less_ok (by assumption)).1) rfl ?_ | refine V.Fn.a0 (v_fleft f (F.less_ok (by assumption)).1) rfl ?_) | (refine V.NDraw.any (by kernel_rfl) ?_) | fail)
  all_goals rename_i h
  · rw [(F.pay_yes h).1, (F.pay_yes h).2, h]; exact V.S_
  · rw [(F.pay_no h).1, (F.pay_no h).2]; exact V.S_
theorem v_open (f : Fl) : V.Fn Try.prog 25 [] [.agg [.val (.int .i64 f.id), .val (.int .i64 f.fr), .val (.int .i64 f.to), .val (.int .i64 f.cl), .val (.int .i64 f.pa), .val (.int .i64 f.day), .val (.int .i64 f.un), .val (.int .i64 f.de), .val (.int .i64 f.bo), .val (.int .i64 f.pd)]] (.tuple #[.int .i64 (F.opn f), .int .i64 (F.chk f)]) := by
  refine V.Fn.mk_ V.Tok V.mixed Try.func25 rfl Try.ntmps25 (by kernel_rfl) rfl rfl ?_
  repeat' ((conv => whnf); first | refine V.NCond.mk ?_ | refine V.NPick.l ?_ | refine V.NIf.not_ ?_ | refine V.NIf.dec_ ?_ | refine V.a4 ?_ | refine V.a5 ?_ | refine V.NIf.mk (fun _ => ?_) (fun _ => ?_) | refine V.a7 ?_ | refine V.a8 ?_ | refine V.a9 ?_ | refine V.NBoth.mk ?_ ?_ | refine V.b1 ?_ | refine V.b2 ?_ | refine V.NTF.dec ?_ | refine V.b3 ?_ | refine V.b4 ?_ | (first | refine V.Fn.k0 (v_fcheck _) rfl ?_ | refine V.Fn.q0 (v_fcheck _) rfl ?_ | refine V.Fn.a0 (v_fcheck _) rfl ?_) | (first | refine V.Fn.k0 (v_fleft f (F.chk_ok (by assumption))) rfl ?_ | refine V.Fn.q0 (v_fleft f (F.chk_ok (by assumption))) rfl ?_ | refine V.Fn.a0 (v_fleft f (F.chk_ok (by assumption))) rfl ?_) | (refine V.NDraw.any (by kernel_rfl) ?_) | fail)
  all_goals rename_i h
  · rw [F.opn_yes h, h]; exact V.S_
  · rw [F.opn_no h]; exact V.S_
end Go.Proofs.Ytdehibmofmfkbaa

namespace Go.Proofs.Ytdehibmofmfkbaa.V
open Go Go.RowKit
variable [Dr]
def isNew : Ob → Bool
  | .row _ _ _ _ | .arr _ _ _ => true
  | _ => false
def glue (m : Nat) (ρ ν : Rho) : Rho := fun i => if i < m then ρ i else ν i
structure News (B m : Nat) (ν : Rho) (w : World) (ros : List Ob) : Prop where
  sat : ∀ (j : Nat) o, ros[j]? = some o → Sat B ν w (m + j) o ∧ ∀ b, foot ν (m + j) o = some b → B ≤ b
  apart : ∀ (j k : Nat) o o' b, ros[j]? = some o → ros[k]? = some o' → j ≠ k → foot ν (m + j) o = some b → foot ν (m + k) o' ≠ some b
def svBv (n : Nat) : SV → Bool
  | .tup l => l.all (svB n)
  | v => svB n v
structure FnR (P : Program) (f : FuncId) (os : List Ob) (args : List SV) (v : SV) (ros : List Ob) : Prop where
  b : hasBody P f = true
  n : ros.all isNew = true
  k : svBv (os.length + ros.length) v = true
  c : ∀ w ρ xs, (∀ (i : Nat) o, os[i]? = some o → ∃ v, ρ i = some v ∧ Ro ρ w v o) → Svs ρ args xs → Calls P f xs.toArray w fun e w' => ∃ ν x, e = .returned x ∧ v.is (glue os.length ρ ν) x ∧ News w.heap.size os.length ν w' ros ∧ Belw w.heap.size w w'
def renV (σ : Nat → Nat) : SV → SV
  | .tup l => .tup (l.map (renS σ))
  | v => renS σ v
theorem CapsAre.ren {τ : Nat → Nat} {ρ : Rho} : ∀ {l : List Nat} {xs : List Value}, CapsAre (via τ ρ) l xs → CapsAre ρ (l.map τ) xs
  | [], _, h => h
  | i :: l, _, ⟨a, r, e, hx, hr⟩ => ⟨a, r, e, hx, CapsAre.ren hr⟩
theorem At.ren {τ : Nat → Nat} {ρ : Rho} {a : At} {x : Value} (h : a.is (via τ ρ) x) : (renA τ a).is ρ x := by
  cases a with
  | clo f l => obtain ⟨cs, hc, e⟩ := h; exact ⟨cs, CapsAre.ren hc, e⟩
  | _ => exact h
theorem Ats.ren {τ : Nat → Nat} {ρ : Rho} : ∀ {l : List At} {x : List Value}, Ats (V.via τ ρ) l x → Ats ρ (l.map (renA τ)) x
  | [], _, h => h
  | a :: l, _, ⟨u, r, hx, hu, hr⟩ => ⟨u, r, hx, At.ren hu, Ats.ren hr⟩
theorem SV.ren1 {τ : Nat → Nat} {ρ : Rho} {v : SV} {x : Value} (h : v.is1 (via τ ρ) x) : (renS τ v).is1 ρ x := by
  cases v with
  | one a => exact At.ren (a := a) h
  | agg l => obtain ⟨c, e, hx⟩ := h; exact ⟨c, e.ren, hx⟩
  | tup l => exact (show False from h).elim
theorem Svs.ren {τ : Nat → Nat} {ρ : Rho} : ∀ {l : List SV} {x : List Value}, Svs (V.via τ ρ) l x → Svs ρ (l.map (renS τ)) x
  | [], _, h => h
  | a :: l, _, ⟨u, r, hx, hu, hr⟩ => ⟨u, r, hx, SV.ren1 hu, Svs.ren hr⟩
theorem SV.renv {τ : Nat → Nat} {ρ : Rho} {v : SV} {x : Value} (h : v.is (via τ ρ) x) : (renV τ v).is ρ x := by
  cases v with
  | one a => exact At.ren (a := a) h
  | agg l => obtain ⟨c, e, hx⟩ := h; exact ⟨c, e.ren, hx⟩
  | tup l => obtain ⟨c, e, hx⟩ := h; exact ⟨c, e.ren, hx⟩
theorem ext_cut (n : Nat) (ρ : Rho) : Ext (cut n ρ) ρ := fun i y h => by
  unfold cut at h
  split at h
  · exact h
  · cases h
theorem Svs.cut' {nx : Nat} {ρ : Rho} : ∀ {l : List SV} {xs : List Value}, l.all (svB nx) = true → Svs ρ l xs → Svs (V.cut nx ρ) l xs := fun hb h => Svs.cut (by exact hb) h
theorem SV.is_agree {n : Nat} {ρ ρ' : Rho} {v : SV} {x : Value} (hb : svBv n v = true) (he : ∀ i, i < n → ρ i = ρ' i) (h : v.is ρ x) : v.is ρ' x := by
  have e : V.cut n ρ = V.cut n ρ' := funext fun i => by unfold V.cut; split <;> simp_all
  have hc : v.is (V.cut n ρ) x := by
    cases v with
    | one a => exact SV.is_cut (v := .one a) hb h
    | agg l => exact SV.is_cut (v := .agg l) hb h
    | tup l => obtain ⟨c, hc, hx⟩ := h; exact ⟨c, Svs.cut' hb hc, hx⟩
  rw [e] at hc
  exact SV.is_ext (ext_cut n ρ') hc
def newO : Nat → List Ob → Obs → Obs
  | _, [], obs => obs
  | i, o :: r, obs => newO (i + 1) r ((i, o) :: obs)
theorem newO_spec : ∀ {ros : List Ob} {n : Nat} {obs : Obs} {i : Nat} {o : Ob}, fnd (newO n ros obs) i = some o → (n ≤ i ∧ ros[i - n]? = some o) ∨ ((i < n ∨ n + ros.length ≤ i) ∧ fnd obs i = some o)
  | [], n, obs, i, o, h => .inr ⟨by rcases Nat.lt_or_ge i n with q | q <;> simp <;> omega, h⟩
  | u :: r, n, obs, i, o, h => by
    rcases newO_spec (ros := r) h with ⟨h1, h2⟩ | ⟨h1, h2⟩
    · left; exact ⟨by omega, by rw [show i - n = (i - (n + 1)) + 1 by omega]; simpa using h2⟩
    · rcases fnd_cons h2 with ⟨rfl, rfl⟩ | ⟨hn, h3⟩
      · left; exact ⟨Nat.le_refl _, by simp⟩
      · right; exact ⟨by simp; omega, h3⟩
theorem Sat.mono {B B' : Nat} {ρ : Rho} {w : World} {i : Nat} {o : Ob} (hn : isNew o = true) (h : Sat B' ρ w i o) (hb : B ≤ B') : Sat B ρ w i o := by
  cases o with
  | row t s n get =>
    obtain ⟨v, e, A, c, ev, h1, h2, h3⟩ := h
    refine ⟨v, e, A, c, ev, h1, h2, ?_⟩
    rcases h3 with q | ⟨g, cur, q1, q2, q3⟩
    · exact .inl q
    · exact .inr ⟨g, cur, q1, by omega, q3⟩
  | arr s n get => exact h
  | _ => cases hn
theorem Sat.at_ {B : Nat} {ρ ρ' : Rho} {w : World} {i j : Nat} {o : Ob} (hn : isNew o = true) (he : ρ' j = ρ i) (h : Sat B ρ w i o) : Sat B ρ' w j o := by
  cases o with
  | row t s n get => obtain ⟨v, e, q⟩ := h; exact ⟨v, he.trans e, q⟩
  | arr s n get => obtain ⟨v, e, q⟩ := h; exact ⟨v, he.trans e, q⟩
  | _ => cases hn
theorem foot_at {ρ ρ' : Rho} {i j : Nat} {o : Ob} (he : ρ' j = ρ i) : foot ρ' j o = foot ρ i o := by
  have hb : base ρ' j = base ρ i := by unfold base; rw [he]
  cases o <;> simp only [foot, hb, he]
theorem isNew_at {ros : List Ob} (h : ros.all isNew = true) {j : Nat} {o : Ob} (ho : ros[j]? = some o) : isNew o = true := List.all_eq_true.1 h o (List.mem_of_getElem? ho)
theorem new_ns {o : Ob} (h : isNew o = true) (b : Nat) : ¬ sub o b := by
  cases o with
  | rws t e s N vs xs => cases h
  | _ => exact fun h => h
theorem Cls.adds {B nx m : Nat} {ρ ν ρ' : Rho} {obs : Obs} {w w' : World} {ros : List Ob} (h : Cls B ρ obs nx w) (hb : Belw w.heap.size w w') (hn : ros.all isNew = true) (hN : News w.heap.size m ν w' ros)
    (h1 : ∀ i, i < nx → ρ' i = ρ i) (h2 : ∀ j, j < ros.length → ρ' (nx + j) = ν (m + j)) (h3 : ∀ i, nx + ros.length ≤ i → ρ' i = none) : Cls B ρ' (newO nx ros obs) (nx + ros.length) w' := by
  have hx : Ext ρ ρ' := fun i y hy => by
    by_cases hi : i < nx
    · rw [h1 i hi]; exact hy
    · rw [h.new i (by omega)] at hy; cases hy
  have lt : ∀ i o, fnd obs i = some o → o = .gone ∨ i < nx := fun i o ho => by
    rcases Nat.lt_or_ge i nx with q | q
    · exact .inr q
    · left
      have hs := h.sat i o ho
      cases o with
      | gone => rfl
      | box t l => obtain ⟨b, cs, e, _⟩ := hs; rw [h.new i q] at e; cases e
      | lit t s rows => obtain ⟨b, cs, e, _⟩ := hs; rw [h.new i q] at e; cases e
      | arr s n get => obtain ⟨v, e, _⟩ := hs; rw [h.new i q] at e; cases e
      | cel l => obtain ⟨v, cs, e, _⟩ := hs; rw [h.new i q] at e; cases e
      | row t s n get => obtain ⟨v, e, _⟩ := hs; rw [h.new i q] at e; cases e
      | lp L env st => obtain ⟨_, _, _, _, e, _⟩ := hs; rw [h.new i q] at e; cases e
      | tab g l => obtain ⟨e, _⟩ := hs; rw [h.new i q] at e; cases e
      | vw r a s => obtain ⟨_, _, _, _, _, e⟩ := hs; rw [h.new i q] at e; cases e
      | rov v t s n get => obtain ⟨e, _⟩ := hs; rw [h.new i q] at e; cases e
      | rws t e s N vs xs => obtain ⟨⟨v, e, _⟩, _⟩ := hs; rw [h.new i q] at e; cases e
  have oldF : ∀ i o b, fnd obs i = some o → foot ρ' i o = some b → foot ρ i o = some b ∧ b < w.heap.size := fun i o b ho hf => by
    rcases lt i o ho with rfl | q
    · cases hf
    · rw [foot_at (h1 i q)] at hf
      exact ⟨hf, foot_lt (h.sat i o ho) hf⟩
  have newF : ∀ j o b, ros[j]? = some o → foot ρ' (nx + j) o = some b → foot ν (m + j) o = some b ∧ w.heap.size ≤ b := fun j o b ho hf => by
    have hj : j < ros.length := (List.getElem?_eq_some_iff.1 ho).1
    rw [foot_at (h2 j hj)] at hf
    exact ⟨hf, (hN.sat j o ho).2 b hf⟩
  refine ⟨Nat.le_trans h.le hb.size, fun i o ho => ?_, fun i j o o' b hi hj hne hm hf hf' => ?_, h3, fun i j o o' b hi hj hb => ?_⟩
  · rcases newO_spec ho with ⟨q1, q2⟩ | ⟨_, q⟩
    · have hj : i - nx < ros.length := (List.getElem?_eq_some_iff.1 q2).1
      have hi : nx + (i - nx) = i := by omega
      have := ((hN.sat _ o q2).1.mono (isNew_at hn q2) h.le).at_ (isNew_at hn q2) (h2 _ hj)
      rwa [hi] at this
    · exact ((h.sat i o q).keep hb.size (fun b hf => hb.block b (foot_lt (h.sat i o q) hf)) fun b hf => hb.block b (sub_lt (h.sat i o q) hf).2).ext hx
  · rcases newO_spec hi with ⟨q1, q2⟩ | ⟨_, q⟩ <;> rcases newO_spec hj with ⟨r1, r2⟩ | ⟨_, r⟩
    · have e1 : nx + (i - nx) = i := by omega
      have e2 : nx + (j - nx) = j := by omega
      obtain ⟨f1, _⟩ := newF _ o b q2 (by rw [e1]; exact hf)
      obtain ⟨f2, _⟩ := newF _ o' b r2 (by rw [e2]; exact hf')
      exact hN.apart _ _ o o' b q2 r2 (by omega) f1 f2
    · have e1 : nx + (i - nx) = i := by omega
      obtain ⟨_, g1⟩ := newF _ o b q2 (by rw [e1]; exact hf)
      obtain ⟨_, g2⟩ := oldF j o' b r hf'
      omega
    · have e2 : nx + (j - nx) = j := by omega
      obtain ⟨_, g1⟩ := newF _ o' b r2 (by rw [e2]; exact hf')
      obtain ⟨_, g2⟩ := oldF i o b q hf
      omega
    · exact h.apart i j o o' b q r hne hm (oldF i o b q hf).1 (oldF j o' b r hf').1
  · rcases newO_spec hi with ⟨q1, q2⟩ | ⟨_, q⟩
    · exact absurd hb (new_ns (isNew_at hn q2) b)
    · rcases newO_spec hj with ⟨r1, r2⟩ | ⟨_, r⟩
      · have e2 : nx + (j - nx) = j := by omega
        refine ⟨fun hf => ?_, fun _ => new_ns (isNew_at hn r2) b⟩
        obtain ⟨_, g1⟩ := newF _ o' b r2 (by rw [e2]; exact hf)
        have := (sub_lt (h.sat i o q) hb).2
        omega
      · exact ⟨fun hf => (h.apx i j o o' b q r hb).1 (oldF j o' b r hf).1, (h.apx i j o o' b q r hb).2⟩
def tau (m : Nat) (σ : List Nat) (nx : Nat) (i : Nat) : Nat := if i < m then sg σ i else nx + (i - m)
theorem FnR.goA {P : Program} {f : FuncId} {os : List Ob} {args args' : List SV} {v : SV} {ros : List Ob} (h : FnR P f os args v ros) (σ : List Nat) {obs : Obs} {nx : Nat} {K : SV → Obs → Nat → Prop} (ha : SameS (sg σ) args args') (ho : ObsTo (sg σ) obs 0 os)
    (hK : K (renV (tau os.length σ nx) v) (newO nx ros obs) (nx + ros.length)) : NCallA P f args' obs nx K :=
  ⟨h.b, fun B ρ w xs hC hs => by
    have hr := fun (i : Nat) o hi => by have := ObsTo.ro hC ho i o hi; simpa using this
    refine (h.c w (fun i => ρ (sg σ i)) xs hr (ha.is_ hs)).mono ?_
    rintro e w' ⟨ν, x, he, hv, hN, hw⟩
    let ρ' : Rho := fun i => if i < nx then ρ i else if i < nx + ros.length then ν (os.length + (i - nx)) else none
    have e1 : ∀ i, i < nx → ρ' i = ρ i := fun i hi => if_pos hi
    have e2 : ∀ j, j < ros.length → ρ' (nx + j) = ν (os.length + j) := fun j hj => by
      show (if nx + j < nx then _ else if nx + j < nx + ros.length then _ else _) = _
      rw [if_neg (by omega), if_pos (by omega)]; congr 2; omega
    have e3 : ∀ i, nx + ros.length ≤ i → ρ' i = none := fun i hi => by
      show (if i < nx then _ else if i < nx + ros.length then _ else _) = _
      rw [if_neg (by omega), if_neg (by omega)]
    refine ⟨_, _, _, ρ', x, hK, fun i y hy => ?_, he, SV.renv (SV.is_agree h.k (fun i hi => ?_) hv), hC.adds hw h.n hN e1 e2 e3, hw⟩
    · by_cases hi : i < nx
      · rw [e1 i hi]; exact hy
      · rw [hC.new i (by omega)] at hy; cases hy
    · show glue os.length _ ν i = ρ' (tau os.length σ nx i)
      unfold glue tau
      by_cases hi' : i < os.length
      · rw [if_pos hi', if_pos hi']
        obtain ⟨y, hy, _⟩ := hr i _ (List.getElem?_eq_getElem hi')
        have hy : ρ (sg σ i) = some y := hy
        have : sg σ i < nx := by
          rcases Nat.lt_or_ge (sg σ i) nx with q | q
          · exact q
          · rw [hC.new _ q] at hy; cases hy
        exact (e1 _ this).symm
      · rw [if_neg hi', if_neg hi', e2 (i - os.length) (by omega)]; congr 1; omega⟩
theorem FnR.go {P : Program} {f : FuncId} {os : List Ob} {args args' : List SV} {v : SV} {ros : List Ob} (h : FnR P f os args v ros) (σ : List Nat) {obs : Obs} {nx : Nat} {K : SV → Obs → Nat → Prop} (ha : SameS (sg σ) args args') (ho : ObsTo (sg σ) obs 0 os)
    (hK : K (renV (tau os.length σ nx) v) (newO nx ros obs) (nx + ros.length)) : NCall P f args' obs nx K := (h.goA σ ha ho hK).to
theorem FnR.a_ {P : Program} {f : FuncId} {os : List Ob} {args : List SV} {v : SV} {ros : List Ob} (h : FnR P f os args v ros) (σ : List Nat) (hp : plainS args = true) {obs : Obs} {nx : Nat} {K : SV → Obs → Nat → Prop} (ho : ObsTo (sg σ) obs 0 os)
    (hK : K (renV (tau os.length σ nx) v) (newO nx ros obs) (nx + ros.length)) : NCallA P f (args.map (renS (sg σ))) obs nx K :=
  h.goA σ (SameS.ren _ _ hp) ho hK
theorem FnR.a0 {P : Program} {f : FuncId} {args : List SV} {v : SV} {ros : List Ob} (h : FnR P f [] args v ros) (hp : plain0 args = true) {obs : Obs} {nx : Nat} {K : SV → Obs → Nat → Prop}
    (hK : K (renV (tau 0 [] nx) v) (newO nx ros obs) (nx + ros.length)) : NCallA P f args obs nx K :=
  h.goA [] (SameS.self hp) trivial hK
theorem FnR.k_ {P : Program} {f : FuncId} {os : List Ob} {args : List SV} {v : SV} {ros : List Ob} (h : FnR P f os args v ros) (σ : List Nat) (hp : plainS args = true) {obs : Obs} {nx : Nat} {K : SV → Obs → Nat → Prop} (ho : ObsTo (sg σ) obs 0 os)
    (hK : K (renV (tau os.length σ nx) v) (newO nx ros obs) (nx + ros.length)) : NCall P f (args.map (renS (sg σ))) obs nx K :=
  h.go σ (SameS.ren _ _ hp) ho hK
theorem FnR.k0 {P : Program} {f : FuncId} {args : List SV} {v : SV} {ros : List Ob} (h : FnR P f [] args v ros) (hp : plain0 args = true) {obs : Obs} {nx : Nat} {K : SV → Obs → Nat → Prop}
    (hK : K (renV (tau 0 [] nx) v) (newO nx ros obs) (nx + ros.length)) : NCall P f args obs nx K :=
  h.go [] (SameS.self hp) trivial hK
def RetA (m : Nat) (l : List (Option Nat)) : At → At → Prop
  | .val x, .val y => y = x
  | .val x, .tf b => Value.bool b = x
  | .val (.bool b), .prop p => p ↔ b = true
  | .ref i, .ref j => if i < m then i = j else l[i - m]? = some (some j)
  | .ref i, .val (.slice none 0 0) => m ≤ i ∧ l[i - m]? = some none
  | _, _ => False
def RetAs (m : Nat) (l : List (Option Nat)) : List At → List At → Prop
  | [], [] => True
  | a :: r, b :: s => RetA m l a b ∧ RetAs m l r s
  | _, _ => False
def Ret1 (m : Nat) (l : List (Option Nat)) : SV → SV → Prop
  | .one a, .one b => RetA m l a b
  | .agg r, .agg s => RetAs m l r s
  | _, _ => False
def Rets (m : Nat) (l : List (Option Nat)) : List SV → List SV → Prop
  | [], [] => True
  | a :: r, b :: s => Ret1 m l a b ∧ Rets m l r s
  | _, _ => False
def RetV (m : Nat) (l : List (Option Nat)) : SV → SV → Prop
  | .tup r, .tup s => Rets m l r s
  | .tup _, _ | _, .tup _ => False
  | a, b => Ret1 m l a b
def ObRet : Ob → Ob → Prop
  | .row t s n g, .row t' s' n' g' => t = t' ∧ s = s' ∧ n = n' ∧ ∀ k, k < n → g k = g' k
  | .row _ s n g, .arr s' n' g' => s = s' ∧ n = n' ∧ ∀ k, k < n → g k = g' k
  | .lit _ s rows, .arr s' n' g' => s = s' ∧ rows.length = n' ∧ LitTo g' 0 rows
  | .lit t s rows, .row t' s' n' g' => t = t' ∧ s = s' ∧ rows.length = n' ∧ 0 < n' ∧ LitTo g' 0 rows
  | _, _ => False
def ObNil : Ob → Prop
  | .row _ _ n _ => n = 0
  | .arr _ n _ => n = 0
  | _ => False
def RetO (obs : Obs) : List (Option Nat) → List Ob → Prop
  | [], [] => True
  | none :: l, o :: r => ObNil o ∧ RetO obs l r
  | some i :: l, o :: r => fndK obs i (fun u => ObRet u o) ∧ RetO obs l r
  | _, _ => False
def somes : List (Option Nat) → List Nat
  | [] => []
  | none :: r => somes r
  | some i :: r => i :: somes r
structure NRet (m : Nat) (v : SV) (ros : List Ob) (v1 : SV) (obs1 : Obs) : Prop where
  h : ∃ l : List (Option Nat), nodB (somes l) = true ∧ RetV m l v v1 ∧ RetO obs1 l ros
theorem NRet.mk_ {m : Nat} {v : SV} {ros : List Ob} {v1 : SV} {obs1 : Obs} (l : List (Option Nat)) (h0 : nodB (somes l) = true) (h1 : RetV m l v v1) (h2 : RetO obs1 l ros) : NRet m v ros v1 obs1 := ⟨⟨l, h0, h1, h2⟩⟩
theorem RetO.get {obs : Obs} : ∀ {l : List (Option Nat)} {ros : List Ob}, RetO obs l ros → l.length = ros.length ∧ ∀ (j : Nat) o, ros[j]? = some o → (l[j]? = some none ∧ ObNil o) ∨ ∃ i u, l[j]? = some (some i) ∧ fnd obs i = some u ∧ ObRet u o
  | [], [], _ => ⟨rfl, fun j o h => by simp at h⟩
  | [], _ :: _, h => h.elim
  | none :: _, [], h => h.elim
  | some _ :: _, [], h => h.elim
  | none :: l, o :: r, ⟨h1, h2⟩ => by
    obtain ⟨e, q⟩ := RetO.get h2
    refine ⟨by simp [e], fun j u hu => ?_⟩
    cases j with
    | zero => simp at hu; subst hu; exact .inl ⟨rfl, h1⟩
    | succ j => simpa using q j u (by simpa using hu)
  | some i :: l, o :: r, ⟨h1, h2⟩ => by
    obtain ⟨e, q⟩ := RetO.get h2
    refine ⟨by simp [e], fun j u hu => ?_⟩
    cases j with
    | zero =>
      simp at hu; subst hu
      obtain ⟨u, hu, hr⟩ := fndK_spec h1
      exact .inr ⟨i, u, rfl, hu, hr⟩
    | succ j => simpa using q j u (by simpa using hu)
theorem mem_somes {i : Nat} : ∀ {l : List (Option Nat)} {j : Nat}, l[j]? = some (some i) → i ∈ somes l
  | [], j, h => by simp at h
  | none :: r, j, h => by
    cases j with
    | zero => simp at h
    | succ j => exact mem_somes (l := r) (by simpa using h)
  | some k :: r, j, h => by
    cases j with
    | zero => simp at h; subst h; simp [somes]
    | succ j => simp [somes, mem_somes (l := r) (j := j) (by simpa using h)]
theorem somes_inj {i : Nat} : ∀ {l : List (Option Nat)} {j k : Nat}, nodB (somes l) = true → l[j]? = some (some i) → l[k]? = some (some i) → j = k
  | [], j, k, _, h, _ => by simp at h
  | none :: r, j, k, hn, h, h' => by
    cases j with
    | zero => simp at h
    | succ j =>
      cases k with
      | zero => simp at h'
      | succ k => exact congrArg (· + 1) (somes_inj (l := r) hn (by simpa using h) (by simpa using h'))
  | some x :: r, j, k, hn, h, h' => by
    unfold somes nodB at hn
    cases hm : memB x (somes r) <;> simp only [hm] at hn
    · cases j with
      | zero =>
        cases k with
        | zero => rfl
        | succ k =>
          simp at h; subst h
          have := memB_of (mem_somes (l := r) (j := k) (by simpa using h'))
          rw [hm] at this; cases this
      | succ j =>
        cases k with
        | zero =>
          simp at h'; subst h'
          have := memB_of (mem_somes (l := r) (j := j) (by simpa using h))
          rw [hm] at this; cases this
        | succ k => exact congrArg (· + 1) (somes_inj (l := r) hn (by simpa using h) (by simpa using h'))
    · cases hn
def nuOf (m : Nat) (l : List (Option Nat)) (ρ : Rho) : Rho := fun i => match l[i - m]? with
  | some (some j) => ρ j
  | some none => some (.slice none 0 0)
  | none => none
theorem RetA.is_ {m : Nat} {l : List (Option Nat)} {ρ ρ0 : Rho} (h0 : ∀ i, i < m → ρ0 i = ρ i) : ∀ {a b : At} {x : Value}, RetA m l a b → b.is ρ x → a.is (glue m ρ0 (nuOf m l ρ)) x
  | .val u, .val y, x, h, hb => Eq.trans hb h
  | .val u, .tf b, x, h, hb => Eq.trans hb h
  | .val u, .prop p, x, h, hb => by
    cases u <;> try exact (show False from h).elim
    rename_i b
    obtain ⟨c, rfl, hc⟩ := hb
    show Value.bool c = Value.bool b
    congr 1
    rw [Bool.eq_iff_iff, hc]; exact h
  | .ref i, .ref j, x, h, hb => by
    refine ⟨?_, hb.2⟩
    have h : if i < m then i = j else l[i - m]? = some (some j) := h
    show glue m ρ0 (nuOf m l ρ) i = some x
    unfold glue nuOf
    split at h
    · rename_i hi; subst h; rw [if_pos hi, h0 i hi]; exact hb.1
    · rename_i hi; rw [if_neg hi, h]; exact hb.1
  | .ref i, .val (.slice none 0 0), x, h, hb => by
    have e : x = .slice none 0 0 := hb
    subst e
    refine ⟨?_, rfl⟩
    show glue m ρ0 (nuOf m l ρ) i = _
    unfold glue nuOf
    rw [if_neg (by have := h.1; omega), h.2]
  | .tf _, b, _, h, _ => by cases b <;> exact (show False from h).elim
  | .prop _, b, _, h, _ => by cases b <;> exact (show False from h).elim
  | .ptr _ _ _ _, b, _, h, _ => by cases b <;> exact (show False from h).elim
  | .clo _ _, b, _, h, _ => by cases b <;> exact (show False from h).elim
  | .val u, .ptr _ _ _ _, _, h, _ => by cases u <;> exact (show False from h).elim
  | .val u, .ref _, _, h, _ => by cases u <;> exact (show False from h).elim
  | .val u, .clo _ _, _, h, _ => by cases u <;> exact (show False from h).elim
  | .ref i, .tf _, _, h, _ => (show False from h).elim
  | .ref i, .prop _, _, h, _ => (show False from h).elim
  | .ref i, .ptr _ _ _ _, _, h, _ => (show False from h).elim
  | .ref i, .clo _ _, _, h, _ => (show False from h).elim
theorem RetAs.is_ {m : Nat} {l : List (Option Nat)} {ρ ρ0 : Rho} (h0 : ∀ i, i < m → ρ0 i = ρ i) : ∀ {a b : List At} {x : List Value}, RetAs m l a b → Ats ρ b x → Ats (glue m ρ0 (nuOf m l ρ)) a x
  | [], [], _, _, h => h
  | [], _ :: _, _, h, _ => h.elim
  | _ :: _, [], _, h, _ => h.elim
  | a :: r, b :: s, _, ⟨h1, h2⟩, ⟨u, q, hx, hu, hr⟩ => ⟨u, q, hx, RetA.is_ h0 h1 hu, RetAs.is_ h0 h2 hr⟩
theorem Ret1.is_ {m : Nat} {l : List (Option Nat)} {ρ ρ0 : Rho} (h0 : ∀ i, i < m → ρ0 i = ρ i) {a b : SV} {x : Value} (h : Ret1 m l a b) (hb : b.is1 ρ x) : a.is1 (glue m ρ0 (nuOf m l ρ)) x := by
  cases a <;> cases b <;> try exact (show False from h).elim
  · exact RetA.is_ h0 h hb
  · obtain ⟨c, hc, e⟩ := hb; exact ⟨c, RetAs.is_ h0 h hc, e⟩
theorem Rets.is_ {m : Nat} {l : List (Option Nat)} {ρ ρ0 : Rho} (h0 : ∀ i, i < m → ρ0 i = ρ i) : ∀ {a b : List SV} {x : List Value}, Rets m l a b → Svs ρ b x → Svs (glue m ρ0 (nuOf m l ρ)) a x
  | [], [], _, _, h => h
  | [], _ :: _, _, h, _ => h.elim
  | _ :: _, [], _, h, _ => h.elim
  | a :: r, b :: s, _, ⟨h1, h2⟩, ⟨u, q, hx, hu, hr⟩ => ⟨u, q, hx, Ret1.is_ h0 h1 hu, Rets.is_ h0 h2 hr⟩
theorem RetV.is_ {m : Nat} {l : List (Option Nat)} {ρ ρ0 : Rho} (h0 : ∀ i, i < m → ρ0 i = ρ i) {a b : SV} {x : Value} (h : RetV m l a b) (hb : b.is ρ x) : a.is (glue m ρ0 (nuOf m l ρ)) x := by
  cases a <;> cases b <;> try exact (show False from h).elim
  · exact RetA.is_ h0 h hb
  · obtain ⟨c, hc, e⟩ := hb; exact ⟨c, RetAs.is_ h0 h hc, e⟩
  · obtain ⟨c, hc, e⟩ := hb; exact ⟨c, Rets.is_ h0 h hc, e⟩
theorem flatten_len {s : Nat} : ∀ {rows : List (List At)}, (∀ r ∈ rows, r.length = s) → rows.flatten.length = rows.length * s
  | [], _ => by simp
  | r :: l, h => by
    rw [List.flatten_cons, List.length_append, flatten_len (rows := l) fun x hx => h x (List.mem_cons_of_mem _ hx), h r (List.mem_cons_self ..), List.length_cons, Nat.add_mul, Nat.one_mul, Nat.add_comm]
theorem ObRet.sat {B : Nat} {ρ ν : Rho} {w : World} {i j : Nat} {u o : Ob} (h : ObRet u o) (he : ν j = ρ i) (hs : Sat B ρ w i u) : isNew o = true ∧ Sat B ν w j o ∧ (∀ b, foot ν j o = some b → foot ρ i u = some b ∧ B ≤ b) ∧ u.mut = true := by
  cases u with
  | row t s n g =>
    obtain ⟨v, e, hr⟩ := hs
    have hf : ∀ b, foot ρ i (.row t s n g) = some b → B ≤ b := fun b hb => by
      obtain ⟨A, c, rfl, _, _, hc⟩ := hr
      rw [foot_row e] at hb
      split at hb
      · cases hb
      · rcases hc with ⟨_, q⟩ | ⟨g, cur, rfl, hB, _⟩
        · omega
        · simp at hb; omega
    cases o with
    | row t' s' n' g' =>
      obtain ⟨rfl, rfl, rfl, hg⟩ := h
      refine ⟨rfl, ⟨v, he.trans e, hr.congr fun k hk => (hg k hk).symm⟩, fun b hb => ?_, rfl⟩
      rw [foot_at he] at hb
      have hb' : foot ρ i (.row t s n g) = some b := hb
      exact ⟨hb', hf b hb'⟩
    | arr s' n' g' =>
      obtain ⟨rfl, rfl, hg⟩ := h
      refine ⟨rfl, ⟨v, he.trans e, (hr.congr fun k hk => (hg k hk).symm).arr⟩, fun b hb => ?_, rfl⟩
      rw [foot_at he] at hb
      have hb' : foot ρ i (.row t s n g) = some b := by
        obtain ⟨A, c, rfl, _, _, hc⟩ := hr
        unfold foot at hb ⊢
        rw [e]
        cases n with
        | zero => cases hb
        | succ n =>
          have hc0 : c ≠ 0 := by rcases hc with ⟨h, _⟩ | ⟨_, _, _, _, _, _, h, _⟩ <;> omega
          cases c with
          | zero => exact absurd rfl hc0
          | succ c => exact hb
      exact ⟨hb', hf b hb'⟩
    | _ => exact (show False from h).elim
  | lit t s rows =>
    cases o with
    | arr s' n' g' =>
      obtain ⟨h1, h2, h3⟩ := h
      obtain ⟨v, e, hr⟩ := ObTo.ro (σ := id) (u := .lit t s rows) (o := .arr s' n' g') ⟨h1, h2, h3⟩ hs
      refine ⟨rfl, ⟨v, he.trans e, hr⟩, fun b hb => ?_, rfl⟩
      rw [foot_at he] at hb
      obtain ⟨b', cs, e', hB, _⟩ := hs
      have hb' : foot ρ i (.lit t s rows) = some b := by
        unfold foot at hb ⊢
        cases n' with
        | zero => cases hb
        | succ n => exact hb
      refine ⟨hb', ?_⟩
      simp only [foot, base, e', Option.map_some] at hb'
      injection hb' with hb'; omega
    | row t' s' n' g' =>
      obtain ⟨rfl, rfl, rfl, h0, hg⟩ := h
      obtain ⟨b', cs, e', hB, hrs, hn, hl, hh⟩ := hs
      have hgk : ∀ k, k < rows.length → (cs.drop (k * s)).take s = g' k := fun k hk => by
        have hr : rows[k]? = some (rows[k]'hk) := List.getElem?_eq_getElem hk
        have e1 := FinL1.is_ (hg.get hr) (lit_at hrs hl hr)
        rwa [Nat.zero_add] at e1
      have hcs : cs.length = rows.length * s := by rw [hl.length]; exact flatten_len hrs
      have hfr : foot ρ i (.lit t s rows) = some b' := by simp only [foot, base, e', Option.map_some]
      refine ⟨rfl, ⟨_, he.trans e', _, _, rfl, hn, fun k hk => ?_, .inr ⟨b', cs.toArray, rfl, hB, hh, Nat.le_refl _, h0, by simp only [maxLen]; omega, by simpa using hcs, ?_⟩⟩, fun b hb => ?_, rfl⟩
      · rw [← hgk k hk]
        have : (k + 1) * s ≤ cs.length := by rw [hcs]; exact Nat.mul_le_mul_right _ hk
        rw [List.length_take, List.length_drop]
        rw [Nat.add_mul] at this
        omega
      · have e2 := flat_cut hcs
        have e3 : flat (fun k => (cs.drop (k * s)).take s) rows.length = flat g' rows.length := flat_congr hgk
        rw [List.take_of_length_le (by simp [hcs]), ← e3, e2]
      · rw [foot_row (he.trans e'), if_neg (by omega)] at hb
        injection hb with hb
        have hb : b' = b := hb
        subst hb
        exact ⟨hfr, hB⟩
    | _ => exact (show False from h).elim
  | _ => cases o <;> exact (show False from h).elim
theorem ObNil.sat {B : Nat} {ν : Rho} {w : World} {j : Nat} {o : Ob} (h : ObNil o) (he : ν j = some (.slice none 0 0)) : isNew o = true ∧ Sat B ν w j o ∧ ∀ b, foot ν j o ≠ some b := by
  cases o with
  | row t s n g =>
    have e : n = 0 := h
    subst e
    exact ⟨rfl, ⟨_, he, none, 0, rfl, by omega, fun k hk => by omega, .inl ⟨rfl, rfl⟩⟩, fun b hb => by rw [foot_row he] at hb; simp at hb⟩
  | arr s n g =>
    have e : n = 0 := h
    subst e
    exact ⟨rfl, ⟨_, he, none, 0, rfl, by omega, by omega, fun k hk => by omega⟩, fun b hb => by simp [foot] at hb⟩
  | _ => exact (show False from h).elim
theorem FnR.mk_ {P : Program} {T : TT} (hT : TTok P T) (hm : P.follows .mixedOrders = true) {f : FuncId} {fn : Func} {c : Code} (hf : P.funcs[f]? = some fn) (hb : fn.body = some c) {sz : Nat} (hs : fn.ntmps = sz) {os : List Ob} {args : List SV} {v : SV} {ros : List Ob}
    (hB : hasBody P f = true) (hsz : Nat.ble args.length sz = true) (hab : (argB os.length args && os.all (obB os.length)) = true) (hn : ros.all isNew = true) (hk : svBv (os.length + ros.length) v = true) (h : vc P T sz os.length c (argEnv 0 args) (obsOf 0 os) os.length (fnK T fn.results.toList fun v1 obs1 _ => NRet os.length v ros v1 obs1)) : FnR P f os args v ros :=
  ⟨hB, hn, hk, fun w ρ xs hr ha => by
    have hr' : ∀ (i : Nat) o, os[i]? = some o → ∃ v, V.cut os.length ρ i = some v ∧ Ro (V.cut os.length ρ) w v o := fun i o ho => by
      obtain ⟨v, e, q⟩ := hr i o ho
      exact ⟨v, by rw [cut_lt (List.getElem?_eq_some_iff.1 ho).1]; exact e, q.cut (List.all_eq_true.1 ((Bool.and_eq_true _ _).mp hab).2 o (List.mem_of_getElem? ho))⟩
    refine (fn_sound hT hm hf hb hs hsz h (Cls.start hr' (fun i hi => if_neg (by omega))) (xs := xs.toArray) (by simpa using ha.cut ((Bool.and_eq_true _ _).mp hab).1)).mono ?_
    rintro e w' ⟨ρ', v1, obs', nx', y, ⟨⟨l, h0, h1, h2⟩⟩, he, hv, hC, hw, hx, _⟩
    obtain ⟨hl, hg⟩ := RetO.get h2
    have hin : ∀ i, i < os.length → ρ i = ρ' i := fun i hi => by
      obtain ⟨u, eu, _⟩ := hr i _ (List.getElem?_eq_getElem hi)
      rw [eu]
      exact (hx i u (by rw [cut_lt hi]; exact eu)).symm
    have nu : ∀ (j : Nat) q, l[j]? = some q → nuOf os.length l ρ' (os.length + j) = match q with | some i => ρ' i | none => some (.slice none 0 0) := fun j q hq => by
      unfold nuOf
      rw [show os.length + j - os.length = j by omega, hq]
      cases q <;> rfl
    refine ⟨nuOf os.length l ρ', y, he, RetV.is_ hin h1 hv, ⟨fun j o ho => ?_, fun j k o o' b hj hk' hne f1 f2 => ?_⟩, hw⟩
    · rcases hg j o ho with ⟨q1, q2⟩ | ⟨i, u, q1, q2, q3⟩
      · obtain ⟨_, s1, s2⟩ := q2.sat (B := w.heap.size) (w := w') (nu j none q1)
        exact ⟨s1, fun b hb => absurd hb (s2 b)⟩
      · obtain ⟨_, s1, s2, _⟩ := q3.sat (nu j (some i) q1) (hC.sat i u q2)
        exact ⟨s1, fun b hb => (s2 b hb).2⟩
    · rcases hg j o hj with ⟨q1, q2⟩ | ⟨i, u, q1, q2, q3⟩
      · obtain ⟨_, s1, s2⟩ := q2.sat (B := w.heap.size) (w := w') (nu j none q1)
        exact s2 b f1
      rcases hg k o' hk' with ⟨r1, r2⟩ | ⟨i', u', r1, r2, r3⟩
      · obtain ⟨_, s1, s2⟩ := r2.sat (B := w.heap.size) (w := w') (nu k none r1)
        exact s2 b f2
      obtain ⟨_, _, s2, s3⟩ := q3.sat (nu j (some i) q1) (hC.sat i u q2)
      obtain ⟨_, _, t2, _⟩ := r3.sat (nu k (some i') r1) (hC.sat i' u' r2)
      refine hC.apart i i' u u' b q2 r2 (fun e => ?_) s3 (s2 b f1).1 (t2 b f2).1
      subst e
      exact hne (somes_inj h0 q1 r1)⟩
theorem er {m : Nat} {v : SV} {ros : List Ob} {v1 : SV} {obs1 : Obs} (k : Nat) (h1 : RetV m [some k] v v1 := by (repeat' (first | exact rfl | exact trivial | refine ⟨?_, ?_⟩)); all_goals fail) (h2 : RetO obs1 [some k] ros := by exact ⟨⟨rfl, rfl, rfl, fun k hk => absurd hk (Nat.not_lt_zero _)⟩, trivial⟩) : NRet m v ros v1 obs1 := .mk_ [some k] rfl h1 h2
theorem erf {m : Nat} {v : SV} {ros : List Ob} {v1 : SV} {obs1 : Obs} (k : Nat) (h1 : RetV m [some k] v v1 := by (repeat' (first | exact rfl | exact trivial | refine ⟨?_, ?_⟩)); all_goals fail) (h2 : RetO obs1 [some k] ros := by exact ⟨⟨rfl, rfl, rfl, fun _ _ => rfl⟩, trivial⟩) : NRet m v ros v1 obs1 := .mk_ [some k] rfl h1 h2
end Go.Proofs.Ytdehibmofmfkbaa.V

namespace Go.Proofs.Ytdehibmofmfkbaa.V
open Go Go.RowKit Go.ChangeShapes Go.WideShapes Go.Deep
variable [Dr]
def ga {α : Type} [Inhabited α] (en : α → List Value) (l : List α) : Nat → List Value := fun k => en (l.getD k default)
def e1 (x : Int) : List Value := [.int .i64 x]
def eB (b : Bool) : List Value := [.bool b]
def eb (x : UInt8) : List Value := [.int .u8 x.toNat]
theorem ga_at {α : Type} [Inhabited α] {en : α → List Value} {l : List α} {k : Nat} (h : k < l.length) : ga en l k = en l[k] := by
  simp [ga, List.getD, List.getElem?_eq_getElem h]
theorem _root_.Go.Proofs.Ytdehibmofmfkbaa.V.NApp.one {α : Type} [Inhabited α] {en : α → List Value} {l : List α} {x : α} {bytes : Nat} {K : Nat → (Nat → List Value) → Prop} (h1 : (l.length + 1) * bytes ≤ 140737488355328) (h2 : l.length + 1 ≤ 9223372036854775807) (hK : K (l ++ [x]).length (ga en (l ++ [x]))) :
    NApp l.length 1 (ga en l) (listG [en x]) bytes K :=
  ⟨⟨_, _, by simp, by simpa using h2, by simpa using h1, fun k hk => by rw [ga_at (by simp; omega), ga_at hk, List.getElem_append_left hk], fun k hk => by
    obtain rfl : k = 0 := by omega
    rw [Nat.add_zero, ga_at (by simp)]; simp [listG], hK⟩⟩
theorem b4 {α : Type} [Inhabited α] {en : α → List Value} {l : List α} {x : α} {bytes : Nat} {K : Nat → (Nat → List Value) → Prop} (hK : K (l ++ [x]).length (ga en (l ++ [x]))) (h1 : (l.length + 1) * bytes ≤ 140737488355328 := by first | omega | (simp; omega)) (h2 : l.length + 1 ≤ 9223372036854775807 := by first | omega | (simp; omega)) :
    NApp l.length 1 (ga en l) (listG [en x]) bytes K := NApp.one h1 h2 hK
theorem _root_.Go.Proofs.Ytdehibmofmfkbaa.V.NApp.first {α : Type} [Inhabited α] {en : α → List Value} {x : α} {get : Nat → List Value} {bytes : Nat} {K : Nat → (Nat → List Value) → Prop} (h1 : bytes ≤ 140737488355328) (hK : K [x].length (ga en [x])) :
    NApp 0 1 get (listG [en x]) bytes K :=
  ⟨⟨_, _, rfl, by simp, by simpa using h1, fun k hk => absurd hk (by omega), fun k hk => by
    obtain rfl : k = 0 := by omega
    rfl, hK⟩⟩
theorem _root_.Go.Proofs.Ytdehibmofmfkbaa.V.NApp.all_ {α : Type} [Inhabited α] {en : α → List Value} {m : List α} {get : Nat → List Value} {bytes : Nat} {K : Nat → (Nat → List Value) → Prop} (h1 : m.length * bytes ≤ 140737488355328) (h2 : m.length ≤ 9223372036854775807) (hK : K m.length (ga en m)) :
    NApp 0 m.length get (ga en m) bytes K :=
  ⟨⟨_, _, by simp, h2, h1, fun k hk => absurd hk (by omega), fun k hk => by rw [Nat.zero_add], hK⟩⟩
theorem _root_.Go.Proofs.Ytdehibmofmfkbaa.V.NPut.at_ {α : Type} [Inhabited α] {en : α → List Value} {l : List α} {k : Nat} (x : α) {r : List Value} {K : (Nat → List Value) → Prop} (hr : r = en x) (hK : K (ga en (l.set k x))) :
    NPut l.length k (ga en l) r K :=
  ⟨⟨_, fun k' hk => by
    rw [ga_at (by simpa using hk), ga_at hk, List.getElem_set, hr]
    by_cases e : k = k'
    · subst e; simp
    · rw [if_neg e, if_neg (fun q => e q.symm)], hK⟩⟩
theorem _root_.Go.Proofs.Ytdehibmofmfkbaa.V.NPut.to {α : Type} [Inhabited α] {en : α → List Value} {l : List α} {n k : Nat} (x : α) {r : List Value} {K : (Nat → List Value) → Prop} (hn : l.length = n) (hr : r = en x) (hK : K (ga en (l.set k x))) :
    NPut n k (ga en l) r K := by
  subst hn
  exact NPut.at_ x hr hK
theorem _root_.Go.Proofs.Ytdehibmofmfkbaa.V.NPut.is_ {α : Type} [Inhabited α] {en : α → List Value} {l : List α} {n k : Nat} (x : α) (l' : List α) {r : List Value} {K : (Nat → List Value) → Prop} (e : l.set k x = l') (hn : l.length = n) (hr : r = en x) (hK : K (ga en l')) :
    NPut n k (ga en l) r K := by
  subst e
  exact NPut.to x hn hr hK
theorem _root_.Go.Proofs.Ytdehibmofmfkbaa.V.NPut.rep {α : Type} [Inhabited α] {en : α → List Value} {n k : Nat} (x0 x : α) (l' : List α) {get : Nat → List Value} {r : List Value} {K : (Nat → List Value) → Prop} (hg : ∀ k, get k = en x0) (e : (List.replicate n x0).set k x = l') (hr : r = en x) (hK : K (ga en l')) :
    NPut n k get r K := by
  subst e
  refine ⟨⟨_, fun k' hk => ?_, hK⟩⟩
  rw [ga_at (by simpa using hk), List.getElem_set, hr]
  by_cases e : k = k'
  · subst e; simp
  · rw [if_neg e, if_neg (fun q => e q.symm), hg]; simp
theorem _root_.Go.Proofs.Ytdehibmofmfkbaa.V.ObLe.is_ {α : Type} [Inhabited α] {en : α → List Value} {t s n : Nat} {l l' : List α} (e : l' = l) (hn : n = l'.length) : ObLe (.row t s n (ga en l)) (.row t s l'.length (ga en l')) := by
  subst e hn
  exact ⟨rfl, rfl, rfl, fun k hk => rfl⟩
theorem _root_.Go.Proofs.Ytdehibmofmfkbaa.V.ObLe.rep {α : Type} [Inhabited α] {en : α → List Value} {t s n : Nat} {l : List α} {get : Nat → List Value} (x : α) (e : l = List.replicate n x) (h : ∀ k, get k = en x) : ObLe (.row t s n get) (.row t s l.length (ga en l)) := by
  subst e
  exact ⟨rfl, rfl, by simp, fun k hk => by rw [h, ga_at (by simpa using hk)]; simp⟩
theorem _root_.Go.Proofs.Ytdehibmofmfkbaa.V.ObLe.as_ {α : Type} [Inhabited α] {en : α → List Value} {t s : Nat} {l l' : List α} (e : l' = l) : ObLe (.row t s l.length (ga en l)) (.row t s l'.length (ga en l')) := by
  subst e
  exact ⟨rfl, rfl, rfl, fun k hk => rfl⟩
section
variable {H : Type} {enc : TypeId × Value → H} {P : Program} {w : World} {base : Nat} {spare : Nat → Bool} {held : Bool}
theorem ints_all : ∀ (cs : List Value), (∀ j (hj : j < cs.length), ∃ m, cs[j] = .int .i64 m ∧ (Lit.int .i64 m).wf = true) → ∃ ns : List Int, cs = ns.map (Value.int .i64) ∧ ∀ n ∈ ns, (Lit.int .i64 n).wf = true
  | [], _ => ⟨[], rfl, by simp⟩
  | c :: cs, h => by
    obtain ⟨m, e, wf⟩ := h 0 (by simp)
    obtain ⟨ns, e2, wfs⟩ := ints_all cs (fun j hj => h (j + 1) (by simpa using hj))
    refine ⟨m :: ns, by simp at e; simp [e, e2], fun n hn => ?_⟩
    rcases List.mem_cons.1 hn with rfl | hn
    · exact wf
    · exact wfs n hn
theorem ints_struct {t : TypeId} {fs : Array Field} {fuel : Nat} {cs : List Value} {x : DataW H × List MemPlace} (hs : P.underlying t = some (.struct fs)) (hone : oneCellFields P fs = true) (hC : P.cellsOf t = fs.size)
    (hint : ∀ (j : Nat) (f : Field), fs[j]? = some f → P.underlying f.type = some (.int .i64)) (h : DataW.trod enc P w base spare held fuel t cs = some x) :
    ∃ ns : List Int, cs = ns.map (Value.int .i64) ∧ ns.length = fs.size ∧ ∀ n ∈ ns, (Lit.int .i64 n).wf = true := by
  obtain ⟨xs, n, _, _, hl, hlen, hg⟩ := DataW.trod_struct hs h
  have hC' : cs.length = fs.size := hl.trans hC
  obtain ⟨ns, e, wf⟩ := ints_all cs (fun j hj => by
    have hf : fs[j]? = some fs[j] := Array.getElem?_eq_getElem (by omega)
    obtain ⟨o, k⟩ := hone_of hone j _ hf
    have h1 := hg j _ hf
    rw [o, k] at h1
    have e1 : (cs.drop j).take 1 = [cs[j]] := by rw [List.drop_eq_getElem_cons hj]; rfl
    rw [e1] at h1
    have hx : j < xs.length := by omega
    rw [List.getElem?_eq_getElem hx] at h1
    obtain ⟨m, e2, _, wf⟩ := DataW.trod_int (hint j _ hf) h1
    exact ⟨m, by simpa using e2, wf⟩)
  exact ⟨ns, e, by rw [← hC', e]; simp, wf⟩
theorem list_of {α : Type} {p : Nat → α → Prop} : ∀ (n : Nat), (∀ i, i < n → ∃ f, p i f) → ∃ l : List α, l.length = n ∧ ∀ i (hi : i < l.length), p i l[i]
  | 0, _ => ⟨[], rfl, fun i hi => absurd hi (by simp)⟩
  | n + 1, h => by
    obtain ⟨l, hl, hp⟩ := list_of n (fun i hi => h i (by omega))
    obtain ⟨f, hf⟩ := h n (by omega)
    refine ⟨l ++ [f], by simp [hl], fun i hi => ?_⟩
    by_cases hi' : i < l.length
    · rw [List.getElem_append_left hi']; exact hp i hi'
    · have : i = l.length := by simp at hi; omega
      subst this
      rw [List.getElem_append_right (by omega)]
      simpa [hl] using hf
theorem cell_lt {W : World} {a : Addr} {v : Value} (h : W.cell? a = some v) : a.block < W.heap.size := by
  rcases Nat.lt_or_ge a.block W.heap.size with hlt | hge
  · exact hlt
  · unfold World.cell? at h; rw [Array.getElem?_eq_none hge] at h; cases h
theorem open_list {α : Type} [Inhabited α] {en : α → List Value} {Wf : α → Prop} {t e s : Nat} (hu : P.underlying t = some (.slice e)) (hs : P.cellsOf e = s) (hs0 : 0 < s)
    (hel : ∀ fuel cs x, DataW.trod enc P w base spare held fuel e cs = some x → ∃ f : α, cs = en f ∧ Wf f) {r : Reach} {b0 : Nat} {v : Value} {d : DataW H} {p : List MemPlace} (hv : Value.okWide P w r b0 t v) (h : DataW.Trod enc P w base spare held t v d p) :
    ∃ l : List α, ArrIs w v s l.length (ga en l) ∧ ∀ f ∈ l, Wf f := by
  obtain ⟨a0, len, cap, rfl⟩ := okWide_slice hu hv
  obtain ⟨fuel, hf⟩ := h
  rcases Go.Deep.open_slice hu hf with ⟨hcs, _⟩ | ⟨a, len', cap', m, n, D, Pl, hcs, _, hl, hm, hmm, _, hi⟩
  · have e : (Value.slice a0 len cap) = .slice none 0 0 := by simpa [Value.cells] using hcs
    injection e with e1 e2 e3
    subst e1 e2 e3
    exact ⟨[], ⟨none, 0, rfl, by simp, by simp, fun k hk => absurd hk (by simp)⟩, by simp⟩
  · have e : (Value.slice a0 len cap) = .slice (some a) len' cap' := by simpa [Value.cells] using hcs
    injection e with e1 e2 e3
    subst e1 e2 e3
    have hml : len ≤ m := by rw [hmm]; split <;> omega
    have all : ∀ i, i < len → ∃ f : α, (en f).length = s ∧ (∀ j u, (en f)[j]? = some u → w.cell? (a.add (i * s + j)) = some u) ∧ Wf f := by
      intro i hi'
      obtain ⟨cs', hc, ht'⟩ := hi i (by omega)
      rw [hs] at hc
      obtain ⟨f, e, wf⟩ := hel _ _ _ ht'
      obtain ⟨_, hcl, hat⟩ := World.cells?_some hc
      refine ⟨f, by rw [← e]; exact hcl, fun j u hu => ?_, wf⟩
      rw [← e] at hu
      have hj : j < s := by have := (List.getElem?_eq_some_iff.1 hu).1; omega
      have h1 := hat j hj
      rw [add_of_add] at h1
      rw [h1]; exact hu
    obtain ⟨l, hl2, hp⟩ := list_of len all
    refine ⟨l, ⟨some a, cap, by rw [hl2], by unfold maxLen at hm; omega, by omega, fun k hk => ?_⟩, fun f hf' => ?_⟩
    · obtain ⟨e1, e2, _⟩ := hp k hk
      rw [ga_at hk]
      have h0 : (en l[k])[0]? = some ((en l[k])[0]'(by omega)) := List.getElem?_eq_getElem _
      have := cell_lt (e2 0 _ h0)
      rw [block_of_add] at this
      exact ⟨a, rfl, this, e1, e2⟩
    · obtain ⟨i, hi', rfl⟩ := List.getElem_of_mem hf'
      exact (hp i hi').2.2
theorem open_ints_ {t e : Nat} (hu : P.underlying t = some (.slice e)) (hi : P.underlying e = some (.int .i64)) (hs : P.cellsOf e = 1) {r : Reach} {b0 : Nat} {v : Value} {d : DataW H} {p : List MemPlace} (hv : Value.okWide P w r b0 t v) (h : DataW.Trod enc P w base spare held t v d p) :
    ∃ l : List Int, ArrIs w v 1 l.length (ga e1 l) ∧ ∀ f ∈ l, (Lit.int .i64 f).wf = true :=
  open_list hu hs (by omega) (fun fuel cs x hx => by
    obtain ⟨m, e2, _, wf⟩ := DataW.trod_int hi hx
    exact ⟨m, e2, wf⟩) hv h
end
theorem ArrIs.one {w : World} {v : Value} {s n : Nat} {get : Nat → List Value} (h : ArrIs w v s n get) : v.oneCell' = true := by
  obtain ⟨_, _, rfl, _⟩ := h; rfl
theorem Svs.nil_ {ρ : Rho} {nx : Nat} (hx : ρ nx = none) : ∀ {args : List SV} {xs : List Value} {j : Nat}, args[j]? = some (.one (.val (.slice none 0 0))) → Svs ρ args xs → Svs (upd ρ nx (.slice none 0 0)) (args.set j (.one (.ref nx))) xs
  | [], _, j, h, _ => by simp at h
  | a :: l, _, 0, h, ⟨u, r, e, ha, hr⟩ => by
    have ea : a = .one (.val (.slice none 0 0)) := by simpa using h
    subst ea
    have eu : u = .slice none 0 0 := ha
    subst eu
    exact ⟨_, r, e, ⟨upd_same _ _ _, rfl⟩, Svs.ext (ext_upd hx) hr⟩
  | a :: l, _, j + 1, h, ⟨u, r, e, ha, hr⟩ => ⟨u, r, e, SV.is1_ext (ext_upd hx) ha, Svs.nil_ hx (by simpa using h) hr⟩
theorem NCall.nil_ {P : Program} {f : FuncId} {args : List SV} {obs : Obs} {nx : Nat} {K : SV → Obs → Nat → Prop} (j s : Nat) (e : args[j]? = some (.one (.val (.slice none 0 0)))) (h : NCall P f (args.set j (.one (.ref nx))) ((nx, .arr s 0 fun _ => []) :: obs) (nx + 1) K) : NCall P f args obs nx K := by
  refine ⟨h.b, fun B ρ w xs hC ha => ?_⟩
  have hx := hC.new nx (Nat.le_refl _)
  have hC' := hC.more (v := .slice none 0 0) (o := .arr s 0 fun _ => []) (Belw.refl _ _) ⟨_, upd_same _ _ _, none, 0, rfl, by omega, by omega, fun k hk => by omega⟩ (fun b hf => by simp [foot] at hf)
  refine (h.h B _ w xs hC' (ha.nil_ hx e)).mono ?_
  rintro e w' ⟨v, obs', nx', ρ', x, hK, hE, r⟩
  exact ⟨v, obs', nx', ρ', x, hK, fun i y hy => hE i y (by have : i ≠ nx := fun q => (by rw [q, hx] at hy; cases hy); simpa [upd, this] using hy), r⟩
theorem Fn.lim {P : Program} {f : FuncId} {os : List Ob} {args : List SV} {x : Value} (hb : hasBody P f = true) (h : (∀ (i : Nat) s n g, os[i]? = some (.arr s n g) → n ≤ 9223372036854775807) → Fn P f os args x) : Fn P f os args x :=
  ⟨hb, fun w ρ xs ho hs => (h fun i s n g e => by
    obtain ⟨v, _, A, c, _, hn, _⟩ := ho i _ e
    exact hn).c w ρ xs ho hs⟩
end Go.Proofs.Ytdehibmofmfkbaa.V

namespace Go.Proofs.Ytdehibmofmfkbaa
open Go.RowKit Go.Maps
theorem fcheck_c (f : Fl) (w : World) : Calls Try.prog 56 #[.agg #[.int .i64 f.id, .int .i64 f.fr, .int .i64 f.to, .int .i64 f.cl, .int .i64 f.pa, .int .i64 f.day, .int .i64 f.un, .int .i64 f.de, .int .i64 f.bo, .int .i64 f.pd]] w fun e w' => e = .returned (.int .i64 (F.chk f)) ∧ Below w.heap.size w w' :=
  ((v_fcheck f).calls (xs := [.agg #[.int .i64 f.id, .int .i64 f.fr, .int .i64 f.to, .int .i64 f.cl, .int .i64 f.pa, .int .i64 f.day, .int .i64 f.un, .int .i64 f.de, .int .i64 f.bo, .int .i64 f.pd]]) w).mono fun _ _ h => ⟨h.1, h.2.toBelow⟩
def FailsAt (w : World) (B : Nat) (A : Option Addr) (l : List Fl) : Prop := ∀ k (hk : k < l.length), ∃ b off, A = some ⟨b, off, none⟩ ∧ b < B ∧
  w.cell? ⟨b, off + k * 10, none⟩ = some (.int .i64 l[k].id) ∧ w.cell? ⟨b, off + k * 10 + 1, none⟩ = some (.int .i64 l[k].fr) ∧ w.cell? ⟨b, off + k * 10 + 2, none⟩ = some (.int .i64 l[k].to) ∧
  w.cell? ⟨b, off + k * 10 + 3, none⟩ = some (.int .i64 l[k].cl) ∧ w.cell? ⟨b, off + k * 10 + 4, none⟩ = some (.int .i64 l[k].pa) ∧ w.cell? ⟨b, off + k * 10 + 5, none⟩ = some (.int .i64 l[k].day) ∧
  w.cell? ⟨b, off + k * 10 + 6, none⟩ = some (.int .i64 l[k].un) ∧ w.cell? ⟨b, off + k * 10 + 7, none⟩ = some (.int .i64 l[k].de) ∧ w.cell? ⟨b, off + k * 10 + 8, none⟩ = some (.int .i64 l[k].bo) ∧
  w.cell? ⟨b, off + k * 10 + 9, none⟩ = some (.int .i64 l[k].pd)
theorem FailsAt.keep {w w' : World} {B : Nat} {A : Option Addr} {l : List Fl} (h : FailsAt w B A l) (hb : Below B w w') : FailsAt w' B A l := by
  intro k hk
  obtain ⟨b, off, e, hB, c0, c1, c2, c3, c4, c5, c6, c7, c8, c9⟩ := h k hk
  have q : ∀ o, w'.cell? ⟨b, o, none⟩ = w.cell? ⟨b, o, none⟩ := fun o => hb.cell (p := ⟨b, o, none⟩) hB
  exact ⟨b, off, e, hB, (q _).trans c0, (q _).trans c1, (q _).trans c2, (q _).trans c3, (q _).trans c4, (q _).trans c5, (q _).trans c6, (q _).trans c7, (q _).trans c8, (q _).trans c9⟩
theorem FailsAt.to {w w' : World} {A : Option Addr} {l : List Fl} (h : FailsAt w w.heap.size A l) (hb : Below w.heap.size w w') : FailsAt w' w'.heap.size A l := by
  intro k hk
  obtain ⟨b, off, e, hB, r⟩ := h.keep hb k hk
  exact ⟨b, off, e, Nat.lt_of_lt_of_le hB hb.size, r⟩
def idSet (ids : List Int) : DataW Unit := setOf (.agg []) (ids.map (Lit.int .i64))
theorem idSet_zero : idSet [] = .map [] := by simp [idSet, setOf]
theorem idSet_snoc (ids : List Int) (x : Int) : idSet (ids ++ [x]) = (idSet ids).put (.int .i64 x) (.agg []) := by
  unfold idSet; rw [List.map_append]; exact setOf_snoc _ _ _
theorem any_ids (x : Int) : ∀ l : List Int, l.any ((fun y : Lit => y.sameKey (.int .i64 x)) ∘ Lit.int .i64) = l.contains x
  | [] => rfl
  | a :: r => by
    rw [List.any_cons, List.contains_cons, any_ids x r]
    congr 1
    show decide (IntKind.i64 = IntKind.i64 ∧ a = x) = (x == a)
    by_cases e : a = x
    · subst e; simp
    · have e' : ¬ x = a := fun h => e h.symm
      simp [e, e']
theorem has_ids (ids : List Int) (x : Int) : Maps.has (idSet ids) (.int .i64 x) = ids.contains x := by
  unfold idSet
  rw [has_setOf _ _ _ (fun y hy => by obtain ⟨_, _, rfl⟩ := List.mem_map.1 hy; trivial), List.any_map]
  exact any_ids x _
theorem intLaw : Keyed Try.prog 3 := int_keyed Try.underlying3
theorem zeroUnit (w : World) : (zeroValue 88).run Try.prog w = .ok (.agg #[]) w := by kernel_rfl
theorem fchecks_any (A : Option Addr) (l : List Fl) (c : Nat) (w : World) (hn : l.length ≤ 9223372036854775807) (ha : FailsAt w w.heap.size A l) : Calls Try.prog 29 #[.slice A l.length c] w fun e w' => e = .returned (.int .i64 (F.checks l)) ∧ Below w.heap.size w w' := by
  by_cases hm : 60 < l.length
  · have E := hid (F.checks_many hm)
    go_enter Try.func29, Try.ntmps29
    go_wp2
    go_ret
    exact ⟨by rw [E.out]; rfl, Below.refl _ _⟩
  have E := hid (F.checks_few (l := l) (by omega))
  have hmm := @run_makeMap Try.prog
  clear hn
  have hm2 : (l.length : Int) ≤ 60 := by omega
  go_enter Try.func29, Try.ntmps29
  go_wp2
  go_loopw [15] (fun i wr => ∃ k : Nat, k ≤ l.length ∧ i = .int .i64 k ∧ F.checks l = F.ckFrom ((l.take k).map (·.id)) (l.drop k) ∧ wr.ownsMap Try.prog 3 unitElem w.heap.size k (idSet ((l.take k).map (·.id))) ∧ Below w.heap.size w wr ∧ w.heap.size + 1 ≤ wr.heap.size) (fun i _ => l.length - (intOf i).toNat)
  case atStart => exact ⟨0, by omega, rfl, E.out, (show _ by rw [List.take_zero]; exact idSet_zero ▸ World.ownsMap_made _ _ _ _), balloc (Below.refl _ _) _, by simp⟩
  case round =>
    obtain ⟨k, hk, rfl, he, hown, hbw, hsz⟩ := hrel
    generalize hS : (l.take k).map (·.id) = S at *
    have HS := hid hS
    have HE := hid he
    clear he hS
    by_cases hlt : k < l.length
    · obtain ⟨b, off, rfl, hB, c0, c1, c2, c3, c4, c5, c6, c7, c8, c9⟩ := ha.keep hbw k hlt
      by_cases hc : F.chk l[k] = 0
      · have H0 := hid hc
        have hb0 : (F.chk l[k] != 0) = false := by rw [bne_eq_false_iff_eq]; exact hc
        have hkn := (F.chk_ok hc).1.1
        have hkey : keyOf Try.prog 3 (.int .i64 l[k].id) = some (.int .i64 l[k].id) := keyOf_int_mk Try.underlying3 (i64wf (by omega))
        clear hc hkn
        by_cases hmem : l[k].id ∈ S
        · have hh : Maps.has (idSet S) (.int .i64 l[k].id) = true := by rw [has_ids]; exact List.contains_iff_mem.2 hmem
          have HM := hid hmem
          clear hmem
          go_wp2_with (first
            | (go_at_call 56; refine (fcheck_c l[k] _).mono ?_; rintro e w1 ⟨rfl, hb1⟩; have hbw1 := bthen (balloc hbw _) hb1; have hown1 := (hown.alloc _).kept (only_of_below hb1 none) (by simp); obtain ⟨hc1, hf1⟩ := bcell hb1; have hz1 := hb1.size; (try simp at hz1); have hy1 : wr.heap.size < w1.heap.size := (by omega); have hx1 : w.heap.size < w1.heap.size := (by omega))
            | (at_lookup; refine wpList_lookup_own_unit _ rfl _ _ 87 rfl 3 88 intLaw Try.underlying87 (zeroUnit _) w.heap.size k _ rfl hown1 _ _ rfl hkey ?_)
            | (at_mapUpdate; refine wpList_mapUpdate_own _ rfl _ _ _ 87 rfl 3 88 intLaw Try.underlying87 (unitElem (H := Unit)) w.heap.size k _ rfl (hown1.alloc _) (by unfold maxLen; omega) _ _ _ rfl rfl hkey _ [] unitElem_mk ?_; intro w2 hown2 hgrow2))
          go_ret
          exact ⟨ret_int (by rw [HE.out, F.ckStep_twice hlt _ H0.out HM.out]), balloc hbw1 _⟩
        · have hh : Maps.has (idSet S) (.int .i64 l[k].id) = false := by rw [has_ids]; simpa using hmem
          have HM := hid hmem
          clear hmem
          go_wp2_with (first
            | (go_at_call 56; refine (fcheck_c l[k] _).mono ?_; rintro e w1 ⟨rfl, hb1⟩; have hbw1 := bthen (balloc hbw _) hb1; have hown1 := (hown.alloc _).kept (only_of_below hb1 none) (by simp); obtain ⟨hc1, hf1⟩ := bcell hb1; have hz1 := hb1.size; (try simp at hz1); have hy1 : wr.heap.size < w1.heap.size := (by omega); have hx1 : w.heap.size < w1.heap.size := (by omega))
            | (at_lookup; refine wpList_lookup_own_unit _ rfl _ _ 87 rfl 3 88 intLaw Try.underlying87 (zeroUnit _) w.heap.size k _ rfl hown1 _ _ rfl hkey ?_)
            | (at_mapUpdate; refine wpList_mapUpdate_own _ rfl _ _ _ 87 rfl 3 88 intLaw Try.underlying87 (unitElem (H := Unit)) w.heap.size k _ rfl (hown1.alloc _) (by unfold maxLen; omega) _ _ _ rfl rfl hkey _ [] unitElem_mk ?_; intro w2 hown2 hgrow2))
          go_roundw
          case rel =>
            refine ⟨k + 1, by omega, by go_num, by rw [HE.out, ← HS.out]; exact F.ckStep_on hlt H0.out (by rw [HS.out]; exact HM.out), ?_, ?_, ?_⟩
            · rw [F.ids_snoc hlt, idSet_snoc, HS.out]
              exact hown2.mono (by omega)
            · exact (balloc hbw1 _).grown hgrow2 (by simp; omega) (fun j hj => by cases hj; exact Nat.le_refl _)
            · have := hgrow2.size; simp at this; omega
          case measure => simp [intOf]; omega
      · have H0 := hid (F.ckStep_err hlt S hc)
        have hb0 : (F.chk l[k] != 0) = true := by rw [bne_iff_ne]; exact hc
        clear hc
        go_wp2_with (go_at_call 56; refine (fcheck_c l[k] _).mono ?_; rintro e w1 ⟨rfl, hb1⟩; have hbw1 := bthen (balloc hbw _) hb1)
        go_ret
        exact ⟨ret_int (by rw [HE.out, H0.out]), hbw1⟩
    · obtain rfl : k = l.length := by omega
      go_wp2
      go_ret
      exact ⟨ret_int (by rw [HE.out, F.ckEnd]), hbw⟩
def encF (f : Fl) : List Value := [.int .i64 f.id, .int .i64 f.fr, .int .i64 f.to, .int .i64 f.cl, .int .i64 f.pa, .int .i64 f.day, .int .i64 f.un, .int .i64 f.de, .int .i64 f.bo, .int .i64 f.pd]
theorem failsAt_of {w : World} {v : Value} {l : List Fl} (h : V.ArrIs w v 10 l.length (V.ga encF l)) : ∃ A c, v = .slice A l.length c ∧ l.length ≤ 9223372036854775807 ∧ FailsAt w w.heap.size A l := by
  obtain ⟨A, c, rfl, hn, _, hh⟩ := h
  refine ⟨A, c, rfl, hn, fun k hk => ?_⟩
  obtain ⟨a, rfl, hlt, _, hc⟩ := hh k hk
  rw [V.ga_at hk] at hc
  obtain ⟨a0, e0, _, _, hc0⟩ := hh 0 (by omega)
  injection e0 with e0
  subst e0
  rw [V.ga_at (by omega)] at hc0
  have h00 := hc0 0 (.int .i64 (l[0]'(by omega)).id) rfl
  obtain ⟨b, off, spot⟩ := a
  have hspot : spot = none := by
    have : (Addr.add ⟨b, off, spot⟩ (0 * 10 + 0)) = ⟨b, off, spot⟩ := rfl
    rw [this] at h00
    simpa using World.cell?_spot h00
  subst hspot
  have at' : ∀ j u, (encF l[k])[j]? = some u → w.cell? ⟨b, off + k * 10 + j, none⟩ = some u := fun j u hu => by
    have := hc j u hu
    rwa [Go.WideShapes.add_plain, ← Nat.add_assoc] at this
  exact ⟨b, off, rfl, hlt, at' 0 _ rfl, at' 1 _ rfl, at' 2 _ rfl, at' 3 _ rfl, at' 4 _ rfl, at' 5 _ rfl, at' 6 _ rfl, at' 7 _ rfl, at' 8 _ rfl, at' 9 _ rfl⟩
open V in
theorem v_fchecks (l : List Fl) : V.Fn Try.prog 29 [.arr 10 l.length (ga encF l)] [.one (.ref 0)] (.int .i64 (F.checks l)) :=
  ⟨by kernel_rfl, fun w ρ xs hr ha => by
    obtain ⟨x, r, rfl, ⟨hx, _⟩, rfl⟩ := ha
    obtain ⟨v, hv, hA⟩ := hr 0 _ rfl
    rw [hv] at hx
    injection hx with hx
    subst hx
    obtain ⟨A, c, rfl, hn, hF⟩ := failsAt_of hA
    exact (fchecks_any A l c w hn hF).mono fun _ _ h => ⟨h.1, .low h.2⟩⟩
end Go.Proofs.Ytdehibmofmfkbaa

namespace Go.Proofs.Ytdehibmofmfkbaa
open Go Go.RowKit V
theorem v_rbetween (n a b : Int) : V.Fn Try.prog 44 [] [.one (.val (.int .i64 n)), .one (.val (.int .i64 a)), .one (.val (.int .i64 b))] (.bool (decide (a ≤ n ∧ n ≤ b))) := by
  refine V.Fn.mk_ V.Tok V.mixed Try.func44 rfl Try.ntmps44 (by kernel_rfl) rfl rfl ?_
  repeat' ((conv => whnf); first | refine V.NCond.mk ?_ | refine V.NPick.l ?_ | refine V.NIf.not_ ?_ | refine V.NIf.dec_ ?_ | refine V.a4 ?_ | refine V.a5 ?_ | refine V.NIf.mk (fun _ => ?_) (fun _ => ?_) | refine V.a7 ?_ | refine V.a8 ?_ | refine V.a9 ?_ | refine V.NBoth.mk ?_ ?_ | refine V.b1 ?_ | refine V.b2 ?_ | refine V.NTF.dec ?_ | refine V.b3 ?_ | refine V.b4 ?_ | (refine V.NDraw.any (by kernel_rfl) ?_) | fail)
  · exact ⟨_, rfl, by simp_all⟩
  · exact congrArg Value.bool (by simp_all; omega)
end Go.Proofs.Ytdehibmofmfkbaa

namespace Go.Proofs.Ytdehibmofmfkbaa
open Go Go.RowKit V
theorem v_findc (f : Fl) (id : Int) : V.Fn Try.prog 70 [.cel [.val (.int .i64 id)]] [.agg [.val (.int .i64 f.id), .val (.int .i64 f.fr), .val (.int .i64 f.to), .val (.int .i64 f.cl), .val (.int .i64 f.pa), .val (.int .i64 f.day), .val (.int .i64 f.un), .val (.int .i64 f.de), .val (.int .i64 f.bo), .val (.int .i64 f.pd)], .one (.ptr 0 0 0 0)] (.bool (decide (f.id = id))) := by
  refine V.Fn.mk_ V.Tok V.mixed Try.func70 rfl Try.ntmps70 (by kernel_rfl) rfl rfl ?_
  repeat' ((conv => whnf); first | refine V.NCond.mk ?_ | refine V.NPick.l ?_ | refine V.NIf.not_ ?_ | refine V.NIf.dec_ ?_ | refine V.a4 ?_ | refine V.a5 ?_ | refine V.NIf.mk (fun _ => ?_) (fun _ => ?_) | refine V.a7 ?_ | refine V.a8 ?_ | refine V.a9 ?_ | refine V.NBoth.mk ?_ ?_ | refine V.b1 ?_ | refine V.b2 ?_ | refine V.NTF.dec ?_ | refine V.b3 ?_ | refine V.b4 ?_ | (refine V.NDraw.any (by kernel_rfl) ?_) | fail)
  exact ⟨_, rfl, by simp⟩
theorem v_index (l : List Fl) (id : Int) (hn : l.length ≤ 60) : V.Fn Try.prog 69 [.arr 10 l.length (ga encF l), .cel [.val (.int .i64 id)]] [.one (.ref 0), .one (.clo 70 [1])] (.int .i64 (F.idx id l 0)) := by
  refine V.Fn.mk_ V.Tok V.mixed Try.func69 rfl Try.ntmps69 (by kernel_rfl) rfl rfl ?_
  (conv => whnf)
  refine V.NLoop.go (fun (k : Nat) => [(8, .one (.val (.int .i64 k)))]) (fun (k : Nat) => []) [0, 1, 6, 7] [0, 1] (fun (k : Nat) => l.length - k) (fun (k : Nat) => k ≤ l.length ∧ F.idx id l 0 = F.idx id (l.drop k) k) 0 ⟨by omega, rfl⟩ V.S_ V.S_ (fun _ => ⟨rfl, rfl⟩) ?_; (conv => whnf); refine ⟨⟨rfl, rfl⟩, ?_⟩
  rintro k ⟨hk, hJ⟩
  repeat' ((conv => whnf); first | refine V.NCond.mk ?_ | refine V.NPick.l ?_ | refine V.NIf.not_ ?_ | refine V.NIf.dec_ ?_ | refine V.a4 ?_ | refine V.a5 ?_ | refine V.NIf.mk (fun _ => ?_) (fun _ => ?_) | refine V.a7 ?_ | refine V.a8 ?_ | refine V.a9 ?_ | refine V.NBoth.mk ?_ ?_ | refine V.b1 ?_ | refine V.b2 ?_ | refine V.NTF.dec ?_ | refine V.b3 ?_ | refine V.b4 ?_ | (refine NIdx.mk ⟨_, rfl, by omega, ?_⟩) | ((first | refine V.Fn.k (v_findc (l.getD k default) id) [1] rfl ?_ ?_ | refine V.Fn.q (v_findc (l.getD k default) id) [1] rfl ?_ ?_ | refine V.Fn.a (v_findc (l.getD k default) id) [1] rfl ?_ ?_); · exact V.D_) | (refine V.NDraw.any (by kernel_rfl) ?_) | fail)
  · refine congrArg (Value.int .i64) ?_
    rw [hJ, F.idxStep (by omega) id, if_pos (by rw [← getD_at]; assumption)]
  · (conv => whnf)
    refine V.NBack.at_ (k + 1) [] ⟨by omega, ?_⟩ (by omega) V.S_ rfl V.S_ V.S_ V.S_
    rw [hJ, F.idxStep (by omega) id, if_neg (by rw [← getD_at]; assumption)]
  · obtain rfl : k = l.length := by omega
    exact congrArg (Value.int .i64) (by rw [hJ, F.idxEnd])
theorem v_rffind (l : List Fl) (id : Int) (hn : l.length ≤ 60) : V.Fn Try.prog 21 [.arr 10 l.length (ga encF l)] [.one (.ref 0), .one (.val (.int .i64 id))] (.int .i64 (F.idx id l 0)) := by
  refine V.Fn.mk_ V.Tok V.mixed Try.func21 rfl Try.ntmps21 (by kernel_rfl) rfl rfl ?_
  (conv => whnf)
  refine V.NLoop.go (fun (k : Nat) => [(5, .one (.val (.int .i64 k)))]) (fun (k : Nat) => []) [0, 1] [0] (fun (k : Nat) => l.length - k) (fun (k : Nat) => k ≤ l.length ∧ F.idx id l 0 = F.idx id (l.drop k) k) 0 ⟨by omega, rfl⟩ V.S_ V.S_ (fun _ => ⟨rfl, rfl⟩) ?_; (conv => whnf); refine ⟨⟨rfl, rfl⟩, ?_⟩
  rintro k ⟨hk, hJ⟩
  repeat' ((conv => whnf); first | refine V.NCond.mk ?_ | refine V.NPick.l ?_ | refine V.NIf.not_ ?_ | refine V.NIf.dec_ ?_ | refine V.a4 ?_ | refine V.a5 ?_ | refine V.NIf.mk (fun _ => ?_) (fun _ => ?_) | refine V.a7 ?_ | refine V.a8 ?_ | refine V.a9 ?_ | refine V.NBoth.mk ?_ ?_ | refine V.b1 ?_ | refine V.b2 ?_ | refine V.NTF.dec ?_ | refine V.b3 ?_ | refine V.b4 ?_ | (refine NIdx.mk ⟨_, rfl, by omega, ?_⟩) | (refine V.NDraw.any (by kernel_rfl) ?_) | fail)
  · refine congrArg (Value.int .i64) ?_
    rw [hJ, F.idxStep (by omega) id, if_pos (by rw [← getD_at]; assumption)]
  · (conv => whnf)
    refine V.NBack.at_ (k + 1) [] ⟨by omega, ?_⟩ (by omega) V.S_ rfl V.S_ V.S_ V.S_
    rw [hJ, F.idxStep (by omega) id, if_neg (by rw [← getD_at]; assumption)]
  · obtain rfl : k = l.length := by omega
    exact congrArg (Value.int .i64) (by rw [hJ, F.idxEnd])
theorem v_ffind (l : List Fl) (id : Int) : V.Fn Try.prog 55 [.arr 10 l.length (ga encF l)] [.one (.ref 0), .one (.val (.int .i64 id))] (.tuple #[.int .i64 (F.fndV id l), .int .i64 (F.fndE id l)]) := by
  have h60 : F.checks l = 0 → l.length ≤ 60 := fun h => F.checks_len (by rw [h]; decide)
  refine V.Fn.mk_ V.Tok V.mixed Try.func55 rfl Try.ntmps55 (by kernel_rfl) rfl rfl ?_
  repeat' ((conv => whnf); first | refine V.NCond.mk ?_ | refine V.NPick.l ?_ | refine V.NIf.not_ ?_ | refine V.NIf.dec_ ?_ | refine V.a4 ?_ | refine V.a5 ?_ | refine V.NIf.mk (fun _ => ?_) (fun _ => ?_) | refine V.a7 ?_ | refine V.a8 ?_ | refine V.a9 ?_ | refine V.NBoth.mk ?_ ?_ | refine V.b1 ?_ | refine V.b2 ?_ | refine V.NTF.dec ?_ | refine V.b3 ?_ | refine V.b4 ?_ | ((first | refine V.Fn.k (v_fchecks l) [0] rfl ?_ ?_ | refine V.Fn.q (v_fchecks l) [0] rfl ?_ ?_ | refine V.Fn.a (v_fchecks l) [0] rfl ?_ ?_); · exact V.D_) | ((first | refine V.Fn.k (v_index l id (h60 (by assumption))) [0, 1] rfl ?_ ?_ | refine V.Fn.q (v_index l id (h60 (by assumption))) [0, 1] rfl ?_ ?_ | refine V.Fn.a (v_index l id (h60 (by assumption))) [0, 1] rfl ?_ ?_); · exact V.D_) | (refine V.NDraw.any (by kernel_rfl) ?_) | fail)
  · rename_i h k
    rw [(F.fnd_2 h k).1, (F.fnd_2 h k).2]; exact V.S_
  · rename_i h k
    rw [(F.fnd_3 h k).1, (F.fnd_3 h k).2]; exact V.S_
  · rename_i h
    rw [(F.fnd_1 h).1, (F.fnd_1 h).2]; exact V.S_
theorem v_rfopen (f : Fl) (h : F.Kn f ∧ F.Pt f) : V.Fn Try.prog 14 [] [.agg [.val (.int .i64 f.id), .val (.int .i64 f.fr), .val (.int .i64 f.to), .val (.int .i64 f.cl), .val (.int .i64 f.pa), .val (.int .i64 f.day), .val (.int .i64 f.un), .val (.int .i64 f.de), .val (.int .i64 f.bo), .val (.int .i64 f.pd)]] (.int .i64 (F.left f)) := by
  obtain ⟨⟨_, _, _, _, _, _, k1, k2⟩, ⟨p1, p2⟩, ⟨p3, p4⟩, p5, p6⟩ := h
  refine V.Fn.mk_ V.Tok V.mixed Try.func14 rfl Try.ntmps14 (by kernel_rfl) rfl rfl ?_
  repeat' ((conv => whnf); first | refine V.NCond.mk ?_ | refine V.NPick.l ?_ | refine V.NIf.not_ ?_ | refine V.NIf.dec_ ?_ | refine V.a4 ?_ | refine V.a5 ?_ | refine V.NIf.mk (fun _ => ?_) (fun _ => ?_) | refine V.a7 ?_ | refine V.a8 ?_ | refine V.a9 ?_ | refine V.NBoth.mk ?_ ?_ | refine V.b1 ?_ | refine V.b2 ?_ | refine V.NTF.dec ?_ | refine V.b3 ?_ | refine V.b4 ?_ | (refine V.NDraw.any (by kernel_rfl) ?_) | fail)
  exact congrArg (Value.int .i64) (by unfold F.left; omega)
theorem v_rfcheck (f : Fl) : V.Fn Try.prog 46 [] [.agg [.val (.int .i64 f.id), .val (.int .i64 f.fr), .val (.int .i64 f.to), .val (.int .i64 f.cl), .val (.int .i64 f.pa), .val (.int .i64 f.day), .val (.int .i64 f.un), .val (.int .i64 f.de), .val (.int .i64 f.bo), .val (.int .i64 f.pd)]] (.int .i64 (F.chk f)) := by
  refine V.Fn.mk_ V.Tok V.mixed Try.func46 rfl Try.ntmps46 (by kernel_rfl) rfl rfl ?_
  repeat' ((conv => whnf); first | refine V.NCond.mk ?_ | refine V.NPick.l ?_ | refine V.NIf.not_ ?_ | refine V.NIf.dec_ ?_ | refine V.a4 ?_ | refine V.a5 ?_ | refine V.NIf.mk (fun _ => ?_) (fun _ => ?_) | refine V.a7 ?_ | refine V.a8 ?_ | refine V.a9 ?_ | refine V.NBoth.mk ?_ ?_ | refine V.b1 ?_ | refine V.b2 ?_ | refine V.NTF.dec ?_ | refine V.b3 ?_ | refine V.b4 ?_ | (first | refine V.Fn.k0 (v_rbetween _ _ _) rfl ?_ | refine V.Fn.q0 (v_rbetween _ _ _) rfl ?_ | refine V.Fn.a0 (v_rbetween _ _ _) rfl ?_) | (first | refine V.Fn.k0 (v_rfopen f (by unfold F.Kn F.Pt; omega)) rfl ?_ | refine V.Fn.q0 (v_rfopen f (by unfold F.Kn F.Pt; omega)) rfl ?_ | refine V.Fn.a0 (v_rfopen f (by unfold F.Kn F.Pt; omega)) rfl ?_) | (refine V.NDraw.any (by kernel_rfl) ?_) | fail)
  all_goals (try simp only [F.left] at *)
  all_goals ((conv => whnf); refine congrArg _ ?_; unfold F.chk F.Pt F.Kn; (repeat' split) <;> first | rfl | omega | (exfalso; omega) | (simp_all; done) | (simp_all; omega))
theorem v_rfchecks (l : List Fl) : V.Fn Try.prog 13 [.arr 10 l.length (ga encF l)] [.one (.ref 0)] (.int .i64 (F.checks l)) := by
  refine V.Fn.mk_ V.Tok V.mixed Try.func13 rfl Try.ntmps13 (by kernel_rfl) rfl rfl ?_
  (conv => whnf)
  refine V.NCond.mk ?_
  refine NIf.mk (fun hm => ?_) (fun hm => ?_)
  · exact congrArg (Value.int .i64) (F.checks_many (by omega)).symm
  have hlen : l.length ≤ 60 := by omega
  (conv => whnf)
  refine V.NLoop.go (fun (k : Nat) => [(3, .one (.val (.int .i64 k)))]) (fun (k : Nat) => []) [0] [0] (fun (k : Nat) => l.length - k) (fun (k : Nat) => k ≤ l.length ∧ F.checks l = F.ckFrom ((l.take k).map (·.id)) (l.drop k)) 0 ⟨by omega, F.checks_few hlen⟩ V.S_ V.S_ (fun _ => ⟨rfl, rfl⟩) ?_; (conv => whnf); refine ⟨⟨rfl, rfl⟩, ?_⟩
  rintro k ⟨hk, hJ⟩
  repeat' ((conv => whnf); first | refine V.NCond.mk ?_ | refine V.NPick.l ?_ | refine V.NIf.not_ ?_ | refine V.NIf.dec_ ?_ | refine V.a4 ?_ | refine V.a5 ?_ | refine V.NIf.mk (fun _ => ?_) (fun _ => ?_) | refine V.a7 ?_ | refine V.a8 ?_ | refine V.a9 ?_ | refine V.NBoth.mk ?_ ?_ | refine V.b1 ?_ | refine V.b2 ?_ | refine V.NTF.dec ?_ | refine V.b3 ?_ | refine V.b4 ?_ | (refine NIdx.mk ⟨_, rfl, by omega, ?_⟩) | (first | refine V.Fn.k0 (v_rfcheck (l.getD k default)) rfl ?_ | refine V.Fn.q0 (v_rfcheck (l.getD k default)) rfl ?_ | refine V.Fn.a0 (v_rfcheck (l.getD k default)) rfl ?_) | (refine V.NDraw.any (by kernel_rfl) ?_) | fail)
  · rename_i h0
    have hlt : k < l.length := by omega
    rw [getD_at hlt] at h0
    (conv => whnf)
    refine V.NLoop.go (fun (j : Nat) => [(5, .one (.val (.int .i64 j)))]) (fun (j : Nat) => []) [0, 3] [0] (fun (j : Nat) => k - j) (fun (j : Nat) => j ≤ k ∧ l[k].id ∉ (l.take j).map (·.id)) 0 ⟨by omega, by simp⟩ V.S_ V.S_ (fun _ => ⟨rfl, rfl⟩) ?_; (conv => whnf); refine ⟨⟨rfl, rfl⟩, ?_⟩
    rintro j ⟨hj, hnot⟩
    repeat' ((conv => whnf); first | refine V.NCond.mk ?_ | refine V.NPick.l ?_ | refine V.NIf.not_ ?_ | refine V.NIf.dec_ ?_ | refine V.a4 ?_ | refine V.a5 ?_ | refine V.NIf.mk (fun _ => ?_) (fun _ => ?_) | refine V.a7 ?_ | refine V.a8 ?_ | refine V.a9 ?_ | refine V.NBoth.mk ?_ ?_ | refine V.b1 ?_ | refine V.b2 ?_ | refine V.NTF.dec ?_ | refine V.b3 ?_ | refine V.b4 ?_ | (refine NIdx.mk ⟨_, rfl, by omega, ?_⟩) | (refine NDraw.mk (by kernel_rfl) ?_) | (refine V.NDraw.any (by kernel_rfl) ?_) | fail)
    · rename_i hj2 he
      have hj3 : j < l.length := by omega
      rw [getD_at hj3, getD_at hlt] at he
      refine congrArg (Value.int .i64) ?_
      rw [hJ]; exact (F.ckStep_twice hlt _ h0 (F.mem_take hj3 (by omega) he)).symm
    · rename_i hj2 he
      have hj3 : j < l.length := by omega
      rw [getD_at hj3, getD_at hlt] at he
      (conv => whnf)
      refine V.NBack.at_ (j + 1) [] ⟨by omega, F.not_snoc hj3 hnot he⟩ (by omega) V.S_ rfl V.S_ V.S_ V.S_
    · obtain rfl : j = k := by omega
      (conv => whnf)
      refine V.NBack.at_ (j + 1) [] ⟨by omega, ?_⟩ (by omega) V.S_ rfl V.S_ V.S_ V.S_
      rw [hJ]; exact F.ckStep_on hlt h0 hnot
  · refine congrArg (Value.int .i64) ?_
    rw [hJ, F.ckStep_err (by omega) _ (by rw [← getD_at]; assumption), ← getD_at]
  · obtain rfl : k = l.length := by omega
    exact congrArg (Value.int .i64) (by rw [hJ, F.ckEnd])
end Go.Proofs.Ytdehibmofmfkbaa

namespace Go.Proofs.Ytdehibmofmfkbaa
open Go Go.RowKit V
namespace F
def s0 : Fl := ⟨7, 1, 2, 0, 3, 739935, 100, 0, 0, 0⟩
def l1 : List Fl := [s0]
end F
theorem v_some : V.Fn Try.prog 49 [] [] (.agg #[.int .i64 (F.s0).id, .int .i64 (F.s0).fr, .int .i64 (F.s0).to, .int .i64 (F.s0).cl, .int .i64 (F.s0).pa, .int .i64 (F.s0).day, .int .i64 (F.s0).un, .int .i64 (F.s0).de, .int .i64 (F.s0).bo, .int .i64 (F.s0).pd]) := by
  refine V.Fn.mk_ V.Tok V.mixed Try.func49 rfl Try.ntmps49 (by kernel_rfl) rfl rfl ?_
  repeat' ((conv => whnf); first | refine V.NCond.mk ?_ | refine V.NPick.l ?_ | refine V.NIf.not_ ?_ | refine V.NIf.dec_ ?_ | refine V.a4 ?_ | refine V.a5 ?_ | refine V.NIf.mk (fun _ => ?_) (fun _ => ?_) | refine V.a7 ?_ | refine V.a8 ?_ | refine V.a9 ?_ | refine V.NBoth.mk ?_ ?_ | refine V.b1 ?_ | refine V.b2 ?_ | refine V.NTF.dec ?_ | refine V.b3 ?_ | refine V.b4 ?_ | (refine V.NDraw.any (by kernel_rfl) ?_) | fail)
  exact V.S_
theorem v_fbegun : V.Fn Try.prog 24 [] [] (.bool true) := by
  refine V.Fn.mk_ V.Tok V.mixed Try.func24 rfl Try.ntmps24 (by kernel_rfl) rfl rfl ?_
  repeat' ((conv => whnf); first | (refine V.NIf.yes (by rfl) ?_) | refine V.NCond.mk ?_ | refine V.NPick.l ?_ | refine V.NIf.not_ ?_ | refine V.NIf.dec_ ?_ | refine V.a4 ?_ | refine V.a5 ?_ | refine V.NIf.mk (fun _ => ?_) (fun _ => ?_) | refine V.a7 ?_ | refine V.a8 ?_ | refine V.a9 ?_ | refine V.NBoth.mk ?_ ?_ | refine V.b1 ?_ | refine V.b2 ?_ | refine V.NTF.dec ?_ | refine V.b3 ?_ | refine V.b4 ?_ | (first | refine V.Fn.k0 (v_some) rfl ?_ | refine V.Fn.q0 (v_some) rfl ?_ | refine V.Fn.a0 (v_some) rfl ?_) | (first | refine V.Fn.k0 (v_deliver F.s0 30) rfl ?_ | refine V.Fn.q0 (v_deliver F.s0 30) rfl ?_ | refine V.Fn.a0 (v_deliver F.s0 30) rfl ?_) | (first | refine V.Fn.k0 (v_deliver _ _) rfl ?_ | refine V.Fn.q0 (v_deliver _ _) rfl ?_ | refine V.Fn.a0 (v_deliver _ _) rfl ?_) | (first | refine V.Fn.k0 (v_buy _ _) rfl ?_ | refine V.Fn.q0 (v_buy _ _) rfl ?_ | refine V.Fn.a0 (v_buy _ _) rfl ?_) | (first | refine V.Fn.k0 (v_pay _) rfl ?_ | refine V.Fn.q0 (v_pay _) rfl ?_ | refine V.Fn.a0 (v_pay _) rfl ?_) | (first | refine V.Fn.k0 (v_open _) rfl ?_ | refine V.Fn.q0 (v_open _) rfl ?_ | refine V.Fn.a0 (v_open _) rfl ?_) | ((first | refine V.Fn.k (v_ffind [F.s0] 7) [_] rfl ?_ ?_ | refine V.Fn.q (v_ffind [F.s0] 7) [_] rfl ?_ ?_ | refine V.Fn.a (v_ffind [F.s0] 7) [_] rfl ?_ ?_); · exact V.D_) | (first | refine V.Fn.k0 (v_fcheck F.zero) rfl ?_ | refine V.Fn.q0 (v_fcheck F.zero) rfl ?_ | refine V.Fn.a0 (v_fcheck F.zero) rfl ?_) | ((first | refine V.Fn.k (v_fchecks [F.deliver F.s0 30, F.buy (F.deliver F.s0 30) 50]) [_] rfl ?_ ?_ | refine V.Fn.q (v_fchecks [F.deliver F.s0 30, F.buy (F.deliver F.s0 30) 50]) [_] rfl ?_ ?_ | refine V.Fn.a (v_fchecks [F.deliver F.s0 30, F.buy (F.deliver F.s0 30) 50]) [_] rfl ?_ ?_); · exact V.D_) | (refine V.NDraw.any (by kernel_rfl) ?_) | fail)
  exact ⟨_, rfl, by simp; rfl⟩
end Go.Proofs.Ytdehibmofmfkbaa

namespace Go.Proofs.Ytdehibmofmfkbaa
namespace Ag
open Ca (Day stp W)
def A : Tm := ⟨4, 7, 2, 100⟩
theorem a_1 : d1 W A 739935 = 739942 := (Ca.stp_p (by decide)).trans (Ca.stU_is (by unfold Ca.Up; decide))
end Ag
end Go.Proofs.Ytdehibmofmfkbaa

namespace Go.Proofs.Ytdehibmofmfkbaa
namespace M
def mo (l : List Int) : List Int := l.filter fun a => decide (0 ≤ a)
def le (l : List Int) : List Int := l.filter fun a => !decide (0 ≤ a)
end M
namespace M
end M
end Go.Proofs.Ytdehibmofmfkbaa

namespace Go.Proofs.Ytdehibmofmfkbaa
structure St where
  pa : Int
  un : Int
  ct : Int
instance : Inhabited St := ⟨⟨0, 0, 0⟩⟩
namespace K
def Ok (s : St) : Prop := (1 ≤ s.pa ∧ s.pa ≤ 20) ∧ (1 ≤ s.un ∧ s.un ≤ 1073741824) ∧ (0 ≤ s.ct ∧ s.ct ≤ 10000)
instance (s : St) : Decidable (Ok s) := by unfold Ok; exact inferInstance
def chk (l : List St) : Int := if 40 < l.length then 2 else if ∀ s ∈ l, Ok s then 0 else 3
theorem chk_ok {l : List St} (h : chk l = 0) : l.length ≤ 40 ∧ ∀ s ∈ l, Ok s := by
  unfold chk at h
  split at h
  · omega
  · split at h
    · exact ⟨by omega, by assumption⟩
    · omega
theorem chk_of {l : List St} (h1 : l.length ≤ 40) (h2 : ∀ s ∈ l, Ok s) : chk l = 0 := by
  unfold chk; rw [if_neg (by omega), if_pos h2]
def cnt (ps : List Int) (s : St) (u : Int) : Int := P.cost u (P.pr ps s.pa) * s.ct / 10000
theorem cnt_bd {ps : List Int} {s : St} {u : Int} (h : P.chks ps = 0) (hs : Ok s) (hu : 0 ≤ u ∧ u ≤ 1073741824) : 0 ≤ cnt ps s u ∧ cnt ps s u ≤ 118059162071741130 := by
  have h1 := P.cost_bd hu (P.pr_ok h hs.1)
  have h2 := P.rate_bd h1.1 hs.2.2
  unfold cnt; omega
theorem cnt_mono {ps : List Int} {s : St} {u v : Int} (h : P.chks ps = 0) (hs : Ok s) (huv : u ≤ v) : cnt ps s u ≤ cnt ps s v :=
  P.rate_mono (P.cost_mono huv (P.pr_ok h hs.1)) hs.2.2.1
def ck (l : List St) (ps : List Int) : Int := if chk l ≠ 0 then chk l else P.chks ps
theorem ck_ok {l : List St} {ps : List Int} (h : ck l ps = 0) : chk l = 0 ∧ P.chks ps = 0 := by
  unfold ck at h
  split at h
  · exact absurd h ‹_›
  · exact ⟨by omega, h⟩
theorem ck_of {l : List St} {ps : List Int} (h1 : chk l = 0) (h2 : P.chks ps = 0) : ck l ps = 0 := by
  unfold ck; rw [if_neg (by omega), h2]
theorem ck_1 {l : List St} {ps : List Int} (h : ¬ chk l = 0) : ck l ps = chk l := if_pos h
theorem ck_2 {l : List St} {ps : List Int} (h : chk l = 0) : ck l ps = P.chks ps := if_neg (by omega)
def cts (ps : List Int) (l : List St) : List Int := l.map fun s => cnt ps s s.un
def val (ps : List Int) (l : List St) : Int := M.sum (cts ps l)
theorem val_app {ps : List Int} {l m : List St} : val ps (l ++ m) = val ps l + val ps m := by
  unfold val cts; rw [List.map_append, M.sum_append]
def vE (l : List St) (ps : List Int) : Int := if ck l ps ≠ 0 then ck l ps else if 1152921504606846976 < val ps l then 8 else 0
def vV (l : List St) (ps : List Int) : Int := if vE l ps = 0 then val ps l else 0
theorem v_1 {l : List St} {ps : List Int} (h : ¬ ck l ps = 0) : vE l ps = ck l ps ∧ vV l ps = 0 := by
  have e : vE l ps = ck l ps := if_pos h
  exact ⟨e, if_neg (by omega)⟩
theorem v_2 {l : List St} {ps : List Int} (h : ck l ps = 0) (k : 1152921504606846976 < val ps l) : vE l ps = 8 ∧ vV l ps = 0 := by
  have e : vE l ps = 8 := by unfold vE; rw [if_neg (by omega), if_pos k]
  exact ⟨e, if_neg (by omega)⟩
theorem v_3 {l : List St} {ps : List Int} (h : ck l ps = 0) (k : ¬ 1152921504606846976 < val ps l) : vE l ps = 0 ∧ vV l ps = val ps l := by
  have e : vE l ps = 0 := by unfold vE; rw [if_neg (by omega), if_neg k]
  exact ⟨e, if_pos e⟩
theorem v_ok {l : List St} {ps : List Int} (h : vE l ps = 0) : ck l ps = 0 ∧ val ps l ≤ 1152921504606846976 ∧ vV l ps = val ps l := by
  by_cases a : ck l ps = 0
  · by_cases b : 1152921504606846976 < val ps l
    · rw [(v_2 a b).1] at h; omega
    · exact ⟨a, by omega, (v_3 a b).2⟩
  · rw [(v_1 a).1] at h; exact absurd h a
theorem two {l m : List St} {ps : List Int} (h1 : vE l ps = 0) (h2 : vE m ps = 0) : vE (l ++ m) ps = 2 ∨ vE (l ++ m) ps = 8 ∨ (vE (l ++ m) ps = 0 ∧ vV (l ++ m) ps = vV l ps + vV m ps) := by
  obtain ⟨a1, a2, a3⟩ := v_ok h1
  obtain ⟨b1, b2, b3⟩ := v_ok h2
  obtain ⟨c1, c2⟩ := ck_ok a1
  obtain ⟨d1, _⟩ := ck_ok b1
  obtain ⟨c3, c4⟩ := chk_ok c1
  obtain ⟨d3, d4⟩ := chk_ok d1
  by_cases q : 40 < (l ++ m).length
  · left
    have e : chk (l ++ m) = 2 := if_pos q
    exact (v_1 (by rw [ck_1 (by omega)]; omega)).1.trans ((ck_1 (by omega)).trans e)
  · have e : chk (l ++ m) = 0 := chk_of (by omega) fun s hs => by
      rcases List.mem_append.1 hs with h | h
      · exact c4 s h
      · exact d4 s h
    have ek := ck_of e c2
    by_cases k : 1152921504606846976 < val ps (l ++ m)
    · exact .inr (.inl (v_2 ek k).1)
    · obtain ⟨x, y⟩ := v_3 ek k
      exact .inr (.inr ⟨x, by rw [y, val_app, a3, b3]⟩)
structure Stay (ps : List Int) (s : St) (oth need m : Int) : Prop where
  b : 0 ≤ m ∧ m ≤ s.un
  y : need ≤ oth + cnt ps s m
  n : m = 0 ∨ oth + cnt ps s (m - 1) < need
noncomputable def stay (ps : List Int) (s : St) (oth need : Int) : Int := Classical.epsilon (Stay ps s oth need)
def oth (ps : List Int) (l : List St) (at_ : Nat) : Int := val ps l - cnt ps (l.getD at_ default) (l.getD at_ default).un
def nds (fs : List Fl) (ps : List Int) (party : Int) : List Int := (fs.filter fun f => decide (f.fr = party)).map fun f => P.cost (F.left f) (P.pr ps f.pa)
def need (fs : List Fl) (ps : List Int) (party : Int) : Int := M.sum (nds fs ps party)
theorem checks_all {fs : List Fl} (h : F.checks fs = 0) : fs.length ≤ 60 ∧ (∀ f ∈ fs, F.Ok f) ∧ (fs.map (·.id)).Nodup := by
  have h60 : fs.length ≤ 60 := F.checks_len (by omega)
  unfold F.checks at h
  rw [if_neg (by omega)] at h
  obtain ⟨a, b⟩ := F.ckFrom_ok h
  exact ⟨h60, fun f hf => F.chk_ok (a f hf).1, b⟩
theorem checks_of {fs : List Fl} (h : fs.length ≤ 60) (a : ∀ f ∈ fs, F.Ok f) (b : (fs.map (·.id)).Nodup) : F.checks fs = 0 := by
  unfold F.checks
  rw [if_neg (by omega)]
  exact F.ckFrom_of (fun f hf => ⟨F.chk_of (a f hf), by simp⟩) b
end K
end Go.Proofs.Ytdehibmofmfkbaa

namespace Go.Proofs.Ytdehibmofmfkbaa
open Go Go.RowKit V
structure Du where
  fr : Int
  to : Int
  am : Int
instance : Inhabited Du := ⟨⟨0, 0, 0⟩⟩
namespace N
def ck1 (d : Du) : Int := if ¬ ((0 ≤ d.fr ∧ d.fr ≤ 30) ∧ (0 ≤ d.to ∧ d.to ≤ 30) ∧ 1 ≤ d.am ∧ d.am ≤ 1152921504606846976) then 3 else if d.fr = d.to then 1 else 0
def chk (l : List Du) : Int := if 60 < l.length then 2 else fb ck1 l
theorem chk_ok {l : List Du} (h : chk l = 0) : l.length ≤ 60 ∧ ∀ d ∈ l, ck1 d = 0 := by
  unfold chk at h
  split at h
  · omega
  · exact ⟨by omega, fb_ok h⟩
theorem ck_ok {d : Du} (h : ck1 d = 0) : (0 ≤ d.fr ∧ d.fr ≤ 30) ∧ (0 ≤ d.to ∧ d.to ≤ 30) ∧ (1 ≤ d.am ∧ d.am ≤ 1152921504606846976) ∧ d.fr ≠ d.to := by
  unfold ck1 at h
  split at h
  · omega
  · split at h <;> omega
end N
end Go.Proofs.Ytdehibmofmfkbaa

namespace Go.Proofs.Ytdehibmofmfkbaa
structure Ev where
  pa : Int
  ca : Int
  gi : Int
  fo : Int
structure Po where
  ac : Int
  ut : Int
  am : Int
instance : Inhabited Ev := ⟨⟨0, 0, 0, 0⟩⟩
instance : Inhabited Po := ⟨⟨0, 0, 0⟩⟩
namespace C
def Ok (v : Ev) : Prop := (1 ≤ v.pa ∧ v.pa ≤ 20) ∧ P.Ok v.ca ∧ (0 ≤ v.gi ∧ v.gi ≤ 1000) ∧ (0 ≤ v.fo ∧ v.fo ≤ 1000)
instance (v : Ev) : Decidable (Ok v) := by unfold Ok; exact inferInstance
def Odd (v : Ev) : Prop := ¬ (v.gi = 0 ↔ v.fo = 0) ∨ (v.gi = 0 ∧ v.ca = 0)
instance (v : Ev) : Decidable (Odd v) := by unfold Odd; exact inferInstance
def ev (v : Ev) : Int := if ¬ Ok v then 3 else if Odd v then 1 else 0
def fr (v : Ev) (u : Int) : Int := if v.fo = 0 then 0 else u * v.gi / v.fo
def le (v : Ev) (u : Int) : Int := if v.fo = 0 then 0 else u * v.gi % v.fo
theorem mul_bd {v : Ev} {u : Int} (h : Ok v) (hu : 0 ≤ u ∧ u ≤ 1073741824) : 0 ≤ u * v.gi ∧ u * v.gi ≤ 1073741824000 := by
  obtain ⟨_, _, h3, _⟩ := h
  have h1 := Int.mul_nonneg hu.1 h3.1
  have h2 := Int.mul_le_mul hu.2 h3.2 h3.1 (show (0 : Int) ≤ 1073741824 by omega)
  omega
def poO (v : Ev) (f : Fl) : List Po := if f.pa = v.pa ∧ 0 < F.left f ∧ 0 < fr v (F.left f) then [⟨f.fr, v.pa, -fr v (F.left f)⟩, ⟨f.to, v.pa, fr v (F.left f)⟩] else []
def pos (v : Ev) (fs : List Fl) : List Po := fs.flatMap (poO v)
def up (f : Fl) (n : Int) : Fl := ⟨f.id, f.fr, f.to, f.cl, f.pa, f.day, f.un + n, f.de, f.bo, f.pd⟩
end C
end Go.Proofs.Ytdehibmofmfkbaa

namespace Go.Proofs.Ytdehibmofmfkbaa
namespace Pn
def Ok (u p r : Int) : Prop := (0 ≤ u ∧ u ≤ 1073741824) ∧ P.Ok p ∧ (0 ≤ r ∧ r ≤ 1000000)
instance (u p r : Int) : Decidable (Ok u p r) := by unfold Ok; exact inferInstance
def cs (u p r : Int) : Int := P.cost u p * r / 1000000
def tE (t : List Tm) : Int := if t.length ≠ 6 then 1 else if ∀ x ∈ t, Ag.Wi x then 0 else 3
theorem tE_ok {t : List Tm} (h : tE t = 0) : t.length = 6 ∧ ∀ x ∈ t, Ag.Wi x := by
  unfold tE at h
  split at h
  · omega
  · split at h
    · exact ⟨by omega, by assumption⟩
    · omega
noncomputable def oE (c : Cl) (n : Int) : Int := if Ca.e1 c n ≠ 0 then Ca.e1 c n else if Ca.isV c n = true then 0 else 4
def cl (t : List Tm) (f : Fl) : Tm := t.getD f.cl.toNat default
noncomputable def eF (c : Cl) (t : List Tm) (n : Int) (f : Fl) : Int := Ag.sE c (cl t f) f n
structure Right (c : Cl) (t : List Tm) (l : List Fl) (ps : List Int) (n : Int) : Prop where
  kc : Ca.chk c = 0
  kt : tE t = 0
  kl : F.checks l = 0
  kp : P.chks ps = 0
  ko : oE c n = 0
theorem all_ok {fs : List Fl} (h : F.checks fs = 0) : ∀ f ∈ fs, F.Ok f := by
  have h60 : fs.length ≤ 60 := F.checks_len (by omega)
  unfold F.checks at h
  rw [if_neg (by omega)] at h
  obtain ⟨a, b⟩ := F.ckFrom_ok h
  exact fun f hf => F.chk_ok (a f hf).1
end Pn
end Go.Proofs.Ytdehibmofmfkbaa

namespace Go.Proofs.Ytdehibmofmfkbaa
namespace Rp
def eA (b : List Int) (k : Nat) : Int := if ¬ (1 ≤ b.getD k default ∧ b.getD k default ≤ 3652058) then 3 else if 0 < k ∧ b.getD k default ≤ b.getD (k - 1) default then 4 else 0
def eE (b : List Int) : Int := if 40 < b.length then 2 else Ca.fe (eA b) b.length
theorem eE_1 {b : List Int} (h : 40 < b.length) : eE b = 2 := if_pos h
theorem eE_2 {b : List Int} (h : ¬ 40 < b.length) : eE b = Ca.fe (eA b) b.length := if_neg h
structure Edges (b : List Int) : Prop where
  le : b.length ≤ 40
  bd : ∀ x ∈ b, 1 ≤ x ∧ x ≤ 3652058
  up : b.Pairwise (· < ·)
theorem chain_up {b : List Int} (h : ∀ k, 0 < k → k < b.length → b.getD (k - 1) default < b.getD k default) : b.Pairwise (· < ·) := by
  have key : ∀ i d, i + d + 1 < b.length → b.getD i default < b.getD (i + d + 1) default := fun i d => by
    induction d with
    | zero => intro hd; have := h (i + 1) (by omega) hd; simpa using this
    | succ d ih =>
      intro hd
      have a := ih (by omega)
      have c := h (i + d + 1 + 1) (by omega) (by omega)
      have e : i + d + 1 + 1 - 1 = i + d + 1 := by omega
      rw [e] at c
      have e2 : i + (d + 1) + 1 = i + d + 1 + 1 := by omega
      rw [e2]
      omega
  rw [List.pairwise_iff_getElem]
  intro i j hi hj hij
  have := key i (j - i - 1) (by omega)
  rw [show i + (j - i - 1) + 1 = j by omega, getD_at hi, getD_at hj] at this
  exact this
theorem eE_ok {b : List Int} (h : eE b = 0) : Edges b := by
  by_cases l : 40 < b.length
  · rw [eE_1 l] at h; cases h
  · rw [eE_2 l] at h
    have a := Ca.fe_ok h
    have k1 : ∀ k, k < b.length → (1 ≤ b.getD k default ∧ b.getD k default ≤ 3652058) ∧ (0 < k → b.getD (k - 1) default < b.getD k default) := fun k hk => by
      have e := a k hk
      unfold eA at e
      split at e
      · cases e
      · split at e
        · cases e
        · exact ⟨Classical.byContradiction (by assumption), fun q => by omega⟩
    refine ⟨by omega, fun x hx => ?_, chain_up fun k h0 hk => (k1 k hk).2 h0⟩
    obtain ⟨i, hi, rfl⟩ := List.getElem_of_mem hx
    have := (k1 i hi).1
    rwa [getD_at hi] at this
theorem eE_of {b : List Int} (h : Edges b) : eE b = 0 := by
  rw [eE_2 (by have := h.le; omega)]
  refine Ca.fe_end fun k hk => ?_
  have a := h.bd _ (getD_mem hk)
  unfold eA
  rw [if_neg (fun z => z a), if_neg]
  rintro ⟨k0, q⟩
  have := Ca.srt_lt h.up (i := k - 1) (j := k) (by omega) hk
  omega
def pc (b : List Int) (n : Int) : Nat := Ca.lb b (n + 1)
theorem lb_spec (l : List Int) (x : Int) (hs : l.Pairwise (· < ·)) : Ca.lb l x ≤ l.length ∧ (∀ k, k < Ca.lb l x → l.getD k default < x) ∧ ∀ k, Ca.lb l x ≤ k → k < l.length → ¬ l.getD k default < x := by
  induction l with
  | nil => exact ⟨Nat.le_refl _, fun k h => absurd h (Nat.not_lt_zero _), fun k _ h => absurd h (Nat.not_lt_zero _)⟩
  | cons a r ih =>
    rw [List.pairwise_cons] at hs
    obtain ⟨i1, i2, i3⟩ := ih hs.2
    by_cases e : a < x
    · have q : Ca.lb (a :: r) x = Ca.lb r x + 1 := by unfold Ca.lb; rw [List.takeWhile_cons, if_pos (by simpa using e), List.length_cons]
      rw [q]
      refine ⟨by rw [List.length_cons]; omega, fun k hk => ?_, fun k h1 h2 => ?_⟩
      · cases k with
        | zero => simpa using e
        | succ k => simpa using i2 k (by omega)
      · cases k with
        | zero => omega
        | succ k => simpa using i3 k (by omega) (by simpa using h2)
    · have q : Ca.lb (a :: r) x = 0 := by unfold Ca.lb; rw [List.takeWhile_cons, if_neg (by simpa using e)]; rfl
      rw [q]
      refine ⟨Nat.zero_le _, fun k h => absurd h (Nat.not_lt_zero _), fun k _ h2 => ?_⟩
      cases k with
      | zero => simpa using e
      | succ k =>
        have hk : k < r.length := by simpa using h2
        have := hs.1 (r.getD k default) (getD_mem hk)
        have g : (a :: r).getD (k + 1) default = r.getD k default := by simp
        rw [g]
        omega
theorem pc_le {b : List Int} (h : b.Pairwise (· < ·)) (n : Int) : pc b n ≤ b.length := (lb_spec b (n + 1) h).1
theorem pc_is {b : List Int} {n : Int} {i : Nat} (hi : i ≤ b.length) (h1 : ∀ k, k < i → b.getD k default ≤ n) (h2 : ∀ k, i ≤ k → k < b.length → n < b.getD k default) : pc b n = i :=
  Ca.lb_is hi (fun k hk => by have := h1 k hk; omega) fun k h3 h4 => by have := h2 k h3 h4; omega
theorem pc_spec {b : List Int} (h : b.Pairwise (· < ·)) (n : Int) : (∀ k, k < pc b n → b.getD k default ≤ n) ∧ ∀ k, pc b n ≤ k → k < b.length → n < b.getD k default := by
  obtain ⟨_, a, c⟩ := lb_spec b (n + 1) h
  exact ⟨fun k hk => by have := a k hk; omega, fun k h1 h2 => by have := c k h1 h2; omega⟩
theorem pc_lb {b : List Int} (h : b.Pairwise (· < ·)) (n : Int) : (n ∈ b → pc b n = Ca.lb b n + 1 ∧ Ca.lb b n + 1 ≤ b.length) ∧ (¬ n ∈ b → pc b n = Ca.lb b n) := by
  obtain ⟨l1, l2, l3⟩ := lb_spec b n h
  have f := Ca.found_is l2 l3 h
  constructor
  · intro m
    obtain ⟨a, c⟩ := f.1 m
    refine ⟨pc_is (by omega) (fun k hk => ?_) (fun k h1 h2 => ?_), by omega⟩
    · by_cases e : k = Ca.lb b n
      · subst e; omega
      · have := l2 k (by omega); omega
    · have := Ca.srt_lt h (i := Ca.lb b n) (j := k) (by omega) h2
      omega
  · intro m
    refine pc_is l1 (fun k hk => by have := l2 k hk; omega) (fun k h1 h2 => ?_)
    have a := l3 k h1 h2
    by_cases e : b.getD k default = n
    · exact absurd (by rw [← e]; exact getD_mem h2) m
    · omega
def last (b : List Int) : Int := if b.length = 0 then 0 else b.getD (b.length - 1) default
theorem le_last {b : List Int} (h : b.Pairwise (· < ·)) {k : Nat} (hk : k < b.length) : b.getD k default ≤ last b := by
  unfold last
  rw [if_neg (by omega)]
  by_cases e : k = b.length - 1
  · rw [e]; exact Int.le_refl _
  · have := Ca.srt_lt h (i := k) (j := b.length - 1) (by omega) (by omega); omega
def cap (m n : Int) : Int := if n ≤ m then n else m + 1
theorem pc_cap {b : List Int} (h : b.Pairwise (· < ·)) (n : Int) : pc b (cap (last b) n) = pc b n := by
  unfold cap
  split
  · rfl
  · refine pc_is (pc_le h n) (fun k hk => ?_) (fun k h1 h2 => ?_)
    · have := le_last h (k := k) (by have := pc_le h n; omega); omega
    · have := (pc_spec h n).2 k h1 h2
      have := le_last h h2
      omega
def Lt_ (td : Int) (f : Fl) : Prop := 0 < F.left f ∧ f.day < td
instance (td : Int) (f : Fl) : Decidable (Lt_ td f) := by unfold Lt_; exact inferInstance
def bump (h : List Int) (p : Nat) : List Int := h.set p (h.getD p default + 1)
def agS (c : Cl) (td : Int) (b : List Int) (h : List Int) (f : Fl) : List Int := if Lt_ td f then bump h (pc b (Ca.cnt c f.day td)) else h
def ag (c : Cl) (td : Int) (b : List Int) (l : List Fl) : List Int := l.foldl (agS c td b) (List.replicate (b.length + 1) 0)
theorem ag_snoc {c : Cl} {td : Int} {b : List Int} {l : List Fl} {k : Nat} (h : k < l.length) : ag c td b (l.take (k + 1)) = agS c td b (ag c td b (l.take k)) (l.getD k default) := by
  unfold ag
  rw [List.take_succ_eq_append_getElem h, List.foldl_append, ← getD_at h]
  rfl
theorem agS_len (c : Cl) (td : Int) (b : List Int) (h : List Int) (f : Fl) : (agS c td b h f).length = h.length := by
  unfold agS bump; split <;> simp
theorem agf_len (c : Cl) (td : Int) (b : List Int) : ∀ (l : List Fl) (h : List Int), (l.foldl (agS c td b) h).length = h.length
  | [], _ => rfl
  | f :: r, h => (agf_len c td b r _).trans (agS_len c td b h f)
theorem ag_len (c : Cl) (td : Int) (b : List Int) (l : List Fl) : (ag c td b l).length = b.length + 1 := by
  unfold ag; rw [agf_len, List.length_replicate]
theorem bump_bd {h : List Int} {p : Nat} {m : Int} (a : ∀ x ∈ h, 0 ≤ x ∧ x ≤ m) (m0 : 0 ≤ m) : ∀ x ∈ bump h p, 0 ≤ x ∧ x ≤ m + 1 := fun x hx => by
  unfold bump at hx
  rcases List.mem_or_eq_of_mem_set hx with q | q
  · have := a x q; omega
  · by_cases z : p < h.length
    · have := a _ (getD_mem z); omega
    · rw [List.set_eq_of_length_le (by omega)] at hx
      have := a x hx; omega
theorem ag_bd (c : Cl) (td : Int) (b : List Int) : ∀ (l : List Fl) (h : List Int) (m : Int), 0 ≤ m → (∀ x ∈ h, 0 ≤ x ∧ x ≤ m) → ∀ x ∈ l.foldl (agS c td b) h, 0 ≤ x ∧ x ≤ m + l.length
  | [], h, m, m0, a => fun x hx => by have := a x hx; simp; omega
  | f :: r, h, m, m0, a => fun x hx => by
    have q : ∀ x ∈ agS c td b h f, 0 ≤ x ∧ x ≤ m + 1 := by
      unfold agS
      split
      · exact bump_bd a m0
      · exact fun x hx => by have := a x hx; omega
    have := ag_bd c td b r _ (m + 1) (by omega) q x hx
    rw [List.length_cons]
    omega
theorem ag_bd0 (c : Cl) (td : Int) (b : List Int) (l : List Fl) : ∀ x ∈ ag c td b l, 0 ≤ x ∧ x ≤ l.length := fun x hx => by
  have := ag_bd c td b l _ 0 (by omega) (fun x hx => by rw [List.eq_of_mem_replicate hx]; omega) x hx
  omega
def aE (c : Cl) (l : List Fl) (td : Int) (b : List Int) : Int := if Ca.chk c ≠ 0 then Ca.chk c else if F.checks l ≠ 0 then F.checks l else if D.chk td ≠ 0 then D.chk td else eE b
def aV (c : Cl) (l : List Fl) (td : Int) (b : List Int) : List Int := if aE c l td b = 0 then ag c td b l else []
section
variable {c : Cl} {l : List Fl} {td : Int} {b : List Int}
theorem aE_1 (h : ¬ Ca.chk c = 0) : aE c l td b = Ca.chk c := if_pos h
theorem aE_2 (h : Ca.chk c = 0) (k : ¬ F.checks l = 0) : aE c l td b = F.checks l := (if_neg (by omega)).trans (if_pos k)
theorem aE_3 (h : Ca.chk c = 0) (k : F.checks l = 0) (d : ¬ D.chk td = 0) : aE c l td b = D.chk td := (if_neg (by omega)).trans ((if_neg (by omega)).trans (if_pos d))
theorem aE_4 (h : Ca.chk c = 0) (k : F.checks l = 0) (d : D.chk td = 0) : aE c l td b = eE b := (if_neg (by omega)).trans ((if_neg (by omega)).trans (if_neg (by omega)))
theorem aE_ok (h : aE c l td b = 0) : Ca.chk c = 0 ∧ F.checks l = 0 ∧ D.chk td = 0 ∧ eE b = 0 := by
  unfold aE at h
  split at h
  · exact absurd h (by assumption)
  · split at h
    · exact absurd h (by assumption)
    · split at h
      · exact absurd h (by assumption)
      · exact ⟨by omega, by omega, by omega, h⟩
theorem aV_yes (h : aE c l td b = 0) : aV c l td b = ag c td b l := if_pos h
theorem aV_no (h : ¬ aE c l td b = 0) : aV c l td b = [] := if_neg h
end
def pt (g : Fl → Int) (l : List Fl) (p : Nat) : Int := M.sum (l.map fun f => if g f = (p : Int) then F.left f else 0)
def pts (g : Fl → Int) (l : List Fl) : List Int := (List.range 31).map (pt g l)
theorem pts_len (g : Fl → Int) (l : List Fl) : (pts g l).length = 31 := by simp [pts]
theorem pts_at (g : Fl → Int) (l : List Fl) {p : Nat} (h : p < 31) : (pts g l).getD p default = pt g l p := by
  unfold pts; simp [List.getD, h]
theorem pt_snoc {g : Fl → Int} {l : List Fl} {k : Nat} (h : k < l.length) (p : Nat) : pt g (l.take (k + 1)) p = pt g (l.take k) p + if g (l.getD k default) = (p : Int) then F.left (l.getD k default) else 0 := by
  unfold pt
  rw [List.take_succ_eq_append_getElem h, List.map_append, M.sum_append, ← getD_at h]
  simp [M.sum]
theorem pt_bd {g : Fl → Int} {l : List Fl} (h : ∀ f ∈ l, F.Ok f) (p : Nat) : 0 ≤ pt g l p ∧ pt g l p ≤ 1073741824 * l.length := by
  unfold pt
  induction l with
  | nil => simp [M.sum]
  | cons f r ih =>
    have a := ih fun x hx => h x (by simp [hx])
    have b := F.ok_bounds (h f (by simp))
    rw [List.map_cons, M.sum, List.length_cons]
    split <;> omega
theorem pts_snoc {g : Fl → Int} {l : List Fl} {k : Nat} (h : k < l.length) (b : 0 ≤ g (l.getD k default) ∧ g (l.getD k default) ≤ 30) :
    pts g (l.take (k + 1)) = (pts g (l.take k)).set (g (l.getD k default)).toNat ((pts g (l.take k)).getD (g (l.getD k default)).toNat default + F.left (l.getD k default)) := by
  refine List.ext_getElem (by simp [pts_len]) fun i h1 h2 => ?_
  rw [pts_len] at h1
  rw [← getD_at (by rw [pts_len]; exact h1), pts_at g _ h1, pt_snoc h, List.getElem_set]
  by_cases e : (g (l.getD k default)).toNat = i
  · rw [if_pos (by omega), if_pos e, pts_at g _ (by omega), e]
  · rw [if_neg (by omega), if_neg e, ← getD_at (by rw [pts_len]; exact h1), pts_at g _ h1]; omega
theorem pts_none {g : Fl → Int} {l : List Fl} {k : Nat} (h : k < l.length) (z : F.left (l.getD k default) = 0) : pts g (l.take (k + 1)) = pts g (l.take k) := by
  refine List.ext_getElem (by simp [pts_len]) fun i h1 h2 => ?_
  rw [pts_len] at h1
  rw [← getD_at (by rw [pts_len]; exact h1), ← getD_at (by rw [pts_len]; exact h1), pts_at g _ h1, pts_at g _ h1, pt_snoc h, z]
  split <;> omega
theorem pts_nil (g : Fl → Int) : pts g [] = List.replicate 31 0 := by
  unfold pts pt
  simp [M.sum, List.map_const']
def frV (l : List Fl) : List Int := if F.checks l = 0 then pts (·.fr) l else []
def toV (l : List Fl) : List Int := if F.checks l = 0 then pts (·.to) l else []
def dn (l : List Fl) : Int := M.sum (l.map (·.de))
def al (l : List Fl) : Int := M.sum (l.map (·.un))
theorem dn_snoc {l : List Fl} {k : Nat} (h : k < l.length) : dn (l.take (k + 1)) = dn (l.take k) + (l.getD k default).de := by
  unfold dn; rw [List.take_succ_eq_append_getElem h, List.map_append, M.sum_append, ← getD_at h]; simp [M.sum]
theorem al_snoc {l : List Fl} {k : Nat} (h : k < l.length) : al (l.take (k + 1)) = al (l.take k) + (l.getD k default).un := by
  unfold al; rw [List.take_succ_eq_append_getElem h, List.map_append, M.sum_append, ← getD_at h]; simp [M.sum]
theorem da_bd {l : List Fl} (h : ∀ f ∈ l, F.Ok f) : 0 ≤ dn l ∧ dn l ≤ al l ∧ (l.length : Int) ≤ al l ∧ al l ≤ 1073741824 * l.length := by
  unfold dn al
  induction l with
  | nil => simp [M.sum]
  | cons f r ih =>
    have a := ih fun x hx => h x (by simp [hx])
    obtain ⟨⟨_, _, _, _, _, _, b1, b2⟩, _, ⟨b3, b4⟩, _⟩ := h f (by simp)
    rw [List.map_cons, M.sum, List.map_cons, M.sum, List.length_cons]
    omega
def rE (l : List Fl) : Int := if F.checks l ≠ 0 then F.checks l else if l.length = 0 then 5 else 0
def rV (l : List Fl) : Int := if rE l = 0 then dn l * 10000 / al l else 0
theorem rE_1 {l : List Fl} (h : ¬ F.checks l = 0) : rE l = F.checks l ∧ rV l = 0 := by
  have e : rE l = F.checks l := if_pos h
  exact ⟨e, if_neg (by omega)⟩
theorem rE_2 {l : List Fl} (h : F.checks l = 0) (k : l.length = 0) : rE l = 5 ∧ rV l = 0 := by
  have e : rE l = 5 := (if_neg (by omega)).trans (if_pos k)
  exact ⟨e, if_neg (by omega)⟩
theorem rE_3 {l : List Fl} (h : F.checks l = 0) (k : ¬ l.length = 0) : rE l = 0 ∧ rV l = dn l * 10000 / al l := by
  have e : rE l = 0 := (if_neg (by omega)).trans (if_neg k)
  exact ⟨e, if_pos e⟩
theorem rE_ok {l : List Fl} (h : rE l = 0) : F.checks l = 0 ∧ ¬ l.length = 0 := by
  by_cases a : F.checks l = 0
  · by_cases b : l.length = 0
    · rw [(rE_2 a b).1] at h; cases h
    · exact ⟨a, b⟩
  · rw [(rE_1 a).1] at h; exact absurd h a
theorem rate_bd {l : List Fl} (h : ∀ f ∈ l, F.Ok f) (n : 0 < l.length) (n60 : l.length ≤ 60) : (0 ≤ dn l * 10000 / al l ∧ dn l * 10000 / al l ≤ 10000) ∧ M.prE (dn l) 10000 (al l) = 0 ∧ M.prQ (dn l) 10000 (al l) = dn l * 10000 / al l := by
  obtain ⟨a, b, c, d⟩ := da_bd h
  have p : 0 < al l := by omega
  have q0 : 0 ≤ dn l * 10000 / al l := Int.ediv_nonneg (by omega) (by omega)
  have q1 : dn l * 10000 / al l ≤ 10000 := by
    have := Int.ediv_le_ediv p (show dn l * 10000 ≤ 10000 * al l by omega)
    rwa [Int.mul_ediv_cancel _ (by omega)] at this
  have k : M.POk (dn l) 10000 (al l) := ⟨by unfold M.Amt; omega, by omega, by omega⟩
  have m : M.Amt (dn l * 10000 / al l) := by unfold M.Amt; omega
  exact ⟨⟨q0, q1⟩, (M.pr_3 k m).1, (M.pr_3 k m).2.1⟩
end Rp
end Go.Proofs.Ytdehibmofmfkbaa

namespace Go.Proofs.Ytdehibmofmfkbaa.V
theorem too_great {a b u d q r : Nat} (h : q * a + r = u) : (r * 4294967296 + d < q * b) ↔ (u * 4294967296 + d < q * (a * 4294967296 + b)) := by
  have e : q * (a * 4294967296 + b) = q * a * 4294967296 + q * b := by rw [Nat.mul_add, Nat.mul_assoc]
  rw [e, ← h, Nat.add_mul]
  omega
theorem digit_le {V N q : Nat} (hb : N < q * V) : N / V ≤ q - 1 := by
  have h1 : N / V < q := Nat.div_lt_of_lt_mul (by rw [Nat.mul_comm]; exact hb)
  omega
theorem digit_eq {V N q : Nat} (h : N / V ≤ q) (hb : ¬ N < q * V) (hV : 0 < V) : q = N / V := by
  have h1 : q ≤ N / V := (Nat.le_div_iff_mul_le hV).2 (by omega)
  omega
theorem guess_ge {a b u d : Nat} (ha : 0 < a) (hd : d < 4294967296) : (u * 4294967296 + d) / (a * 4294967296 + b) ≤ u / a := by
  apply Nat.le_of_lt_succ
  apply Nat.div_lt_of_lt_mul
  have h1 : u < a * (u / a + 1) := by have := Nat.lt_mul_div_succ u ha; exact this
  have h2 : (u + 1) * 4294967296 ≤ a * (u / a + 1) * 4294967296 := Nat.mul_le_mul_right _ h1
  have h3 : (a * 4294967296 + b) * (u / a + 1) = a * (u / a + 1) * 4294967296 + b * (u / a + 1) := by
    rw [Nat.add_mul]; congr 1; rw [Nat.mul_assoc, Nat.mul_comm 4294967296, ← Nat.mul_assoc]
  show u * 4294967296 + d < (a * 4294967296 + b) * (u / a + 1)
  rw [h3]; omega
theorem wide_great {V u d q : Nat} (hu : u < V) (hd : d < 4294967296) (hq : 4294967296 ≤ q) : u * 4294967296 + d < q * V := by
  have h1 : (u + 1) * 4294967296 ≤ V * 4294967296 := Nat.mul_le_mul_right _ hu
  have h2 : 4294967296 * V ≤ q * V := Nat.mul_le_mul_right _ hq
  have h3 : 4294967296 * V = V * 4294967296 := Nat.mul_comm _ _
  omega
theorem wide_rest {a b u d q r : Nat} (h : q * a + r = u) (hu : u < a * 4294967296 + b) (hb : b < 4294967296) (hr : 4294967296 ≤ r) : q < 4294967296 ∧ ¬ u * 4294967296 + d < q * (a * 4294967296 + b) := by
  have hq : q < 4294967296 := by
    apply Classical.byContradiction; intro hc
    have h1 : 4294967296 * a ≤ q * a := Nat.mul_le_mul_right _ (by omega)
    have h2 : 4294967296 * a = a * 4294967296 := Nat.mul_comm _ _
    omega
  refine ⟨hq, ?_⟩
  rw [← too_great h]
  have h3 : q * b ≤ 4294967295 * b := Nat.mul_le_mul_right _ (by omega)
  omega
theorem two_digits_ {K V N d0 : Nat} (hV : 0 < V) : (N / V) * K + ((N % V) * K + d0) / V = (N * K + d0) / V ∧ ((N % V) * K + d0) % V = (N * K + d0) % V := by
  have h := Nat.div_add_mod N V
  generalize N / V = q1 at *
  generalize N % V = r1 at *
  have e : N * K + d0 = (r1 * K + d0) + V * (q1 * K) := by
    rw [← h, Nat.add_mul, Nat.mul_assoc]; omega
  rw [e, Nat.add_mul_div_left _ _ hV, Nat.add_mul_mod_self_left]
  exact ⟨by omega, rfl⟩
theorem shift_div {N y s : Nat} (hs : 0 < s) : (N * s) / (y * s) = N / y ∧ (N * s) % (y * s) / s = N % y := by
  refine ⟨Nat.mul_div_mul_right _ _ hs, ?_⟩
  rw [Nat.mul_mod_mul_right]
  exact Nat.mul_div_cancel _ hs
end Go.Proofs.Ytdehibmofmfkbaa.V

namespace Go.Proofs.Ytdehibmofmfkbaa.V
open Go.Lib
theorem bl : ∀ (f x : Nat), x ≠ 0 → x < 2 ^ f → f ≤ 64 → 1 ≤ Lib.bitLen x ∧ Lib.bitLen x ≤ f ∧ 2 ^ (Lib.bitLen x - 1) ≤ x ∧ x < 2 ^ Lib.bitLen x
  | 0, x, h0, h, _ => by simp at h; exact absurd h h0
  | f + 1, x, h0, h, hf => by
    have h64 : x < 2 ^ 64 := Nat.lt_of_lt_of_le h (Nat.pow_le_pow_right (by omega) hf)
    rw [Lib.bitLen_half x h0 h64]
    by_cases hx : x / 2 = 0
    · have : x = 1 := by omega
      subst this
      rw [hx]
      have e : Lib.bitLen 0 = 0 := rfl
      rw [e]
      exact ⟨by omega, by omega, by decide, by decide⟩
    · have hlt : x / 2 < 2 ^ f := by rw [Nat.pow_succ] at h; omega
      obtain ⟨a, b, c, d⟩ := bl f (x / 2) hx hlt (by omega)
      generalize Lib.bitLen (x / 2) = k at *
      obtain ⟨j, rfl⟩ : ∃ j, k = j + 1 := ⟨k - 1, by omega⟩
      have e1 : 1 + (j + 1) - 1 = j + 1 := by omega
      have e2 : j + 1 - 1 = j := by omega
      rw [e1]
      rw [e2] at c
      have e3 : (2 : Nat) ^ (1 + (j + 1)) = 2 ^ (j + 1) * 2 := by rw [Nat.add_comm, Nat.pow_succ]
      rw [e3]
      have e4 : (2 : Nat) ^ (j + 1) = 2 ^ j * 2 := Nat.pow_succ ..
      refine ⟨by omega, by omega, by omega, by omega⟩
theorem lead {y : Nat} (h0 : y ≠ 0) (h : y < 18446744073709551616) : Lib.bitLen y ≤ 64 ∧ 1 ≤ Lib.bitLen y ∧ 9223372036854775808 ≤ y * 2 ^ (64 - Lib.bitLen y) ∧ y * 2 ^ (64 - Lib.bitLen y) < 18446744073709551616 := by
  obtain ⟨a, b, c, d⟩ := bl 64 y h0 h (Nat.le_refl _)
  have e1 : 2 ^ (Lib.bitLen y - 1) * 2 ^ (64 - Lib.bitLen y) = 9223372036854775808 := by
    rw [← Nat.pow_add, show Lib.bitLen y - 1 + (64 - Lib.bitLen y) = 63 from by omega]
  have e2 : 2 ^ Lib.bitLen y * 2 ^ (64 - Lib.bitLen y) = 18446744073709551616 := by
    rw [← Nat.pow_add, show Lib.bitLen y + (64 - Lib.bitLen y) = 64 from by omega]
  have hp : 0 < 2 ^ (64 - Lib.bitLen y) := Nat.pow_pos (by omega)
  refine ⟨b, a, ?_, ?_⟩
  · rw [← e1]; exact Nat.mul_le_mul_right _ c
  · rw [← e2]; exact Nat.mul_lt_mul_of_pos_right d hp
end Go.Proofs.Ytdehibmofmfkbaa.V

namespace Go.Proofs.Ytdehibmofmfkbaa.V
theorem step_eq {a u q r q' r' : Nat} (h : q * a + r = u) (hq : 1 ≤ q) (e1 : q' = q - 1) (e2 : r' = r + a) : q' * a + r' = u := by
  obtain ⟨k, rfl⟩ : ∃ k, q = k + 1 := ⟨q - 1, by omega⟩
  have : q' = k := by omega
  subst this
  rw [e2, ← h, Nat.add_mul]
  omega
theorem rem_wrap {u d Q Y : Nat} (hq : Q = (u * 4294967296 + d) / Y) (hY : 0 < Y) (hY2 : Y < 18446744073709551616) :
    ((((u : Int) * 4294967296 % 18446744073709551616 + (d : Int)) % 18446744073709551616 - (Q : Int) * (Y : Int) % 18446744073709551616) % 18446744073709551616) = (((u * 4294967296 + d) % Y : Nat) : Int) := by
  have h := Nat.div_add_mod (u * 4294967296 + d) Y
  have h2 := Nat.mod_lt (u * 4294967296 + d) hY
  rw [← hq] at h
  generalize (u * 4294967296 + d) % Y = m at *
  have e : (Q : Int) * (Y : Int) = ((Y * Q : Nat) : Int) := by simp [Int.mul_comm]
  rw [e]
  generalize Y * Q = z at *
  omega
theorem final_ {K W hi lo y s u d1 d0 V' Y : Nat} (hW : W = K * K) (hY : Y = y * 2 ^ s) (hy : 0 < Y) (hU : u * W + V' = (hi * W + lo) * 2 ^ s) (hV : V' = d1 * K + d0) :
    ((u * K + d1) / Y) * K + (((u * K + d1) % Y) * K + d0) / Y = (hi * W + lo) / y ∧ ((((u * K + d1) % Y) * K + d0) % Y) / 2 ^ s = (hi * W + lo) % y := by
  obtain ⟨t1, t2⟩ := two_digits_ (K := K) (V := Y) (N := u * K + d1) (d0 := d0) hy
  have e : (u * K + d1) * K + d0 = (hi * W + lo) * 2 ^ s := by rw [← hU, hV, hW, Nat.add_mul, Nat.mul_assoc]; omega
  rw [e, hY] at t1 t2
  obtain ⟨g1, g2⟩ := shift_div (N := hi * W + lo) (y := y) (s := 2 ^ s) (Nat.pow_pos (by omega))
  rw [hY]
  exact ⟨t1.trans g1, by rw [t2]; exact g2⟩
theorem final {hi lo y s u d1 d0 V' Y : Nat} (hY : Y = y * 2 ^ s) (hy : 0 < Y) (hU : u * 18446744073709551616 + V' = (hi * 18446744073709551616 + lo) * 2 ^ s) (hV : V' = d1 * 4294967296 + d0) :
    ((u * 4294967296 + d1) / Y) * 4294967296 + (((u * 4294967296 + d1) % Y) * 4294967296 + d0) / Y = (hi * 18446744073709551616 + lo) / y ∧
    ((((u * 4294967296 + d1) % Y) * 4294967296 + d0) % Y) / 2 ^ s = (hi * 18446744073709551616 + lo) % y := final_ (by omega) hY hy hU hV
theorem lt_words_ {K hi lo y : Nat} (h1 : hi < y) (h2 : lo < K) : hi * K + lo < y * K := by
  have h : (hi + 1) * K ≤ y * K := Nat.mul_le_mul_right _ h1
  rw [Nat.add_mul] at h; omega
theorem lt_words {hi lo y : Nat} (h1 : hi < y) (h2 : lo < 18446744073709551616) : hi * 18446744073709551616 + lo < y * 18446744073709551616 := lt_words_ h1 h2
theorem or_add {h l s : Nat} (hl : l < 2 ^ s) : (h * 2 ^ s) ||| l = h * 2 ^ s + l := by
  have := Nat.shiftLeft_add_eq_or_of_lt hl h
  rw [Nat.shiftLeft_eq] at this
  exact this.symm
theorem words_ {hi lo A B K : Nat} (hp : 0 < B) (e : A * B = K) : (hi * B + lo / A) * K + lo * B % K = (hi * K + lo) * B := by
  have hd : lo * B / K = lo / A := by rw [← e]; exact Nat.mul_div_mul_right _ _ hp
  have hdm := Nat.div_add_mod (lo * B) K
  rw [hd] at hdm
  rw [Nat.add_mul, Nat.add_mul, Nat.mul_assoc hi K B, Nat.mul_comm K B, ← Nat.mul_assoc hi B K, Nat.mul_comm (lo / A) K]
  omega
theorem words {hi lo y s : Nat} (hs : s ≤ 63) (h1 : hi < y) (h2 : lo < 18446744073709551616) (h4 : y * 2 ^ s < 18446744073709551616) :
    hi * 2 ^ s < 18446744073709551616 ∧ lo / 2 ^ (64 - s) < 2 ^ s ∧ hi * 2 ^ s + lo / 2 ^ (64 - s) < y * 2 ^ s ∧
    (hi * 2 ^ s + lo / 2 ^ (64 - s)) * 18446744073709551616 + lo * 2 ^ s % 18446744073709551616 = (hi * 18446744073709551616 + lo) * 2 ^ s := by
  have hp : 0 < 2 ^ s := Nat.pow_pos (by omega)
  have e : 2 ^ (64 - s) * 2 ^ s = 18446744073709551616 := by rw [← Nat.pow_add, show 64 - s + s = 64 from by omega]
  have hl : lo / 2 ^ (64 - s) < 2 ^ s := Nat.div_lt_of_lt_mul (by rw [e]; exact h2)
  have hm : (hi + 1) * 2 ^ s ≤ y * 2 ^ s := Nat.mul_le_mul_right _ h1
  rw [Nat.add_mul] at hm
  exact ⟨by omega, hl, by omega, words_ hp e⟩
end Go.Proofs.Ytdehibmofmfkbaa.V
