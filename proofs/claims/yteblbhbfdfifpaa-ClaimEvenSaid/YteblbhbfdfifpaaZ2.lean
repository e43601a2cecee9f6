/- Shared texts, one behind the other: VSound2, VDraw0, VDraw, VCode, VFn, VT, VAns, Lists, VRef, VRet, VOpen, MoneyPl, DivPl, DivPl2, DivPl3 -/
import Derived.OrdersIn
import Derived.TacticsIn
import Derived.Deep.Quiet
import Derived.Deep.Slices
import Derived.Deep.Fields
import Derived.OpenShut
import Derived.Lib.SmallJoins
import Derived.Lib.BitFns
import Derived.Test.YteblbhbfdfifpaaZ1

/- The walk by verification conditions is sound: calls, regions, code, whole functions. -/
namespace Go.Proofs.Yteblbhbfdfifpaa.V
open Go Go.RowKit
set_option linter.unusedVariables false
set_option linter.unusedSimpArgs false
set_option linter.unusedSectionVars false

theorem wp_next {P : Program} {o : Oper} {a : Act} {w : World} {N N' : Act → World → Prop} {Q : Exit → Act → World → Prop} (h : o.wp P a w N Q) (hn : ∀ a w, N a w → N' a w) : o.wp P a w N' Q := by
  unfold Oper.wp at h ⊢
  generalize (execOp a.eval o).run P w = r at *
  cases r with
  | ok n w' =>
    cases n <;> simp only [Oper.upon] at h ⊢ <;> try exact hn _ _ h
    case enter f args =>
      refine h.mono fun e w'' he => ?_
      cases e <;> first | exact hn _ _ he | exact he
    case row r args => exact h.mono fun v w'' hv => hn _ _ hv
  | halt x w' =>
    cases x <;> simp only [Oper.upon] at h ⊢
    exact h
theorem calls_some {P : Program} {f : FuncId} {args : Array Value} {w : World} {R : Ending → World → Prop} (h : Calls P f args w R) : ∃ e w', R e w' := by
  obtain ⟨e, w', _, hr, _⟩ := h []
  exact ⟨e, w', hr⟩
theorem run_call {P : Program} {f : FuncId} (hb : hasBody P f = true) {a : Act} {g : Operand} {args : Array Operand} {ts : Array TypeId} {o : Oper} {cs : Array Value} (ho : o.op = .call ⟨.value g, args, ts⟩) (hg : a.eval g = .func (.func f) #[] cs) (w : World) :
    (execOp a.eval o).run P w = .ok (.enter f (args.map a.eval ++ cs)) w := by
  unfold hasBody at hb
  cases hf : P.funcs[f]? with
  | none => rw [hf] at hb; cases hb
  | some fn =>
    rw [hf] at hb
    simp only [Bool.and_eq_true, Bool.not_eq_true', Option.isSome_iff_ne_none] at hb
    obtain ⟨h1, h2⟩ := hb
    have h3 : fn.body.isNone = false := by cases hq : fn.body with | none => exact absurd hq h1 | some c => rfl
    have h4 : ¬ fn.name = "runtime.NumGoroutine" := by simpa using h2
    simp [execOp, ho, resolve, hg, Deferred.ofValue, invoke, callFunc, hf, h4, h3, Sem.run_bind]
    exact fun q => absurd q h1

/-! inside a round, too -/
def Fz : Option Nat → Fence
  | none => Fence.wide
  | some l => Fence.wide.inRound l
theorem fz_fn (ro : Option Nat) (f : FuncId) : (Fz ro).fn f := by cases ro <;> trivial
theorem fz_depth (ro : Option Nat) : (Fz ro).depth.isSome = false := by cases ro <;> rfl
theorem fz_ro (ro : Option Nat) : (Fz ro).round = ro := by cases ro <;> rfl
theorem fz_calls {ro : Option Nat} {n : Nat} {P : Program} {f : FuncId} {args : Array Value} {w : World} {R : Ending → World → Prop} (h : Calls P f args w R) : CallsIn (Fz ro) n P f args w R := by
  have := (callsIn_wide (n := n)).2 h
  cases ro <;> exact this
theorem fz_rows {ro : Option Nat} {n : Nat} {P : Program} {row : String} {args : Array Value} {w : World} {R : Value → World → Prop} (h : Rows P row args w R) : RowsIn (Fz ro) n P row args w R := by
  have : RowsIn Fence.wide n P row args w R := fun c cs _ => let ⟨v, w', r, s⟩ := h c cs; ⟨v, w', r, stepsIn_wide.2 s⟩
  cases ro <;> exact this
theorem fz_round {ro : Option Nat} {n : Nat} {P : Program} {l : Nat} {f : FuncId} {tmps : Array Value} {assign body : Code} {w : World} {R : Ending → World → Prop} (h : RoundIn Fence.wide n P l f tmps assign body w R) : RoundIn (Fz ro) n P l f tmps assign body w R := by
  cases ro <;> exact h
theorem semAt_fz {ro : Option Nat} {o : Oper} {f : Operand → Value} (hd : ro = none ∨ ∀ c, o.op ≠ .defer c) : Oper.semAt (Fz ro).round f o = execOp f o := by
  rw [fz_ro]
  rcases hd with rfl | hd
  · rfl
  · exact Oper.semAt_eq _ _ _ hd
theorem op_in {ro : Option Nat} {n : Nat} {P : Program} {o : Oper} {a : Act} {w : World} {N : Act → World → Prop} {Q : Exit → Act → World → Prop} (hd : ro = none ∨ ∀ c, o.op ≠ .defer c) (h : o.wp P a w N Q) : o.wpIn (Fz ro) n P a w N Q := by
  unfold Oper.wpIn
  refine ⟨fun _ _ => fz_fn _ _, ?_⟩
  rw [semAt_fz hd]
  unfold Oper.wp at h
  generalize (execOp a.eval o).run P w = r at *
  cases r with
  | ok x w' =>
    cases x <;> simp only [Oper.upon] at h <;> simp only [Oper.uponIn] <;> first
      | exact h
      | exact ⟨fun q => (by rw [fz_depth] at q; cases q), fz_calls (h.mono fun e w'' he => by cases e <;> exact he)⟩
      | exact ⟨fun q => (by rw [fz_depth] at q; cases q), fz_rows h⟩
  | halt x w' => cases x <;> simp only [Oper.upon] at h <;> simp only [Oper.uponIn] <;> exact h
theorem run_ycall {P : Program} {a : Act} {g : Operand} {args : Array Operand} {ts : Array TypeId} {o : Oper} {l : Nat} (ho : o.op = .call ⟨.value g, args, ts⟩) (hg : a.eval g = .func (.yield l) #[] #[]) (w : World) :
    (execOp a.eval o).run P w = (Instr.yield l (args.map a.eval)).run P w := by
  simp [execOp, ho, resolve, hg, Deferred.ofValue, invoke, Sem.run_bind]
def noDef (l : List Oper) : Bool := l.all fun o => match o.op with | .defer _ => false | _ => true
theorem noDef_spec {l : List Oper} (h : noDef l = true) {o : Oper} (ho : o ∈ l) (c : Call) : o.op ≠ .defer c := fun e => by
  have := List.all_eq_true.1 h o ho
  rw [e] at this; cases this
theorem any_in {P : Program} {md : Region.Mode} {ops : Array Oper} {Q : Exit → Act → World → Prop} {ro : Option Nat} {n : Nat} (hd : ro = none ∨ noDef ops.toList = true) (hQ : ¬ LetsOut Q) : ∀ (f : Nat) (listed : Array Bool) (a : Act) (w : World),
    wpAny P md ops Q f listed a w → wpAnyIn (Fz ro) n P md ops Q f listed a w
  | 0, _, _, _, h => h
  | f + 1, listed, a, w, h => ⟨h.1, fun i hi => by
    have h1 := h.2 i hi
    unfold wpOp at h1
    unfold wpOpIn
    split
    · rename_i ho; rw [ho] at h1; exact any_in hd hQ f _ _ _ h1
    · rename_i o ho
      simp only [ho] at h1
      split
      · rename_i hw
        rw [if_pos hw] at h1
        rcases h1 with h1 | ⟨_, q⟩
        · refine op_in ?_ (Oper.wp_mono (fun a w => any_in hd hQ f _ a w) h1)
          rcases hd with rfl | hd
          · exact .inl rfl
          · exact .inr (noDef_spec hd (by simpa using Array.mem_of_getElem? ho))
        · exact absurd q hQ
      · rename_i hw
        rw [if_neg hw] at h1
        exact ⟨fun _ _ => fz_fn _ _, any_in hd hQ f _ _ _ h1⟩⟩

section
variable {P : Program} {T : TT} {sz : Nat} {ρ : Rho} {env : Env} {a : Act} {B nx : Nat} {obs : Obs} {w0 : St} {w : World} (hT : TTok P T) (hE : EnvR sz ρ env a) (hC : Cls B ρ obs nx w) (hW : Wy B w0 ρ a.defers w) {K : Env → Obs → Nat → Prop} {Q : Exit → Act → World → Prop}
include hT hE hC hW
theorem op_call {ro : Option Nat} {n : Nat} {o : Oper} {g : Operand} {args : Array Operand} {ts : Array TypeId} (ho : o.op = .call ⟨.value g, args, ts⟩) (h : opK P T sz false o env obs nx K) : o.wpIn (Fz ro) n P a w (Nx B w0 sz K) Q := by
  simp only [opK, ho] at h
  obtain ⟨v, hv, h⟩ := evK_spec hE h
  split at h
  · rename_i f caps
    obtain ⟨cs, hcs, hg⟩ := hv
    obtain ⟨vs0, h, hvs0⟩ := evsK_spec hE h
    obtain ⟨vs, h, hvs⟩ := capE_spec hvs0 hcs h
    refine op_in (.inr fun c q => by rw [ho] at q; cases q) ?_
    unfold Oper.wp
    rw [run_call h.b ho hg w]
    have hc := h.h B ρ w _ hC hvs
    have e : (args.toList.map a.eval ++ cs).toArray = args.map a.eval ++ cs.toArray := by cases args; simp
    rw [e] at hc
    refine hc.mono fun e w' ⟨v, obs', nx', ρ', x, hK, hx, he, hv, hC', hb, hob⟩ => ?_
    subst he
    obtain ⟨env', hK, hE'⟩ := putK_spec (hE.ext hx) hv hK
    exact ⟨ρ', env', obs', nx', hK, hE', hC', ((hW.trans hb hob).ext hx).put⟩
  · rename_i i
    obtain ⟨ob, hob, h⟩ := fndK_spec h
    split at h
    · obtain ⟨vs, h, hvs⟩ := evsK_spec hE h
      obtain ⟨l, fn, tmps, D, e, _, _, _⟩ := hC.sat i _ hob
      have hg : a.eval g = .func (.yield l) #[] #[] := by have := hv.1; rw [e] at this; injection this with this; exact this.symm
      obtain ⟨fn', tmps', assign, body, hy, hR⟩ := h.h B ρ w _ l (n - 1) hC hvs e
      have ea : (args.toList.map a.eval).toArray = args.map a.eval := by cases args; simp
      rw [ea] at hy
      unfold Oper.wpIn
      refine ⟨fun _ _ => fz_fn _ _, ?_⟩
      have e1 : Oper.semAt (Fz ro).round a.eval o = execOp a.eval o := semAt_fz (.inr fun c q => by rw [ho] at q; cases q)
      rw [e1, run_ycall ho hg w, hy]
      refine ⟨fun q => (by rw [fz_depth] at q; cases q), ?_⟩
      refine (fz_round hR).mono fun e w' ⟨v, obs', nx', ρ', x, hK, hx, he, hv, hC', hb, hob⟩ => ?_
      subst he
      obtain ⟨env', hK, hE'⟩ := putK_spec (hE.ext hx) hv hK
      exact ⟨ρ', env', obs', nx', hK, hE', hC', ((hW.trans hb hob).ext hx).put⟩
    · exact h.elim
  · exact h.elim
theorem op_sound {o : Oper} (hnc : ∀ g args ts, o.op ≠ .call ⟨.value g, args, ts⟩) (h : opK P T sz false o env obs nx K) : o.wp P a w (Nx B w0 sz K) Q := by
  by_cases hnil : o.op = .assign (.const (.slice none 0 0))
  · exact wp_next (op_nil hT hE hC hW hnil h) fun _ _ h => h.nx
  have pur : (pureK T env obs o.op fun v => putK sz o.dst v env fun env' => K env' obs nx) → o.wp P a w (Nx B w0 sz K) Q := fun h => wp_next (op_pure hT hE hC hW h) fun _ _ h => h.nx
  cases hop : o.op
  case box t x => exact wp_next (op_box hT hE hC hW hop h) fun _ _ h => h.nx
  case alloc t => exact wp_next (op_alloc hT hE hC hW hop h) fun _ _ h => h.nx
  case store t x y => exact op_store hT hE hC hW hop h
  case buildSlice t n ps => exact wp_next (op_buildSlice hT hE hC hW hop h) fun _ _ h => h.nx
  case makeSlice t x y => exact wp_next (op_makeSlice hT hE hC hW hop h) fun _ _ h => h.nx
  case slice t x lo hi mx =>
    cases mx with
    | none => exact wp_next (op_slice hT hE hC hW hop h) fun _ _ h => h.nx
    | some m => exact pur (by unfold opK at h; rw [hop] at h ⊢; exact h)
  case assign x =>
    refine pur ?_
    unfold opK at h
    rw [hop] at h ⊢
    split at h
    all_goals first | (rename_i e; cases e; done) | skip
    all_goals first | (rename_i e; injection e with e; subst e; exact absurd hop hnil) | exact h
  case call c =>
    obtain ⟨cl, args, ts⟩ := c
    cases cl with
    | value g => exact absurd hop (hnc _ _ _)
    | invoke r m => exact pur (by unfold opK at h; rw [hop] at h ⊢; exact h)
    | builtin b =>
      by_cases happ : ∃ x y t t', b = .append ∧ args = #[x, y] ∧ ts = #[t, t']
      · obtain ⟨x, y, t, t', rfl, rfl, rfl⟩ := happ
        exact op_append hT hE hC hW hop h
      · refine pur ?_
        unfold opK at h
        rw [hop] at h ⊢
        split at h
        all_goals first | (rename_i e; cases e; done) | skip
        all_goals first | (rename_i e; injection e with e; injection e with e1 e2 e3; injection e1 with e1; exact absurd ⟨_, _, _, _, e1, e2, e3⟩ happ) | exact h
  all_goals exact pur (by unfold opK at h; rw [hop] at h ⊢; exact h)
omit hT hE hC hW in
theorem opK_nd {o : Oper} {q : Bool} (h : opK P T sz q o env obs nx K) (c : Call) : o.op ≠ .defer c := fun hc => by
  unfold opK at h
  rw [hc] at h
  exact h
theorem op_soundIn {ro : Option Nat} {n : Nat} {o : Oper} (h : opK P T sz false o env obs nx K) : o.wpIn (Fz ro) n P a w (Nx B w0 sz K) Q := by
  by_cases hnc : ∃ g args ts, o.op = .call ⟨.value g, args, ts⟩
  · obtain ⟨g, args, ts, hop⟩ := hnc
    exact op_call hT hE hC hW hop h
  · exact op_in (.inr (opK_nd h)) (op_sound hT hE hC hW (fun g args ts q => hnc ⟨g, args, ts, q⟩) h)
end

/-! an operation's guard -/
def asked (all : List Oper) (tmps : Array Value) (g : Option (Nat × Bool)) : Bool := match g with
  | none => true
  | some (j, want) => yielded all.toArray tmps j == some want
theorem wanted_eq (all : List Oper) (o : Oper) (tmps : Array Value) : Region.wanted o (yielded all.toArray tmps) = asked all tmps o.guard := by
  unfold Region.wanted asked
  cases o.guard <;> rfl
theorem EnvR.tf {sz : Nat} {ρ : Rho} {env : Env} {a : Act} (hE : EnvR sz ρ env a) {d : Nat} {b : Bool} (h : a.tmps[d]? = some (.bool b)) : EnvR sz ρ ((d, .one (.tf b)) :: env) a :=
  ⟨hE.size, fun t v ht => by
    rcases fnd_cons ht with ⟨rfl, rfl⟩ | ⟨_, ht⟩
    · exact ⟨_, h, rfl⟩
    · exact hE.env t v ht⟩
theorem guardK_spec {sz : Nat} {ρ : Rho} {env : Env} {a : Act} (hE : EnvR sz ρ env a) {all : List Oper} {g : Option (Nat × Bool)} {yes no : Env → Prop} (h : guardK all env g yes no) :
    ∃ env', EnvR sz ρ env' a ∧ ((asked all a.tmps g = true ∧ yes env') ∨ (asked all a.tmps g = false ∧ no env')) := by
  unfold guardK at h
  cases g with
  | none => exact ⟨env, hE, .inl ⟨rfl, h⟩⟩
  | some jw =>
    obtain ⟨j, want⟩ := jw
    simp only at h
    obtain ⟨o, eo, h⟩ := nthK_spec h
    have ask : ∀ d b, o.dst = some d → a.tmps[d]? = some (.bool b) → asked all a.tmps (some (j, want)) = (b == want) := by
      intro d b h1 h2
      simp [asked, yielded, eo, h1, h2]
    cases hd : o.dst with
    | none => rw [hd] at h; exact h.elim
    | some d =>
      rw [hd] at h
      simp only at h
      obtain ⟨v, hv, h⟩ := fndK_spec h
      obtain ⟨x, hx, hi⟩ := hE.env d v hv
      have both : ∀ b, x = .bool b → (b = true → (match want with | true => yes ((d, .one (.tf true)) :: env) | false => no ((d, .one (.tf true)) :: env))) → (b = false → (match want with | true => no ((d, .one (.tf false)) :: env) | false => yes ((d, .one (.tf false)) :: env))) →
          ∃ env', EnvR sz ρ env' a ∧ ((asked all a.tmps (some (j, want)) = true ∧ yes env') ∨ (asked all a.tmps (some (j, want)) = false ∧ no env')) := by
        intro b hb h1 h2
        subst hb
        have e := ask d b hd hx
        refine ⟨_, hE.tf hx, ?_⟩
        rw [e]
        cases b <;> cases want
        · exact .inl ⟨rfl, h2 rfl⟩
        · exact .inr ⟨rfl, h2 rfl⟩
        · exact .inr ⟨rfl, h1 rfl⟩
        · exact .inl ⟨rfl, h1 rfl⟩
      split at h
      · rename_i b
        have e := ask d b hd (by rw [hx, hi])
        refine ⟨env, hE, ?_⟩
        rw [e]
        cases b <;> cases want
        · exact .inl ⟨rfl, h⟩
        · exact .inr ⟨rfl, h⟩
        · exact .inr ⟨rfl, h⟩
        · exact .inl ⟨rfl, h⟩
      · obtain ⟨b, hb, hp⟩ := hi
        cases want
        · exact both b hb (fun e => h.t (hp.1 e)) (fun e => h.f (fun q => by have := hp.2 q; rw [e] at this; cases this))
        · exact both b hb (fun e => h.t (hp.1 e)) (fun e => h.f (fun q => by have := hp.2 q; rw [e] at this; cases this))
      · rename_i b
        cases want
        · exact both b hi (fun e => h.t e) (fun e => h.f (by rw [e]; decide))
        · exact both b hi (fun e => h.t e) (fun e => h.f (by rw [e]; decide))
      · obtain ⟨cs, _, rfl⟩ := hi
        refine ⟨env, hE, .inr ⟨?_, h⟩⟩
        simp [asked, yielded, eo, hd, hx]
      · exact h.elim

section
variable {P : Program} {T : TT} {sz : Nat} {B : Nat} {w0 : St} (hT : TTok P T)
include hT
theorem ops_sound {ro : Option Nat} {n : Nat} {all : List Oper} {K : Env → Obs → Nat → Prop} {Q : Exit → Act → World → Prop} (hQ : ∀ a w, Nx B w0 sz K a w → Q .normal a w) : ∀ (l : List Oper) {ρ : Rho} {env : Env} {a : Act} {obs : Obs} {nx : Nat} {w : World},
    EnvR sz ρ env a → Cls B ρ obs nx w → Wy B w0 ρ a.defers w → opsK P T sz false all l env obs nx K → wpListIn (Fz ro) n P all.toArray Q l a w
  | [], ρ, env, a, obs, nx, w, hE, hC, hW, h => hQ _ _ ⟨ρ, env, obs, nx, h, hE, hC, hW⟩
  | o :: r, ρ, env, a, obs, nx, w, hE, hC, hW, h => by
    rw [opsK_cons] at h
    obtain ⟨env', hE', h⟩ := guardK_spec hE h
    unfold wpListIn
    rw [wanted_eq]
    rcases h with ⟨hw, h⟩ | ⟨hw, h⟩
    · rw [if_pos hw]
      refine Oper.wpIn_mono ?_ (op_soundIn hT hE' hC hW h)
      rintro a1 w1 ⟨ρ1, env1, obs1, nx1, h1, hE1, hC1, hW1⟩
      exact ops_sound hQ r hE1 hC1 hW1 h1
    · rw [if_neg (by rw [hw]; decide)]
      obtain ⟨env2, h2, hE2⟩ := putK_spec hE' (undef_is ρ) h
      exact ⟨fun _ _ => fz_fn _ _, ops_sound hQ r hE2 hC hW.put h2⟩
theorem ops_quiet {all : List Oper} {ρ : Rho} {obs : Obs} {nx : Nat} {w : World} {ds : List Deferred} (hC : Cls B ρ obs nx w) (hW : Wy B w0 ρ ds w) {K : Env → Obs → Nat → Prop} {Q : Act → Prop} (hQ : ∀ a env, a.defers = ds → EnvR sz ρ env a → K env obs nx → Q a) : ∀ (l : List Oper) {env : Env} {a : Act},
    a.defers = ds → EnvR sz ρ env a → opsK P T sz true all l env obs nx K → wpQuiet P all.toArray (fun w' => Cls B ρ obs nx w' ∧ Wy B w0 ρ ds w') Q l a
  | [], env, a, hd, hE, h => hQ _ _ hd hE h
  | o :: r, env, a, hd, hE, h => by
    rw [opsK_cons] at h
    obtain ⟨env', hE', h⟩ := guardK_spec hE h
    unfold wpQuiet
    rw [wanted_eq]
    rcases h with ⟨hw, h⟩ | ⟨hw, h⟩
    · rw [if_pos hw]
      have pur : (pureK T env' obs o.op fun v => putK sz o.dst v env' fun e => opsK P T sz true all r e obs nx K) → o.quiet P a (fun w' => Cls B ρ obs nx w' ∧ Wy B w0 ρ ds w') (wpQuiet P all.toArray (fun w' => Cls B ρ obs nx w' ∧ Wy B w0 ρ ds w') Q r) := by
        intro h
        obtain ⟨v, x, hv, h, hr⟩ := pure_sound hT hE' hC h
        obtain ⟨env2, h2, hE2⟩ := putK_spec hE' hv h
        exact ⟨x, fun w1 hw1 => by unfold Oper.quietAt; rw [hr o rfl w1 hw1.1]; exact ⟨rfl, rfl⟩, ops_quiet hC hW hQ r (by rw [put_dfs]; exact hd) hE2 h2⟩
      cases hop : o.op
      case box t x => unfold opK at h; rw [hop] at h; exact h.elim
      case alloc t => unfold opK at h; rw [hop] at h; exact h.elim
      case store t x y => unfold opK at h; rw [hop] at h; exact h.elim
      case buildSlice t n ps => unfold opK at h; rw [hop] at h; exact h.elim
      case makeSlice t x y => unfold opK at h; rw [hop] at h; exact h.elim
      case slice t x lo hi mx =>
        cases mx with
        | none =>
          unfold opK at h
          rw [hop] at h
          obtain ⟨ty, _, h⟩ := fndK_spec h
          split at h
          · exact h.elim
          · exact pur (by rw [hop]; exact h)
        | some m => exact pur (by unfold opK at h; rw [hop] at h ⊢; exact h)
      case assign x =>
        refine pur ?_
        unfold opK at h
        rw [hop] at h ⊢
        split at h
        all_goals first | (rename_i e; cases e; done) | skip
        all_goals first | (rename_i e; injection e with e; subst e; exact h) | exact h
      case call c =>
        obtain ⟨cl, args, ts⟩ := c
        cases cl with
        | value g =>
          simp only [opK, hop] at h
          obtain ⟨v, hv, h⟩ := evK_spec hE' h
          split at h
          · rename_i f caps
            obtain ⟨cs, hcs, hg⟩ := hv
            obtain ⟨vs0, h, hvs0⟩ := evsK_spec hE' h
            obtain ⟨vs, h, hvs⟩ := capE_spec hvs0 hcs h
            obtain ⟨v, hK, hc⟩ := h.h
            have e : (args.toList.map a.eval ++ cs).toArray = args.map a.eval ++ cs.toArray := by cases args; simp
            have hc' : ∀ w1, Cls B ρ obs nx w1 → Calls P f (args.map a.eval ++ cs.toArray) w1 fun e w' => ∃ x, e = .returned x ∧ v.is ρ x ∧ Below w1.heap.size w1 w' := fun w1 h1 => e ▸ hc B ρ w1 _ h1 hvs
            obtain ⟨_, _, x, _, hx, _⟩ := calls_some (hc' w hC)
            obtain ⟨env2, h2, hE2⟩ := putK_spec hE' hx hK
            refine ⟨x, fun w1 hw1 => ?_, ops_quiet hC hW hQ r (by rw [put_dfs]; exact hd) hE2 h2⟩
            unfold Oper.quietAt
            rw [run_call h.b hop hg w1]
            refine ⟨rfl, (hc' w1 hw1.1).mono fun e w' ⟨y, he, hy, hb⟩ => ?_⟩
            rw [SV.is_fun hx hy]
            exact ⟨he, hw1.1.below hb, below_of hw1.2 hw1.1.le hb⟩
          · exact h.elim
          · exact h.elim
        | invoke r m => exact pur (by unfold opK at h; rw [hop] at h ⊢; exact h)
        | builtin b =>
          by_cases happ : ∃ x y t t', b = .append ∧ args = #[x, y] ∧ ts = #[t, t']
          · obtain ⟨x, y, t, t', rfl, rfl, rfl⟩ := happ
            unfold opK at h
            rw [hop] at h
            exact h.elim
          · refine pur ?_
            unfold opK at h
            rw [hop] at h ⊢
            split at h
            all_goals first | (rename_i e; cases e; done) | skip
            all_goals first | (rename_i e; injection e with e; injection e with e1 e2 e3; injection e1 with e1; exact absurd ⟨_, _, _, _, e1, e2, e3⟩ happ) | exact h
      all_goals exact pur (by unfold opK at h; rw [hop] at h ⊢; exact h)
    · rw [if_neg (by rw [hw]; decide)]
      obtain ⟨env2, h2, hE2⟩ := putK_spec hE' (undef_is ρ) h
      exact ops_quiet hC hW hQ r (by rw [put_dfs]; exact hd) hE2 h2
end
end Go.Proofs.Yteblbhbfdfifpaa.V

/- Regions that draw their order: a walk that takes what is still first, and each order of what makes memory. -/
namespace Go.Proofs.Yteblbhbfdfifpaa.V
open Go Go.RowKit
set_option linter.unusedVariables false
set_option linter.unusedSimpArgs false
set_option linter.unusedSectionVars false

section
variable {P : Program} {ops : Array Oper} {md : Region.Mode}
/-- k comes up ahead of j, in every order -/
inductive Anc (md : Region.Mode) (ops : Array Oper) : Nat → Nat → Prop
  | one {j : Nat} {oj : Oper} {e : Edge} : ops[j]? = some oj → e ∈ oj.after → Region.binds md e = true → Anc md ops e.on j
  | more {k j : Nat} {oj : Oper} {e : Edge} : ops[j]? = some oj → e ∈ oj.after → Region.binds md e = true → Anc md ops k e.on → Anc md ops k j
def Down (md : Region.Mode) (ops : Array Oper) (listed : Array Bool) : Prop :=
  ∀ j oj, ops[j]? = some oj → listed.getD j false = true → ∀ e ∈ oj.after, Region.binds md e = true → listed.getD e.on false = true
theorem Anc.listed {k j : Nat} {listed : Array Bool} (hd : Down md ops listed) (h : Anc md ops k j) : (∃ oj, ops[j]? = some oj ∧ ∀ e ∈ oj.after, Region.binds md e = true → listed.getD e.on false = true) → listed.getD k false = true := by
  induction h with
  | one hj he hb =>
    rintro ⟨oj, h1, h2⟩
    rw [hj] at h1; injection h1 with h1; subst h1
    exact h2 _ he hb
  | more hj he hb hk ih =>
    rintro ⟨oj, h1, h2⟩
    rw [hj] at h1; injection h1 with h1; subst h1
    have hl := h2 _ he hb
    refine ih ?_
    cases hk with
    | one ho _ _ => exact ⟨_, ho, fun e' he' hb' => hd _ _ ho hl e' he' hb'⟩
    | more ho _ _ _ => exact ⟨_, ho, fun e' he' hb' => hd _ _ ho hl e' he' hb'⟩
theorem Down.set {listed : Array Bool} {i : Nat} (hd : Down md ops listed) (hi : i ∈ Region.ready md ops listed) : Down md ops (listed.setIfInBounds i true) := by
  intro j oj hj hl e he hb
  refine getD_set_true ?_
  by_cases hji : i = j
  · subst hji
    obtain ⟨_, o, ho, h⟩ := mem_ready.1 hi
    rw [hj] at ho; injection ho with ho; subst ho
    exact h e he hb
  · rw [getD_set_ne false hji] at hl
    exact hd j oj hj hl e he hb

/-- nothing dies, nothing is let out -/
def noQ : Exit → Act → World → Prop := fun _ _ _ => False
def opG (P : Program) (ops : Array Oper) (i : Nat) (K : Act → World → Prop) (a : Act) (w : World) : Prop := match ops[i]? with
  | none => False
  | some o => if Region.wanted o (yielded ops a.tmps) then o.wp P a w K noQ else K (a.put o.dst undef) w
theorem opG_mono {i : Nat} {K K' : Act → World → Prop} {a : Act} {w : World} (h : ∀ a w, K a w → K' a w) (hh : opG P ops i K a w) : opG P ops i K' a w := by
  unfold opG at *
  split
  · rename_i hn; simp only [hn] at hh
  · rename_i o ho
    simp only [ho] at hh
    split
    · rename_i hw; simp only [hw, if_true] at hh; exact Oper.wp_mono h hh
    · rename_i hw; simp only [hw] at hh; exact h _ _ hh
theorem wp_noQ {o : Oper} {a : Act} {w : World} {K : Act → World → Prop} {Q : Exit → Act → World → Prop} (h : o.wp P a w K noQ) : o.wp P a w K Q := by
  unfold Oper.wp at *
  generalize (execOp a.eval o).run P w = r at *
  cases r with
  | ok n w' =>
    cases n <;> simp only [Oper.upon] at h ⊢ <;> first
      | exact h
      | exact Calls.mono h (fun e w'' he => by cases e <;> first | exact he | exact (show False from he).elim | exact (let ⟨_, _, q⟩ := (show LetsOut noQ from he); (show False from q).elim))
  | halt x w' => cases x <;> simp only [Oper.upon] at h ⊢ <;> exact (show False from h).elim
theorem opG.to {i : Nat} {K : Act → World → Prop} {Q : Exit → Act → World → Prop} {a : Act} {w : World} (h : opG P ops i K a w) : wpOp P ops Q i K a w := by
  unfold opG at h
  unfold wpOp
  split at h
  · exact h.elim
  · rename_i o ho
    split at h
    · rename_i hw; simp only [ho, hw, if_true]; exact .inl (wp_noQ h)
    · rename_i hw; simp only [ho, hw]; exact h
/-- all orders; C: what is sure of the world as long as nothing is written; Z: what is sure of it in any case -/
def wpX (P : Program) (md : Region.Mode) (ops : Array Oper) (S : Nat → Prop) (Z : World → Prop) (R : Act → World → Prop) : Nat → Array Bool → Act → World → (World → Prop) → Prop
  | 0, listed, a, w, C => (C w ∧ Z w) ∧ Region.ready md ops listed = [] ∧ R a w
  | f + 1, listed, a, w, C => (C w ∧ Z w) ∧ (Region.ready md ops listed = [] → R a w) ∧ ∀ i ∈ Region.ready md ops listed,
      opG P ops i (fun a' w' => ∃ C' : World → Prop, (∀ v, C' v → C v) ∧ wpX P md ops S Z R f (listed.setIfInBounds i true) a' w' C') a w ∨
      ((∀ k, S k → listed.getD k false = true → Anc md ops k i) ∧ opG P ops i (fun a' w' => ∃ C' : World → Prop, wpX P md ops S Z R f (listed.setIfInBounds i true) a' w' C') a w)
theorem wpX.cz {S : Nat → Prop} {Z : World → Prop} {R : Act → World → Prop} {f : Nat} {listed : Array Bool} {a : Act} {w : World} {C : World → Prop} (h : wpX P md ops S Z R f listed a w C) : C w ∧ Z w := by
  cases f with
  | zero => exact h.1
  | succ f => exact h.1
theorem wpX.any {S : Nat → Prop} {Z : World → Prop} {R : Act → World → Prop} {Q : Exit → Act → World → Prop} (hR : ∀ a w, R a w → Q .normal a w) : ∀ (f : Nat) (listed : Array Bool) (a : Act) (w : World) (C : World → Prop), wpX P md ops S Z R f listed a w C → wpAny P md ops Q f listed a w
  | 0, _, _, _, _, h => ⟨h.2.1, hR _ _ h.2.2⟩
  | f + 1, _, _, _, _, h => ⟨fun q => hR _ _ (h.2.1 q), fun i hi => by
    rcases h.2.2 i hi with q | ⟨_, q⟩
    · exact (opG_mono (fun a' w' ⟨C', _, q⟩ => wpX.any hR f _ a' w' C' q) q).to
    · exact (opG_mono (fun a' w' ⟨C', q⟩ => wpX.any hR f _ a' w' C' q) q).to⟩
/-- in every world of the class the operation yields v, and leaves the world -/
def YS (P : Program) (ops : Array Oper) (C : World → Prop) (o : Oper) (v : Value) (a : Act) : Prop :=
  if Region.wanted o (yielded ops a.tmps) then ∀ w, C w → (execOp a.eval o).run P w = .ok (.value v) w else v = undef
theorem YS.less {C C' : World → Prop} {o : Oper} {v : Value} {a : Act} (h : YS P ops C o v a) (hc : ∀ w, C' w → C w) : YS P ops C' o v a := by
  unfold YS at *
  split
  · rename_i hw; rw [if_pos hw] at h; exact fun w hw' => h w (hc w hw')
  · rename_i hw; rw [if_neg hw] at h; exact h
theorem YS.go {C : World → Prop} {i : Nat} {o : Oper} {v : Value} {a : Act} {w : World} {K : Act → World → Prop} (hi : ops[i]? = some o) (h : YS P ops C o v a) (hC : C w) (hK : K (a.put o.dst v) w) : opG P ops i K a w := by
  unfold opG YS at *
  simp only [hi]
  split
  · rename_i hw
    rw [if_pos hw] at h
    unfold Oper.wp
    rw [h w hC]; exact hK
  · rename_i hw
    rw [if_neg hw] at h
    subst h; exact hK
theorem put_defers (a : Act) (d : Option Tmp) (v : Value) (l : List Deferred) : ({ a with defers := l } : Act).put d v = { (a.put d v) with defers := l } := by
  cases d <;> rfl
theorem defers_put (a : Act) (d : Option Tmp) (v : Value) : (a.put d v).defers = a.defers := by cases d <;> rfl
theorem eval_defers (a : Act) (l : List Deferred) : ({ a with defers := l } : Act).eval = a.eval := by
  funext x; cases x <;> rfl
/-- two operations apart from each other, the first of which is still, change places -/
theorem opG_put {j : Nat} {oi oj : Oper} {v : Value} {C : World → Prop} (hj : ops[j]? = some oj) (hap : oi.apart ops oj = true) (hsi : ∀ cs b, oi.op ≠ .select cs b) (hsj : ∀ cs b, oj.op ≠ .select cs b)
    {K : Act → World → Prop} {a : Act} {w : World} (hy : YS P ops C oi v a) (h : opG P ops j K (a.put oi.dst v) w) : opG P ops j (fun a' w' => YS P ops C oi v a' ∧ K (a'.put oi.dst v) w') a w := by
  obtain ⟨h1, h2, h3⟩ := Oper.apart_spec hap
  have keep : ∀ u, YS P ops C oi v (a.put oj.dst u) := fun u => by
    unfold YS at *
    rw [wanted_put oi a oj.dst u h3, execOp_put oi hsi a oj.dst u h3]; exact hy
  have comm : ∀ u, (a.put oj.dst u).put oi.dst v = (a.put oi.dst v).put oj.dst u := fun u => (Act.put_comm a v u h2).symm
  unfold opG at *
  simp only [hj] at *
  rw [wanted_put oj a oi.dst v h1] at h
  split
  · rename_i hw
    rw [if_pos hw] at h
    unfold Oper.wp at *
    rw [execOp_put oj hsj a oi.dst v h1] at h
    generalize (execOp a.eval oj).run P w = r at *
    cases r with
    | ok n w' =>
      cases n <;> simp only [Oper.upon] at h ⊢ <;> first
        | exact ⟨keep _, by rw [comm]; exact h⟩
        | (refine Calls.mono h (fun e w'' he => ?_)
           cases e <;> first | exact ⟨keep _, by rw [comm]; exact he⟩ | exact (show False from he).elim | exact he)
        | skip
      · rename_i d
        refine ⟨?_, ?_⟩
        · have := keep undef
          unfold YS at this ⊢
          rw [put_defers]
          exact this
        · rw [← Act.put_comm { a with defers := d :: a.defers } v undef h2, put_defers a oi.dst v]
          rw [defers_put] at h
          exact h
      · exact Rows.mono h (fun u w'' he => ⟨keep _, by rw [comm]; exact he⟩)
    | halt x w' => cases x <;> simp only [Oper.upon] at h ⊢ <;> exact (show False from h).elim
  · rename_i hw
    rw [if_neg hw] at h
    exact ⟨keep _, by rw [comm]; exact h⟩
theorem wpX_first {S : Nat → Prop} {Z : World → Prop} {R : Act → World → Prop} {i : Nat} {oi : Oper} {v : Value} (hS : S i) (hi : ops[i]? = some oi) (hsel : ∀ (j : Nat) (o : Oper) cs b, ops[j]? = some o → o.op ≠ .select cs b)
    (hfree : ∀ j oj, ops[j]? = some oj → j ≠ i → Anc md ops i j ∨ Anc md ops j i ∨ oi.apart ops oj = true) :
    ∀ (f : Nat) (listed : Array Bool) (a : Act) (w : World) (C : World → Prop), Down md ops listed → i ∈ Region.ready md ops listed → YS P ops C oi v a → (C w ∧ Z w) →
      wpX P md ops S Z R f (listed.setIfInBounds i true) (a.put oi.dst v) w C → wpX P md ops S Z R (f + 1) listed a w C := by
  intro f
  induction f with
  | zero =>
    intro listed a w C hd hr hy hC H
    refine ⟨hC, fun q => (by rw [q] at hr; cases hr), fun j hj => ?_⟩
    by_cases hji : j = i
    · subst hji; exact .inl (hy.go hi hC.1 ⟨C, fun _ h => h, H⟩)
    · have := ready_mono hj hji
      rw [H.2.1] at this; cases this
  | succ f ih =>
    intro listed a w C hd hr hy hC H
    refine ⟨hC, fun q => (by rw [q] at hr; cases hr), fun j hj => ?_⟩
    by_cases hji : j = i
    · subst hji; exact .inl (hy.go hi hC.1 ⟨C, fun _ h => h, H⟩)
    obtain ⟨hjun, oj, hoj, hall⟩ := mem_ready.1 hj
    have hiun : listed.getD i false = false := by
      have h0 := (mem_ready.1 hr).1
      rcases Nat.lt_or_ge i listed.size with h' | h'
      · simpa [h'] using h0
      · simp [Array.getElem?_eq_none h']
    have no : ¬ Anc md ops i j := fun q => by
      have := q.listed hd ⟨oj, hoj, hall⟩
      rw [hiun] at this; cases this
    rcases H.2.2 j (ready_mono hj hji) with q | ⟨q, _⟩
    · have hap : oi.apart ops oj = true := by
        rcases hfree j oj hoj hji with q | q | q
        · exact absurd q no
        · obtain ⟨_, o, ho, h⟩ := mem_ready.1 hr
          have := q.listed hd ⟨o, ho, h⟩
          rcases Nat.lt_or_ge j listed.size with h' | h'
          · simp [h'] at hjun this; rw [hjun] at this; cases this
          · simp [Array.getElem?_eq_none h'] at this
        · exact q
      refine .inl (opG_mono ?_ (opG_put hoj hap (fun cs b => hsel i oi cs b hi) (fun cs b => hsel j oj cs b hoj) hy q))
      rintro a' w' ⟨hy', C', hc, h⟩
      refine ⟨C', hc, ih (listed.setIfInBounds j true) a' w' C' (hd.set hj) (ready_mono hr (Ne.symm hji)) (hy'.less hc) ?_ ?_⟩
      · exact ⟨h.cz.1, h.cz.2⟩
      · rw [Array.setIfInBounds_comm _ _ hji]; exact h
    · have hi' : (listed.setIfInBounds i true).getD i false = true := by
        have h0 := (mem_ready.1 hr).1
        have hlt : i < listed.size := by
          rcases Nat.lt_or_ge i listed.size with h' | h'
          · exact h'
          · simp [Array.getElem?_eq_none h'] at h0
        simp [hlt]
      exact absurd (q i hS hi') no
theorem wpX_firstZ {S : Nat → Prop} {Z : World → Prop} {R : Act → World → Prop} {i : Nat} {oi : Oper} {v : Value} (hi : ops[i]? = some oi) (hsel : ∀ (j : Nat) (o : Oper) cs b, ops[j]? = some o → o.op ≠ .select cs b)
    (hfree : ∀ j oj, ops[j]? = some oj → j ≠ i → Anc md ops i j ∨ Anc md ops j i ∨ oi.apart ops oj = true) :
    ∀ (f : Nat) (listed : Array Bool) (a : Act) (w : World) (C : World → Prop), Down md ops listed → i ∈ Region.ready md ops listed → YS P ops Z oi v a → (C w ∧ Z w) →
      wpX P md ops S Z R f (listed.setIfInBounds i true) (a.put oi.dst v) w C → wpX P md ops S Z R (f + 1) listed a w C := by
  intro f
  induction f with
  | zero =>
    intro listed a w C hd hr hy hC H
    refine ⟨hC, fun q => (by rw [q] at hr; cases hr), fun j hj => ?_⟩
    by_cases hji : j = i
    · subst hji; exact .inl (hy.go hi hC.2 ⟨C, fun _ h => h, H⟩)
    · have := ready_mono hj hji
      rw [H.2.1] at this; cases this
  | succ f ih =>
    intro listed a w C hd hr hy hC H
    refine ⟨hC, fun q => (by rw [q] at hr; cases hr), fun j hj => ?_⟩
    by_cases hji : j = i
    · subst hji; exact .inl (hy.go hi hC.2 ⟨C, fun _ h => h, H⟩)
    obtain ⟨hjun, oj, hoj, hall⟩ := mem_ready.1 hj
    have hiun : listed.getD i false = false := by
      have h0 := (mem_ready.1 hr).1
      rcases Nat.lt_or_ge i listed.size with h' | h'
      · simpa [h'] using h0
      · simp [Array.getElem?_eq_none h']
    have no : ¬ Anc md ops i j := fun q => by
      have := q.listed hd ⟨oj, hoj, hall⟩
      rw [hiun] at this; cases this
    have hap : oi.apart ops oj = true := by
      rcases hfree j oj hoj hji with q | q | q
      · exact absurd q no
      · obtain ⟨_, o, ho, h⟩ := mem_ready.1 hr
        have := q.listed hd ⟨o, ho, h⟩
        rcases Nat.lt_or_ge j listed.size with h' | h'
        · simp [h'] at hjun this; rw [hjun] at this; cases this
        · simp [Array.getElem?_eq_none h'] at this
      · exact q
    rcases H.2.2 j (ready_mono hj hji) with q | ⟨p, q⟩
    · refine .inl (opG_mono ?_ (opG_put hoj hap (fun cs b => hsel i oi cs b hi) (fun cs b => hsel j oj cs b hoj) hy q))
      rintro a' w' ⟨hy', C', hc, h⟩
      refine ⟨C', hc, ih (listed.setIfInBounds j true) a' w' C' (hd.set hj) (ready_mono hr (Ne.symm hji)) hy' h.cz ?_⟩
      rw [Array.setIfInBounds_comm _ _ hji]; exact h
    · refine .inr ⟨fun k hk hl => p k hk (getD_set_true hl), opG_mono ?_ (opG_put hoj hap (fun cs b => hsel i oi cs b hi) (fun cs b => hsel j oj cs b hoj) hy q)⟩
      rintro a' w' ⟨hy', C', h⟩
      refine ⟨C', ih (listed.setIfInBounds j true) a' w' C' (hd.set hj) (ready_mono hr (Ne.symm hji)) hy' h.cz ?_⟩
      rw [Array.setIfInBounds_comm _ _ hji]; exact h
theorem down_start (n : Nat) : Down md ops (Array.replicate n false) := fun j oj _ hl => by
  rcases Nat.lt_or_ge j n with h | h
  · simp [h] at hl
  · simp [Array.getElem?_eq_none, h] at hl
end
end Go.Proofs.Yteblbhbfdfifpaa.V

/- Regions that draw their order, walked by verification conditions: each order of what makes memory. -/
namespace Go.Proofs.Yteblbhbfdfifpaa.V
open Go Go.RowKit
set_option linter.unusedVariables false
set_option linter.unusedSimpArgs false
set_option linter.unusedSectionVars false

theorem ancB_spec {all : List Oper} {k : Nat} : ∀ {f j : Nat}, ancB all f k j = true → Anc .any all.toArray k j
  | 0, _, h => by cases h
  | f + 1, j, h => by
    unfold ancB at h
    cases ho : all[j]? with
    | none => rw [ho] at h; cases h
    | some o =>
      rw [ho] at h
      obtain ⟨e, he, h⟩ := List.any_eq_true.1 h
      simp only [Bool.and_eq_true, Bool.or_eq_true] at h
      obtain ⟨hb, h⟩ := h
      have ho' : all.toArray[j]? = some o := by simpa using ho
      have he' : e ∈ o.after := by simpa using he
      rcases h with h | h
      · have := Nat.eq_of_beq_eq_true h
        subst this
        exact .one ho' he' hb
      · exact .more ho' he' hb (ancB_spec h)
theorem allB_spec {p : Nat → Bool} : ∀ {n : Nat}, allB p n = true → ∀ i, i < n → p i = true
  | 0, _, i, hi => by omega
  | n + 1, h, i, hi => by
    unfold allB at h
    cases hp : p n <;> simp only [hp] at h
    · cases h
    · by_cases e : i = n
      · subst e; exact hp
      · exact allB_spec h i (by omega)
theorem freeB_spec {all : List Oper} (h : freeB all = true) : Region.noSelect all.toArray = true ∧ ∀ (i j : Nat) (oi oj : Oper), all[i]? = some oi → all[j]? = some oj → j ≠ i → Anc .any all.toArray i j ∨ Anc .any all.toArray j i ∨ oi.apart all.toArray oj = true := by
  unfold freeB at h
  simp only [Bool.and_eq_true] at h
  refine ⟨h.1, fun i j oi oj hi hj hne => ?_⟩
  have h1 := allB_spec (allB_spec h.2 i (List.getElem?_eq_some_iff.1 hi).1) j (List.getElem?_eq_some_iff.1 hj).1
  simp only [hi, hj, Bool.or_eq_true] at h1
  rcases h1 with ((h1 | h1) | h1) | h1
  · exact absurd (Nat.eq_of_beq_eq_true h1).symm hne
  · exact .inl (ancB_spec h1)
  · exact .inr (.inl (ancB_spec h1))
  · exact .inr (.inr h1)
/-- what is listed is what is done -/
structure Corr (n : Nat) (listed : Array Bool) (done : List Nat) : Prop where
  size : listed.size = n
  c : ∀ j, listed.getD j false = memB j done
theorem Corr.set {n i : Nat} {listed : Array Bool} {done : List Nat} (h : Corr n listed done) (hi : i < n) : Corr n (listed.setIfInBounds i true) (i :: done) :=
  ⟨by simp [h.size], fun j => by
    unfold memB
    by_cases e : i = j
    · subst e
      rw [Nat.beq_refl]
      simp [h.size, hi]
    · rw [getD_set_ne false e]
      cases hb : Nat.beq j i
      · exact h.c j
      · exact absurd (Nat.eq_of_beq_eq_true hb).symm e⟩
theorem depsIn_spec {done : List Nat} : ∀ {l : List Edge}, depsIn done l = true ↔ ∀ e ∈ l, Region.binds .any e = true → memB e.on done = true
  | [] => by simp [depsIn]
  | e :: r => by
    unfold depsIn
    cases hb : Region.binds .any e <;> simp only [List.mem_cons, forall_eq_or_imp, hb]
    · rw [depsIn_spec]; simp
    · cases hm : memB e.on done <;> simp [depsIn_spec]
theorem readyL_spec {done : List Nat} {k : Nat} {o : Oper} : ∀ {l : List Oper} {n : Nat}, (k, o) ∈ readyL done n l ↔ n ≤ k ∧ l[k - n]? = some o ∧ memB k done = false ∧ depsIn done o.after.toList = true
  | [], n => by simp [readyL]
  | u :: r, n => by
    unfold readyL
    have ih := @readyL_spec done k o r (n + 1)
    have step : (n + 1 ≤ k ∧ r[k - (n + 1)]? = some o ∧ memB k done = false ∧ depsIn done o.after.toList = true) ↔ (n < k ∧ (u :: r)[k - n]? = some o ∧ memB k done = false ∧ depsIn done o.after.toList = true) := by
      constructor
      · rintro ⟨h1, h2⟩
        refine ⟨by omega, ?_⟩
        rw [show k - n = (k - (n + 1)) + 1 by omega]; simpa using h2
      · rintro ⟨h1, h2⟩
        refine ⟨by omega, ?_⟩
        rw [show k - n = (k - (n + 1)) + 1 by omega] at h2; simpa using h2
    cases hm : memB n done
    · cases hd : depsIn done u.after.toList
      · simp only
        rw [ih, step]
        constructor
        · rintro ⟨h1, h2⟩; exact ⟨by omega, h2⟩
        · rintro ⟨h1, h2, h3, h4⟩
          rcases Nat.lt_or_ge n k with q | q
          · exact ⟨q, h2, h3, h4⟩
          · have e : k = n := by omega
            subst e
            simp at h2; subst h2
            rw [hd] at h4; cases h4
      · simp only [List.mem_cons]
        rw [ih, step]
        constructor
        · rintro (q | ⟨h1, h2⟩)
          · injection q with q1 q2
            subst q1 q2
            exact ⟨Nat.le_refl _, by simp, hm, hd⟩
          · exact ⟨by omega, h2⟩
        · rintro ⟨h1, h2, h3, h4⟩
          rcases Nat.lt_or_ge n k with q | q
          · exact .inr ⟨q, h2, h3, h4⟩
          · have e : k = n := by omega
            subst e
            simp at h2; subst h2
            exact .inl rfl
    · simp only
      rw [ih, step]
      constructor
      · rintro ⟨h1, h2⟩; exact ⟨by omega, h2⟩
      · rintro ⟨h1, h2, h3, h4⟩
        rcases Nat.lt_or_ge n k with q | q
        · exact ⟨q, h2, h3, h4⟩
        · have e : k = n := by omega
          subst e
          rw [hm] at h3; cases h3
theorem ready_iff {all : List Oper} {listed : Array Bool} {done : List Nat} (hc : Corr all.length listed done) {k : Nat} : k ∈ Region.ready .any all.toArray listed ↔ ∃ o, (k, o) ∈ readyL done 0 all := by
  rw [mem_ready]
  constructor
  · rintro ⟨h1, o, h2, h3⟩
    refine ⟨o, readyL_spec.2 ⟨Nat.zero_le _, by simpa using h2, ?_, depsIn_spec.2 fun e he hb => ?_⟩⟩
    · rw [← hc.c]
      rcases Nat.lt_or_ge k listed.size with h | h
      · simpa [h] using h1
      · simp [Array.getElem?_eq_none h]
    · rw [← hc.c]; exact h3 e (by simpa using he) hb
  · rintro ⟨o, h⟩
    obtain ⟨_, h2, h3, h4⟩ := readyL_spec.1 h
    have h2 : all[k]? = some o := by simpa using h2
    have hk : k < listed.size := by rw [hc.size]; exact (List.getElem?_eq_some_iff.1 h2).1
    refine ⟨?_, o, by simpa using h2, fun e he hb => ?_⟩
    · have := hc.c k
      rw [h3] at this
      simpa [hk] using this
    · rw [hc.c]; exact depsIn_spec.1 h4 e (by simpa using he) hb
theorem pick0_mem {g : Bool} {T : TT} {all : List Oper} {i : Nat} {o : Oper} : ∀ {l : List (Nat × Oper)}, pick0 g T all l = some (i, o) → (i, o) ∈ l ∧ kindK T o.op = 0 ∧ (lightB T o || (g && firmB all i)) = true
  | [], h => by cases h
  | (k, u) :: r, h => by
    unfold pick0 at h
    split at h
    · rename_i hk
      split at h
      · rename_i hg
        injection h with h; injection h with h1 h2; subst h1 h2; exact ⟨by simp, hk, hg⟩
      · obtain ⟨h1, h2⟩ := pick0_mem h
        exact ⟨List.mem_cons_of_mem _ h1, h2⟩
    · obtain ⟨h1, h2⟩ := pick0_mem h
      exact ⟨List.mem_cons_of_mem _ h1, h2⟩
theorem eachK_spec {K : Nat → Oper → Prop} : ∀ {l : List (Nat × Oper)}, eachK l K → ∀ i o, (i, o) ∈ l → K i o
  | [], _, _, _, h => by cases h
  | [(k, u)], h, i, o, hm => by
    obtain ⟨rfl, rfl⟩ : i = k ∧ o = u := by simpa using hm
    exact h
  | (k, u) :: v :: r, h, i, o, hm => by
    rcases List.mem_cons.1 hm with q | q
    · injection q with q1 q2; subst q1 q2; exact h.l
    · exact eachK_spec (l := v :: r) h.r i o q
theorem Cls.none_ {B nx : Nat} {ρ : Rho} {obs : Obs} {w : World} (h : Cls B ρ obs nx w) : Cls B ρ [] nx w := ⟨h.le, fun _ _ q => (by simp [fnd] at q), fun _ _ _ _ _ q => (by simp [fnd] at q), h.new⟩
section
variable {P : Program} {T : TT} {sz : Nat} {B : Nat} {w0 : St} (hT : TTok P T)
include hT
/-- an operation that leaves the world -/
theorem still_spec {ρ : Rho} {env : Env} {a : Act} {obs : Obs} {nx : Nat} {w : World} (hE : EnvR sz ρ env a) (hC : Cls B ρ obs nx w) {o : Oper} {K : Env → Obs → Nat → Prop} (hk : kindK T o.op = 0) (h : opK P T sz true o env obs nx K) :
    ∃ x env', (∀ w1, Cls B ρ obs nx w1 → (execOp a.eval o).run P w1 = .ok (.value x) w1) ∧ K env' obs nx ∧ EnvR sz ρ env' (a.put o.dst x) := by
  have pur : (pureK T env obs o.op fun v => putK sz o.dst v env fun env' => K env' obs nx) → ∃ x env', (∀ w1, Cls B ρ obs nx w1 → (execOp a.eval o).run P w1 = .ok (.value x) w1) ∧ K env' obs nx ∧ EnvR sz ρ env' (a.put o.dst x) := fun h => by
    obtain ⟨v, x, hv, h, hr⟩ := pure_sound hT hE hC h
    obtain ⟨env', hK, hE'⟩ := putK_spec hE hv h
    exact ⟨x, env', fun w1 h1 => hr o rfl w1 h1, hK, hE'⟩
  cases hop : o.op
  case box t x => rw [hop] at hk; cases hk
  case alloc t => rw [hop] at hk; cases hk
  case store t x y => rw [hop] at hk; cases hk
  case buildSlice t n ps => rw [hop] at hk; cases hk
  case makeSlice t x y => rw [hop] at hk; cases hk
  case slice t x lo hi mx =>
    cases mx with
    | none =>
      unfold opK at h
      rw [hop] at h
      obtain ⟨ty, _, h⟩ := fndK_spec h
      split at h
      · exact h.elim
      · exact pur (by rw [hop]; exact h)
    | some m => exact pur (by unfold opK at h; rw [hop] at h ⊢; exact h)
  case assign x =>
    refine pur ?_
    unfold opK at h
    rw [hop] at h ⊢
    split at h
    all_goals first | (rename_i e; cases e; done) | skip
    all_goals first | (rename_i e; injection e with e; subst e; exact h) | exact h
  case call c =>
    obtain ⟨cl, args, ts⟩ := c
    cases cl with
    | value g => rw [hop] at hk; cases hk
    | invoke r m => exact pur (by unfold opK at h; rw [hop] at h ⊢; exact h)
    | builtin b =>
      by_cases happ : ∃ x y t t', b = .append ∧ args = #[x, y] ∧ ts = #[t, t']
      · obtain ⟨x, y, t, t', rfl, rfl, rfl⟩ := happ
        unfold opK at h
        rw [hop] at h
        exact h.elim
      · refine pur ?_
        unfold opK at h
        rw [hop] at h ⊢
        split at h
        all_goals first | (rename_i e; cases e; done) | skip
        all_goals first | (rename_i e; injection e with e; injection e with e1 e2 e3; injection e1 with e1; exact absurd ⟨_, _, _, _, e1, e2, e3⟩ happ) | exact h
  all_goals exact pur (by unfold opK at h; rw [hop] at h ⊢; exact h)
/-- an operation that makes memory alone -/
theorem makes_spec {ρ : Rho} {env : Env} {a : Act} {obs : Obs} {nx : Nat} {w : World} (hE : EnvR sz ρ env a) (hC : Cls B ρ obs nx w) (hW : Wy B w0 ρ a.defers w) {o : Oper} {K : Env → Obs → Nat → Prop} {Q : Exit → Act → World → Prop} (hk : kindK T o.op = 1) (h : opK P T sz false o env obs nx K) :
    o.wp P a w (NxA B w0 sz K w) Q := by
  cases hop : o.op
  case box t x => exact op_box hT hE hC hW hop h
  case alloc t => exact op_alloc hT hE hC hW hop h
  case buildSlice t n ps => exact op_buildSlice hT hE hC hW hop h
  case makeSlice t x y => exact op_makeSlice hT hE hC hW hop h
  case slice t x lo hi mx =>
    cases mx with
    | none => exact op_slice hT hE hC hW hop h
    | some m => rw [hop] at hk; cases hk
  case call c =>
    obtain ⟨cl, args, ts⟩ := c
    rw [hop] at hk
    cases cl with
    | value g => cases hk
    | invoke r m => cases hk
    | builtin b => cases b <;> cases hk
  all_goals (rw [hop] at hk; cases hk)
theorem callA_spec {ρ : Rho} {env : Env} {a : Act} {obs : Obs} {nx : Nat} {w : World} (hE : EnvR sz ρ env a) (hC : Cls B ρ obs nx w) (hW : Wy B w0 ρ a.defers w) {o : Oper} {g : Operand} {args : Array Operand} {ts : Array TypeId} {K : Env → Obs → Nat → Prop} {Q : Exit → Act → World → Prop}
    (ho : o.op = .call ⟨.value g, args, ts⟩) (h : evK env g fun v => match v with
      | .one (.clo f caps) => evsK env args.toList fun l => capE l caps fun l => NCallA P f l obs nx fun u obs' nx' => putK sz o.dst u env fun env' => K env' obs' nx'
      | _ => False) : o.wp P a w (NxA B w0 sz K w) Q := by
  obtain ⟨v, hv, h⟩ := evK_spec hE h
  split at h
  · rename_i f caps
    obtain ⟨cs, hcs, hg⟩ := hv
    obtain ⟨vs0, h, hvs0⟩ := evsK_spec hE h
    obtain ⟨vs, h, hvs⟩ := capE_spec hvs0 hcs h
    unfold Oper.wp
    rw [run_call h.b ho hg w]
    have hc := h.h B ρ w _ hC hvs
    have e : (args.toList.map a.eval ++ cs).toArray = args.map a.eval ++ cs.toArray := by cases args; simp
    rw [e] at hc
    refine hc.mono fun e w' ⟨v, obs', nx', ρ', x, hK, hx, he, hv, hC', hb⟩ => ?_
    subst he
    obtain ⟨env', hK, hE'⟩ := putK_spec (hE.ext hx) hv hK
    exact ⟨ρ', env', obs', nx', hK, hE', hC', ((below_of hW hC.le hb).ext hx).put, hb⟩
  · exact h.elim
theorem callW_spec {ρ : Rho} {env : Env} {a : Act} {obs : Obs} {nx : Nat} {w : World} (hE : EnvR sz ρ env a) (hC : Cls B ρ obs nx w) (hW : Wy B w0 ρ a.defers w) {o : Oper} {g : Operand} {args : Array Operand} {ts : Array TypeId} {K : Env → Obs → Nat → Prop} {Q : Exit → Act → World → Prop}
    (ho : o.op = .call ⟨.value g, args, ts⟩) (h : evK env g fun v => match v with
      | .one (.clo f caps) => evsK env args.toList fun l => capE l caps fun l => NCall P f l obs nx fun u obs' nx' => putK sz o.dst u env fun env' => K env' obs' nx'
      | _ => False) : o.wp P a w (Nx B w0 sz K) Q := by
  obtain ⟨v, hv, h⟩ := evK_spec hE h
  split at h
  · rename_i f caps
    obtain ⟨cs, hcs, hg⟩ := hv
    obtain ⟨vs0, h, hvs0⟩ := evsK_spec hE h
    obtain ⟨vs, h, hvs⟩ := capE_spec hvs0 hcs h
    unfold Oper.wp
    rw [run_call h.b ho hg w]
    have hc := h.h B ρ w _ hC hvs
    have e : (args.toList.map a.eval ++ cs).toArray = args.map a.eval ++ cs.toArray := by cases args; simp
    rw [e] at hc
    refine hc.mono fun e w' ⟨v, obs', nx', ρ', x, hK, hx, he, hv, hC', hb, hob⟩ => ?_
    subst he
    obtain ⟨env', hK, hE'⟩ := putK_spec (hE.ext hx) hv hK
    exact ⟨ρ', env', obs', nx', hK, hE', hC', ((hW.trans hb hob).ext hx).put⟩
  · exact h.elim
theorem op_empty {ρ : Rho} {env : Env} {a : Act} {obs : Obs} {nx : Nat} {w : World} (hE : EnvR sz ρ env a) (hC : Cls B ρ obs nx w) (hW : Wy B w0 ρ a.defers w) {o : Oper} {t : TypeId} {K : Env → Obs → Nat → Prop} {Q : Exit → Act → World → Prop}
    (ho : o.op = .buildSlice t 0 ⟨[]⟩) (h : emptyK T sz o.dst t env obs nx K) : o.wp P a w (NxA B w0 sz K w) Q := by
  unfold emptyK at h
  obtain ⟨ty, i, d, z, ht, hi, hd, hz, rfl, h⟩ := fnd_ty hT h
  simp only at h
  split at h
  rotate_left
  · exact h.elim
  rename_i e hs
  have e0 := sh_sl hs
  subst e0
  obtain ⟨te, i2, d2, z2, ht2, hi2, hd2, hz2, rfl, h⟩ := fnd_ty hT h
  simp only at h
  split at h
  rotate_left
  · exact h.elim
  have er : (Instr.buildSlice t 0 ((#[] : Array (Nat × Operand)).map fun p => match p with | (i, x) => (i, a.eval x))).run P w = .ok (.slice (some ⟨w.heap.size, 0, none⟩) 0 0) (w.alloc (.cells #[] e)) := by
    simp [Instr.buildSlice, run_underlying hd, run_size hi2, newRow, Instr.fill, Sem.run_bind]
    congr 2
    apply Array.ext'
    simp
  unfold Oper.wp
  simp only [execOp, ho]
  rw [show (do pure (Next.value (← Instr.buildSlice t 0 ((#[] : Array (Nat × Operand)).map fun p => match p with | (i, x) => (i, a.eval x)))) : Sem Next).run P w = .ok (.value (.slice (some ⟨w.heap.size, 0, none⟩) 0 0)) (w.alloc (.cells #[] e)) from run_val' er]
  refine new_ref (o := .lit e i2.size []) hE hC hW rfl ((Below.refl _ _).alloc (Nat.le_refl _) _) ⟨w.heap.size, [], by rw [upd_same]; rfl, hC.le, (fun r hr => absurd hr (List.not_mem_nil)), Nat.zero_le _, rfl, heap_alloc_new w _⟩ (fun b hf => ?_) h
  simp only [foot, base_sl (upd_same _ _ _), Option.map_some] at hf
  injection hf with hf; omega
theorem expl_sound {g : Bool} {all : List Oper} (hfree : freeB all = true) {K : Env → Obs → Nat → Prop} : ∀ (f : Nat) (done : List Nat) {listed : Array Bool} {ρ : Rho} {env : Env} {a : Act} {obs : Obs} {nx : Nat} {w : World} (C : World → Prop),
    Corr all.length listed done → Down .any all.toArray listed → EnvR sz ρ env a → Cls B ρ obs nx w → Wy B w0 ρ a.defers w → C w → (∀ v v', C v → Below v.heap.size v v' → C v') →
    explK g P T sz all f done env obs nx K → wpX P .any all.toArray (fun k => ∃ o, all[k]? = some o ∧ kindK T o.op = 0 ∧ firmB all k = true ∧ lightB T o = false ∧ g = true) (fun v => B ≤ v.heap.size) (Nx B w0 sz K) f listed a w (fun v => C v ∧ Cls B ρ obs nx v ∧ Wy B w0 ρ a.defers v) := by
  obtain ⟨hns, hap⟩ := freeB_spec hfree
  have hsel := Region.noSelect_spec hns
  intro f
  induction f with
  | zero =>
    intro done listed ρ env a obs nx w C hc hd hE hC hW hCw hgrow h
    rw [explK_zero] at h
    split at h
    · rename_i hr
      refine ⟨⟨⟨hCw, hC, hW⟩, hC.le⟩, List.eq_nil_iff_forall_not_mem.2 fun k hk => ?_, ρ, env, obs, nx, h, hE, hC, hW⟩
      obtain ⟨o, ho⟩ := (ready_iff hc).1 hk
      rw [hr] at ho; cases ho
    · exact h.elim
  | succ f ih =>
    intro done listed ρ env a obs nx w C hc hd hE hC hW hCw hgrow h
    have hgrow' : ∀ v v', (C v ∧ Cls B ρ obs nx v ∧ Wy B w0 ρ a.defers v) → Below v.heap.size v v' → (C v' ∧ Cls B ρ obs nx v' ∧ Wy B w0 ρ a.defers v') := fun v v' ⟨h1, h2, h3⟩ hb => ⟨hgrow v v' h1 hb, h2.below hb, below_of h3 h2.le hb⟩
    rw [explK_succ] at h
    split at h
    · rename_i hr
      refine ⟨⟨⟨hCw, hC, hW⟩, hC.le⟩, fun _ => ⟨ρ, env, obs, nx, h, hE, hC, hW⟩, fun k hk => ?_⟩
      obtain ⟨o, ho⟩ := (ready_iff hc).1 hk
      rw [hr] at ho; cases ho
    split at h
    · rename_i i o hp
      obtain ⟨hm, hkind, hgl⟩ := pick0_mem hp
      obtain ⟨_, ho, _, _⟩ := readyL_spec.1 hm
      have ho : all[i]? = some o := by simpa using ho
      have hlt : i < all.length := (List.getElem?_eq_some_iff.1 ho).1
      have hready : i ∈ Region.ready .any all.toArray listed := (ready_iff hc).2 ⟨o, hm⟩
      obtain ⟨env1, hE1, h⟩ := guardK_spec hE h
      have hoa : all.toArray[i]? = some o := by simpa using ho
      have fr : ∀ j oj, all.toArray[j]? = some oj → j ≠ i → Anc .any all.toArray i j ∨ Anc .any all.toArray j i ∨ o.apart all.toArray oj = true := fun j oj hj hne => hap i j o oj ho (by simpa using hj) hne
      rcases h with ⟨hw, h⟩ | ⟨hw, h⟩
      · cases hlt2 : lightB T o <;> rw [hlt2] at h
        · obtain ⟨x, env2, hx, h2, hE2⟩ := still_spec hT hE1 hC hkind h
          have hgf : g = true ∧ firmB all i = true := by rw [hlt2, Bool.false_or, Bool.and_eq_true] at hgl; exact hgl
          refine wpX_first (v := x) ⟨o, ho, hkind, hgf.2, hlt2, hgf.1⟩ hoa (fun j u cs b hj => hsel j u cs b hj) fr f listed a w _ hd hready ?_ ⟨⟨hCw, hC, hW⟩, hC.le⟩ (by have := ih (i :: done) C (hc.set hlt) (hd.set hready) hE2 hC hW.put hCw hgrow h2; rwa [put_dfs] at this)
          unfold YS
          rw [wanted_eq, if_pos hw]
          exact fun w1 hw1 => hx w1 hw1.2.1
        · obtain ⟨x, env2, hx, h2, hE2⟩ := still_spec hT hE1 hC.none_ hkind h
          refine wpX_firstZ (v := x) hoa (fun j u cs b hj => hsel j u cs b hj) fr f listed a w _ hd hready ?_ ⟨⟨hCw, hC, hW⟩, hC.le⟩ (by have := ih (i :: done) C (hc.set hlt) (hd.set hready) hE2 hC hW.put hCw hgrow h2; rwa [put_dfs] at this)
          unfold YS
          rw [wanted_eq, if_pos hw]
          exact fun w1 hw1 => hx w1 ⟨hw1, fun _ _ q => (by simp [fnd] at q), fun _ _ _ _ _ q => (by simp [fnd] at q), hC.new⟩
      · obtain ⟨env2, h2, hE2⟩ := putK_spec hE1 (undef_is ρ) h
        refine wpX_firstZ (v := undef) hoa (fun j u cs b hj => hsel j u cs b hj) fr f listed a w _ hd hready ?_ ⟨⟨hCw, hC, hW⟩, hC.le⟩ (by have := ih (i :: done) C (hc.set hlt) (hd.set hready) hE2 hC hW.put hCw hgrow h2; rwa [put_dfs] at this)
        unfold YS
        rw [wanted_eq, if_neg (by rw [hw]; decide)]
    · refine ⟨⟨⟨hCw, hC, hW⟩, hC.le⟩, fun q => ?_, fun i hi => ?_⟩
      · rename_i hne _ _
        exfalso
        refine hne (List.eq_nil_iff_forall_not_mem.2 fun p hp => ?_)
        obtain ⟨k, o⟩ := p
        have := (ready_iff hc).2 ⟨o, hp⟩
        rw [q] at this; cases this
      · obtain ⟨o, hm⟩ := (ready_iff hc).1 hi
        have h := eachK_spec h i o hm
        obtain ⟨_, ho, _, _⟩ := readyL_spec.1 hm
        have ho : all[i]? = some o := by simpa using ho
        have hlt : i < all.length := (List.getElem?_eq_some_iff.1 ho).1
        have hoa : all.toArray[i]? = some o := by simpa using ho
        obtain ⟨env1, hE1, h⟩ := guardK_spec hE h
        rcases h with ⟨hw, h⟩ | ⟨hw, h⟩
        · have fin : o.wp P a w (NxA B w0 sz (fun e' o' n' => explK g P T sz all f (i :: done) e' o' n' K) w) noQ →
              opG P all.toArray i (fun a' w' => ∃ C' : World → Prop, (∀ v, C' v → (C v ∧ Cls B ρ obs nx v ∧ Wy B w0 ρ a.defers v)) ∧ wpX P .any all.toArray (fun k => ∃ o, all[k]? = some o ∧ kindK T o.op = 0 ∧ firmB all k = true ∧ lightB T o = false ∧ g = true) (fun v => B ≤ v.heap.size) (Nx B w0 sz K) f (listed.setIfInBounds i true) a' w' C') a w := fun hh => by
            unfold opG
            simp only [hoa]
            rw [wanted_eq, if_pos hw]
            refine wp_next hh ?_
            rintro a' w' ⟨ρ', env', obs', nx', hK, hE', hC', hW', hb⟩
            exact ⟨_, fun v hv => hv.1, ih (i :: done) (fun v => C v ∧ Cls B ρ obs nx v ∧ Wy B w0 ρ a.defers v) (hc.set hlt) (hd.set hi) hE' hC' hW' (hgrow' w w' ⟨hCw, hC, hW⟩ hb) hgrow' hK⟩
          unfold kidK at h
          split at h
          · rename_i hk
            obtain ⟨x, env2, hx, h2, hE2⟩ := still_spec hT hE1 hC hk h
            refine .inl (fin ?_)
            unfold Oper.wp
            rw [hx w hC]
            exact ⟨ρ, env2, obs, nx, h2, hE2, hC, hW.put, Below.refl _ _⟩
          · rename_i hk
            split at h
            · rename_i hop; exact .inl (fin (op_empty hT hE1 hC hW hop h))
            · exact .inl (fin (makes_spec hT hE1 hC hW hk h))
          · rename_i hk2
            split at h
            · rename_i hall
              rw [Bool.or_eq_true, Bool.or_eq_true] at hall
              rcases hall with (hfr | hng) | hall
              · split at hfr
                · rename_i hop
                  exact .inl (fin (op_append_fresh hT hE1 hC hW hfr hop h))
                · cases hfr
              all_goals refine .inr ⟨fun k ⟨uk, huk, hkk, hkf, hkl, hkg⟩ hk => ?_, ?_⟩
              · rw [hkg] at hng; cases hng
              · unfold opG
                simp only [hoa]
                rw [wanted_eq, if_pos hw]
                refine wp_next (op_sound hT hE1 hC hW (fun g args ts q => by rw [q] at hk2; cases hk2) h) ?_
                rintro a' w' ⟨ρ', env', obs', nx', hK, hE', hC', hW'⟩
                exact ⟨_, ih (i :: done) (fun _ => True) (hc.set hlt) (hd.set hi) hE' hC' hW' trivial (fun _ _ _ _ => trivial) hK⟩
              · rw [hc.c] at hk
                have hk : k ∈ done := by
                  have : ∀ l : List Nat, memB k l = true → k ∈ l := fun l => by
                    induction l with
                    | nil => intro q; cases q
                    | cons y r ih =>
                      intro q
                      unfold memB at q
                      cases hb : Nat.beq k y
                      · rw [hb] at q; exact List.mem_cons_of_mem _ (ih q)
                      · rw [Nat.eq_of_beq_eq_true hb]; simp
                  exact this _ hk
                have := List.all_eq_true.1 hall k hk
                simp only [huk, hkk, hkf, hkl] at this
                exact ancB_spec this
              · unfold opG
                simp only [hoa]
                rw [wanted_eq, if_pos hw]
                refine wp_next (op_sound hT hE1 hC hW (fun g args ts q => by rw [q] at hk2; cases hk2) h) ?_
                rintro a' w' ⟨ρ', env', obs', nx', hK, hE', hC', hW'⟩
                exact ⟨_, ih (i :: done) (fun _ => True) (hc.set hlt) (hd.set hi) hE' hC' hW' trivial (fun _ _ _ _ => trivial) hK⟩
            · exact h.elim
          · split at h
            · rename_i hop
              cases g with
              | true => exact .inl (fin (callA_spec hT hE1 hC hW hop h))
              | false =>
                refine .inr ⟨fun k ⟨uk, huk, hkk, hkf, hkl, hkg⟩ hk => (by cases hkg), ?_⟩
                unfold opG
                simp only [hoa]
                rw [wanted_eq, if_pos hw]
                refine wp_next (callW_spec hT hE1 hC hW hop h) ?_
                rintro a' w' ⟨ρ', env', obs', nx', hK, hE', hC', hW'⟩
                exact ⟨_, ih (i :: done) (fun _ => True) (hc.set hlt) (hd.set hi) hE' hC' hW' trivial (fun _ _ _ _ => trivial) hK⟩
            · exact h.elim
          · exact h.elim
        · obtain ⟨env2, h2, hE2⟩ := putK_spec hE1 (undef_is ρ) h
          left
          unfold opG
          simp only [hoa]
          rw [wanted_eq, if_neg (by rw [hw]; decide)]
          exact ⟨_, fun v hv => by rwa [put_dfs] at hv, ih (i :: done) C (hc.set hlt) (hd.set hi) hE2 hC hW.put hCw hgrow h2⟩
end
end Go.Proofs.Yteblbhbfdfifpaa.V

/- The walk by verification conditions is sound: loops, code, whole functions; contracts. -/
namespace Go.Proofs.Yteblbhbfdfifpaa.V
open Go Go.RowKit
set_option linter.unusedVariables false
set_option linter.unusedSimpArgs false
set_option linter.unusedSectionVars false

/-! a loop's head: what is known is over ids that were there before it -/
def cut (nx : Nat) (ρ : Rho) : Rho := fun i => if i < nx then ρ i else none
theorem cut_lt {nx i : Nat} {ρ : Rho} (h : i < nx) : cut nx ρ i = ρ i := if_pos h
theorem CapsAre.cut {nx : Nat} {ρ : Rho} : ∀ {l : List Nat} {x : List Value}, (l.all fun i => Nat.blt i nx) = true → CapsAre ρ l x → CapsAre (V.cut nx ρ) l x
  | [], _, _, h => h
  | i :: l, _, hb, ⟨a, r, e, hx, hr⟩ => by
    simp only [List.all_cons, Bool.and_eq_true] at hb
    exact ⟨a, r, by rw [base_eq (cut_lt (by simpa [Nat.blt_eq] using hb.1))]; exact e, hx, CapsAre.cut hb.2 hr⟩
theorem At.is_cut {nx : Nat} {ρ : Rho} {a : At} {x : Value} (hb : atB nx a = true) (h : a.is ρ x) : a.is (cut nx ρ) x := by
  cases a with
  | val v => exact h
  | tf b => exact h
  | prop p => exact h
  | ptr i k j s =>
    obtain ⟨a, e, hx⟩ := h
    exact ⟨a, by rw [base_eq (cut_lt (by simpa [atB, Nat.blt_eq] using hb))]; exact e, hx⟩
  | ref i => exact ⟨by rw [cut_lt (by simpa [atB, Nat.blt_eq] using hb)]; exact h.1, h.2⟩
  | clo f l => obtain ⟨c, e, hx⟩ := h; exact ⟨c, e.cut hb, hx⟩
theorem Ats.cut {nx : Nat} {ρ : Rho} : ∀ {l : List At} {x : List Value}, l.all (atB nx) = true → Ats ρ l x → Ats (V.cut nx ρ) l x
  | [], _, _, h => h
  | a :: l, _, hb, ⟨u, r, hx, ha, hr⟩ => by
    simp only [List.all_cons, Bool.and_eq_true] at hb
    exact ⟨u, r, hx, At.is_cut hb.1 ha, Ats.cut hb.2 hr⟩
theorem SV.is_cut {nx : Nat} {ρ : Rho} {v : SV} {x : Value} (hb : svB nx v = true) (h : v.is ρ x) : v.is (cut nx ρ) x := by
  cases v with
  | one a => exact At.is_cut (a := a) hb h
  | agg l => obtain ⟨c, e, hx⟩ := h; exact ⟨c, e.cut hb, hx⟩
  | tup l =>
    have : l = [] := by simpa [svB] using hb
    subst this
    exact h
theorem fnd_all {α : Type} {p : Nat × α → Bool} : ∀ {l : List (Nat × α)} {t : Nat} {v : α}, l.all p = true → fnd l t = some v → p (t, v) = true
  | [], _, _, _, h => by cases h
  | (u, x) :: r, t, v, hp, h => by
    simp only [List.all_cons, Bool.and_eq_true] at hp
    rcases fnd_cons h with ⟨rfl, rfl⟩ | ⟨_, h⟩
    · exact hp.1
    · exact fnd_all hp.2 h
theorem EnvR.cut {sz nx : Nat} {ρ : Rho} {env : Env} {a : Act} (hb : (env.all fun p => svB nx p.2) = true) (h : EnvR sz ρ env a) : EnvR sz (V.cut nx ρ) env a :=
  ⟨h.size, fun t v ht => let ⟨x, e, hv⟩ := h.env t v ht; ⟨x, e, SV.is_cut (fnd_all (p := fun p => svB nx p.2) hb ht) hv⟩⟩
theorem Sat.cut {B nx : Nat} {ρ : Rho} {w : World} {i : Nat} {o : Ob} (hi : i < nx) (hb : obB nx o = true) (h : Sat B ρ w i o) : Sat B (V.cut nx ρ) w i o := by
  cases o with
  | box t l => obtain ⟨b, cs, e, hB, hl, hh⟩ := h; exact ⟨b, cs, by rw [cut_lt hi]; exact e, hB, hl.cut hb, hh⟩
  | lit t s rows => obtain ⟨b, cs, e, hB, hs, hn, hl, hh⟩ := h; exact ⟨b, cs, by rw [cut_lt hi]; exact e, hB, hs, hn, hl.cut (by simpa [obB] using hb), hh⟩
  | arr s n get => obtain ⟨v, e, r⟩ := h; exact ⟨v, by rw [cut_lt hi]; exact e, r⟩
  | cel l => obtain ⟨v, cs, e, hl, r⟩ := h; exact ⟨v, cs, by rw [cut_lt hi]; exact e, hl.cut hb, r⟩
  | row t s n get => obtain ⟨v, e, r⟩ := h; exact ⟨v, by rw [cut_lt hi]; exact e, r⟩
  | tab g l => obtain ⟨e, r⟩ := h; exact ⟨by rw [cut_lt hi]; exact e, r⟩
  | lp L env st => obtain ⟨l, fn, tmps, D, e, hB, hh, r⟩ := h; exact ⟨l, fn, tmps, D, by rw [cut_lt hi]; exact e, hB, hh, r.cut hb⟩
  | gone => trivial
theorem CapsAre.map {σ : Nat → Nat} {ρ : Rho} : ∀ {l : List Nat} {x : List Value}, CapsAre ρ (l.map σ) x → CapsAre (fun i => ρ (σ i)) l x
  | [], _, h => h
  | i :: l, _, ⟨a, r, e, hx, hr⟩ => ⟨a, r, e, hx, CapsAre.map hr⟩
theorem SameA.is_ {σ : Nat → Nat} {ρ : Rho} {a b : At} {x : Value} (h : SameA σ a b) (hb : b.is ρ x) : a.is (fun i => ρ (σ i)) x := by
  cases a with
  | val v =>
    cases b with
    | val v' => exact Eq.trans hb (Eq.symm h)
    | tf b => (cases v <;> first | exact Eq.trans hb (Eq.symm h) | cases h)
    | prop p =>
      cases v <;> try exact (show False from h).elim
      obtain ⟨c, rfl, hc⟩ := hb
      rename_i b
      show Value.bool c = .bool b
      congr 1
      rw [Bool.eq_iff_iff, hc]
      exact (show b = true ↔ p from h).symm
    | _ => exact (by cases v <;> exact (show False from h).elim)
  | tf q =>
    cases b with
    | tf c => exact Eq.trans hb (congrArg Value.bool (Eq.symm h))
    | _ => exact (show False from h).elim
  | prop p =>
    cases b with
    | prop q =>
      obtain ⟨c, rfl, hc⟩ := hb
      exact ⟨c, rfl, hc.trans (Iff.symm h)⟩
    | _ => exact (show False from h).elim
  | ptr i k j s =>
    cases b with
    | ptr i' k' j' s' =>
      obtain ⟨rfl, rfl, rfl, rfl⟩ := h
      exact hb
    | _ => exact (show False from h).elim
  | ref i =>
    cases b with
    | ref i' =>
      have e : σ i = i' := h
      subst e
      exact hb
    | _ => exact (show False from h).elim
  | clo f l =>
    cases b with
    | clo f' l' =>
      obtain ⟨rfl, rfl⟩ := h
      obtain ⟨cs, hc, e⟩ := hb
      exact ⟨cs, hc.map, e⟩
    | _ => exact (show False from h).elim
theorem SameAs.is_ {σ : Nat → Nat} {ρ : Rho} : ∀ {l m : List At} {x : List Value}, SameAs σ l m → Ats ρ m x → Ats (fun i => ρ (σ i)) l x
  | [], [], _, _, h => h
  | [], _ :: _, _, h, _ => h.elim
  | _ :: _, [], _, h, _ => h.elim
  | a :: l, b :: m, _, ⟨h1, h2⟩, ⟨u, r, hx, hu, hr⟩ => ⟨u, r, hx, h1.is_ hu, h2.is_ hr⟩
theorem SameA.ren (σ : Nat → Nat) (a : At) : SameA σ a (renA σ a) := by
  cases a with
  | val v => exact rfl
  | tf b => exact rfl
  | prop p => exact Iff.rfl
  | ptr i k j s => exact ⟨rfl, rfl, rfl, rfl⟩
  | ref i => exact rfl
  | clo f l => exact ⟨rfl, rfl⟩
theorem SameAs.ren (σ : Nat → Nat) : ∀ l : List At, SameAs σ l (l.map (renA σ))
  | [] => trivial
  | a :: l => ⟨SameA.ren σ a, SameAs.ren σ l⟩
theorem SLe.is_ {ρ : Rho} {u v : SV} {x : Value} (h : SLe u v) (hu : u.is ρ x) : v.is ρ x := by
  unfold SLe at h
  split at h
  · rename_i b p; exact ⟨b, hu, h⟩
  · rename_i p b
    obtain ⟨c, rfl, hc⟩ := hu
    show Value.bool c = Value.bool b
    congr 1; rw [Bool.eq_iff_iff, hc]; exact h
  · rename_i p q
    obtain ⟨c, rfl, hc⟩ := hu
    exact ⟨c, rfl, hc.trans h⟩
  · exact Eq.trans hu h.symm
  · obtain ⟨b, rfl, hb⟩ := h; exact ⟨b, hu, hb⟩
  · obtain ⟨b, rfl, hb⟩ := h
    obtain ⟨c, rfl, hc⟩ := hu
    show Value.bool c = Value.bool b
    congr 1; rw [Bool.eq_iff_iff, hc, hb]
  · exact Eq.trans hu h
  · subst h; exact hu
theorem EnvLe.get {σ : Nat → Nat} {env : Env} : ∀ {l : Env}, EnvLe σ env l → ∀ t v, fnd l t = some v → ∃ u, fnd env t = some u ∧ SLe u (renS σ v)
  | [], _, _, _, h => by cases h
  | (u, x) :: r, hl, t, v, h => by
    rcases fnd_cons h with ⟨rfl, rfl⟩ | ⟨_, h⟩
    · exact fndK_spec hl.1
    · exact EnvLe.get hl.2 t v h
theorem ObsLe.get {σ : Nat → Nat} {obs : Obs} : ∀ {l : Obs}, ObsLe σ obs l → ∀ t o, fnd l t = some o → ∃ u, fnd obs (σ t) = some u ∧ ObLe u (renO σ o)
  | [], _, _, _, h => by cases h
  | (u, x) :: r, hl, t, v, h => by
    rcases fnd_cons h with ⟨rfl, rfl⟩ | ⟨_, h⟩
    · exact fndK_spec hl.1
    · exact ObsLe.get hl.2 t v h
theorem mem_iot {i : Nat} : ∀ {n : Nat}, i < n → i ∈ iot n
  | 0, h => by omega
  | n + 1, h => by
    unfold iot
    by_cases e : i = n
    · simp [e]
    · simp [mem_iot (show i < n by omega)]
theorem memB_of {x : Nat} : ∀ {l : List Nat}, x ∈ l → memB x l = true
  | [], h => by simp at h
  | y :: r, h => by
    unfold memB
    cases hb : Nat.beq x y
    · rcases List.mem_cons.1 h with rfl | h
      · rw [Nat.beq_refl] at hb; cases hb
      · exact memB_of h
    · rfl
theorem injB_spec {σ : Nat → Nat} : ∀ {n : Nat}, injB σ n = true → ∀ i j, i < n → j < n → σ i = σ j → i = j
  | 0, _, i, j, hi, _, _ => by omega
  | n + 1, h, i, j, hi, hj, e => by
    unfold injB iot at h
    rw [List.map_cons] at h
    unfold nodB at h
    cases hb : memB (σ n) ((iot n).map σ) <;> simp only [hb] at h
    · have no : ∀ k, k < n → σ k ≠ σ n := fun k hk q => by
        have : memB (σ n) ((iot n).map σ) = true := memB_of (List.mem_map.2 ⟨k, mem_iot hk, q⟩)
        rw [hb] at this; cases this
      by_cases h1 : i = n
      · by_cases h2 : j = n
        · omega
        · subst h1; exact absurd e.symm (no j (by omega))
      · by_cases h2 : j = n
        · subst h2; exact absurd e (no i (by omega))
        · exact injB_spec (n := n) h i j (by omega) (by omega) e
    · cases h
def via (σ : Nat → Nat) (ρ : Rho) : Rho := fun i => ρ (σ i)
theorem Ats.via {σ : Nat → Nat} {ρ : Rho} {l : List At} {x : List Value} (h : Ats ρ (l.map (renA σ)) x) : Ats (V.via σ ρ) l x := (SameAs.ren σ l).is_ h
theorem SV.is_via {σ : Nat → Nat} {ρ : Rho} {nx : Nat} {v : SV} {x : Value} (hb : svB nx v = true) (h : (renS σ v).is ρ x) : v.is (via σ ρ) x := by
  cases v with
  | one a => exact SameA.is_ (σ := σ) (ρ := ρ) (SameA.ren σ a) h
  | agg l => obtain ⟨c, e, hx⟩ := h; exact ⟨c, e.via, hx⟩
  | tup l =>
    have : l = [] := by simpa [svB] using hb
    subst this
    exact h
theorem fnd_ren {σ : Nat → Nat} : ∀ {env : Env} {t : Nat} {v : SV}, fnd env t = some v → fnd (env.map fun p => (p.1, renS σ p.2)) t = some (renS σ v)
  | [], _, _, h => by cases h
  | (u, x) :: r, t, v, h => by
    rw [List.map_cons]
    unfold fnd at h ⊢
    cases hb : Nat.beq u t <;> simp only [hb] at h ⊢
    · exact fnd_ren h
    · injection h with h; rw [h]
theorem EnvR.via {sz nx : Nat} {σ : Nat → Nat} {ρ : Rho} {env : Env} {a : Act} (hb : (env.all fun p => svB nx p.2) = true) (h : EnvR sz ρ (env.map fun p => (p.1, renS σ p.2)) a) : EnvR sz (V.via σ ρ) env a :=
  ⟨h.size, fun t v ht => let ⟨x, e, hv⟩ := h.env t _ (fnd_ren ht); ⟨x, e, SV.is_via (fnd_all (p := fun p => svB nx p.2) hb ht) hv⟩⟩
theorem Sat.via {nx : Nat} {B : Nat} {σ : Nat → Nat} {ρ : Rho} {w : World} {i : Nat} {o : Ob} (hb : obB nx o = true) (h : Sat B ρ w (σ i) (renO σ o)) : Sat B (V.via σ ρ) w i o := by
  cases o with
  | box t l => obtain ⟨b, cs, e, hB, hl, hh⟩ := h; exact ⟨b, cs, e, hB, hl.via, hh⟩
  | lit t s rows =>
    obtain ⟨b, cs, e, hB, hs, hn, hl, hh⟩ := h
    rw [List.length_map] at e hn
    refine ⟨b, cs, e, hB, fun r hr => ?_, hn, ?_, hh⟩
    · have := hs (r.map (renA σ)) (List.mem_map.2 ⟨r, hr, rfl⟩)
      simpa using this
    · refine Ats.via (l := rows.flatten) ?_
      rw [List.map_flatten]
      exact hl
  | arr s n get => exact h
  | cel l => obtain ⟨v, cs, e, hl, r⟩ := h; exact ⟨v, cs, e, hl.via, r⟩
  | row t s n get => exact h
  | tab g l => exact h
  | lp L env st => obtain ⟨l, fn, tmps, D, e, hB, hh, r⟩ := h; exact ⟨l, fn, tmps, D, e, hB, hh, r.via hb⟩
  | gone => trivial
theorem foot_via {σ : Nat → Nat} {ρ : Rho} {i : Nat} {o : Ob} : foot (via σ ρ) i o = foot ρ (σ i) (renO σ o) := by
  cases o <;> rfl
theorem renO_mut {σ : Nat → Nat} {o : Ob} : (renO σ o).mut = o.mut := by cases o <;> rfl
theorem flat_congr {get get' : Nat → List Value} : ∀ {n : Nat}, (∀ k, k < n → get k = get' k) → flat get n = flat get' n
  | 0, _ => rfl
  | n + 1, h => by
    have e : ∀ g : Nat → List Value, flat g (n + 1) = flat g n ++ g n := fun g => by unfold flat; rw [List.range_succ, List.flatMap_append]; simp
    rw [e, e, flat_congr (fun k hk => h k (by omega)), h n (by omega)]
theorem ObLe.sat {B : Nat} {ρ : Rho} {w : World} {i : Nat} {o o' : Ob} (hl : ObLe o o') (h : Sat B ρ w i o) : Sat B ρ w i o' ∧ (∀ b, foot ρ i o' = some b → foot ρ i o = some b) ∧ (o'.mut = true → o.mut = true) := by
  cases o with
  | arr s n get =>
    cases o' with
    | arr s' n' get' =>
      obtain ⟨rfl, rfl, hg⟩ := hl
      obtain ⟨v, e, A, c, ev, hn, hc, hh⟩ := h
      refine ⟨⟨v, e, A, c, ev, hn, hc, fun k hk => ?_⟩, fun _ h => h, fun h => h⟩
      rw [← hg k hk]; exact hh k hk
    | _ => cases hl
  | row t s n get =>
    cases o' with
    | row t' s' n' get' =>
      obtain ⟨rfl, rfl, rfl, hg⟩ := hl
      obtain ⟨v, e, hr⟩ := h
      exact ⟨⟨v, e, hr.congr fun k hk => (hg k hk).symm⟩, fun _ h => h, fun h => h⟩
    | arr s' n' get' =>
      obtain ⟨rfl, rfl, hg⟩ := hl
      obtain ⟨v, e, hr⟩ := h
      refine ⟨⟨v, e, (hr.congr fun k hk => (hg k hk).symm).arr⟩, fun b hb => ?_, fun h => nomatch h⟩
      obtain ⟨A, c, rfl, _, _, hc⟩ := hr
      unfold foot at hb ⊢
      rw [e]
      cases n with
      | zero => cases hb
      | succ n =>
        have hc0 : c ≠ 0 := by rcases hc with ⟨h, _⟩ | ⟨_, _, _, _, _, _, h, _⟩ <;> omega
        cases c with
        | zero => exact absurd rfl hc0
        | succ c => exact hb
    | _ => cases hl
  | _ =>
    have e : _ = o' := hl
    subst e
    exact ⟨h, fun _ h => h, fun h => h⟩
theorem EnvR.head {σ : Nat → Nat} {sz nx : Nat} {ρ : Rho} {env l : Env} {a : Act} (hE : EnvR sz ρ env a) (hl : EnvLe σ env l) (hb : envB nx l = true) : EnvR sz (V.cut nx (V.via σ ρ)) l a :=
  ⟨hE.size, fun t v h => by
    obtain ⟨u, hu, hle⟩ := hl.get t v h
    obtain ⟨x, e, hv⟩ := hE.env t _ hu
    have hv := hle.is_ hv
    have hvb := fnd_all (p := fun p => svB nx p.2) hb h
    exact ⟨x, e, SV.is_cut hvb (SV.is_via hvb hv)⟩⟩
theorem Cls.head {σ : Nat → Nat} {B nx nx1 : Nat} {ρ : Rho} {obs l : Obs} {w : World} (hC : Cls B ρ obs nx1 w) (hl : ObsLe σ obs l) (hb : obsB nx l = true) (hi : injB σ nx = true) : Cls B (cut nx (via σ ρ)) l nx w := by
  have lt : ∀ i o, fnd l i = some o → i < nx ∧ obB nx o = true := fun i o h => by
    have := fnd_all (p := fun p => Nat.blt p.1 nx && obB nx p.2) hb h
    simpa [Nat.blt_eq] using this
  refine ⟨hC.le, fun i o h => ?_, fun i j o o' b h1 h2 hne hm hf => ?_, fun i hi => if_neg (by omega)⟩
  · obtain ⟨u, hu, hl'⟩ := hl.get i o h
    exact ((hl'.sat (hC.sat _ u hu)).1.via (lt i o h).2).cut (lt i o h).1 (lt i o h).2
  · obtain ⟨u, hu, hl1⟩ := hl.get i o h1
    obtain ⟨u', hu', hl2⟩ := hl.get j o' h2
    obtain ⟨_, f1, m1⟩ := hl1.sat (hC.sat _ u hu)
    obtain ⟨_, f2, m2⟩ := hl2.sat (hC.sat _ u' hu')
    rw [foot_eq (cut_lt (lt i o h1).1), foot_via] at hf
    rw [foot_eq (cut_lt (lt j o' h2).1), foot_via]
    exact fun q => hC.apart _ _ u u' b hu hu' (fun q => hne (injB_spec hi i j (lt i o h1).1 (lt j o' h2).1 q)) (m1 (by rw [renO_mut]; exact hm)) (f1 b hf) (f2 b q)

theorem sgm_pin {pin : Nat} : ∀ {l : List (Nat × Nat)}, pinB pin l = true → ∀ i, i < pin → sgm l i = i
  | [], _, _, _ => rfl
  | (a, b) :: r, h, i, hi => by
    simp only [pinB, List.all_cons, Bool.and_eq_true] at h
    have ha : pin ≤ a := by simpa using h.1
    have hr := sgm_pin (l := r) h.2 i hi
    unfold sgm fnd
    cases hb : Nat.beq a i
    · exact hr
    · have := Nat.eq_of_beq_eq_true hb; omega
theorem Wy.head {B m : Nat} {s : St} {ρ : Rho} {ds : List Deferred} {w : World} (h : Wy B s ρ ds w) (hm : s.pin ≤ m) {l : List (Nat × Nat)} (hl : pinB s.pin l = true) : Wy B s (cut m (via (sgm l) ρ)) ds w :=
  ⟨h.b, h.o, fun i y hi hy => by
    have e : cut m (via (sgm l) ρ) i = ρ (sgm l i) := cut_lt (by omega)
    rw [e, sgm_pin hl i hi]; exact h.e i y hi hy, h.m⟩
/-! code -/
theorem calm_region {id : Nat} {ops : Array Oper} {b : Bool} (h : calm (.region id ops b) = true) : noDef ops.toList = true := h
theorem no_out {B : Nat} {w0 : St} {sz : Nat} {K : Kon} : ¬ LetsOut (QK B w0 sz K) := fun ⟨_, _, q⟩ => q
theorem region_any_in {P : Program} {id : Nat} {ops : Array Oper} {Q : Exit → Act → World → Prop} {a : Act} {w : World} {ro : Option Nat} {n : Nat} (hm : P.follows .mixedOrders = true) (hd : ro = none ∨ noDef ops.toList = true) (hQ : ¬ LetsOut Q)
    (h : wpAny P .any ops Q ops.size (Array.replicate ops.size false) a { w with drawn := w.drawn + 1 }) : (Code.region id ops true).wpIn (Fz ro) n P Q a w :=
  wpIn_region_any hm (any_in hd hQ _ _ _ _ h)
theorem region_quiet_in {P : Program} {id : Nat} {ops : Array Oper} {Q : Exit → Act → World → Prop} {C : World → Prop} {a : Act} {w : World} {ro : Option Nat} {n : Nat} (hm : P.follows .mixedOrders = true) (hd : ro = none ∨ noDef ops.toList = true) (hQ : ¬ LetsOut Q)
    (hB : Region.lexB .any ops = true) (hC : C { w with drawn := w.drawn + 1 }) (h : wpQuiet P ops C (fun a' => ∀ w', C w' → Q .normal a' w') ops.toList a) : (Code.region id ops true).wpIn (Fz ro) n P Q a w := by
  simp only [Region.lexB, Bool.and_eq_true] at hB
  refine region_any_in hm hd hQ (wpAny_of_quiet (Q := fun a' => ∀ w', C w' → Q .normal a' w') (fun _ w' hw' h => h w' hw') _ _ _ _ hC ?_)
  have := wpAnyQ_lex (C := C) (md := .any) hB.1 ops.toList 0 (Array.replicate ops.size false) a (by simp) (by simpa using hB.2) h
  simpa using this
section
variable {P : Program} {T : TT} {sz : Nat} {B : Nat} {w0 : St} (hT : TTok P T) (hm : P.follows .mixedOrders = true)
include hT hm
omit hT hm in
theorem vc_cond {pin : Nat} {c : Operand} {x y : Code} {env : Env} {obs : Obs} {nx : Nat} {K : Kon} : vc P T sz pin (.cond c x y) env obs nx K = evK env c fun v => match v with
      | .one (.tf true) => vc P T sz pin x env obs nx K
      | .one (.tf false) => vc P T sz pin y env obs nx K
      | .one (.prop p) => NCond p (wr x ++ wr y) pin (vc P T sz pin x env obs nx) (vc P T sz pin y env obs nx) env obs nx K
      | .one (.val (.bool q)) => NCond (q = true) (wr x ++ wr y) pin (vc P T sz pin x env obs nx) (vc P T sz pin y env obs nx) env obs nx K
      | _ => False := rfl
theorem vc_sound {ro : Option Nat} {n : Nat} : ∀ (c : Code) {env : Env} {obs : Obs} {nx : Nat} {K : Kon} {ρ : Rho} {a : Act} {w : World}, (ro = none ∨ calm c = true) → vc P T sz w0.pin c env obs nx K → EnvR sz ρ env a → Cls B ρ obs nx w → Wy B w0 ρ a.defers w → c.wpIn (Fz ro) n P (QK B w0 sz K) a w
  | .skip, env, obs, nx, K, ρ, a, w, hcm, h, hE, hC, hW => wpIn_skip ⟨ρ, env, obs, nx, h, hE, hC, hW⟩
  | .label _, env, obs, nx, K, ρ, a, w, hcm, h, hE, hC, hW => wpIn_label ⟨ρ, env, obs, nx, h, hE, hC, hW⟩
  | .region id ops false, env, obs, nx, K, ρ, a, w, hcm, h, hE, hC, hW => by
    have h1 := ops_sound (ro := ro) (n := n) (Q := QK B w0 sz K) hT (fun a w q => q) ops.toList hE hC hW h
    exact wpIn_region_list (by simpa using h1)
  | .region id ops true, env, obs, nx, K, ρ, a, w, hcm, h, hE, hC, hW => by
    have hC1 : Cls B ρ obs nx { w with drawn := w.drawn + 1 } := hC.drawn _
    have hW1 : Wy B w0 ρ a.defers { w with drawn := w.drawn + 1 } := hW.trans ⟨rfl, rfl, rfl, Nat.le_refl _, fun _ _ => rfl⟩ (fun _ _ h => h)
    have go : ∀ (g : Bool) (K' : Env → Obs → Nat → Prop), freeB ops.toList = true → explK g P T sz ops.toList ops.toList.length [] env obs nx K' → (∀ a w, Nx B w0 sz K' a w → QK B w0 sz K .normal a w) → (Code.region id ops true).wpIn (Fz ro) n P (QK B w0 sz K) a w := fun g K' hf hx hR => by
      refine region_any_in hm (hcm.imp (fun q => q) calm_region) no_out ?_
      have := (expl_sound hT hf ops.toList.length [] (listed := Array.replicate ops.size false) (fun _ => True) ⟨by simp, fun j => by
        rw [show memB j [] = false from rfl]
        rcases Nat.lt_or_ge j ops.size with h | h
        · simp [h]
        · simp [Array.getElem?_eq_none, h]⟩ (down_start _) hE hC1 hW1 trivial (fun _ _ _ _ => trivial) hx).any (Q := QK B w0 sz K) hR
      simpa using this
    replace h : NDraw P T sz w0.pin ops.toList env obs nx (fun e o n => K .nrm e o n) := h
    cases h with
    | mk h2 h1 =>
      have h1 := ops_quiet (Q := fun a' => ∀ w', (Cls B ρ obs nx w' ∧ Wy B w0 ρ a.defers w') → QK B w0 sz K .normal a' w') hT hC hW (fun a2 env' hd hE' hK w' hw' => ⟨ρ, env', obs, nx, hK, hE', hw'.1, by rw [hd]; exact hw'.2⟩) ops.toList rfl hE h1
      exact region_quiet_in (C := fun w' => Cls B ρ obs nx w' ∧ Wy B w0 ρ a.defers w') hm (hcm.imp (fun q => q) calm_region) no_out (by simpa using h2) ⟨hC1, hW1⟩ (by simpa using h1)
    | any_ g hf hx => exact go g _ hf hx fun a w h => h
    | join_ g hf E O m hx hp hb hk =>
      refine go g _ hf hx ?_
      rintro a1 w1 ⟨ρ1, env1, obs1, nx1, ⟨⟨l, hl, hi, he, ho⟩⟩, hE1, hC1, hW1⟩
      exact ⟨cut m (via (sgm l) ρ1), E, O, m, hk, hE1.head he hb.1, hC1.head ho hb.2 hi, hW1.head (Nat.le_of_ble_eq_true hp) hl⟩
  | .seq x y, env, obs, nx, K, ρ, a, w, hcm, h, hE, hC, hW => by
    have hx : ro = none ∨ calm x = true := hcm.imp (fun q => q) fun q => (by unfold calm at q; simp only [Bool.and_eq_true] at q; exact q.1)
    have hy : ro = none ∨ calm y = true := hcm.imp (fun q => q) fun q => (by unfold calm at q; simp only [Bool.and_eq_true] at q; exact q.2)
    have h1 := vc_sound (n := n) x hx h hE hC hW
    refine wpIn_seq (wpIn_mono h1 ?_)
    intro e a1 w1 q
    cases e with
    | normal =>
      obtain ⟨ρ1, env1, obs1, nx1, hk, hE1, hC1, hW1⟩ := q
      exact vc_sound y hy hk hE1 hC1 hW1
    | exit i => exact q
    | ret => exact q
    | goto l => exact q
    | panic c => exact q
    | outgrown => exact q
  | .cond c x y, env, obs, nx, K, ρ, a, w, hcm, h, hE, hC, hW => by
    rw [vc_cond] at h
    have hx : ro = none ∨ calm x = true := hcm.imp (fun q => q) fun q => (by unfold calm at q; simp only [Bool.and_eq_true] at q; exact q.1)
    have hy : ro = none ∨ calm y = true := hcm.imp (fun q => q) fun q => (by unfold calm at q; simp only [Bool.and_eq_true] at q; exact q.2)
    have two : ∀ (p : Prop) (b : Bool), a.eval c = .bool b → (b = true ↔ p) → NCond p (wr x ++ wr y) w0.pin (vc P T sz w0.pin x env obs nx) (vc P T sz w0.pin y env obs nx) env obs nx K → (Code.cond c x y).wpIn (Fz ro) n P (QK B w0 sz K) a w := fun p b hb hp h => by
      have one : ∀ K', NIf p (vc P T sz w0.pin x env obs nx K') (vc P T sz w0.pin y env obs nx K') → (Code.cond c x y).wpIn (Fz ro) n P (QK B w0 sz K') a w := fun K' h => by
        cases b with
        | true => exact wpIn_cond_true hb (vc_sound x hx (h.t (hp.1 rfl)) hE hC hW)
        | false => exact wpIn_cond_false hb (vc_sound y hy (h.f (fun q => by have := hp.2 q; cases this)) hE hC hW)
      cases h with
      | mk h => exact one K h
      | join ι S m J hpm hsb h k =>
        refine wpIn_mono (one _ h) ?_
        intro e a1 w1 q
        cases e with
        | normal =>
          obtain ⟨ρ1, env1, obs1, nx1, ⟨i, l, hj, hl, hi, he, ho⟩, hE1, hC1, hW1⟩ := q
          exact ⟨cut m (via (sgm l) ρ1), (S i).1, (S i).2, m, k i hj, hE1.head he (hsb i).1, hC1.head ho (hsb i).2 hi, hW1.head hpm hl⟩
        | exit i => exact q
        | ret => exact q
        | goto l => exact q
        | panic c => exact q
        | outgrown => exact q
    obtain ⟨v, hv, h⟩ := evK_spec hE h
    split at h
    · exact wpIn_cond_true hv (vc_sound x hx h hE hC hW)
    · exact wpIn_cond_false hv (vc_sound y hy h hE hC hW)
    · obtain ⟨b, hb, hp⟩ := hv
      exact two _ b hb hp h
    · rename_i b
      exact two _ b hv Iff.rfl h
    · exact h.elim
  | .block id c, env, obs, nx, K, ρ, a, w, hcm, h, hE, hC, hW => by
    have h1 := vc_sound (n := n) c (hcm.imp (fun q => q) fun q => (by unfold calm at q; exact q)) h hE hC hW
    refine wpIn_block (wpIn_mono h1 ?_)
    intro e a1 w1 q
    cases e with
    | normal => exact q
    | exit i =>
      obtain ⟨ρ1, env1, obs1, nx1, hk, r⟩ := q
      simp only [Exit.inBlock]
      simp only at hk
      by_cases e : i = id
      · subst e
        rw [if_pos rfl]
        rw [Nat.beq_refl] at hk
        exact ⟨ρ1, env1, obs1, nx1, hk, r⟩
      · rw [if_neg e]
        cases hb : Nat.beq i id
        · rw [hb] at hk
          exact ⟨ρ1, env1, obs1, nx1, hk, r⟩
        · exact absurd (Nat.eq_of_beq_eq_true hb) e
    | ret => exact q
    | goto l => exact q
    | panic c => exact q
    | outgrown => exact q
  | .exit i, env, obs, nx, K, ρ, a, w, hcm, h, hE, hC, hW => wpIn_exit ⟨ρ, env, obs, nx, h, hE, hC, hW⟩
  | .ret, env, obs, nx, K, ρ, a, w, hcm, h, hE, hC, hW => wpIn_ret ⟨ρ, env, obs, nx, h, hE, hC, hW⟩
  | .loop c, env, obs, nx, K, ρ, a, w, hcm, h, hE, hC, hW => by
    obtain ⟨ι, S, μ, J, i0, m, hpin, hj, hi0, hel, hol, hb, hr⟩ := NLoop.h h
    refine wpIn_loop_ghost (fun n a w => ∃ i ρ, μ i = n ∧ J i ∧ EnvR sz ρ (S i).1 a ∧ Cls B ρ (S i).2 m w ∧ Wy B w0 ρ a.defers w) (μ i0)
      ⟨i0, _, rfl, hj, hE.head hel (hb i0).1, hC.head hol (hb i0).2 hi0, hW.head hpin (l := []) rfl⟩ ?_
    rintro n a1 w1 ⟨i, ρ1, rfl, hji, hE1, hC1, hW1⟩
    refine wpIn_mono (vc_sound c (hcm.imp (fun q => q) fun q => (by unfold calm at q; exact q)) (hr i hji) hE1 hC1 hW1) ?_
    intro e a2 w2 q
    cases e with
    | normal =>
      obtain ⟨ρ2, env2, obs2, nx2, ⟨i', l', hj', hlt, hp', hi', hel', hol'⟩, hE2, hC2, hW2⟩ := q
      exact ⟨μ i', hlt, i', _, rfl, hj', hE2.head hel' (hb i').1, hC2.head hol' (hb i').2 hi', hW2.head hpin hp'⟩
    | exit i => exact q
    | ret => exact q
    | goto l => exact q
    | panic c => exact q
    | outgrown => exact q
  | .rangeFunc f ps assign body, env, obs, nx, K, ρ, a, w, hcm, h, hE, hC, hW => by
    rcases hcm with rfl | q
    · exact NRange.h h B w0 ρ a w n hE hC hW
    · cases q
  | .scope _, _, _, _, _, _, _, _, _, h, _, _, _ => h.elim
  | .goto _, _, _, _, _, _, _, _, _, h, _, _, _ => h.elim
  | .refuse _, _, _, _, _, _, _, _, _, h, _, _, _ => h.elim
end
end Go.Proofs.Yteblbhbfdfifpaa.V

/- The walk by verification conditions: whole functions, contracts, and how a contract is used at a call. -/
namespace Go.Proofs.Yteblbhbfdfifpaa.V
open Go Go.RowKit
set_option linter.unusedVariables false
set_option linter.unusedSimpArgs false
set_option linter.unusedSectionVars false

def argEnv : Nat → List SV → Env
  | _, [] => []
  | i, v :: r => (i, v) :: argEnv (i + 1) r
def resK (T : TT) (env : Env) (obs : Obs) : List ResultVar → (List SV → Prop) → Prop
  | [], K => K []
  | .tmp t :: r, K => fndK env t fun v => match v with
    | .one a => resK T env obs r fun l => K (.one a :: l)
    | .agg c => resK T env obs r fun l => K (.agg c :: l)
    | .tup _ => False
  | .cell t ty :: r, K => fndK env t fun v => match v with
    | .one (.ptr i k j s) => fndK T ty fun y => fndK obs i fun o => elemK y k j s (fun u => match u with
      | .one a => resK T env obs r fun l => K (.one a :: l)
      | .agg c => resK T env obs r fun l => K (.agg c :: l)
      | .tup _ => False) o
    | _ => False
def fnK (T : TT) (rs : List ResultVar) (R : SV → Obs → Nat → Prop) : Kon := fun e env obs nx => match e with
  | .nrm | .ret => resK T env obs rs fun l => match l with
    | [v] => R v obs nx
    | l => R (.tup l) obs nx
  | .exit _ => False

theorem Svs.length {ρ : Rho} : ∀ {l : List SV} {x : List Value}, Svs ρ l x → x.length = l.length
  | [], _, h => by rw [h]; rfl
  | _ :: _, _, ⟨a, r, hx, ha, hr⟩ => by rw [hx, List.length_cons, List.length_cons, Svs.length hr]
def resF (tmps : Array Value) : ResultVar → Sem Value
  | .tmp t => pure (tmps.getD t undef)
  | .cell a t => do loadVar t (← asAddr (tmps.getD a undef))
theorem results_eq (fn : Func) (tmps : Array Value) : results fn tmps = (do let vs ← fn.results.mapM (resF tmps); pure (if h : vs.size = 1 then vs[0] else .tuple vs)) := by
  unfold results
  have e : (fun r => match r with | ResultVar.tmp t => (pure (tmps.getD t undef) : Sem Value) | .cell a t => do loadVar t (← asAddr (tmps.getD a undef))) = resF tmps := by
    funext r; cases r <;> rfl
  rw [← e]
  rfl
theorem run_mapM_cons {P : Program} {α : Type} {f : α → Sem Value} {x : α} {r : List α} {y : Value} {ys : List Value} {w : World} (h1 : (f x).run P w = .ok y w) (h2 : (r.mapM f).run P w = .ok ys w) : ((x :: r).mapM f).run P w = .ok (y :: ys) w := by
  rw [List.mapM_cons]
  simp [Sem.run_bind, h1, h2]
section
variable {P : Program} {T : TT} {sz : Nat} {ρ : Rho} {env : Env} {a : Act} {B nx : Nat} {obs : Obs} {w : World} (hT : TTok P T) (hE : EnvR sz ρ env a) (hC : Cls B ρ obs nx w)
include hT hE hC
theorem resK_spec : ∀ {rs : List ResultVar} {K : List SV → Prop}, resK T env obs rs K → ∃ l xs, K l ∧ Svs ρ l xs ∧
    (rs.mapM (resF a.tmps)).run P w = .ok xs w
  | [], K, h => ⟨[], [], h, rfl, rfl⟩
  | .tmp t :: r, K, h => by
    unfold resK at h
    obtain ⟨v, e, h⟩ := fndK_spec h
    obtain ⟨x, ex, hv⟩ := hE.env t v e
    have e2 : a.tmps.getD t undef = x := by simp [Array.getD_eq_getD_getElem?, ex]
    split at h
    · obtain ⟨l, xs, hK, hs, hr⟩ := resK_spec h
      exact ⟨_, x :: xs, hK, ⟨x, xs, rfl, hv, hs⟩, run_mapM_cons (by simp only [resF, e2, Sem.run_pure]) hr⟩
    · obtain ⟨l, xs, hK, hs, hr⟩ := resK_spec h
      exact ⟨_, x :: xs, hK, ⟨x, xs, rfl, hv, hs⟩, run_mapM_cons (by simp only [resF, e2, Sem.run_pure]) hr⟩
    · exact h.elim
  | .cell t ty :: r, K, h => by
    unfold resK at h
    obtain ⟨v, e, h⟩ := fndK_spec h
    obtain ⟨x, ex, hv⟩ := hE.env t v e
    have e2 : a.tmps.getD t undef = x := by simp [Array.getD_eq_getD_getElem?, ex]
    split at h
    · rename_i i k j s
      obtain ⟨a0, hb, hx⟩ := hv
      obtain ⟨y, ey, h⟩ := fndK_spec h
      obtain ⟨o, eo, h⟩ := fndK_spec h
      obtain ⟨u, z, hu, h, hl⟩ := load_spec hC eo (hT.get ey) h
      have hl := hl w hC a0 hb
      split at h
      · obtain ⟨l, xs, hK, hs, hr⟩ := resK_spec h
        exact ⟨_, z :: xs, hK, ⟨z, xs, rfl, hu, hs⟩, run_mapM_cons (by simp only [resF, Sem.run_bind, Sem.run_pure, Result.andThen_ok, e2, hx, asAddr, hl]) hr⟩
      · obtain ⟨l, xs, hK, hs, hr⟩ := resK_spec h
        exact ⟨_, z :: xs, hK, ⟨z, xs, rfl, hu, hs⟩, run_mapM_cons (by simp only [resF, Sem.run_bind, Sem.run_pure, Result.andThen_ok, e2, hx, asAddr, hl]) hr⟩
      · exact h.elim
    · exact h.elim
theorem results_spec {fn : Func} {R : SV → Obs → Nat → Prop} (h : resK T env obs fn.results.toList fun l => match l with
    | [v] => R v obs nx
    | l => R (.tup l) obs nx) : ∃ v x, R v obs nx ∧ v.is ρ x ∧ (results fn a.tmps).run P w = .ok x w := by
  obtain ⟨l, xs, hK, hs, hr⟩ := resK_spec hT hE hC h
  have hm : (fn.results.mapM (resF a.tmps)).run P w = .ok xs.toArray w := by
    rw [Array.mapM_eq_mapM_toList]
    simp [Sem.run_map, hr]
  rw [results_eq]
  split at hK
  · rename_i v
    obtain ⟨x, r, rfl, hv, hr'⟩ := hs
    have e : r = [] := hr'
    subst e
    refine ⟨v, x, hK, SV.is_of1 hv, ?_⟩
    rw [Sem.run_bind, hm]
    simp
  · rename_i hn
    refine ⟨_, .tuple xs.toArray, hK, ⟨xs, hs, rfl⟩, ?_⟩
    rw [Sem.run_bind, hm]
    have hl : xs.length ≠ 1 := by
      intro e
      have : l.length = xs.length := hs.length.symm
      match l, this with
      | [v], _ => exact hn v rfl
      | [], q => simp [e] at q
      | _ :: _ :: _, q => simp [e] at q
    simp [hl]
end
theorem argEnv_get {ρ : Rho} : ∀ {l : List SV} {xs : List Value} {i t : Nat} {v : SV}, Svs ρ l xs → fnd (argEnv i l) t = some v → ∃ x, i ≤ t ∧ xs[t - i]? = some x ∧ v.is ρ x
  | [], _, _, _, _, _, h => by cases h
  | u :: l, _, i, t, v, ⟨x, r, hx, hu, hr⟩, h => by
    rcases fnd_cons h with ⟨rfl, rfl⟩ | ⟨hn, h⟩
    · exact ⟨x, Nat.le_refl _, by rw [hx]; simp, SV.is_of1 hu⟩
    · obtain ⟨y, hle, hy, hv⟩ := argEnv_get hr h
      refine ⟨y, by omega, ?_, hv⟩
      rw [hx, show t - i = (t - (i + 1)) + 1 by omega]
      simpa using hy
/-- a mark's block, shut -/
theorem heap_shut {w : World} {D b : Nat} {l : Option (List Deferred)} {o o' : Obj} (hD : w.heap[D]? = some (.deferred l)) (hb : w.heap[b]? = some o) (hne : ∀ l, o ≠ .deferred l) : (w.putObj D o').heap[b]? = some o := by
  rw [World.putObj_heap_other]
  · exact hb
  · intro e; subst e; rw [hD] at hb; injection hb with hb; exact hne l hb.symm
theorem cell_shut {w : World} {D : Nat} {l : Option (List Deferred)} {o' : Obj} (hD : w.heap[D]? = some (.deferred l)) {a : Addr} {v : Value} (h : w.cell? a = some v) : (w.putObj D o').cell? a = some v := by
  rw [← h]
  refine World.cell?_of_block (World.putObj_heap_other fun e => ?_)
  unfold World.cell? at h
  rw [e, hD] at h; cases h
theorem Cls.shut {B nx : Nat} {ρ : Rho} {obs : Obs} {w : World} {D : Nat} {l : Option (List Deferred)} (h : Cls B ρ obs nx w) (hD : w.heap[D]? = some (.deferred l)) (o : Obj) : Cls B ρ obs nx (w.putObj D o) := by
  refine ⟨by rw [World.putObj_size]; exact h.le, fun i u hu => ?_, h.apart, h.new⟩
  have hs := h.sat i u hu
  cases u with
  | box t l => obtain ⟨b', cs, e, hB, hl, hh⟩ := hs; exact ⟨b', cs, e, hB, hl, heap_shut hD hh (fun _ q => by cases q)⟩
  | lit t s rows => obtain ⟨b', cs, e, hB, h1, h2, h3, hh⟩ := hs; exact ⟨b', cs, e, hB, h1, h2, h3, heap_shut hD hh (fun _ q => by cases q)⟩
  | arr s n get =>
    obtain ⟨v, e, A, c, ev, h1, h2, hh⟩ := hs
    refine ⟨v, e, A, c, ev, h1, h2, fun k hk => ?_⟩
    obtain ⟨a, ea, hlt, hl, hc⟩ := hh k hk
    exact ⟨a, ea, by rw [World.putObj_size]; exact hlt, hl, fun j u hu => cell_shut hD (hc j u hu)⟩
  | cel l =>
    obtain ⟨v, cs, e, hl, a, ev, hlt, hc⟩ := hs
    exact ⟨v, cs, e, hl, a, ev, by rw [World.putObj_size]; exact hlt, fun j u hu => cell_shut hD (hc j u hu)⟩
  | row t s n get =>
    obtain ⟨v, e, A, c, ev, h1, h2, hh⟩ := hs
    refine ⟨v, e, A, c, ev, h1, h2, ?_⟩
    rcases hh with q | ⟨g, cur, q1, q2, hg, r⟩
    · exact .inl q
    · exact .inr ⟨g, cur, q1, q2, heap_shut hD hg (fun _ q => by cases q), r⟩
  | tab g l => obtain ⟨e, hlt, hc⟩ := hs; exact ⟨e, by rw [World.putObj_size]; exact hlt, fun j u hu => cell_shut hD (hc j u hu)⟩
  | lp L env st => obtain ⟨l, fn, tmps, D', e, hB, hh, r⟩ := hs; exact ⟨l, fn, tmps, D', e, hB, heap_shut hD hh (fun _ q => by cases q), r⟩
  | gone => trivial
/-- what is left to do at a function's end: its marks, one by one -/
theorem leaves_marks {P : Program} {fn : Func} {tmps : Array Value} {R : Ending → World → Prop} {B nx : Nat} {ρ : Rho} {obs : Obs} {v : World} : ∀ (Ds : List Nat) (w : World), Ds.Nodup → (∀ D ∈ Ds, B ≤ D ∧ v.heap.size ≤ D ∧ w.heap[D]? = some (.deferred (some []))) → Cls B ρ obs nx w → Below B v w → Oth v w →
    (∀ w', Cls B ρ obs nx w' → Below B v w' → Oth v w' → ∃ x, (results fn tmps).run P w' = .ok x w' ∧ R (.returned x) w') → LeavesInM Fence.wide 0 P fn tmps R (Ds.map fun D => { target := .collected D, args := #[] }) .returning w
  | [], w, _, _, hC, hb, ho, h => h w hC hb ho
  | D :: Ds, w, hn, hd, hC, hb, ho, h => by
    obtain ⟨h1, h2, h3⟩ := hd D (by simp)
    rw [List.nodup_cons] at hn
    refine ⟨by simp, .inl ⟨D, _, rfl, run_takeDeferred h3, ?_⟩⟩
    refine leaves_marks Ds _ hn.2 (fun E hE => ?_) (hC.shut h3 _) ⟨hb.os, hb.tape, hb.output, by rw [World.putObj_size]; exact hb.size, fun k hk => (World.putObj_heap_other (by omega)).trans (hb.block k hk)⟩ (fun k q hq => ?_) h
    · obtain ⟨a, b, c⟩ := hd E (by simp [hE])
      exact ⟨a, b, (World.putObj_heap_other (fun e => hn.1 (by rw [← e]; exact hE))).trans c⟩
    · have := (Array.getElem?_eq_some_iff.1 hq).1
      exact (World.putObj_heap_other (by omega)).trans (ho k q hq)
/-- a whole function -/
theorem fn_sound_pin {P : Program} {T : TT} (hT : TTok P T) (hm : P.follows .mixedOrders = true) {f : FuncId} {fn : Func} {c : Code} (hf : P.funcs[f]? = some fn) (hb : fn.body = some c) {sz : Nat} (hs : fn.ntmps = sz) {args : List SV} (hsz : Nat.ble args.length sz = true)
    {obs : Obs} {pin nx B : Nat} {R : SV → Obs → Nat → Prop} (h : vc P T sz pin c (argEnv 0 args) obs nx (fnK T fn.results.toList R)) {w : World} {ρ : Rho} {xs : Array Value} (hC : Cls B ρ obs nx w) (ha : Svs ρ args xs.toList) :
    Calls P f xs w fun e w' => ∃ ρ' v obs' nx' x, R v obs' nx' ∧ e = .returned x ∧ v.is ρ' x ∧ Cls B ρ' obs' nx' w' ∧ Below B w w' ∧ (∀ i y, i < pin → ρ i = some y → ρ' i = some y) ∧ Oth w w' := by
  subst hs
  have hlen : xs.size ≤ fn.ntmps := by
    have h1 := ha.length
    have h2 := Nat.le_of_ble_eq_true hsz
    simp at h1; omega
  have hx : ∀ ρ1 ds w1, Wy B ⟨w, ρ, pin⟩ ρ1 ds w1 → ∀ i y, i < pin → ρ i = some y → ρ1 i = some y := fun ρ1 ds w1 hW i y hi hy => hW.e i y hi hy
  refine (callsIn_wide (n := 0)).1 (callsIn_of_wp_marks (F := Fence.wide) hf hb trivial (wpIn_mono (vc_sound (ro := none) (n := 0) (w0 := ⟨w, ρ, pin⟩) hT hm c (.inl rfl) h ⟨by simp; omega, fun t v ht => ?_⟩ hC ⟨Below.refl _ _, Oth.refl _, fun _ _ _ h => h, [], rfl, List.nodup_nil, by simp⟩) ?_))
  · obtain ⟨x, _, hx, hv⟩ := argEnv_get ha ht
    refine ⟨x, ?_, hv⟩
    have hlt : t < xs.size := by
      have := (List.getElem?_eq_some_iff.1 hx).1
      simpa using this
    rw [Array.getElem?_append_left hlt]
    simpa using hx
  · intro e a1 w1 q
    have fin : ∀ (K : Env → Obs → Nat → Prop), (∀ env1 obs1 nx1, K env1 obs1 nx1 → fnK T fn.results.toList R .ret env1 obs1 nx1) → Nx B ⟨w, ρ, pin⟩ fn.ntmps K a1 w1 → bodyPostM Fence.wide 0 P fn (fun e w' => ∃ ρ' v obs' nx' x, R v obs' nx' ∧ e = .returned x ∧ v.is ρ' x ∧ Cls B ρ' obs' nx' w' ∧ Below B w w' ∧ (∀ i y, i < pin → ρ i = some y → ρ' i = some y) ∧ Oth w w') .ret a1 w1 := by
      rintro K hK ⟨ρ1, env1, obs1, nx1, hk, hE1, hC1, hW1⟩
      obtain ⟨Ds, hd, hn, hD⟩ := hW1.m
      show LeavesInM Fence.wide 0 P fn a1.tmps _ a1.defers .returning w1
      rw [hd]
      refine leaves_marks Ds w1 hn hD hC1 hW1.b hW1.o fun w' hC' hb' ho' => ?_
      obtain ⟨v, x, hR, hv, hr⟩ := results_spec (nx := nx1) hT hE1 hC' (hK _ _ _ hk)
      exact ⟨x, hr, ρ1, v, obs1, nx1, x, hR, rfl, hv, hC', hb', hx _ _ _ hW1, ho'⟩
    cases e with
    | normal => exact fin _ (fun _ _ _ q => q) q
    | ret => exact fin _ (fun _ _ _ q => q) q
    | exit i => obtain ⟨ρ1, env1, obs1, nx1, hk, _⟩ := q; exact hk.elim
    | goto l => exact q
    | panic c => exact (show False from q).elim
    | outgrown => exact (show False from q).elim
theorem fn_sound {P : Program} {T : TT} (hT : TTok P T) (hm : P.follows .mixedOrders = true) {f : FuncId} {fn : Func} {c : Code} (hf : P.funcs[f]? = some fn) (hb : fn.body = some c) {sz : Nat} (hs : fn.ntmps = sz) {args : List SV} (hsz : Nat.ble args.length sz = true)
    {obs : Obs} {nx B : Nat} {R : SV → Obs → Nat → Prop} (h : vc P T sz nx c (argEnv 0 args) obs nx (fnK T fn.results.toList R)) {w : World} {ρ : Rho} {xs : Array Value} (hC : Cls B ρ obs nx w) (ha : Svs ρ args xs.toList) :
    Calls P f xs w fun e w' => ∃ ρ' v obs' nx' x, R v obs' nx' ∧ e = .returned x ∧ v.is ρ' x ∧ Cls B ρ' obs' nx' w' ∧ Below B w w' ∧ (∀ i y, ρ i = some y → ρ' i = some y) ∧ Oth w w' :=
  (fn_sound_pin hT hm hf hb hs hsz h hC ha).mono fun e w' ⟨ρ', v, obs', nx', x, hR, he, hv, hC', hb', hx, ho⟩ => ⟨ρ', v, obs', nx', x, hR, he, hv, hC', hb', fun i y hy => (by
    by_cases hi : i < nx
    · exact hx i y hi hy
    · rw [hC.new i (by omega)] at hy; cases hy), ho⟩
/-- a call whose callee is walked in place: it may write the caller's objects -/
theorem NCall.inl {P : Program} {T : TT} (hT : TTok P T) (hm : P.follows .mixedOrders = true) {f : FuncId} {fn : Func} {c : Code} (hf : P.funcs[f]? = some fn) (hb : fn.body = some c) {sz : Nat} (hs : fn.ntmps = sz) {args : List SV}
    (hB : hasBody P f = true) (hsz : Nat.ble args.length sz = true) {obs : Obs} {nx : Nat} {K : SV → Obs → Nat → Prop} (h : vc P T sz nx c (argEnv 0 args) obs nx (fnK T fn.results.toList K)) : NCall P f args obs nx K :=
  ⟨hB, fun B ρ w xs hC ha => (fn_sound hT hm hf hb hs hsz h hC (xs := xs.toArray) (by simpa using ha)).mono fun e w' ⟨ρ', v, obs', nx', x, hR, he, hv, hC', hb, hx, ho⟩ => ⟨v, obs', nx', ρ', x, hR, hx, he, hv, hC', hb, ho⟩⟩

/-! contracts -/
/-- the value that a symbolic value stands for, whatever the objects -/
def FinL1 : List At → List Value → Prop
  | [], [] => True
  | a :: l, x :: r => (match a with
    | .val v => v = x
    | .tf b => Value.bool b = x
    | .prop p => ∃ b, x = .bool b ∧ (p ↔ b = true)
    | _ => False) ∧ FinL1 l r
  | _, _ => False
def Fin1 : SV → Value → Prop
  | .one (.val v), x => v = x
  | .one (.tf b), x => Value.bool b = x
  | .one (.prop p), x => ∃ b, x = .bool b ∧ (p ↔ b = true)
  | .agg l, .agg cs => FinL1 l cs.toList
  | _, _ => False
def FinL : List SV → List Value → Prop
  | [], [] => True
  | a :: l, x :: r => Fin1 a x ∧ FinL l r
  | _, _ => False
def Fin : SV → Value → Prop
  | .tup l, .tuple cs => FinL l cs.toList
  | .tup _, _ => False
  | v, x => Fin1 v x
theorem FinL1.is_ {ρ : Rho} : ∀ {l : List At} {xs ys : List Value}, FinL1 l xs → Ats ρ l ys → ys = xs
  | [], [], _, _, h => h
  | [], _ :: _, _, h, _ => h.elim
  | _ :: _, [], _, h, _ => h.elim
  | a :: l, x :: r, _, ⟨h1, h2⟩, ⟨y, s, hy, ha, hr⟩ => by
    rw [hy, FinL1.is_ h2 hr]
    congr 1
    cases a with
    | val v => exact Eq.trans ha h1
    | tf b => exact Eq.trans ha h1
    | prop p =>
      obtain ⟨b, rfl, hb⟩ := h1
      obtain ⟨c, rfl, hc⟩ := ha
      congr 1
      rw [Bool.eq_iff_iff, hc, hb]
    | _ => exact h1.elim
theorem Fin1.is_ {ρ : Rho} {v : SV} {x y : Value} (h : Fin1 v x) (k : v.is1 ρ y) : y = x := by
  cases v with
  | one a =>
    cases a with
    | val v => exact Eq.trans k h
    | tf b => exact Eq.trans k h
    | prop p =>
      obtain ⟨b, rfl, hb⟩ := h
      obtain ⟨c, rfl, hc⟩ := k
      congr 1
      rw [Bool.eq_iff_iff, hc, hb]
    | _ => exact (show False from h).elim
  | agg l =>
    cases x <;> try exact (show False from h).elim
    obtain ⟨cs, hcs, rfl⟩ := k
    rw [FinL1.is_ h hcs]
  | tup l => exact k.elim
theorem FinL.is_ {ρ : Rho} : ∀ {l : List SV} {xs ys : List Value}, FinL l xs → Svs ρ l ys → ys = xs
  | [], [], _, _, h => h
  | [], _ :: _, _, h, _ => h.elim
  | _ :: _, [], _, h, _ => h.elim
  | a :: l, x :: r, _, ⟨h1, h2⟩, ⟨y, s, hy, ha, hr⟩ => by rw [hy, FinL.is_ h2 hr, Fin1.is_ h1 ha]
theorem Fin.is_ {ρ : Rho} {v : SV} {x y : Value} (h : Fin v x) (k : v.is ρ y) : y = x := by
  cases v with
  | one a => exact Fin1.is_ (v := .one a) h k
  | agg l => exact Fin1.is_ (v := .agg l) h k
  | tup l =>
    cases x <;> try exact (show False from h).elim
    obtain ⟨cs, hcs, rfl⟩ := k
    rw [FinL.is_ h hcs]
def ofV1 : Value → SV
  | .agg cs => .agg (vals cs.toList)
  | v => .one (.val v)
def ofV : Value → SV
  | .tuple vs => .tup (vs.toList.map ofV1)
  | .agg cs => .agg (vals cs.toList)
  | v => .one (.val v)
theorem ofV1_is (ρ : Rho) (x : Value) : (ofV1 x).is1 ρ x := by
  cases x with
  | agg cs => exact ⟨cs.toList, Ats.vals ρ _, rfl⟩
  | _ => exact rfl
theorem ofV1s_is (ρ : Rho) : ∀ (xs : List Value), Svs ρ (xs.map ofV1) xs
  | [] => rfl
  | x :: r => ⟨x, r, rfl, ofV1_is ρ x, ofV1s_is ρ r⟩
theorem ofV_is (ρ : Rho) (x : Value) : (ofV x).is ρ x := by
  cases x with
  | agg cs => exact ⟨cs.toList, Ats.vals ρ _, rfl⟩
  | tuple vs => exact ⟨vs.toList, ofV1s_is ρ _, rfl⟩
  | _ => exact rfl
/-- readable objects that come with the arguments -/
def Ro (ρ : Rho) (w : World) (v : Value) : Ob → Prop
  | .arr s n get => ArrIs w v s n get
  | .cel l => ∃ cs, Ats ρ l cs ∧ CelIs w v cs
  | .tab g l => v = .pointer (some ⟨g, 0, none⟩) ∧ TabIs w g l
  | _ => False
def obsOf : Nat → List Ob → Obs
  | _, [] => []
  | i, o :: r => (i, o) :: obsOf (i + 1) r
theorem obsOf_get : ∀ {l : List Ob} {i t : Nat} {o : Ob}, fnd (obsOf i l) t = some o → i ≤ t ∧ l[t - i]? = some o
  | [], _, _, _, h => by cases h
  | u :: l, i, t, o, h => by
    rcases fnd_cons h with ⟨rfl, rfl⟩ | ⟨hn, h⟩
    · exact ⟨Nat.le_refl _, by simp⟩
    · obtain ⟨hle, hy⟩ := obsOf_get h
      refine ⟨by omega, ?_⟩
      rw [show t - i = (t - (i + 1)) + 1 by omega]
      simpa using hy
theorem Cls.start {w : World} {ρ : Rho} {os : List Ob} (h : ∀ (i : Nat) o, os[i]? = some o → ∃ v, ρ i = some v ∧ Ro ρ w v o) (hn : ∀ i, os.length ≤ i → ρ i = none) : Cls w.heap.size ρ (obsOf 0 os) os.length w := by
  refine ⟨Nat.le_refl _, fun i o ho => ?_, fun i j o o' b h1 h2 hne hm => ?_, hn⟩
  · obtain ⟨_, e⟩ := obsOf_get ho
    obtain ⟨v, hv, hr⟩ := h i o (by simpa using e)
    cases o <;> first | exact ⟨v, hv, hr⟩ | exact ⟨by rw [hv, hr.1], hr.2⟩ | exact (let ⟨cs, hl, hc⟩ := hr; ⟨v, cs, hv, hl, hc⟩) | exact hr.elim
  · obtain ⟨_, e⟩ := obsOf_get h1
    obtain ⟨v, hv, hr⟩ := h i o (by simpa using e)
    cases o <;> first | exact hr.elim | cases hm
theorem Ro.cut {n : Nat} {ρ : Rho} {w : World} {v : Value} {o : Ob} (hb : obB n o = true) (h : Ro ρ w v o) : Ro (V.cut n ρ) w v o := by
  cases o <;> first | exact h | exact (let ⟨cs, hl, hc⟩ := h; ⟨cs, hl.cut hb, hc⟩)
/-- A CONTRACT: the function f, handed the arguments args (over the objects os, that it only reads), answers x and leaves alone whatever was there. -/
structure Fn (P : Program) (f : FuncId) (os : List Ob) (args : List SV) (x : Value) : Prop where
  b : hasBody P f = true
  c : ∀ w ρ xs, (∀ (i : Nat) o, os[i]? = some o → ∃ v, ρ i = some v ∧ Ro ρ w v o) → Svs ρ args xs → Calls P f xs.toArray w fun e w' => e = .returned x ∧ Below w.heap.size w w'
def argB (nx : Nat) (l : List SV) : Bool := l.all (svB nx)
theorem Svs.cut {nx : Nat} {ρ : Rho} : ∀ {l : List SV} {xs : List Value}, argB nx l = true → Svs ρ l xs → Svs (V.cut nx ρ) l xs
  | [], _, _, h => h
  | v :: l, _, hb, ⟨x, r, hx, hv, hr⟩ => by
    simp only [argB, List.all_cons, Bool.and_eq_true] at hb
    refine ⟨x, r, hx, ?_, Svs.cut (l := l) hb.2 hr⟩
    cases v with
    | one a => exact At.is_cut (a := a) hb.1 hv
    | agg c => obtain ⟨cs, hc, e⟩ := hv; exact ⟨cs, hc.cut hb.1, e⟩
    | tup l => exact hv.elim
theorem Fn.mk_ {P : Program} {T : TT} (hT : TTok P T) (hm : P.follows .mixedOrders = true) {f : FuncId} {fn : Func} {c : Code} (hf : P.funcs[f]? = some fn) (hb : fn.body = some c) {sz : Nat} (hs : fn.ntmps = sz) {os : List Ob} {args : List SV} {x : Value}
    (hB : hasBody P f = true) (hsz : Nat.ble args.length sz = true) (hab : (argB os.length args && os.all (obB os.length)) = true) (h : vc P T sz os.length c (argEnv 0 args) (obsOf 0 os) os.length (fnK T fn.results.toList fun v _ _ => Fin v x)) : Fn P f os args x :=
  ⟨hB, fun w ρ xs hr ha => by
    have hr' : ∀ (i : Nat) o, os[i]? = some o → ∃ v, V.cut os.length ρ i = some v ∧ Ro (V.cut os.length ρ) w v o := fun i o ho => by
      obtain ⟨v, e, q⟩ := hr i o ho
      exact ⟨v, by rw [cut_lt (List.getElem?_eq_some_iff.1 ho).1]; exact e, q.cut (List.all_eq_true.1 ((Bool.and_eq_true _ _).mp hab).2 o (List.mem_of_getElem? ho))⟩
    refine (fn_sound hT hm hf hb hs hsz h (Cls.start hr' (fun i hi => if_neg (by omega))) (xs := xs.toArray) (by simpa using ha.cut ((Bool.and_eq_true _ _).mp hab).1)).mono ?_
    rintro e w' ⟨ρ', v, obs', nx', y, hR, he, hv, _, hw, _, _⟩
    rw [hR.is_ hv] at he
    exact ⟨he, hw⟩⟩
/-- a contract in plain words, where no objects are handed -/
theorem Fn.calls {P : Program} {f : FuncId} {xs : List Value} {x : Value} (h : Fn P f [] (xs.map ofV1) x) (w : World) : Calls P f xs.toArray w fun e w' => e = .returned x ∧ Below w.heap.size w w' :=
  h.c w (fun _ => none) xs (fun i o ho => by simp at ho) (ofV1s_is _ _)
theorem Fn.of_calls {P : Program} {f : FuncId} {args : List SV} {xs : List Value} {x : Value} (hb : hasBody P f = true) (ha : FinL args xs) (h : ∀ w, Calls P f xs.toArray w fun e w' => e = .returned x ∧ Below w.heap.size w w') : Fn P f [] args x :=
  ⟨hb, fun w ρ ys _ hy => by rw [ha.is_ hy]; exact h w⟩

/-! at a call -/
def sg (l : List Nat) (i : Nat) : Nat := l.getD i 0
/-- the rows of a slice that is written out, as a list has them -/
def LitTo (get : Nat → List Value) : Nat → List (List At) → Prop
  | _, [] => True
  | k, r :: rs => FinL1 r (get k) ∧ LitTo get (k + 1) rs
theorem LitTo.get {get : Nat → List Value} : ∀ {rows : List (List At)} {i k : Nat} {r : List At}, LitTo get i rows → rows[k]? = some r → FinL1 r (get (i + k))
  | [], _, _, _, _, h => by simp at h
  | q :: rows, i, 0, r, hl, h => by
    have e : q = r := by simpa using h
    subst e; exact hl.1
  | q :: rows, i, k + 1, r, hl, h => by
    have := LitTo.get (k := k) hl.2 (by simpa using h)
    rw [show i + (k + 1) = i + 1 + k by omega]; exact this
/-- the callee's objects, as the caller has them -/
def ObTo (σ : Nat → Nat) : Ob → Ob → Prop
  | .arr s n get, .arr s' n' get' => s = s' ∧ n = n' ∧ ∀ k, k < n → get k = get' k
  | .row _ s n get, .arr s' n' get' => s = s' ∧ n = n' ∧ ∀ k, k < n → get k = get' k
  | .lit _ s rows, .arr s' n' get' => s = s' ∧ rows.length = n' ∧ LitTo get' 0 rows
  | .cel l, .cel l' => SameAs σ l' l
  | .box _ l, .cel l' => SameAs σ l' l
  | .tab g l, .tab g' l' => g = g' ∧ l = l'
  | _, _ => False
def ObsTo (σ : Nat → Nat) (obs : Obs) : Nat → List Ob → Prop
  | _, [] => True
  | i, o :: r => fndK obs (σ i) (fun u => ObTo σ u o) ∧ ObsTo σ obs (i + 1) r
theorem SameS.is_ {σ : Nat → Nat} {ρ : Rho} : ∀ {l m : List SV} {x : List Value}, SameS σ l m → Svs ρ m x → Svs (fun i => ρ (σ i)) l x
  | [], [], _, _, h => h
  | [], _ :: _, _, h, _ => h.elim
  | .one a :: l, .one b :: m, _, ⟨h1, h2⟩, ⟨u, r, hx, hu, hr⟩ => ⟨u, r, hx, SameA.is_ (b := b) h1 hu, h2.is_ hr⟩
  | .agg c :: l, .agg d :: m, _, ⟨h1, h2⟩, ⟨u, r, hx, ⟨cs, hc, e⟩, hr⟩ => ⟨u, r, hx, ⟨cs, h1.is_ hc, e⟩, h2.is_ hr⟩
  | .one _ :: _, [], _, h, _ => h.elim
  | .one _ :: _, .agg _ :: _, _, h, _ => h.elim
  | .one _ :: _, .tup _ :: _, _, h, _ => h.elim
  | .agg _ :: _, [], _, h, _ => h.elim
  | .agg _ :: _, .one _ :: _, _, h, _ => h.elim
  | .agg _ :: _, .tup _ :: _, _, h, _ => h.elim
  | .tup _ :: _, _, _, h, _ => (by simp [SameS] at h)
theorem ObTo.ro {σ : Nat → Nat} {B : Nat} {ρ : Rho} {w : World} {i : Nat} {u o : Ob} (h : ObTo σ u o) (hs : Sat B ρ w i u) : ∃ v, ρ i = some v ∧ Ro (fun i => ρ (σ i)) w v o := by
  cases u with
  | arr s n get =>
    cases o with
    | arr s' n' get' =>
      obtain ⟨rfl, rfl, hg⟩ := h
      obtain ⟨v, e, A, c, ev, hn, hc, hh⟩ := hs
      refine ⟨v, e, A, c, ev, hn, hc, fun k hk => ?_⟩
      rw [← hg k hk]; exact hh k hk
    | _ => exact (show False from h).elim
  | row t s n get =>
    cases o with
    | arr s' n' get' =>
      obtain ⟨rfl, rfl, hg⟩ := h
      obtain ⟨v, e, hr⟩ := hs
      exact ⟨v, e, (hr.congr fun k hk => (hg k hk).symm).arr⟩
    | _ => exact (show False from h).elim
  | lit t s rows =>
    cases o with
    | arr s' n' get' =>
      obtain ⟨rfl, rfl, hg⟩ := h
      obtain ⟨b, cs, e, hB, hrs, hn, hl, hh⟩ := hs
      refine ⟨_, e, _, _, rfl, hn, Nat.le_refl _, fun k hk => ?_⟩
      have hr : rows[k]? = some (rows[k]'hk) := List.getElem?_eq_getElem hk
      have e1 := FinL1.is_ (hg.get hr) (lit_at hrs hl hr)
      rw [Nat.zero_add] at e1
      have hlen : (get' k).length = s := by
        rw [← e1]
        have := (lit_at hrs hl hr).length
        rw [this]; exact hrs _ (List.getElem_mem _)
      refine ⟨_, rfl, (Array.getElem?_eq_some_iff.1 hh).1, hlen, fun j u hu => ?_⟩
      rw [show (⟨b, 0, none⟩ : Addr).add (k * s + j) = ⟨b, k * s + j, none⟩ by unfold Addr.add; split <;> simp_all, cell_of_row w b _ cs.toArray t (0, 0) hh]
      rw [← e1, List.getElem?_take] at hu
      split at hu
      · rw [List.getElem?_drop] at hu
        simpa using hu
      · cases hu
    | _ => exact (show False from h).elim
  | cel l =>
    cases o with
    | cel l' =>
      obtain ⟨v, cs, e, hl, q⟩ := hs
      exact ⟨v, e, cs, SameAs.is_ h hl, q⟩
    | _ => exact (show False from h).elim
  | box t l =>
    cases o with
    | cel l' =>
      obtain ⟨b, cs, e, hB, hl, hh⟩ := hs
      refine ⟨_, e, cs, SameAs.is_ h hl, ⟨b, 0, none⟩, rfl, (Array.getElem?_eq_some_iff.1 hh).1, fun j u hu => ?_⟩
      rw [show (⟨b, 0, none⟩ : Addr).add j = ⟨b, j, none⟩ by unfold Addr.add; split <;> simp_all, cell_of_row w b j cs.toArray t (0, 0) hh]
      simpa using hu
    | _ => exact (show False from h).elim
  | gone => cases o <;> exact (show False from h).elim
  | lp _ _ _ => cases o <;> exact (show False from h).elim
  | tab g l =>
    cases o with
    | tab g' l' =>
      obtain ⟨rfl, rfl⟩ := h
      exact ⟨_, hs.1, rfl, hs.2⟩
    | _ => exact (show False from h).elim
theorem ObsTo.ro {B nx : Nat} {ρ : Rho} {w : World} {obs : Obs} {σ : Nat → Nat} (hC : Cls B ρ obs nx w) : ∀ {os : List Ob} {n : Nat}, ObsTo σ obs n os → ∀ (i : Nat) o, os[i]? = some o → ∃ v, ρ (σ (n + i)) = some v ∧ Ro (fun i => ρ (σ i)) w v o
  | [], _, _, _, _, h => by simp at h
  | q :: os, n, ⟨h1, h2⟩, i, o, ho => by
    cases i with
    | zero =>
      have e : q = o := by simpa using ho
      subst e
      obtain ⟨u, hu, hq⟩ := fndK_spec h1
      exact hq.ro (hC.sat _ u hu)
    | succ i =>
      have := ObsTo.ro hC h2 i o (by simpa using ho)
      rw [show n + (i + 1) = n + 1 + i by omega]
      exact this
/-- a contract, at a call -/
theorem Fn.use {P : Program} {f : FuncId} {os : List Ob} {args args' : List SV} {x : Value} (h : Fn P f os args x) (σ : List Nat) {obs : Obs} {nx : Nat} {K : SV → Prop} (ha : SameS (sg σ) args args') (ho : ObsTo (sg σ) obs 0 os) (hK : K (ofV x)) : NCallQ P f args' obs nx K :=
  ⟨h.b, ofV x, hK, fun B ρ w xs hC hs => (h.c w (fun i => ρ (sg σ i)) xs (fun i o hi => by have := ObsTo.ro hC ho i o hi; simpa using this) (ha.is_ hs)).mono fun e w' ⟨he, hw⟩ => ⟨x, he, ofV_is ρ x, hw⟩⟩
theorem NCallA.to {P : Program} {f : FuncId} {args : List SV} {obs : Obs} {nx : Nat} {K : SV → Obs → Nat → Prop} (h : NCallA P f args obs nx K) : NCall P f args obs nx K :=
  ⟨h.b, fun B ρ w xs hC hs => (h.h B ρ w xs hC hs).mono fun e w' ⟨v, obs', nx', ρ', x, hK, hx, he, hv, hC', hb⟩ => ⟨v, obs', nx', ρ', x, hK, hx, he, hv, hC', hb.mono hC.le, oth_of hb⟩⟩
theorem NCallQ.toA {P : Program} {f : FuncId} {args : List SV} {obs : Obs} {nx : Nat} {K : SV → Obs → Nat → Prop} (h : NCallQ P f args obs nx fun v => K v obs nx) : NCallA P f args obs nx K :=
  ⟨h.b, let ⟨v, hK, hc⟩ := h.h; fun B ρ w xs hC hs => (hc B ρ w xs hC hs).mono fun e w' ⟨x, he, hv, hb⟩ => ⟨v, obs, nx, ρ, x, hK, fun _ _ q => q, he, hv, hC.below hb, hb⟩⟩
theorem NCallQ.to {P : Program} {f : FuncId} {args : List SV} {obs : Obs} {nx : Nat} {K : SV → Obs → Nat → Prop} (h : NCallQ P f args obs nx fun v => K v obs nx) : NCall P f args obs nx K :=
  ⟨h.b, let ⟨v, hK, hc⟩ := h.h; fun B ρ w xs hC hs => (hc B ρ w xs hC hs).mono fun e w' ⟨x, he, hv, hb⟩ => ⟨v, obs, nx, ρ, x, hK, fun _ _ q => q, he, hv, hC.below hb, hb.mono hC.le, oth_of hb⟩⟩
theorem Fn.go {P : Program} {f : FuncId} {os : List Ob} {args args' : List SV} {x : Value} (h : Fn P f os args x) (σ : List Nat) {obs : Obs} {nx : Nat} {K : SV → Obs → Nat → Prop} (ha : SameS (sg σ) args args') (ho : ObsTo (sg σ) obs 0 os) (hK : K (ofV x) obs nx) : NCall P f args' obs nx K :=
  NCallQ.to (h.use σ ha ho hK)
/-- where nothing is handed but values -/
theorem Fn.use0 {P : Program} {f : FuncId} {args args' : List SV} {x : Value} (h : Fn P f [] args x) {obs : Obs} {nx : Nat} {K : SV → Prop} (ha : SameS (sg []) args args') (hK : K (ofV x)) : NCallQ P f args' obs nx K := h.use [] ha trivial hK
theorem Fn.go0 {P : Program} {f : FuncId} {args args' : List SV} {x : Value} (h : Fn P f [] args x) {obs : Obs} {nx : Nat} {K : SV → Obs → Nat → Prop} (ha : SameS (sg []) args args') (hK : K (ofV x) obs nx) : NCall P f args' obs nx K := h.go [] ha trivial hK

def plainS : List SV → Bool
  | [] => true
  | .tup _ :: _ => false
  | _ :: r => plainS r
theorem SameS.ren (σ : Nat → Nat) : ∀ l : List SV, plainS l = true → SameS σ l (l.map (renS σ))
  | [], _ => trivial
  | .one a :: l, h => ⟨SameA.ren σ a, SameS.ren σ l h⟩
  | .agg c :: l, h => ⟨SameAs.ren σ c, SameS.ren σ l h⟩
  | .tup _ :: _, h => by cases h
/-- a contract at a call, by the arguments themselves -/
theorem Fn.k {P : Program} {f : FuncId} {os : List Ob} {args : List SV} {x : Value} (h : Fn P f os args x) (σ : List Nat) (hp : plainS args = true) {obs : Obs} {nx : Nat} {K : SV → Obs → Nat → Prop} (ho : ObsTo (sg σ) obs 0 os) (hK : K (ofV x) obs nx) : NCall P f (args.map (renS (sg σ))) obs nx K :=
  h.go σ (SameS.ren _ _ hp) ho hK
theorem Fn.q {P : Program} {f : FuncId} {os : List Ob} {args : List SV} {x : Value} (h : Fn P f os args x) (σ : List Nat) (hp : plainS args = true) {obs : Obs} {nx : Nat} {K : SV → Prop} (ho : ObsTo (sg σ) obs 0 os) (hK : K (ofV x)) : NCallQ P f (args.map (renS (sg σ))) obs nx K :=
  h.use σ (SameS.ren _ _ hp) ho hK
theorem SameA.self {a : At} (h : atB 0 a = true) : SameA (sg []) a a := by
  cases a with
  | val v => exact rfl
  | tf b => exact rfl
  | prop p => exact Iff.rfl
  | ptr i k j s => simp [atB, Nat.blt] at h
  | ref i => simp [atB, Nat.blt] at h
  | clo f l =>
    cases l with
    | nil => exact ⟨rfl, rfl⟩
    | cons i l => simp [atB, Nat.blt] at h
theorem SameAs.self : ∀ {l : List At}, l.all (atB 0) = true → SameAs (sg []) l l
  | [], _ => trivial
  | a :: l, h => by
    simp only [List.all_cons, Bool.and_eq_true] at h
    exact ⟨SameA.self h.1, SameAs.self h.2⟩
def plain0 : List SV → Bool
  | [] => true
  | .one a :: r => atB 0 a && plain0 r
  | .agg c :: r => c.all (atB 0) && plain0 r
  | .tup _ :: _ => false
theorem SameS.self : ∀ {l : List SV}, plain0 l = true → SameS (sg []) l l
  | [], _ => trivial
  | .one a :: l, h => by
    simp only [plain0, Bool.and_eq_true] at h
    exact ⟨SameA.self h.1, SameS.self h.2⟩
  | .agg c :: l, h => by
    simp only [plain0, Bool.and_eq_true] at h
    exact ⟨SameAs.self h.1, SameS.self h.2⟩
  | .tup _ :: _, h => by cases h
theorem Fn.a {P : Program} {f : FuncId} {os : List Ob} {args : List SV} {x : Value} (h : Fn P f os args x) (σ : List Nat) (hp : plainS args = true) {obs : Obs} {nx : Nat} {K : SV → Obs → Nat → Prop} (ho : ObsTo (sg σ) obs 0 os) (hK : K (ofV x) obs nx) : NCallA P f (args.map (renS (sg σ))) obs nx K :=
  NCallQ.toA (h.use σ (SameS.ren _ _ hp) ho hK)
theorem Fn.a0 {P : Program} {f : FuncId} {args : List SV} {x : Value} (h : Fn P f [] args x) (hp : plain0 args = true) {obs : Obs} {nx : Nat} {K : SV → Obs → Nat → Prop} (hK : K (ofV x) obs nx) : NCallA P f args obs nx K := NCallQ.toA (h.use [] (SameS.self hp) trivial hK)
theorem Fn.k0 {P : Program} {f : FuncId} {args : List SV} {x : Value} (h : Fn P f [] args x) (hp : plain0 args = true) {obs : Obs} {nx : Nat} {K : SV → Obs → Nat → Prop} (hK : K (ofV x) obs nx) : NCall P f args obs nx K := h.go [] (SameS.self hp) trivial hK
theorem Fn.q0 {P : Program} {f : FuncId} {args : List SV} {x : Value} (h : Fn P f [] args x) (hp : plain0 args = true) {obs : Obs} {nx : Nat} {K : SV → Prop} (hK : K (ofV x)) : NCallQ P f args obs nx K := h.use [] (SameS.self hp) trivial hK

/-! how the questions are answered -/
theorem NWrap.ok {e : Int} {K : Int → Prop} (h1 : -9223372036854775808 ≤ e) (h2 : e ≤ 9223372036854775807) (hK : K e) : NWrap .i64 e K :=
  ⟨by rw [IntWalk.i64_in e ⟨h1, h2⟩]; exact hK⟩
end Go.Proofs.Yteblbhbfdfifpaa.V

/- The types of the program, as the walk by verification conditions needs them. -/
namespace Go.Proofs.Yteblbhbfdfifpaa.V
open Go
def T : TT := [
  (3, ⟨.int .i64, 1, 8, [.int .i64 0], false⟩),
  (4, ⟨.bool, 1, 1, [.bool false], false⟩),
  (25, ⟨.int .i64, 1, 8, [.int .i64 0], false⟩),
  (23, ⟨.st [(0, 1, 1), (1, 1, 1), (2, 1, 1), (3, 1, 1)], 4, 32, [.int .i64 0, .int .i64 0, .int .i64 0, .int .i64 0], true⟩),
  (48, ⟨.st [(0, 1, 1), (1, 1, 1), (2, 1, 1), (3, 1, 1), (4, 1, 1), (5, 1, 1), (6, 1, 1), (7, 1, 1), (8, 1, 1), (9, 1, 1)], 10, 80, [.int .i64 0, .int .i64 0, .int .i64 0, .int .i64 0, .int .i64 0, .int .i64 0, .int .i64 0, .int .i64 0, .int .i64 0, .int .i64 0], true⟩),
  (54, ⟨.st [(0, 1, 1), (1, 1, 1), (2, 1, 1)], 3, 24, [.int .i64 0, .int .i64 0, .int .i64 0], true⟩),
  (56, ⟨.st [(0, 1, 1), (1, 1, 1), (2, 1, 1)], 3, 24, [.int .i64 0, .int .i64 0, .int .i64 0], true⟩),
  (58, ⟨.st [(0, 4, 2)], 4, 32, [.int .i64 0, .int .i64 0, .int .i64 0, .int .i64 0], false⟩),
  (102, ⟨.st [(0, 1, 1), (1, 1, 1)], 2, 16, [.int .i64 0, .int .i64 0], true⟩),
  (24, ⟨.sl 48, 1, 24, [.slice none 0 0], false⟩),
  (30, ⟨.sl 54, 1, 24, [.slice none 0 0], false⟩),
  (31, ⟨.sl 56, 1, 24, [.slice none 0 0], false⟩),
  (85, ⟨.sl 3, 1, 24, [.slice none 0 0], false⟩),
  (117, ⟨.sl 31, 1, 24, [.slice none 0 0], false⟩),
  (1, ⟨.fn, 1, 8, [.nilFunc], false⟩),
  (2, ⟨.int .i64, 1, 8, [.int .i64 0], false⟩),
  (5, ⟨.int .u8, 1, 1, [.int .u8 0], false⟩),
  (9, ⟨.str, 1, 16, [.string ⟨#[]⟩], false⟩),
  (12, ⟨.int .u64, 1, 8, [.int .u64 0], false⟩),
  (20, ⟨.cl, 1, 16, [.nilIface], false⟩),
  (21, ⟨.int .i32, 1, 4, [.int .i32 0], false⟩),
  (22, ⟨.st [(0, 1, 1), (1, 1, 1), (2, 1, 1), (3, 1, 1)], 4, 32, [.int .i64 0, .int .i64 0, .int .i64 0, .int .i64 0], true⟩),
  (27, ⟨.fn, 1, 8, [.nilFunc], false⟩),
  (29, ⟨.fn, 1, 8, [.nilFunc], false⟩),
  (33, ⟨.fn, 1, 8, [.nilFunc], false⟩),
  (35, ⟨.fn, 1, 8, [.nilFunc], false⟩),
  (36, ⟨.fn, 1, 8, [.nilFunc], false⟩),
  (37, ⟨.fn, 1, 8, [.nilFunc], false⟩),
  (39, ⟨.fn, 1, 8, [.nilFunc], false⟩),
  (40, ⟨.fn, 1, 8, [.nilFunc], false⟩),
  (41, ⟨.fn, 1, 8, [.nilFunc], false⟩),
  (42, ⟨.fn, 1, 8, [.nilFunc], false⟩),
  (43, ⟨.fn, 1, 8, [.nilFunc], false⟩),
  (44, ⟨.fn, 1, 8, [.nilFunc], false⟩),
  (45, ⟨.fn, 1, 8, [.nilFunc], false⟩),
  (46, ⟨.fn, 1, 8, [.nilFunc], false⟩),
  (47, ⟨.st [(0, 1, 1), (1, 1, 1), (2, 1, 1), (3, 1, 1), (4, 1, 1), (5, 1, 1), (6, 1, 1), (7, 1, 1), (8, 1, 1), (9, 1, 1)], 10, 80, [.int .i64 0, .int .i64 0, .int .i64 0, .int .i64 0, .int .i64 0, .int .i64 0, .int .i64 0, .int .i64 0, .int .i64 0, .int .i64 0], true⟩),
  (49, ⟨.fn, 1, 8, [.nilFunc], false⟩),
  (50, ⟨.fn, 1, 8, [.nilFunc], false⟩),
  (51, ⟨.fn, 1, 8, [.nilFunc], false⟩),
  (52, ⟨.fn, 1, 8, [.nilFunc], false⟩),
  (53, ⟨.st [(0, 1, 1), (1, 1, 1), (2, 1, 1)], 3, 24, [.int .i64 0, .int .i64 0, .int .i64 0], true⟩),
  (55, ⟨.st [(0, 1, 1), (1, 1, 1), (2, 1, 1)], 3, 24, [.int .i64 0, .int .i64 0, .int .i64 0], true⟩),
  (57, ⟨.st [(0, 4, 2)], 4, 32, [.int .i64 0, .int .i64 0, .int .i64 0, .int .i64 0], false⟩),
  (59, ⟨.fn, 1, 8, [.nilFunc], false⟩),
  (60, ⟨.fn, 1, 8, [.nilFunc], false⟩),
  (61, ⟨.fn, 1, 8, [.nilFunc], false⟩),
  (62, ⟨.fn, 1, 8, [.nilFunc], false⟩),
  (63, ⟨.fn, 1, 8, [.nilFunc], false⟩),
  (64, ⟨.fn, 1, 8, [.nilFunc], false⟩),
  (65, ⟨.fn, 1, 8, [.nilFunc], false⟩),
  (66, ⟨.fn, 1, 8, [.nilFunc], false⟩),
  (67, ⟨.fn, 1, 8, [.nilFunc], false⟩),
  (68, ⟨.fn, 1, 8, [.nilFunc], false⟩),
  (69, ⟨.fn, 1, 8, [.nilFunc], false⟩),
  (70, ⟨.fn, 1, 8, [.nilFunc], false⟩),
  (71, ⟨.fn, 1, 8, [.nilFunc], false⟩),
  (73, ⟨.fn, 1, 8, [.nilFunc], false⟩),
  (75, ⟨.fn, 1, 8, [.nilFunc], false⟩),
  (76, ⟨.fn, 1, 8, [.nilFunc], false⟩),
  (77, ⟨.fn, 1, 8, [.nilFunc], false⟩),
  (78, ⟨.cl, 1, 8, [.map none], false⟩),
  (79, ⟨.st [], 0, 0, [], true⟩),
  (82, ⟨.fn, 1, 8, [.nilFunc], false⟩),
  (83, ⟨.fn, 1, 8, [.nilFunc], false⟩),
  (84, ⟨.fn, 1, 8, [.nilFunc], false⟩),
  (87, ⟨.fn, 1, 8, [.nilFunc], false⟩),
  (88, ⟨.fn, 1, 8, [.nilFunc], false⟩),
  (89, ⟨.fn, 1, 8, [.nilFunc], false⟩),
  (90, ⟨.fn, 1, 8, [.nilFunc], false⟩),
  (91, ⟨.fn, 1, 8, [.nilFunc], false⟩),
  (92, ⟨.fn, 1, 8, [.nilFunc], false⟩),
  (93, ⟨.fn, 1, 8, [.nilFunc], false⟩),
  (94, ⟨.fn, 1, 8, [.nilFunc], false⟩),
  (95, ⟨.fn, 1, 8, [.nilFunc], false⟩),
  (97, ⟨.fn, 1, 8, [.nilFunc], false⟩),
  (98, ⟨.fn, 1, 8, [.nilFunc], false⟩),
  (99, ⟨.fn, 1, 8, [.nilFunc], false⟩),
  (100, ⟨.fn, 1, 8, [.nilFunc], false⟩),
  (101, ⟨.st [(0, 1, 1), (1, 1, 1)], 2, 16, [.int .i64 0, .int .i64 0], true⟩),
  (103, ⟨.arr 21 102, 42, 336, [.int .i64 0, .int .i64 0, .int .i64 0, .int .i64 0, .int .i64 0, .int .i64 0, .int .i64 0, .int .i64 0, .int .i64 0, .int .i64 0, .int .i64 0, .int .i64 0, .int .i64 0, .int .i64 0, .int .i64 0, .int .i64 0, .int .i64 0, .int .i64 0, .int .i64 0, .int .i64 0, .int .i64 0, .int .i64 0, .int .i64 0, .int .i64 0, .int .i64 0, .int .i64 0, .int .i64 0, .int .i64 0, .int .i64 0, .int .i64 0, .int .i64 0, .int .i64 0, .int .i64 0, .int .i64 0, .int .i64 0, .int .i64 0, .int .i64 0, .int .i64 0, .int .i64 0, .int .i64 0, .int .i64 0, .int .i64 0], false⟩),
  (104, ⟨.fn, 1, 8, [.nilFunc], false⟩),
  (105, ⟨.fn, 1, 8, [.nilFunc], false⟩),
  (106, ⟨.fn, 1, 8, [.nilFunc], false⟩),
  (107, ⟨.fn, 1, 8, [.nilFunc], false⟩),
  (108, ⟨.fn, 1, 8, [.nilFunc], false⟩),
  (109, ⟨.fn, 1, 8, [.nilFunc], false⟩),
  (110, ⟨.int .u64, 1, 8, [.int .u64 0], false⟩),
  (111, ⟨.fn, 1, 8, [.nilFunc], false⟩),
  (112, ⟨.fn, 1, 8, [.nilFunc], false⟩),
  (113, ⟨.ptr 102, 1, 8, [.pointer none], false⟩),
  (114, ⟨.fn, 1, 8, [.nilFunc], false⟩),
  (116, ⟨.fn, 1, 8, [.nilFunc], false⟩),
  (118, ⟨.fn, 1, 8, [.nilFunc], false⟩),
  (119, ⟨.fn, 1, 8, [.nilFunc], false⟩),
  (120, ⟨.fn, 1, 8, [.nilFunc], false⟩),
  (121, ⟨.int .u64, 1, 8, [.int .u64 0], false⟩),
  (123, ⟨.fn, 1, 8, [.nilFunc], false⟩),
  (124, ⟨.fn, 1, 8, [.nilFunc], false⟩),
  (125, ⟨.fn, 1, 8, [.nilFunc], false⟩),
  (127, ⟨.fn, 1, 8, [.nilFunc], false⟩),
  (128, ⟨.fn, 1, 8, [.nilFunc], false⟩),
  (129, ⟨.cl, 1, 16, [.nilIface], false⟩),
  (130, ⟨.cl, 1, 16, [.nilIface], false⟩),
  (131, ⟨.fn, 1, 8, [.nilFunc], false⟩),
  (132, ⟨.ptr 150, 1, 8, [.pointer none], false⟩),
  (133, ⟨.fn, 1, 8, [.nilFunc], false⟩),
  (139, ⟨.fn, 1, 8, [.nilFunc], false⟩),
  (140, ⟨.int .u32, 1, 4, [.int .u32 0], false⟩),
  (143, ⟨.fn, 1, 8, [.nilFunc], false⟩),
  (144, ⟨.ptr 5, 1, 8, [.pointer none], false⟩),
  (149, ⟨.st [(0, 1, 1)], 1, 16, [.string ⟨#[]⟩], false⟩),
  (150, ⟨.st [(0, 1, 1)], 1, 16, [.string ⟨#[]⟩], false⟩)]
set_option maxRecDepth 100000
theorem Tok : TTok Try.prog T :=
  ⟨by kernel_rfl, by kernel_rfl, by kernel_rfl, by kernel_rfl, by kernel_rfl, by kernel_rfl, by kernel_rfl, by kernel_rfl, by kernel_rfl, by kernel_rfl, by kernel_rfl, by kernel_rfl, by kernel_rfl, by kernel_rfl, by kernel_rfl, by kernel_rfl, by kernel_rfl, by kernel_rfl, by kernel_rfl, by kernel_rfl, by kernel_rfl, by kernel_rfl, by kernel_rfl, by kernel_rfl, by kernel_rfl, by kernel_rfl, by kernel_rfl, by kernel_rfl, by kernel_rfl, by kernel_rfl, by kernel_rfl, by kernel_rfl, by kernel_rfl, by kernel_rfl, by kernel_rfl, by kernel_rfl, by kernel_rfl, by kernel_rfl, by kernel_rfl, by kernel_rfl, by kernel_rfl, by kernel_rfl, by kernel_rfl, by kernel_rfl, by kernel_rfl, by kernel_rfl, by kernel_rfl, by kernel_rfl, by kernel_rfl, by kernel_rfl, by kernel_rfl, by kernel_rfl, by kernel_rfl, by kernel_rfl, by kernel_rfl, by kernel_rfl, by kernel_rfl, by kernel_rfl, by kernel_rfl, by kernel_rfl, by kernel_rfl, by kernel_rfl, by kernel_rfl, by kernel_rfl, by kernel_rfl, by kernel_rfl, by kernel_rfl, by kernel_rfl, by kernel_rfl, by kernel_rfl, by kernel_rfl, by kernel_rfl, by kernel_rfl, by kernel_rfl, by kernel_rfl, by kernel_rfl, by kernel_rfl, by kernel_rfl, by kernel_rfl, by kernel_rfl, by kernel_rfl, by kernel_rfl, by kernel_rfl, by kernel_rfl, by kernel_rfl, by kernel_rfl, by kernel_rfl, by kernel_rfl, by kernel_rfl, by kernel_rfl, by kernel_rfl, by kernel_rfl, by kernel_rfl, by kernel_rfl, by kernel_rfl, by kernel_rfl, by kernel_rfl, by kernel_rfl, by kernel_rfl, by kernel_rfl, by kernel_rfl, by kernel_rfl, by kernel_rfl, by kernel_rfl, by kernel_rfl, by kernel_rfl, by kernel_rfl, by kernel_rfl, by kernel_rfl, by kernel_rfl, by kernel_rfl, by kernel_rfl, by kernel_rfl, trivial⟩
theorem mixed : Try.prog.follows .mixedOrders = true := by kernel_rfl
end Go.Proofs.Yteblbhbfdfifpaa.V

/- The walk by verification conditions: how loops and other questions are answered. -/
namespace Go.Proofs.Yteblbhbfdfifpaa.V
open Go Go.RowKit
set_option linter.unusedVariables false

theorem wrap_un {k : IntKind} {e : Int} (hs : k.signed = false) (h1 : 0 ≤ e) (h2 : e < 2 ^ k.bits) : k.wrap e = e := by
  unfold IntKind.wrap; simp only [hs, Bool.false_and]; rw [if_neg (by simp)]; exact Int.emod_eq_of_lt h1 h2
theorem NWrap.u64 {e : Int} {K : Int → Prop} (h1 : 0 ≤ e) (h2 : e ≤ 18446744073709551615) (hK : K e) : NWrap .u64 e K := ⟨by rw [wrap_un rfl h1 (by show e < 2 ^ 64; omega)]; exact hK⟩
theorem NWrap.u32 {e : Int} {K : Int → Prop} (h1 : 0 ≤ e) (h2 : e ≤ 4294967295) (hK : K e) : NWrap .u32 e K := ⟨by rw [wrap_un rfl h1 (by show e < 2 ^ 32; omega)]; exact hK⟩
theorem NWrap.u16 {e : Int} {K : Int → Prop} (h1 : 0 ≤ e) (h2 : e ≤ 65535) (hK : K e) : NWrap .u16 e K := ⟨by rw [wrap_un rfl h1 (by show e < 2 ^ 16; omega)]; exact hK⟩
theorem NWrap.u8 {e : Int} {K : Int → Prop} (h1 : 0 ≤ e) (h2 : e ≤ 255) (hK : K e) : NWrap .u8 e K := ⟨by rw [wrap_un rfl h1 (by show e < 2 ^ 8; omega)]; exact hK⟩
/-- leaves: what is given back, by equations -/
theorem fin1 {x u : Int} (h : u = x) : Fin1 (.one (.val (.int .i64 x))) (.int .i64 u) := congrArg _ h.symm
theorem fin2 {x y u v : Int} (h : u = x ∧ v = y) : Fin1 (.one (.val (.int .i64 x))) (.int .i64 u) ∧ FinL [.one (.val (.int .i64 y))] [.int .i64 v] := ⟨fin1 h.1, fin1 h.2, trivial⟩
theorem fin3 {x y z u v t : Int} (h : u = x ∧ v = y ∧ t = z) : Fin1 (.one (.val (.int .i64 x))) (.int .i64 u) ∧ FinL [.one (.val (.int .i64 y)), .one (.val (.int .i64 z))] [.int .i64 v, .int .i64 t] := ⟨fin1 h.1, fin1 h.2.1, fin1 h.2.2, trivial⟩
theorem nif2 {x y u v : Int} (h : x = u ∧ y = v) : Fin1 (.one (.val (.int .i64 x))) (.int .i64 u) ∧ FinL [.one (.val (.int .i64 y))] [.int .i64 v] := fin2 ⟨h.1.symm, h.2.symm⟩
/-- Go's quotient and rest -/
theorem tq (x : Int) {y : Int} (hy : 0 < y) : x.tdiv y * y + x.tmod y = x ∧ -y < x.tmod y ∧ x.tmod y < y ∧ (0 ≤ x → 0 ≤ x.tmod y) ∧ (x ≤ 0 → x.tmod y ≤ 0) := by
  have e := Int.mul_tdiv_add_tmod x y
  have pos : 0 ≤ x → 0 ≤ x.tmod y ∧ x.tmod y < y := fun h => ⟨Int.tmod_nonneg _ h, Int.tmod_lt_of_pos _ hy⟩
  have neg : x ≤ 0 → x.tmod y ≤ 0 ∧ -y < x.tmod y := fun h => by
    have e2 : x.tmod y = -((-x).tmod y) := by rw [Int.neg_tmod, Int.neg_neg]
    have h1 : 0 ≤ (-x).tmod y := Int.tmod_nonneg _ (by omega)
    have h2 : (-x).tmod y < y := Int.tmod_lt_of_pos _ hy
    omega
  rw [Int.mul_comm] at e
  refine ⟨e, ?_, ?_, fun h => (pos h).1, fun h => (neg h).1⟩ <;> (rcases Int.le_total 0 x with h | h <;> first | (have := pos h; omega) | (have := neg h; omega))
theorem NQuo.ok {x y : Int} {K : Int → Prop} (h0 : y ≠ 0) (h1 : -9223372036854775808 ≤ x.tdiv y) (h2 : x.tdiv y ≤ 9223372036854775807) (hK : K (x.tdiv y)) : NQuo .i64 x y K := ⟨h0, by rw [IntWalk.i64_in _ ⟨h1, h2⟩]; exact hK⟩
theorem NQuo.pos {x y : Int} {K : Int → Prop} (h1 : 0 ≤ x) (h2 : 0 < y) (h3 : x ≤ 9223372036854775807) (hK : ∀ z, z = x / y → 0 ≤ z → z ≤ x → K z) : NQuo .i64 x y K := by
  have e : x.tdiv y = x / y := Int.tdiv_eq_ediv_of_nonneg h1
  have g1 : 0 ≤ x / y := Int.ediv_nonneg h1 (by omega)
  have g2 : x / y ≤ x := Int.ediv_le_self _ h1
  exact NQuo.ok (by omega) (by omega) (by omega) (by rw [e]; exact hK _ rfl g1 g2)
theorem NRem.pos {x y : Int} {K : Int → Prop} (h1 : 0 ≤ x) (h2 : 0 < y) (hK : ∀ z, z = x % y → 0 ≤ z → z < y → K z) : NRem x y K :=
  ⟨by omega, by rw [Int.tmod_eq_emod_of_nonneg h1]; exact hK _ rfl (Int.emod_nonneg _ (by omega)) (Int.emod_lt_of_pos _ h2)⟩
theorem NShr.i64 {x y : Int} {K : Int → Prop} (n : Nat) (hy : y = n) (hn : n ≤ 64) (h1 : 0 ≤ x) (hK : ∀ z, z = x / 2 ^ n → 0 ≤ z → z ≤ x → K z) : NShr .i64 x y K := by
  subst hy
  have p : (0 : Int) ≤ 2 ^ n := Int.le_of_lt (Int.pow_pos (by omega))
  refine ⟨by omega, ?_⟩
  rw [Int.toNat_natCast, show IntKind.i64.bits = 64 from rfl, Nat.min_eq_left hn, Int.fdiv_eq_ediv_of_nonneg _ p]
  exact hK _ rfl (Int.ediv_nonneg h1 p) (Int.ediv_le_self _ h1)
theorem NIf.dec {p : Prop} [Decidable p] {A B : Prop} (t : p → A) (f : ¬ p → B) : NIf (decide p = true) A B := ⟨fun h => t (of_decide_eq_true h), fun h => f (fun q => h (decide_eq_true q))⟩
theorem NIf.ndec {p : Prop} [Decidable p] {A B : Prop} (t : ¬ p → A) (f : p → B) : NIf (¬ decide p = true) A B := ⟨fun h => t (fun q => h (decide_eq_true q)), fun h => f (Classical.byContradiction fun q => h (fun r => q (of_decide_eq_true r)))⟩
theorem NIf.neg {p : Prop} {A B : Prop} (t : ¬ p → A) (f : p → B) : NIf (¬ p) A B := ⟨t, fun h => f (Classical.not_not.1 h)⟩
theorem NIf.dec_ {p : Prop} [Decidable p] {A B : Prop} (h : NIf p A B) : NIf (decide p = true) A B := .dec h.t h.f
theorem NIf.not_ {p : Prop} {A B : Prop} (h : NIf p B A) : NIf (¬ p) A B := ⟨fun q => h.f q, fun q => h.t (Classical.not_not.1 q)⟩
theorem NIf.yes {p : Prop} {A B : Prop} (h : p) (t : A) : NIf p A B := ⟨fun _ => t, fun q => absurd h q⟩
theorem NIf.no {p : Prop} {A B : Prop} (h : ¬ p) (f : B) : NIf p A B := ⟨fun q => absurd q h, fun _ => f⟩
def keepK {α : Type} (env : List (Nat × α)) : List Nat → (List (Nat × α) → Prop) → Prop
  | [], K => K []
  | t :: r, K => fndK env t fun v => keepK env r fun l => K ((t, v) :: l)
def appK {α : Type} : List α → List α → (List α → Prop) → Prop
  | [], m, K => K m
  | x :: l, m, K => appK l m fun r => K (x :: r)
theorem appK_spec {α : Type} : ∀ {l m : List α} {K : List α → Prop}, appK l m K → K (l ++ m)
  | [], _, _, h => h
  | x :: l, m, K, h => appK_spec (l := l) (K := fun r => K (x :: r)) h
theorem fndK_of {α : Type} {l : List (Nat × α)} {t : Nat} {v : α} {K : α → Prop} (e : fnd l t = some v) (h : K v) : fndK l t K := by
  induction l with
  | nil => cases e
  | cons p r ih =>
    obtain ⟨u, x⟩ := p
    unfold fnd at e
    unfold fndK
    cases hb : Nat.beq u t <;> simp only [hb] at e ⊢
    · exact ih e
    · injection e with e; rw [e]; exact h
theorem sgm_nil (i : Nat) : sgm [] i = i := rfl
theorem renA_nil (a : At) : renA (sgm []) a = a := by
  have : ∀ l : List Nat, l.map (sgm []) = l := fun l => by
    induction l with
    | nil => rfl
    | cons a r ih => rw [List.map_cons, ih]; rfl
  cases a <;> simp [renA, this, sgm_nil]
theorem renS_nil (v : SV) : renS (sgm []) v = v := by
  cases v with
  | one a => simp [renS, renA_nil]
  | agg l => simp [renS, funext renA_nil]
  | tup l => rfl
theorem renO_nil (o : Ob) : renO (sgm []) o = o := by
  cases o <;> simp [renO, funext renA_nil, renS_nil]
theorem ObLe.refl (o : Ob) : ObLe o o := by
  cases o <;> first | exact rfl | exact ⟨rfl, rfl, fun _ _ => rfl⟩ | exact ⟨rfl, rfl, rfl, fun _ _ => rfl⟩
theorem SLe.of {u v : SV} (h : u = v) : SLe u v := by
  subst h
  cases u with
  | one a => cases a <;> first | exact rfl | exact Iff.rfl
  | _ => exact rfl
theorem keepE_spec {env : Env} : ∀ {l : List Nat} {K : Env → Prop}, keepK env l K → ∃ b, EnvLe (sgm []) env b ∧ K b
  | [], K, h => ⟨[], trivial, h⟩
  | t :: r, K, h => by
    obtain ⟨v, e, h⟩ := fndK_spec h
    obtain ⟨b, hb, hK⟩ := keepE_spec h
    exact ⟨(t, v) :: b, ⟨fndK_of e (.of (renS_nil v).symm), hb⟩, hK⟩
theorem keepO_spec {obs : Obs} : ∀ {l : List Nat} {K : Obs → Prop}, keepK obs l K → ∃ b, ObsLe (sgm []) obs b ∧ K b
  | [], K, h => ⟨[], trivial, h⟩
  | t :: r, K, h => by
    obtain ⟨v, e, h⟩ := fndK_spec h
    obtain ⟨b, hb, hK⟩ := keepO_spec h
    exact ⟨(t, v) :: b, ⟨fndK_of e (by rw [renO_nil]; exact ObLe.refl v), hb⟩, hK⟩
theorem EnvLe.app {σ : Nat → Nat} {env : Env} : ∀ {l m : Env}, EnvLe σ env l → EnvLe σ env m → EnvLe σ env (l ++ m)
  | [], _, _, h => h
  | _ :: _, _, h, k => ⟨h.1, EnvLe.app h.2 k⟩
theorem ObsLe.app {σ : Nat → Nat} {obs : Obs} : ∀ {l m : Obs}, ObsLe σ obs l → ObsLe σ obs m → ObsLe σ obs (l ++ m)
  | [], _, _, h => h
  | _ :: _, _, h, k => ⟨h.1, ObsLe.app h.2 k⟩
theorem EnvLe.left {σ : Nat → Nat} {env : Env} : ∀ {l m : Env}, EnvLe σ env (l ++ m) → EnvLe σ env l
  | [], _, _ => trivial
  | _ :: _, _, h => ⟨h.1, EnvLe.left h.2⟩
theorem EnvLe.right {σ : Nat → Nat} {env : Env} : ∀ {l m : Env}, EnvLe σ env (l ++ m) → EnvLe σ env m
  | [], _, h => h
  | _ :: _, _, h => EnvLe.right h.2
theorem ObsLe.left {σ : Nat → Nat} {env : Obs} : ∀ {l m : Obs}, ObsLe σ env (l ++ m) → ObsLe σ env l
  | [], _, _ => trivial
  | _ :: _, _, h => ⟨h.1, ObsLe.left h.2⟩
theorem ObsLe.right {σ : Nat → Nat} {env : Obs} : ∀ {l m : Obs}, ObsLe σ env (l ++ m) → ObsLe σ env m
  | [], _, h => h
  | _ :: _, _, h => ObsLe.right h.2
/-- a round's end: the relation at a smaller measure; an object at the head may be another one now -/
structure NBack {ι : Type} (pin : Nat) (chg : ι → Env) (ob : ι → Obs) (μ : ι → Nat) (J : ι → Prop) (base : Env) (bo : Obs) (nx m : Nat) (env1 : Env) (obs1 : Obs) : Prop where
  h : ∃ i' l, J i' ∧ μ i' < m ∧ pinB pin l = true ∧ injB (sgm l) nx = true ∧ EnvLe (sgm l) env1 (chg i') ∧ EnvLe (sgm l) env1 base ∧ ObsLe (sgm l) obs1 (ob i') ∧ ObsLe (sgm l) obs1 bo
theorem NBack.at_ {ι : Type} {pin : Nat} {chg : ι → Env} {ob : ι → Obs} {μ : ι → Nat} {J : ι → Prop} {base : Env} {bo : Obs} {nx m : Nat} {env1 : Env} {obs1 : Obs} (i' : ι) (l : List (Nat × Nat)) (h1 : J i') (h2 : μ i' < m) (h3 : EnvLe (sgm l) env1 (chg i')) (h0 : injB (sgm l) nx = true) (h5 : ObsLe (sgm l) obs1 (ob i')) (h4 : EnvLe (sgm l) env1 base) (h6 : ObsLe (sgm l) obs1 bo) (hp : pinB pin l = true := by rfl) :
    NBack pin chg ob μ J base bo nx m env1 obs1 := ⟨⟨i', l, h1, h2, hp, h0, h3, h4, h5, h6⟩⟩
theorem injB_id : ∀ n : Nat, injB (sgm []) n = true := by
  have no : ∀ (n x : Nat), n ≤ x → memB (sgm [] x) ((iot n).map (sgm [])) = false := by
    intro n
    induction n with
    | zero => intro x _; rfl
    | succ n ih =>
      intro x hx
      unfold iot
      rw [List.map_cons]
      unfold memB
      have : Nat.beq (sgm [] x) (sgm [] n) = false := by
        rw [sgm_nil, sgm_nil]
        cases hb : Nat.beq x n
        · rfl
        · have := Nat.eq_of_beq_eq_true hb; omega
      rw [this]
      exact ih x (by omega)
  intro n
  induction n with
  | zero => rfl
  | succ n ih =>
    unfold injB iot
    rw [List.map_cons]
    unfold nodB
    rw [no n n (Nat.le_refl _)]
    exact ih
/-- a loop: what slots (chg) and objects (ob) are at each round's head, which slots and objects stay (keep, ko) -/
theorem NLoop.go {ws : List Nat} {pin : Nat} {body : Env → Obs → Nat → Kon → Prop} {env : Env} {obs : Obs} {nx : Nat} {K : Kon} {ι : Type} (chg : ι → Env) (ob : ι → Obs) (keep ko : List Nat) (μ : ι → Nat) (J : ι → Prop) (i0 : ι) (h0 : J i0)
    (he : EnvLe (sgm []) env (chg i0)) (ho : ObsLe (sgm []) obs (ob i0)) (hb : ∀ i, envB nx (chg i) = true ∧ obsB nx (ob i) = true)
    (hr : keepK env keep fun base => keepK obs ko fun bo => (envB nx base = true ∧ obsB nx bo = true) ∧ ∀ i, J i → appK (chg i) base fun E => appK (ob i) bo fun O => body E O nx fun e env1 obs1 nx1 => match e with
      | .nrm => NBack pin chg ob μ J base bo nx (μ i) env1 obs1
      | .exit n => K (.exit n) env1 obs1 nx1
      | .ret => K .ret env1 obs1 nx1) (hp : pin ≤ nx := by exact Nat.le_of_ble_eq_true rfl) : NLoop ws pin body env obs nx K := by
  obtain ⟨base, hbase, hr⟩ := keepE_spec hr
  obtain ⟨bo, hbo, ⟨q1, q2⟩, hr⟩ := keepO_spec hr
  refine ⟨⟨ι, fun i => (chg i ++ base, ob i ++ bo), μ, J, i0, nx, hp, h0, injB_id nx, he.app hbase, ho.app hbo, fun i => ⟨?_, ?_⟩, fun i hi => ?_⟩⟩
  · simp only [envB, List.all_append, Bool.and_eq_true]; exact ⟨(hb i).1, q1⟩
  · simp only [obsB, List.all_append, Bool.and_eq_true]; exact ⟨(hb i).2, q2⟩
  · have := appK_spec (appK_spec (hr i hi))
    refine cast ?_ this
    congr 1
    funext e env1 obs1 nx1
    cases e
    · apply propext
      constructor
      · rintro ⟨i', l, a, b, p, c, d, e, f, g⟩; exact ⟨i', l, a, b, p, c, d.app e, f.app g⟩
      · rintro ⟨i', l, a, b, p, c, d, e⟩
        exact ⟨i', l, a, b, p, c, d.left, d.right, e.left, e.right⟩
    · rfl
    · rfl
/-- all slots that a loop does not write, all objects that are not told to change -/
def autoK (ws is : List Nat) : Env → (Env → Prop) → Prop
  | [], K => K []
  | (t, v) :: r, K => match memB t ws with
    | true => autoK ws is r K
    | false => match v with
      | .tup _ => autoK (t :: ws) is r K
      | .one (.ref i) => match memB i is with
        | true => autoK (t :: ws) is r K
        | false => autoK (t :: ws) is r fun l => K ((t, .one (.ref i)) :: l)
      | v => autoK (t :: ws) is r fun l => K ((t, v) :: l)
def autoO (ws : List Nat) : Obs → (Obs → Prop) → Prop
  | [], K => K []
  | (t, o) :: r, K => match memB t ws with
    | true => autoO ws r K
    | false => match o with
      | .gone => autoO (t :: ws) r K
      | o => autoO (t :: ws) r fun l => K ((t, o) :: l)
theorem fndK_skip {α : Type} {l : List (Nat × α)} {t u : Nat} {v x : α} (h : t ≠ u) (e : fnd l t = some v) : fnd ((u, x) :: l) t = some v := by
  unfold fnd
  cases hb : Nat.beq u t
  · exact e
  · exact absurd (Nat.eq_of_beq_eq_true hb).symm h
theorem fnd_top {α : Type} {l : List (Nat × α)} {t : Nat} {v : α} : fnd ((t, v) :: l) t = some v := by
  unfold fnd; rw [Nat.beq_refl]
theorem memB_ne {x y : Nat} {l : List Nat} (hx : memB x l = true) (hy : memB y l = false) : y ≠ x := by
  rintro rfl; rw [hx] at hy; cases hy
theorem memB_self {t : Nat} {ws : List Nat} : memB t (t :: ws) = true := by unfold memB; rw [Nat.beq_refl]
theorem memB_cons {x t : Nat} {ws : List Nat} (h : memB x (t :: ws) = false) : memB x ws = false ∧ x ≠ t := by
  unfold memB at h
  cases hb : Nat.beq x t
  · rw [hb] at h; exact ⟨h, fun e => by subst e; rw [Nat.beq_refl] at hb; cases hb⟩
  · rw [hb] at h; cases h
theorem autoE_spec {env : Env} {is : List Nat} : ∀ {r : Env} {ws : List Nat} {K : Env → Prop}, (∀ t v, memB t ws = false → fnd r t = some v → fnd env t = some v) → autoK ws is r K → ∃ b, EnvLe (sgm []) env b ∧ K b
  | [], ws, K, _, h => ⟨[], trivial, h⟩
  | (t, v) :: r, ws, K, hs, h => by
    unfold autoK at h
    cases hm : memB t ws
    · simp only [hm] at h
      have hs' : ∀ u x, memB u (t :: ws) = false → fnd r u = some x → fnd env u = some x := fun u x hu hx =>
        hs u x (memB_cons hu).1 (fndK_skip (memB_cons hu).2 hx)
      have one : ∀ v', v' = v → (autoK (t :: ws) is r fun l => K ((t, v') :: l)) → ∃ b, EnvLe (sgm []) env b ∧ K b := fun v' e h2 => by
        subst e
        obtain ⟨b, hb, hK⟩ := autoE_spec hs' h2
        exact ⟨(t, v') :: b, ⟨fndK_of (hs t v' hm fnd_top) (.of (renS_nil v').symm), hb⟩, hK⟩
      cases v with
      | tup l => exact autoE_spec hs' h
      | one a =>
        cases a with
        | ref i =>
          simp only at h
          cases hi : memB i is <;> simp only [hi] at h
          · exact one _ rfl h
          · exact autoE_spec hs' h
        | _ => exact one _ rfl h
      | agg l => exact one _ rfl h
    · simp only [hm] at h
      exact autoE_spec (fun u x hu hx => hs u x hu (fndK_skip (memB_ne hm hu) hx)) h
theorem autoO_spec {env : Obs} : ∀ {r : Obs} {ws : List Nat} {K : Obs → Prop}, (∀ t v, memB t ws = false → fnd r t = some v → fnd env t = some v) → autoO ws r K → ∃ b, ObsLe (sgm []) env b ∧ K b
  | [], ws, K, _, h => ⟨[], trivial, h⟩
  | (t, v) :: r, ws, K, hs, h => by
    unfold autoO at h
    cases hm : memB t ws
    · simp only [hm] at h
      have hs' : ∀ u x, memB u (t :: ws) = false → fnd r u = some x → fnd env u = some x := fun u x hu hx =>
        hs u x (memB_cons hu).1 (fndK_skip (memB_cons hu).2 hx)
      have one : ∀ v', v' = v → (autoO (t :: ws) r fun l => K ((t, v') :: l)) → ∃ b, ObsLe (sgm []) env b ∧ K b := fun v' e h2 => by
        subst e
        obtain ⟨b, hb, hK⟩ := autoO_spec hs' h2
        exact ⟨(t, v') :: b, ⟨fndK_of (hs t v' hm fnd_top) (by rw [renO_nil]; exact ObLe.refl v'), hb⟩, hK⟩
      cases v with
      | gone => exact autoO_spec hs' h
      | _ => exact one _ rfl h
    · simp only [hm] at h
      exact autoO_spec (fun u x hu hx => hs u x hu (fndK_skip (memB_ne hm hu) hx)) h
def keysK {α : Type} : List (Nat × α) → List Nat → (List Nat → Prop) → Prop
  | [], ws, K => K ws
  | (t, _) :: r, ws, K => keysK r (t :: ws) K
theorem keysK_spec {α : Type} : ∀ {l : List (Nat × α)} {ws : List Nat} {K : List Nat → Prop}, keysK l ws K → ∃ ws', K ws'
  | [], ws, _, h => ⟨ws, h⟩
  | (t, _) :: r, _, _, h => keysK_spec (l := r) h
/-- a list, cell by cell -/
def litK (l : List Nat) : (List Nat → Prop) → Prop :=
  @List.rec Nat (fun _ => (List Nat → Prop) → Prop) (fun K => K []) (fun x _ ih K => ih fun l => K (x :: l)) l
theorem litK_eq : ∀ {l : List Nat} {K : List Nat → Prop}, litK l K = K l
  | [], _ => rfl
  | x :: r, K => litK_eq (l := r) (K := fun l => K (x :: l))
/-- a loop: what slots (chg) and objects (ob) are at each round's head; whatever the loop does not write stays; dr: slots, dro: objects that are let go -/
theorem NLoop.auto {ws : List Nat} {pin : Nat} {body : Env → Obs → Nat → Kon → Prop} {env : Env} {obs : Obs} {nx : Nat} {K : Kon} {ι : Type} (chg : ι → Env) (ob : ι → Obs) (dr dro : List Nat) (μ : ι → Nat) (J : ι → Prop) (i0 : ι) (h0 : J i0)
    (he : EnvLe (sgm []) env (chg i0)) (ho : ObsLe (sgm []) obs (ob i0)) (hb : ∀ i, envB nx (chg i) = true ∧ obsB nx (ob i) = true)
    (hr : litK (dr ++ ws) fun ws0 => keysK (chg i0) ws0 fun ws1 => keysK (ob i0) [] fun is => autoK ws1 is env fun base => keysK (ob i0) dro fun ws2 => autoO ws2 obs fun bo => (envB nx base = true ∧ obsB nx bo = true) ∧ ∀ i, J i → appK (chg i) base fun E => appK (ob i) bo fun O => body E O nx fun e env1 obs1 nx1 => match e with
      | .nrm => NBack pin chg ob μ J base bo nx (μ i) env1 obs1
      | .exit n => K (.exit n) env1 obs1 nx1
      | .ret => K .ret env1 obs1 nx1) (hp : pin ≤ nx := by exact Nat.le_of_ble_eq_true rfl) : NLoop ws pin body env obs nx K := by
  rw [litK_eq] at hr
  obtain ⟨ws1, hr⟩ := keysK_spec hr
  obtain ⟨is, hr⟩ := keysK_spec hr
  obtain ⟨base, hbase, hr⟩ := autoE_spec (fun _ _ _ h => h) hr
  obtain ⟨ws2, hr⟩ := keysK_spec hr
  obtain ⟨bo, hbo, ⟨q1, q2⟩, hr⟩ := autoO_spec (fun _ _ _ h => h) hr
  refine ⟨⟨ι, fun i => (chg i ++ base, ob i ++ bo), μ, J, i0, nx, hp, h0, injB_id nx, he.app hbase, ho.app hbo, fun i => ⟨?_, ?_⟩, fun i hi => ?_⟩⟩
  · simp only [envB, List.all_append, Bool.and_eq_true]; exact ⟨(hb i).1, q1⟩
  · simp only [obsB, List.all_append, Bool.and_eq_true]; exact ⟨(hb i).2, q2⟩
  · have := appK_spec (appK_spec (hr i hi))
    refine cast ?_ this
    congr 1
    funext e env1 obs1 nx1
    cases e
    · apply propext
      constructor
      · rintro ⟨i', l, a, b, p, c, d, e, f, g⟩; exact ⟨i', l, a, b, p, c, d.app e, f.app g⟩
      · rintro ⟨i', l, a, b, p, c, d, e⟩
        exact ⟨i', l, a, b, p, c, d.left, d.right, e.left, e.right⟩
    · rfl
    · rfl
/-- a way's end, where two ways meet -/
structure NMeet {ι : Type} (pin : Nat) (chg : ι → Env) (ob : ι → Obs) (J : ι → Prop) (base : Env) (bo : Obs) (nx : Nat) (env1 : Env) (obs1 : Obs) : Prop where
  h : ∃ i l, J i ∧ pinB pin l = true ∧ injB (sgm l) nx = true ∧ EnvLe (sgm l) env1 (chg i) ∧ EnvLe (sgm l) env1 base ∧ ObsLe (sgm l) obs1 (ob i) ∧ ObsLe (sgm l) obs1 bo
theorem NMeet.at_ {ι : Type} {pin : Nat} {chg : ι → Env} {ob : ι → Obs} {J : ι → Prop} {base : Env} {bo : Obs} {nx : Nat} {env1 : Env} {obs1 : Obs} (i : ι) (l : List (Nat × Nat)) (h1 : J i) (h3 : EnvLe (sgm l) env1 (chg i)) (h0 : injB (sgm l) nx = true) (h5 : ObsLe (sgm l) obs1 (ob i)) (h4 : EnvLe (sgm l) env1 base) (h6 : ObsLe (sgm l) obs1 bo) (hp : pinB pin l = true := by rfl) :
    NMeet pin chg ob J base bo nx env1 obs1 := ⟨⟨i, l, h1, hp, h0, h3, h4, h5, h6⟩⟩
/-- two ways that meet: what slots (chg) and objects (ob) are then; whatever is not written on them stays -/
theorem NCond.auto {p : Prop} {ws : List Nat} {pin : Nat} {A B : Kon → Prop} {env : Env} {obs : Obs} {nx : Nat} {K : Kon} {ι : Type} (chg : ι → Env) (ob : ι → Obs) (dr dro : List Nat) (J : ι → Prop) (m : Nat) (i0 : ι) (hb : ∀ i, envB m (chg i) = true ∧ obsB m (ob i) = true)
    (hr : litK (dr ++ ws) fun ws0 => keysK (chg i0) ws0 fun ws1 => keysK (ob i0) [] fun is => autoK ws1 is env fun base => keysK (ob i0) dro fun ws2 => autoO ws2 obs fun bo => (envB m base = true ∧ obsB m bo = true) ∧
      NIf p (A fun e env1 obs1 nx1 => match e with
        | .nrm => NMeet pin chg ob J base bo m env1 obs1
        | .exit n => K (.exit n) env1 obs1 nx1
        | .ret => K .ret env1 obs1 nx1) (B fun e env1 obs1 nx1 => match e with
        | .nrm => NMeet pin chg ob J base bo m env1 obs1
        | .exit n => K (.exit n) env1 obs1 nx1
        | .ret => K .ret env1 obs1 nx1) ∧ ∀ i, J i → appK (chg i) base fun E => appK (ob i) bo fun O => K .nrm E O m) (hp : pin ≤ m := by exact Nat.le_of_ble_eq_true rfl) : NCond p ws pin A B env obs nx K := by
  rw [litK_eq] at hr
  obtain ⟨ws1, hr⟩ := keysK_spec hr
  obtain ⟨is, hr⟩ := keysK_spec hr
  obtain ⟨base, hbase, hr⟩ := autoE_spec (fun _ _ _ h => h) hr
  obtain ⟨ws2, hr⟩ := keysK_spec hr
  obtain ⟨bo, hbo, ⟨q1, q2⟩, ⟨ht, hf⟩, hk⟩ := autoO_spec (fun _ _ _ h => h) hr
  have same : (fun e env1 obs1 nx1 => match e with
        | .nrm => NMeet pin chg ob J base bo m env1 obs1
        | .exit n => K (.exit n) env1 obs1 nx1
        | .ret => K .ret env1 obs1 nx1) = meetK pin m (fun i => (chg i ++ base, ob i ++ bo)) J K := by
    funext e env1 obs1 nx1
    cases e
    · apply propext
      constructor
      · rintro ⟨i, l, a, p, c, d, e, f, g⟩; exact ⟨i, l, a, p, c, d.app e, f.app g⟩
      · rintro ⟨i, l, a, p, c, d, e⟩; exact ⟨⟨i, l, a, p, c, d.left, d.right, e.left, e.right⟩⟩
    · rfl
    · rfl
  rw [same] at ht hf
  refine .join ι (fun i => (chg i ++ base, ob i ++ bo)) m J hp (fun i => ⟨?_, ?_⟩) ⟨ht, hf⟩ fun i hi => appK_spec (appK_spec (hk i hi))
  · simp only [envB, List.all_append, Bool.and_eq_true]; exact ⟨(hb i).1, q1⟩
  · simp only [obsB, List.all_append, Bool.and_eq_true]; exact ⟨(hb i).2, q2⟩
/-- no operation makes memory or writes it (calls: of contracts that answer values) -/
def quietB (T : TT) (all : List Oper) : Bool := all.all fun o => match kindK T o.op with | 0 => true | 3 => true | _ => false
theorem NDraw.q {P : Program} {T : TT} {sz pin : Nat} {all : List Oper} {env : Env} {obs : Obs} {nx : Nat} {K : Env → Obs → Nat → Prop} (hq : quietB T all = true) (lex : Region.lexB .any all.toArray = true) (h : opsK P T sz true all all env obs nx K) : NDraw P T sz pin all env obs nx K := .mk lex h
/-- the first order's end is what all end in; another one's, but for names -/
theorem NJoin.first {pin m n : Nat} {E env : Env} {O obs : Obs} (h : autoK [] [] env fun E' => autoO [] obs fun O' => E = E' ∧ O = O' ∧ m = n) : NJoin pin m E O env obs n := by
  obtain ⟨b, hb, h⟩ := autoE_spec (fun _ _ _ h => h) h
  obtain ⟨c, hc, h1, h2, _⟩ := autoO_spec (fun _ _ _ h => h) h
  subst h1 h2
  exact ⟨⟨[], rfl, injB_id _, hb, hc⟩⟩
theorem NJoin.by_ {pin m n : Nat} {E env : Env} {O obs : Obs} (l : List (Nat × Nat)) (h1 : pinB pin l = true) (h2 : injB (sgm l) m = true) (h3 : EnvLe (sgm l) env E) (h4 : ObsLe (sgm l) obs O) : NJoin pin m E O env obs n := ⟨⟨l, h1, h2, h3, h4⟩⟩
theorem NTF.dec {p : Prop} [Decidable p] {K : Bool → Prop} (h : K (decide p)) : NTF p K := ⟨fun b hb => by
  have e : b = decide p := by rw [Bool.eq_iff_iff, hb]; simp
  rw [e]; exact h⟩
theorem NTF.yes {p : Prop} {K : Bool → Prop} (hp : p) (h : K true) : NTF p K := ⟨fun b hb => by rw [hb.2 hp]; exact h⟩
theorem NTF.no {p : Prop} {K : Bool → Prop} (hp : ¬ p) (h : K false) : NTF p K := ⟨fun b hb => by
  have e : b = false := by rw [Bool.eq_false_iff]; exact fun q => hp (hb.1 q)
  rw [e]; exact h⟩
end Go.Proofs.Yteblbhbfdfifpaa.V

/- Plain facts on lists that are gone through one by one. -/
namespace Go.Proofs.Yteblbhbfdfifpaa
theorem getD_at {α : Type} [Inhabited α] {l : List α} {k : Nat} (h : k < l.length) : l.getD k default = l[k] := by simp [List.getD, List.getElem?_eq_getElem h]
theorem getD_mem {α : Type} [Inhabited α] {l : List α} {k : Nat} (h : k < l.length) : l.getD k default ∈ l := by rw [getD_at h]; exact List.getElem_mem h
/-- the first answer that is not 0 -/
def fb {α : Type} (f : α → Int) : List α → Int
  | [] => 0
  | x :: r => if f x ≠ 0 then f x else fb f r
theorem fb_ok {α : Type} {f : α → Int} : ∀ {l : List α}, fb f l = 0 → ∀ d ∈ l, f d = 0
  | [], _, _, h => by simp at h
  | d :: r, h, x, hx => by
    unfold fb at h
    split at h
    · rename_i k; exact absurd h k
    · rename_i k
      rcases List.mem_cons.1 hx with rfl | q
      · omega
      · exact fb_ok h x q
theorem fb_yes {α : Type} {f : α → Int} : ∀ {l : List α}, (∀ d ∈ l, f d = 0) → fb f l = 0
  | [], _ => rfl
  | d :: r, h => by unfold fb; rw [if_neg (by have := h d (by simp); omega)]; exact fb_yes fun x hx => h x (by simp [hx])
theorem fb_at {α : Type} {f : α → Int} : ∀ {l : List α} {k : Nat} (hk : k < l.length), (∀ d ∈ l.take k, f d = 0) → f l[k] ≠ 0 → fb f l = f l[k]
  | d :: r, 0, _, _, h => by unfold fb; rw [if_pos (by simpa using h)]; rfl
  | d :: r, k + 1, hk, h1, h => by
    unfold fb
    rw [if_neg (by have := h1 d (by simp); omega)]
    exact fb_at (l := r) (by simpa using hk) (fun x hx => h1 x (by simp [hx])) (by simpa using h)
theorem fb_get {α : Type} [Inhabited α] {f : α → Int} {l : List α} {k : Nat} (hk : k < l.length) (h1 : ∀ d ∈ l.take k, f d = 0) (h : f (l.getD k default) ≠ 0) : fb f l = f (l.getD k default) := by
  rw [getD_at hk] at *
  exact fb_at hk h1 h
theorem all_snoc {α : Type} [Inhabited α] {p : α → Prop} {l : List α} {k : Nat} (hk : k < l.length) (h1 : ∀ d ∈ l.take k, p d) (h : p (l.getD k default)) : ∀ d ∈ l.take (k + 1), p d := by
  intro a ha
  rw [List.take_succ_eq_append_getElem hk] at ha
  rcases List.mem_append.1 ha with q | q
  · exact h1 a q
  · rw [List.mem_singleton.1 q, ← getD_at hk]; exact h
theorem all_whole {α : Type} {p : α → Prop} {l : List α} {k : Nat} (hk : l.length ≤ k) (h1 : ∀ d ∈ l.take k, p d) : ∀ d ∈ l, p d := by
  rwa [List.take_of_length_le hk] at h1
/-- where the first one is; -1: nowhere -/
def ixf {α : Type} (p : α → Bool) : List α → Int
  | [] => -1
  | x :: r => if p x then 0 else if ixf p r < 0 then -1 else ixf p r + 1
theorem ixf_no {α : Type} {p : α → Bool} : ∀ {l : List α}, (∀ d ∈ l, p d = false) → ixf p l = -1
  | [], _ => rfl
  | d :: r, h => by unfold ixf; rw [if_neg (by rw [h d (by simp)]; decide), ixf_no fun x hx => h x (by simp [hx])]; rfl
theorem ixf_at {α : Type} {p : α → Bool} : ∀ {l : List α} {k : Nat} (hk : k < l.length), (∀ d ∈ l.take k, p d = false) → p l[k] = true → ixf p l = k
  | d :: r, 0, _, _, h => by unfold ixf; rw [if_pos (by simpa using h)]; rfl
  | d :: r, k + 1, hk, h1, h => by
    unfold ixf
    have e := ixf_at (l := r) (k := k) (by simpa using hk) (fun x hx => h1 x (by simp [hx])) (by simpa using h)
    rw [if_neg (by rw [h1 d (by simp)]; decide), e, if_neg (by omega)]
    omega
theorem ixf_get {α : Type} [Inhabited α] {p : α → Bool} {l : List α} {k : Nat} (hk : k < l.length) (h1 : ∀ d ∈ l.take k, p d = false) (h : p (l.getD k default) = true) : ixf p l = k := by
  rw [getD_at hk] at h
  exact ixf_at hk h1 h
theorem ixf_cases {α : Type} [Inhabited α] (p : α → Bool) (l : List α) : (ixf p l = -1 ∧ ∀ d ∈ l, p d = false) ∨ ∃ k : Nat, ixf p l = k ∧ k < l.length ∧ p (l.getD k default) = true ∧ ∀ d ∈ l.take k, p d = false := by
  induction l with
  | nil => left; exact ⟨rfl, by simp⟩
  | cons d r ih =>
    by_cases h : p d
    · right; exact ⟨0, by unfold ixf; rw [if_pos h]; rfl, by simp, by simpa using h, by simp⟩
    · have hf : p d = false := by simpa using h
      rcases ih with ⟨e, a⟩ | ⟨k, e, hk, hp, ha⟩
      · left
        refine ⟨by unfold ixf; rw [if_neg h, e]; rfl, fun x hx => ?_⟩
        rcases List.mem_cons.1 hx with rfl | q
        · exact hf
        · exact a x q
      · right
        refine ⟨k + 1, by unfold ixf; rw [if_neg h, e, if_neg (by omega)]; omega, by simpa using hk, by simpa [List.getD] using hp, fun x hx => ?_⟩
        rcases List.mem_cons.1 (by simpa using hx) with rfl | q
        · exact hf
        · exact ha x q
/-- the least -/
def lmin (l : List Int) : Int := (l.drop 1).foldl (fun a b => if b < a then b else a) (l.getD 0 default)
theorem foldmin (l : List Int) : ∀ a : Int, (l.foldl (fun a b => if b < a then b else a) a ≤ a) ∧ ∀ x ∈ l, l.foldl (fun a b => if b < a then b else a) a ≤ x := by
  induction l with
  | nil => intro a; simp
  | cons y r ih =>
    intro a
    obtain ⟨h1, h2⟩ := ih (if y < a then y else a)
    simp only [List.foldl_cons, List.mem_cons]
    have q1 : (if y < a then y else a) ≤ a := by split <;> omega
    have q2 : (if y < a then y else a) ≤ y := by split <;> omega
    refine ⟨Int.le_trans h1 q1, ?_⟩
    rintro x (rfl | hx)
    · exact Int.le_trans h1 q2
    · exact h2 x hx
theorem foldmin_in (l : List Int) : ∀ a : Int, l.foldl (fun a b => if b < a then b else a) a = a ∨ l.foldl (fun a b => if b < a then b else a) a ∈ l := by
  induction l with
  | nil => intro a; simp
  | cons y r ih =>
    intro a
    simp only [List.foldl_cons, List.mem_cons]
    rcases ih (if y < a then y else a) with h | h
    · rw [h]; split <;> simp
    · exact .inr (.inr h)
theorem lmin_neg {l : List Int} (h : l ≠ []) : lmin l < 0 ↔ ∃ x ∈ l, x < 0 := by
  cases l with
  | nil => exact absurd rfl h
  | cons a r =>
    unfold lmin
    simp only [List.drop_succ_cons, List.drop_zero, List.getD_cons_zero, List.mem_cons]
    obtain ⟨h1, h2⟩ := foldmin r a
    constructor
    · intro q
      rcases foldmin_in r a with e | e
      · exact ⟨a, .inl rfl, by omega⟩
      · exact ⟨_, .inr e, q⟩
    · rintro ⟨x, rfl | hx, q⟩
      · omega
      · have := h2 x hx; omega
theorem fb_end {α : Type} [Inhabited α] {f : α → Int} {l : List α} {k : Nat} (hk : l.length ≤ k) (h1 : ∀ d ∈ l.take k, f d = 0) : fb f l = 0 := fb_yes (all_whole hk h1)
end Go.Proofs.Yteblbhbfdfifpaa

/- What the document's answers call, all of them. -/
namespace Go.Proofs.Yteblbhbfdfifpaa
open Go Go.RowKit V
set_option maxRecDepth 100000
theorem v_rbetween (n a b : Int) : V.Fn Try.prog 35 [] [.one (.val (.int .i64 n)), .one (.val (.int .i64 a)), .one (.val (.int .i64 b))] (.bool (decide (a ≤ n ∧ n ≤ b))) := by
  refine V.Fn.mk_ V.Tok V.mixed Try.func35 rfl Try.ntmps35 (by kernel_rfl) rfl rfl ?_
  repeat' ((conv => whnf); first | refine V.NCond.mk ?_ | refine V.NIf.not_ ?_ | refine V.NIf.dec_ ?_ | refine V.NIf.no (by omega) ?_ | refine V.NIf.yes (by omega) ?_ | refine V.NIf.mk (fun _ => ?_) (fun _ => ?_) | refine V.NWrap.ok (by omega) (by omega) ?_ | refine V.NWrap.u64 (by omega) (by omega) ?_ | refine V.NLt.mk (by omega) ?_ | refine V.NBoth.mk ?_ ?_ | refine V.NTF.yes (by omega) ?_ | refine V.NTF.no (by omega) ?_ | refine V.NTF.dec ?_ | refine V.NDraw.q (by exact rfl) (by kernel_rfl) ?_ | refine V.NApp.one (by first | omega | (simp; omega)) (by first | omega | (simp; omega)) ?_ | (refine V.NDraw.any (by kernel_rfl) ?_) | fail)
  · exact ⟨_, rfl, by simp_all⟩
  · exact congrArg Value.bool (by simp_all; omega)
end Go.Proofs.Yteblbhbfdfifpaa

/- Contracts of calls that answer new memory: what is new, how it is used at a call, how a walk shows it. -/
namespace Go.Proofs.Yteblbhbfdfifpaa.V
open Go Go.RowKit
set_option linter.unusedVariables false
set_option linter.unusedSimpArgs false

def isNew : Ob → Bool
  | .row _ _ _ _ | .arr _ _ _ => true
  | _ => false
def glue (m : Nat) (ρ ν : Rho) : Rho := fun i => if i < m then ρ i else ν i
structure News (B m : Nat) (ν : Rho) (w : World) (ros : List Ob) : Prop where
  sat : ∀ (j : Nat) o, ros[j]? = some o → Sat B ν w (m + j) o ∧ ∀ b, foot ν (m + j) o = some b → B ≤ b
  apart : ∀ (j k : Nat) o o' b, ros[j]? = some o → ros[k]? = some o' → j ≠ k → foot ν (m + j) o = some b → foot ν (m + k) o' ≠ some b
def svBv (n : Nat) : SV → Bool
  | .tup l => l.all (svB n)
  | v => svB n v
/-- A CONTRACT: the function f, handed the arguments args (over the objects os, that it only reads), answers v over new objects ros (they are numbered behind os), and leaves alone whatever was there. -/
structure FnR (P : Program) (f : FuncId) (os : List Ob) (args : List SV) (v : SV) (ros : List Ob) : Prop where
  b : hasBody P f = true
  n : ros.all isNew = true
  k : svBv (os.length + ros.length) v = true
  c : ∀ w ρ xs, (∀ (i : Nat) o, os[i]? = some o → ∃ v, ρ i = some v ∧ Ro ρ w v o) → Svs ρ args xs → Calls P f xs.toArray w fun e w' => ∃ ν x, e = .returned x ∧ v.is (glue os.length ρ ν) x ∧ News w.heap.size os.length ν w' ros ∧ Below w.heap.size w w'

/-! at a call -/
def renV (σ : Nat → Nat) : SV → SV
  | .tup l => .tup (l.map (renS σ))
  | v => renS σ v
theorem CapsAre.ren {τ : Nat → Nat} {ρ : Rho} : ∀ {l : List Nat} {xs : List Value}, CapsAre (via τ ρ) l xs → CapsAre ρ (l.map τ) xs
  | [], _, h => h
  | i :: l, _, ⟨a, r, e, hx, hr⟩ => ⟨a, r, e, hx, CapsAre.ren hr⟩
theorem At.ren {τ : Nat → Nat} {ρ : Rho} {a : At} {x : Value} (h : a.is (via τ ρ) x) : (renA τ a).is ρ x := by
  cases a with
  | clo f l => obtain ⟨cs, hc, e⟩ := h; exact ⟨cs, CapsAre.ren hc, e⟩
  | _ => exact h
theorem Ats.ren {τ : Nat → Nat} {ρ : Rho} : ∀ {l : List At} {x : List Value}, Ats (V.via τ ρ) l x → Ats ρ (l.map (renA τ)) x
  | [], _, h => h
  | a :: l, _, ⟨u, r, hx, hu, hr⟩ => ⟨u, r, hx, At.ren hu, Ats.ren hr⟩
theorem SV.ren1 {τ : Nat → Nat} {ρ : Rho} {v : SV} {x : Value} (h : v.is1 (via τ ρ) x) : (renS τ v).is1 ρ x := by
  cases v with
  | one a => exact At.ren (a := a) h
  | agg l => obtain ⟨c, e, hx⟩ := h; exact ⟨c, e.ren, hx⟩
  | tup l => exact (show False from h).elim
theorem Svs.ren {τ : Nat → Nat} {ρ : Rho} : ∀ {l : List SV} {x : List Value}, Svs (V.via τ ρ) l x → Svs ρ (l.map (renS τ)) x
  | [], _, h => h
  | a :: l, _, ⟨u, r, hx, hu, hr⟩ => ⟨u, r, hx, SV.ren1 hu, Svs.ren hr⟩
theorem SV.renv {τ : Nat → Nat} {ρ : Rho} {v : SV} {x : Value} (h : v.is (via τ ρ) x) : (renV τ v).is ρ x := by
  cases v with
  | one a => exact At.ren (a := a) h
  | agg l => obtain ⟨c, e, hx⟩ := h; exact ⟨c, e.ren, hx⟩
  | tup l => obtain ⟨c, e, hx⟩ := h; exact ⟨c, e.ren, hx⟩
theorem ext_cut (n : Nat) (ρ : Rho) : Ext (cut n ρ) ρ := fun i y h => by
  unfold cut at h
  split at h
  · exact h
  · cases h
theorem Svs.cut' {nx : Nat} {ρ : Rho} : ∀ {l : List SV} {xs : List Value}, l.all (svB nx) = true → Svs ρ l xs → Svs (V.cut nx ρ) l xs := fun hb h => Svs.cut (by exact hb) h
theorem SV.is_agree {n : Nat} {ρ ρ' : Rho} {v : SV} {x : Value} (hb : svBv n v = true) (he : ∀ i, i < n → ρ i = ρ' i) (h : v.is ρ x) : v.is ρ' x := by
  have e : V.cut n ρ = V.cut n ρ' := funext fun i => by unfold V.cut; split <;> simp_all
  have hc : v.is (V.cut n ρ) x := by
    cases v with
    | one a => exact SV.is_cut (v := .one a) hb h
    | agg l => exact SV.is_cut (v := .agg l) hb h
    | tup l => obtain ⟨c, hc, hx⟩ := h; exact ⟨c, Svs.cut' hb hc, hx⟩
  rw [e] at hc
  exact SV.is_ext (ext_cut n ρ') hc
def newO : Nat → List Ob → Obs → Obs
  | _, [], obs => obs
  | i, o :: r, obs => newO (i + 1) r ((i, o) :: obs)
theorem newO_spec : ∀ {ros : List Ob} {n : Nat} {obs : Obs} {i : Nat} {o : Ob}, fnd (newO n ros obs) i = some o → (n ≤ i ∧ ros[i - n]? = some o) ∨ ((i < n ∨ n + ros.length ≤ i) ∧ fnd obs i = some o)
  | [], n, obs, i, o, h => .inr ⟨by rcases Nat.lt_or_ge i n with q | q <;> simp <;> omega, h⟩
  | u :: r, n, obs, i, o, h => by
    rcases newO_spec (ros := r) h with ⟨h1, h2⟩ | ⟨h1, h2⟩
    · left; exact ⟨by omega, by rw [show i - n = (i - (n + 1)) + 1 by omega]; simpa using h2⟩
    · rcases fnd_cons h2 with ⟨rfl, rfl⟩ | ⟨hn, h3⟩
      · left; exact ⟨Nat.le_refl _, by simp⟩
      · right; exact ⟨by simp; omega, h3⟩
theorem Sat.mono {B B' : Nat} {ρ : Rho} {w : World} {i : Nat} {o : Ob} (hn : isNew o = true) (h : Sat B' ρ w i o) (hb : B ≤ B') : Sat B ρ w i o := by
  cases o with
  | row t s n get =>
    obtain ⟨v, e, A, c, ev, h1, h2, h3⟩ := h
    refine ⟨v, e, A, c, ev, h1, h2, ?_⟩
    rcases h3 with q | ⟨g, cur, q1, q2, q3⟩
    · exact .inl q
    · exact .inr ⟨g, cur, q1, by omega, q3⟩
  | arr s n get => exact h
  | _ => cases hn
theorem Sat.at_ {B : Nat} {ρ ρ' : Rho} {w : World} {i j : Nat} {o : Ob} (hn : isNew o = true) (he : ρ' j = ρ i) (h : Sat B ρ w i o) : Sat B ρ' w j o := by
  cases o with
  | row t s n get => obtain ⟨v, e, q⟩ := h; exact ⟨v, he.trans e, q⟩
  | arr s n get => obtain ⟨v, e, q⟩ := h; exact ⟨v, he.trans e, q⟩
  | _ => cases hn
theorem foot_at {ρ ρ' : Rho} {i j : Nat} {o : Ob} (he : ρ' j = ρ i) : foot ρ' j o = foot ρ i o := by
  have hb : base ρ' j = base ρ i := by unfold base; rw [he]
  cases o <;> simp only [foot, hb, he]
theorem isNew_at {ros : List Ob} (h : ros.all isNew = true) {j : Nat} {o : Ob} (ho : ros[j]? = some o) : isNew o = true := List.all_eq_true.1 h o (List.mem_of_getElem? ho)
/-- objects that are new to the world -/
theorem Cls.adds {B nx m : Nat} {ρ ν ρ' : Rho} {obs : Obs} {w w' : World} {ros : List Ob} (h : Cls B ρ obs nx w) (hb : Below w.heap.size w w') (hn : ros.all isNew = true) (hN : News w.heap.size m ν w' ros)
    (h1 : ∀ i, i < nx → ρ' i = ρ i) (h2 : ∀ j, j < ros.length → ρ' (nx + j) = ν (m + j)) (h3 : ∀ i, nx + ros.length ≤ i → ρ' i = none) : Cls B ρ' (newO nx ros obs) (nx + ros.length) w' := by
  have hx : Ext ρ ρ' := fun i y hy => by
    by_cases hi : i < nx
    · rw [h1 i hi]; exact hy
    · rw [h.new i (by omega)] at hy; cases hy
  have lt : ∀ i o, fnd obs i = some o → o = .gone ∨ i < nx := fun i o ho => by
    rcases Nat.lt_or_ge i nx with q | q
    · exact .inr q
    · left
      have hs := h.sat i o ho
      cases o with
      | gone => rfl
      | box t l => obtain ⟨b, cs, e, _⟩ := hs; rw [h.new i q] at e; cases e
      | lit t s rows => obtain ⟨b, cs, e, _⟩ := hs; rw [h.new i q] at e; cases e
      | arr s n get => obtain ⟨v, e, _⟩ := hs; rw [h.new i q] at e; cases e
      | cel l => obtain ⟨v, cs, e, _⟩ := hs; rw [h.new i q] at e; cases e
      | row t s n get => obtain ⟨v, e, _⟩ := hs; rw [h.new i q] at e; cases e
      | lp L env st => obtain ⟨_, _, _, _, e, _⟩ := hs; rw [h.new i q] at e; cases e
      | tab g l => obtain ⟨e, _⟩ := hs; rw [h.new i q] at e; cases e
  have oldF : ∀ i o b, fnd obs i = some o → foot ρ' i o = some b → foot ρ i o = some b ∧ b < w.heap.size := fun i o b ho hf => by
    rcases lt i o ho with rfl | q
    · cases hf
    · rw [foot_at (h1 i q)] at hf
      exact ⟨hf, foot_lt (h.sat i o ho) hf⟩
  have newF : ∀ j o b, ros[j]? = some o → foot ρ' (nx + j) o = some b → foot ν (m + j) o = some b ∧ w.heap.size ≤ b := fun j o b ho hf => by
    have hj : j < ros.length := (List.getElem?_eq_some_iff.1 ho).1
    rw [foot_at (h2 j hj)] at hf
    exact ⟨hf, (hN.sat j o ho).2 b hf⟩
  refine ⟨Nat.le_trans h.le hb.size, fun i o ho => ?_, fun i j o o' b hi hj hne hm hf hf' => ?_, h3⟩
  · rcases newO_spec ho with ⟨q1, q2⟩ | ⟨_, q⟩
    · have hj : i - nx < ros.length := (List.getElem?_eq_some_iff.1 q2).1
      have hi : nx + (i - nx) = i := by omega
      have := ((hN.sat _ o q2).1.mono (isNew_at hn q2) h.le).at_ (isNew_at hn q2) (h2 _ hj)
      rwa [hi] at this
    · exact ((h.sat i o q).keep hb.size fun b hf => hb.block b (foot_lt (h.sat i o q) hf)).ext hx
  · rcases newO_spec hi with ⟨q1, q2⟩ | ⟨_, q⟩ <;> rcases newO_spec hj with ⟨r1, r2⟩ | ⟨_, r⟩
    · have e1 : nx + (i - nx) = i := by omega
      have e2 : nx + (j - nx) = j := by omega
      obtain ⟨f1, _⟩ := newF _ o b q2 (by rw [e1]; exact hf)
      obtain ⟨f2, _⟩ := newF _ o' b r2 (by rw [e2]; exact hf')
      exact hN.apart _ _ o o' b q2 r2 (by omega) f1 f2
    · have e1 : nx + (i - nx) = i := by omega
      obtain ⟨_, g1⟩ := newF _ o b q2 (by rw [e1]; exact hf)
      obtain ⟨_, g2⟩ := oldF j o' b r hf'
      omega
    · have e2 : nx + (j - nx) = j := by omega
      obtain ⟨_, g1⟩ := newF _ o' b r2 (by rw [e2]; exact hf')
      obtain ⟨_, g2⟩ := oldF i o b q hf
      omega
    · exact h.apart i j o o' b q r hne hm (oldF i o b q hf).1 (oldF j o' b r hf').1
/-- how the callee's ids are called here -/
def tau (m : Nat) (σ : List Nat) (nx : Nat) (i : Nat) : Nat := if i < m then sg σ i else nx + (i - m)
theorem FnR.goA {P : Program} {f : FuncId} {os : List Ob} {args args' : List SV} {v : SV} {ros : List Ob} (h : FnR P f os args v ros) (σ : List Nat) {obs : Obs} {nx : Nat} {K : SV → Obs → Nat → Prop} (ha : SameS (sg σ) args args') (ho : ObsTo (sg σ) obs 0 os)
    (hK : K (renV (tau os.length σ nx) v) (newO nx ros obs) (nx + ros.length)) : NCallA P f args' obs nx K :=
  ⟨h.b, fun B ρ w xs hC hs => by
    have hr := fun (i : Nat) o hi => by have := ObsTo.ro hC ho i o hi; simpa using this
    refine (h.c w (fun i => ρ (sg σ i)) xs hr (ha.is_ hs)).mono ?_
    rintro e w' ⟨ν, x, he, hv, hN, hw⟩
    let ρ' : Rho := fun i => if i < nx then ρ i else if i < nx + ros.length then ν (os.length + (i - nx)) else none
    have e1 : ∀ i, i < nx → ρ' i = ρ i := fun i hi => if_pos hi
    have e2 : ∀ j, j < ros.length → ρ' (nx + j) = ν (os.length + j) := fun j hj => by
      show (if nx + j < nx then _ else if nx + j < nx + ros.length then _ else _) = _
      rw [if_neg (by omega), if_pos (by omega)]; congr 2; omega
    have e3 : ∀ i, nx + ros.length ≤ i → ρ' i = none := fun i hi => by
      show (if i < nx then _ else if i < nx + ros.length then _ else _) = _
      rw [if_neg (by omega), if_neg (by omega)]
    refine ⟨_, _, _, ρ', x, hK, fun i y hy => ?_, he, SV.renv (SV.is_agree h.k (fun i hi => ?_) hv), hC.adds hw h.n hN e1 e2 e3, hw⟩
    · by_cases hi : i < nx
      · rw [e1 i hi]; exact hy
      · rw [hC.new i (by omega)] at hy; cases hy
    · show glue os.length _ ν i = ρ' (tau os.length σ nx i)
      unfold glue tau
      by_cases hi' : i < os.length
      · rw [if_pos hi', if_pos hi']
        obtain ⟨y, hy, _⟩ := hr i _ (List.getElem?_eq_getElem hi')
        have hy : ρ (sg σ i) = some y := hy
        have : sg σ i < nx := by
          rcases Nat.lt_or_ge (sg σ i) nx with q | q
          · exact q
          · rw [hC.new _ q] at hy; cases hy
        exact (e1 _ this).symm
      · rw [if_neg hi', if_neg hi', e2 (i - os.length) (by omega)]; congr 1; omega⟩
theorem FnR.go {P : Program} {f : FuncId} {os : List Ob} {args args' : List SV} {v : SV} {ros : List Ob} (h : FnR P f os args v ros) (σ : List Nat) {obs : Obs} {nx : Nat} {K : SV → Obs → Nat → Prop} (ha : SameS (sg σ) args args') (ho : ObsTo (sg σ) obs 0 os)
    (hK : K (renV (tau os.length σ nx) v) (newO nx ros obs) (nx + ros.length)) : NCall P f args' obs nx K := (h.goA σ ha ho hK).to
theorem FnR.a_ {P : Program} {f : FuncId} {os : List Ob} {args : List SV} {v : SV} {ros : List Ob} (h : FnR P f os args v ros) (σ : List Nat) (hp : plainS args = true) {obs : Obs} {nx : Nat} {K : SV → Obs → Nat → Prop} (ho : ObsTo (sg σ) obs 0 os)
    (hK : K (renV (tau os.length σ nx) v) (newO nx ros obs) (nx + ros.length)) : NCallA P f (args.map (renS (sg σ))) obs nx K :=
  h.goA σ (SameS.ren _ _ hp) ho hK
theorem FnR.a0 {P : Program} {f : FuncId} {args : List SV} {v : SV} {ros : List Ob} (h : FnR P f [] args v ros) (hp : plain0 args = true) {obs : Obs} {nx : Nat} {K : SV → Obs → Nat → Prop}
    (hK : K (renV (tau 0 [] nx) v) (newO nx ros obs) (nx + ros.length)) : NCallA P f args obs nx K :=
  h.goA [] (SameS.self hp) trivial hK
/-- by the arguments themselves -/
theorem FnR.k_ {P : Program} {f : FuncId} {os : List Ob} {args : List SV} {v : SV} {ros : List Ob} (h : FnR P f os args v ros) (σ : List Nat) (hp : plainS args = true) {obs : Obs} {nx : Nat} {K : SV → Obs → Nat → Prop} (ho : ObsTo (sg σ) obs 0 os)
    (hK : K (renV (tau os.length σ nx) v) (newO nx ros obs) (nx + ros.length)) : NCall P f (args.map (renS (sg σ))) obs nx K :=
  h.go σ (SameS.ren _ _ hp) ho hK
theorem FnR.k0 {P : Program} {f : FuncId} {args : List SV} {v : SV} {ros : List Ob} (h : FnR P f [] args v ros) (hp : plain0 args = true) {obs : Obs} {nx : Nat} {K : SV → Obs → Nat → Prop}
    (hK : K (renV (tau 0 [] nx) v) (newO nx ros obs) (nx + ros.length)) : NCall P f args obs nx K :=
  h.go [] (SameS.self hp) trivial hK

/-! how a walk shows it -/
/-- the id that stands for spec id i: l tells of the new ones (none: a slice that is nil) -/
def RetA (m : Nat) (l : List (Option Nat)) : At → At → Prop
  | .val x, .val y => y = x
  | .val x, .tf b => Value.bool b = x
  | .val (.bool b), .prop p => p ↔ b = true
  | .ref i, .ref j => if i < m then i = j else l[i - m]? = some (some j)
  | .ref i, .val (.slice none 0 0) => m ≤ i ∧ l[i - m]? = some none
  | _, _ => False
def RetAs (m : Nat) (l : List (Option Nat)) : List At → List At → Prop
  | [], [] => True
  | a :: r, b :: s => RetA m l a b ∧ RetAs m l r s
  | _, _ => False
def Ret1 (m : Nat) (l : List (Option Nat)) : SV → SV → Prop
  | .one a, .one b => RetA m l a b
  | .agg r, .agg s => RetAs m l r s
  | _, _ => False
def Rets (m : Nat) (l : List (Option Nat)) : List SV → List SV → Prop
  | [], [] => True
  | a :: r, b :: s => Ret1 m l a b ∧ Rets m l r s
  | _, _ => False
def RetV (m : Nat) (l : List (Option Nat)) : SV → SV → Prop
  | .tup r, .tup s => Rets m l r s
  | .tup _, _ | _, .tup _ => False
  | a, b => Ret1 m l a b
/-- the object that is handed back, as the contract has it -/
def ObRet : Ob → Ob → Prop
  | .row t s n g, .row t' s' n' g' => t = t' ∧ s = s' ∧ n = n' ∧ ∀ k, k < n → g k = g' k
  | .row _ s n g, .arr s' n' g' => s = s' ∧ n = n' ∧ ∀ k, k < n → g k = g' k
  | .lit _ s rows, .arr s' n' g' => s = s' ∧ rows.length = n' ∧ LitTo g' 0 rows
  | .lit t s rows, .row t' s' n' g' => t = t' ∧ s = s' ∧ rows.length = n' ∧ 0 < n' ∧ LitTo g' 0 rows
  | _, _ => False
def ObNil : Ob → Prop
  | .row _ _ n _ => n = 0
  | .arr _ n _ => n = 0
  | _ => False
def RetO (obs : Obs) : List (Option Nat) → List Ob → Prop
  | [], [] => True
  | none :: l, o :: r => ObNil o ∧ RetO obs l r
  | some i :: l, o :: r => fndK obs i (fun u => ObRet u o) ∧ RetO obs l r
  | _, _ => False
def somes : List (Option Nat) → List Nat
  | [] => []
  | none :: r => somes r
  | some i :: r => i :: somes r
structure NRet (m : Nat) (v : SV) (ros : List Ob) (v1 : SV) (obs1 : Obs) : Prop where
  h : ∃ l : List (Option Nat), nodB (somes l) = true ∧ RetV m l v v1 ∧ RetO obs1 l ros
theorem NRet.mk_ {m : Nat} {v : SV} {ros : List Ob} {v1 : SV} {obs1 : Obs} (l : List (Option Nat)) (h0 : nodB (somes l) = true) (h1 : RetV m l v v1) (h2 : RetO obs1 l ros) : NRet m v ros v1 obs1 := ⟨⟨l, h0, h1, h2⟩⟩
theorem RetO.get {obs : Obs} : ∀ {l : List (Option Nat)} {ros : List Ob}, RetO obs l ros → l.length = ros.length ∧ ∀ (j : Nat) o, ros[j]? = some o → (l[j]? = some none ∧ ObNil o) ∨ ∃ i u, l[j]? = some (some i) ∧ fnd obs i = some u ∧ ObRet u o
  | [], [], _ => ⟨rfl, fun j o h => by simp at h⟩
  | [], _ :: _, h => h.elim
  | none :: _, [], h => h.elim
  | some _ :: _, [], h => h.elim
  | none :: l, o :: r, ⟨h1, h2⟩ => by
    obtain ⟨e, q⟩ := RetO.get h2
    refine ⟨by simp [e], fun j u hu => ?_⟩
    cases j with
    | zero => simp at hu; subst hu; exact .inl ⟨rfl, h1⟩
    | succ j => simpa using q j u (by simpa using hu)
  | some i :: l, o :: r, ⟨h1, h2⟩ => by
    obtain ⟨e, q⟩ := RetO.get h2
    refine ⟨by simp [e], fun j u hu => ?_⟩
    cases j with
    | zero =>
      simp at hu; subst hu
      obtain ⟨u, hu, hr⟩ := fndK_spec h1
      exact .inr ⟨i, u, rfl, hu, hr⟩
    | succ j => simpa using q j u (by simpa using hu)
theorem mem_somes {i : Nat} : ∀ {l : List (Option Nat)} {j : Nat}, l[j]? = some (some i) → i ∈ somes l
  | [], j, h => by simp at h
  | none :: r, j, h => by
    cases j with
    | zero => simp at h
    | succ j => exact mem_somes (l := r) (by simpa using h)
  | some k :: r, j, h => by
    cases j with
    | zero => simp at h; subst h; simp [somes]
    | succ j => simp [somes, mem_somes (l := r) (j := j) (by simpa using h)]
theorem somes_inj {i : Nat} : ∀ {l : List (Option Nat)} {j k : Nat}, nodB (somes l) = true → l[j]? = some (some i) → l[k]? = some (some i) → j = k
  | [], j, k, _, h, _ => by simp at h
  | none :: r, j, k, hn, h, h' => by
    cases j with
    | zero => simp at h
    | succ j =>
      cases k with
      | zero => simp at h'
      | succ k => exact congrArg (· + 1) (somes_inj (l := r) hn (by simpa using h) (by simpa using h'))
  | some x :: r, j, k, hn, h, h' => by
    unfold somes nodB at hn
    cases hm : memB x (somes r) <;> simp only [hm] at hn
    · cases j with
      | zero =>
        cases k with
        | zero => rfl
        | succ k =>
          simp at h; subst h
          have := memB_of (mem_somes (l := r) (j := k) (by simpa using h'))
          rw [hm] at this; cases this
      | succ j =>
        cases k with
        | zero =>
          simp at h'; subst h'
          have := memB_of (mem_somes (l := r) (j := j) (by simpa using h))
          rw [hm] at this; cases this
        | succ k => exact congrArg (· + 1) (somes_inj (l := r) hn (by simpa using h) (by simpa using h'))
    · cases hn
def nuOf (m : Nat) (l : List (Option Nat)) (ρ : Rho) : Rho := fun i => match l[i - m]? with
  | some (some j) => ρ j
  | some none => some (.slice none 0 0)
  | none => none
theorem RetA.is_ {m : Nat} {l : List (Option Nat)} {ρ ρ0 : Rho} (h0 : ∀ i, i < m → ρ0 i = ρ i) : ∀ {a b : At} {x : Value}, RetA m l a b → b.is ρ x → a.is (glue m ρ0 (nuOf m l ρ)) x
  | .val u, .val y, x, h, hb => Eq.trans hb h
  | .val u, .tf b, x, h, hb => Eq.trans hb h
  | .val u, .prop p, x, h, hb => by
    cases u <;> try exact (show False from h).elim
    rename_i b
    obtain ⟨c, rfl, hc⟩ := hb
    show Value.bool c = Value.bool b
    congr 1
    rw [Bool.eq_iff_iff, hc]; exact h
  | .ref i, .ref j, x, h, hb => by
    refine ⟨?_, hb.2⟩
    have h : if i < m then i = j else l[i - m]? = some (some j) := h
    show glue m ρ0 (nuOf m l ρ) i = some x
    unfold glue nuOf
    split at h
    · rename_i hi; subst h; rw [if_pos hi, h0 i hi]; exact hb.1
    · rename_i hi; rw [if_neg hi, h]; exact hb.1
  | .ref i, .val (.slice none 0 0), x, h, hb => by
    have e : x = .slice none 0 0 := hb
    subst e
    refine ⟨?_, rfl⟩
    show glue m ρ0 (nuOf m l ρ) i = _
    unfold glue nuOf
    rw [if_neg (by have := h.1; omega), h.2]
  | .tf _, b, _, h, _ => by cases b <;> exact (show False from h).elim
  | .prop _, b, _, h, _ => by cases b <;> exact (show False from h).elim
  | .ptr _ _ _ _, b, _, h, _ => by cases b <;> exact (show False from h).elim
  | .clo _ _, b, _, h, _ => by cases b <;> exact (show False from h).elim
  | .val u, .ptr _ _ _ _, _, h, _ => by cases u <;> exact (show False from h).elim
  | .val u, .ref _, _, h, _ => by cases u <;> exact (show False from h).elim
  | .val u, .clo _ _, _, h, _ => by cases u <;> exact (show False from h).elim
  | .ref i, .tf _, _, h, _ => (show False from h).elim
  | .ref i, .prop _, _, h, _ => (show False from h).elim
  | .ref i, .ptr _ _ _ _, _, h, _ => (show False from h).elim
  | .ref i, .clo _ _, _, h, _ => (show False from h).elim
theorem RetAs.is_ {m : Nat} {l : List (Option Nat)} {ρ ρ0 : Rho} (h0 : ∀ i, i < m → ρ0 i = ρ i) : ∀ {a b : List At} {x : List Value}, RetAs m l a b → Ats ρ b x → Ats (glue m ρ0 (nuOf m l ρ)) a x
  | [], [], _, _, h => h
  | [], _ :: _, _, h, _ => h.elim
  | _ :: _, [], _, h, _ => h.elim
  | a :: r, b :: s, _, ⟨h1, h2⟩, ⟨u, q, hx, hu, hr⟩ => ⟨u, q, hx, RetA.is_ h0 h1 hu, RetAs.is_ h0 h2 hr⟩
theorem Ret1.is_ {m : Nat} {l : List (Option Nat)} {ρ ρ0 : Rho} (h0 : ∀ i, i < m → ρ0 i = ρ i) {a b : SV} {x : Value} (h : Ret1 m l a b) (hb : b.is1 ρ x) : a.is1 (glue m ρ0 (nuOf m l ρ)) x := by
  cases a <;> cases b <;> try exact (show False from h).elim
  · exact RetA.is_ h0 h hb
  · obtain ⟨c, hc, e⟩ := hb; exact ⟨c, RetAs.is_ h0 h hc, e⟩
theorem Rets.is_ {m : Nat} {l : List (Option Nat)} {ρ ρ0 : Rho} (h0 : ∀ i, i < m → ρ0 i = ρ i) : ∀ {a b : List SV} {x : List Value}, Rets m l a b → Svs ρ b x → Svs (glue m ρ0 (nuOf m l ρ)) a x
  | [], [], _, _, h => h
  | [], _ :: _, _, h, _ => h.elim
  | _ :: _, [], _, h, _ => h.elim
  | a :: r, b :: s, _, ⟨h1, h2⟩, ⟨u, q, hx, hu, hr⟩ => ⟨u, q, hx, Ret1.is_ h0 h1 hu, Rets.is_ h0 h2 hr⟩
theorem RetV.is_ {m : Nat} {l : List (Option Nat)} {ρ ρ0 : Rho} (h0 : ∀ i, i < m → ρ0 i = ρ i) {a b : SV} {x : Value} (h : RetV m l a b) (hb : b.is ρ x) : a.is (glue m ρ0 (nuOf m l ρ)) x := by
  cases a <;> cases b <;> try exact (show False from h).elim
  · exact RetA.is_ h0 h hb
  · obtain ⟨c, hc, e⟩ := hb; exact ⟨c, RetAs.is_ h0 h hc, e⟩
  · obtain ⟨c, hc, e⟩ := hb; exact ⟨c, Rets.is_ h0 h hc, e⟩
theorem flatten_len {s : Nat} : ∀ {rows : List (List At)}, (∀ r ∈ rows, r.length = s) → rows.flatten.length = rows.length * s
  | [], _ => by simp
  | r :: l, h => by
    rw [List.flatten_cons, List.length_append, flatten_len (rows := l) fun x hx => h x (List.mem_cons_of_mem _ hx), h r (List.mem_cons_self ..), List.length_cons, Nat.add_mul, Nat.one_mul, Nat.add_comm]
theorem ObRet.sat {B : Nat} {ρ ν : Rho} {w : World} {i j : Nat} {u o : Ob} (h : ObRet u o) (he : ν j = ρ i) (hs : Sat B ρ w i u) : isNew o = true ∧ Sat B ν w j o ∧ (∀ b, foot ν j o = some b → foot ρ i u = some b ∧ B ≤ b) ∧ u.mut = true := by
  cases u with
  | row t s n g =>
    obtain ⟨v, e, hr⟩ := hs
    have hf : ∀ b, foot ρ i (.row t s n g) = some b → B ≤ b := fun b hb => by
      obtain ⟨A, c, rfl, _, _, hc⟩ := hr
      rw [foot_row e] at hb
      split at hb
      · cases hb
      · rcases hc with ⟨_, q⟩ | ⟨g, cur, rfl, hB, _⟩
        · omega
        · simp at hb; omega
    cases o with
    | row t' s' n' g' =>
      obtain ⟨rfl, rfl, rfl, hg⟩ := h
      refine ⟨rfl, ⟨v, he.trans e, hr.congr fun k hk => (hg k hk).symm⟩, fun b hb => ?_, rfl⟩
      rw [foot_at he] at hb
      have hb' : foot ρ i (.row t s n g) = some b := hb
      exact ⟨hb', hf b hb'⟩
    | arr s' n' g' =>
      obtain ⟨rfl, rfl, hg⟩ := h
      refine ⟨rfl, ⟨v, he.trans e, (hr.congr fun k hk => (hg k hk).symm).arr⟩, fun b hb => ?_, rfl⟩
      rw [foot_at he] at hb
      have hb' : foot ρ i (.row t s n g) = some b := by
        obtain ⟨A, c, rfl, _, _, hc⟩ := hr
        unfold foot at hb ⊢
        rw [e]
        cases n with
        | zero => cases hb
        | succ n =>
          have hc0 : c ≠ 0 := by rcases hc with ⟨h, _⟩ | ⟨_, _, _, _, _, _, h, _⟩ <;> omega
          cases c with
          | zero => exact absurd rfl hc0
          | succ c => exact hb
      exact ⟨hb', hf b hb'⟩
    | _ => exact (show False from h).elim
  | lit t s rows =>
    cases o with
    | arr s' n' g' =>
      obtain ⟨h1, h2, h3⟩ := h
      obtain ⟨v, e, hr⟩ := ObTo.ro (σ := id) (u := .lit t s rows) (o := .arr s' n' g') ⟨h1, h2, h3⟩ hs
      refine ⟨rfl, ⟨v, he.trans e, hr⟩, fun b hb => ?_, rfl⟩
      rw [foot_at he] at hb
      obtain ⟨b', cs, e', hB, _⟩ := hs
      have hb' : foot ρ i (.lit t s rows) = some b := by
        unfold foot at hb ⊢
        cases n' with
        | zero => cases hb
        | succ n => exact hb
      refine ⟨hb', ?_⟩
      simp only [foot, base, e', Option.map_some] at hb'
      injection hb' with hb'; omega
    | row t' s' n' g' =>
      obtain ⟨rfl, rfl, rfl, h0, hg⟩ := h
      obtain ⟨b', cs, e', hB, hrs, hn, hl, hh⟩ := hs
      have hgk : ∀ k, k < rows.length → (cs.drop (k * s)).take s = g' k := fun k hk => by
        have hr : rows[k]? = some (rows[k]'hk) := List.getElem?_eq_getElem hk
        have e1 := FinL1.is_ (hg.get hr) (lit_at hrs hl hr)
        rwa [Nat.zero_add] at e1
      have hcs : cs.length = rows.length * s := by rw [hl.length]; exact flatten_len hrs
      have hfr : foot ρ i (.lit t s rows) = some b' := by simp only [foot, base, e', Option.map_some]
      refine ⟨rfl, ⟨_, he.trans e', _, _, rfl, hn, fun k hk => ?_, .inr ⟨b', cs.toArray, rfl, hB, hh, Nat.le_refl _, h0, by simp only [maxLen]; omega, by simpa using hcs, ?_⟩⟩, fun b hb => ?_, rfl⟩
      · rw [← hgk k hk]
        have : (k + 1) * s ≤ cs.length := by rw [hcs]; exact Nat.mul_le_mul_right _ hk
        rw [List.length_take, List.length_drop]
        rw [Nat.add_mul] at this
        omega
      · have e2 := flat_cut hcs
        have e3 : flat (fun k => (cs.drop (k * s)).take s) rows.length = flat g' rows.length := flat_congr hgk
        rw [List.take_of_length_le (by simp [hcs]), ← e3, e2]
      · rw [foot_row (he.trans e'), if_neg (by omega)] at hb
        injection hb with hb
        have hb : b' = b := hb
        subst hb
        exact ⟨hfr, hB⟩
    | _ => exact (show False from h).elim
  | _ => cases o <;> exact (show False from h).elim
theorem ObNil.sat {B : Nat} {ν : Rho} {w : World} {j : Nat} {o : Ob} (h : ObNil o) (he : ν j = some (.slice none 0 0)) : isNew o = true ∧ Sat B ν w j o ∧ ∀ b, foot ν j o ≠ some b := by
  cases o with
  | row t s n g =>
    have e : n = 0 := h
    subst e
    exact ⟨rfl, ⟨_, he, none, 0, rfl, by omega, fun k hk => by omega, .inl ⟨rfl, rfl⟩⟩, fun b hb => by rw [foot_row he] at hb; simp at hb⟩
  | arr s n g =>
    have e : n = 0 := h
    subst e
    exact ⟨rfl, ⟨_, he, none, 0, rfl, by omega, by omega, fun k hk => by omega⟩, fun b hb => by simp [foot] at hb⟩
  | _ => exact (show False from h).elim
theorem FnR.mk_ {P : Program} {T : TT} (hT : TTok P T) (hm : P.follows .mixedOrders = true) {f : FuncId} {fn : Func} {c : Code} (hf : P.funcs[f]? = some fn) (hb : fn.body = some c) {sz : Nat} (hs : fn.ntmps = sz) {os : List Ob} {args : List SV} {v : SV} {ros : List Ob}
    (hB : hasBody P f = true) (hsz : Nat.ble args.length sz = true) (hab : (argB os.length args && os.all (obB os.length)) = true) (hn : ros.all isNew = true) (hk : svBv (os.length + ros.length) v = true) (h : vc P T sz os.length c (argEnv 0 args) (obsOf 0 os) os.length (fnK T fn.results.toList fun v1 obs1 _ => NRet os.length v ros v1 obs1)) : FnR P f os args v ros :=
  ⟨hB, hn, hk, fun w ρ xs hr ha => by
    have hr' : ∀ (i : Nat) o, os[i]? = some o → ∃ v, V.cut os.length ρ i = some v ∧ Ro (V.cut os.length ρ) w v o := fun i o ho => by
      obtain ⟨v, e, q⟩ := hr i o ho
      exact ⟨v, by rw [cut_lt (List.getElem?_eq_some_iff.1 ho).1]; exact e, q.cut (List.all_eq_true.1 ((Bool.and_eq_true _ _).mp hab).2 o (List.mem_of_getElem? ho))⟩
    refine (fn_sound hT hm hf hb hs hsz h (Cls.start hr' (fun i hi => if_neg (by omega))) (xs := xs.toArray) (by simpa using ha.cut ((Bool.and_eq_true _ _).mp hab).1)).mono ?_
    rintro e w' ⟨ρ', v1, obs', nx', y, ⟨⟨l, h0, h1, h2⟩⟩, he, hv, hC, hw, hx, _⟩
    obtain ⟨hl, hg⟩ := RetO.get h2
    have hin : ∀ i, i < os.length → ρ i = ρ' i := fun i hi => by
      obtain ⟨u, eu, _⟩ := hr i _ (List.getElem?_eq_getElem hi)
      rw [eu]
      exact (hx i u (by rw [cut_lt hi]; exact eu)).symm
    have nu : ∀ (j : Nat) q, l[j]? = some q → nuOf os.length l ρ' (os.length + j) = match q with | some i => ρ' i | none => some (.slice none 0 0) := fun j q hq => by
      unfold nuOf
      rw [show os.length + j - os.length = j by omega, hq]
      cases q <;> rfl
    refine ⟨nuOf os.length l ρ', y, he, RetV.is_ hin h1 hv, ⟨fun j o ho => ?_, fun j k o o' b hj hk' hne f1 f2 => ?_⟩, hw⟩
    · rcases hg j o ho with ⟨q1, q2⟩ | ⟨i, u, q1, q2, q3⟩
      · obtain ⟨_, s1, s2⟩ := q2.sat (B := w.heap.size) (w := w') (nu j none q1)
        exact ⟨s1, fun b hb => absurd hb (s2 b)⟩
      · obtain ⟨_, s1, s2, _⟩ := q3.sat (nu j (some i) q1) (hC.sat i u q2)
        exact ⟨s1, fun b hb => (s2 b hb).2⟩
    · rcases hg j o hj with ⟨q1, q2⟩ | ⟨i, u, q1, q2, q3⟩
      · obtain ⟨_, s1, s2⟩ := q2.sat (B := w.heap.size) (w := w') (nu j none q1)
        exact s2 b f1
      rcases hg k o' hk' with ⟨r1, r2⟩ | ⟨i', u', r1, r2, r3⟩
      · obtain ⟨_, s1, s2⟩ := r2.sat (B := w.heap.size) (w := w') (nu k none r1)
        exact s2 b f2
      obtain ⟨_, _, s2, s3⟩ := q3.sat (nu j (some i) q1) (hC.sat i u q2)
      obtain ⟨_, _, t2, _⟩ := r3.sat (nu k (some i') r1) (hC.sat i' u' r2)
      refine hC.apart i i' u u' b q2 r2 (fun e => ?_) s3 (s2 b f1).1 (t2 b f2).1
      subst e
      exact hne (somes_inj h0 q1 r1)⟩
end Go.Proofs.Yteblbhbfdfifpaa.V

/- How lists are read off the arguments, for the walk by verification conditions. -/
namespace Go.Proofs.Yteblbhbfdfifpaa.V
open Go Go.RowKit Go.ChangeShapes Go.WideShapes Go.Deep
set_option linter.unusedVariables false

/-- the cells of a list's elements -/
def ga {α : Type} [Inhabited α] (en : α → List Value) (l : List α) : Nat → List Value := fun k => en (l.getD k default)
def e1 (x : Int) : List Value := [.int .i64 x]
def eB (b : Bool) : List Value := [.bool b]
def eb (x : UInt8) : List Value := [.int .u8 x.toNat]
theorem ga_at {α : Type} [Inhabited α] {en : α → List Value} {l : List α} {k : Nat} (h : k < l.length) : ga en l k = en l[k] := by
  simp [ga, List.getD, List.getElem?_eq_getElem h]
theorem ga_snoc {α : Type} [Inhabited α] {en : α → List Value} {l : List α} {x : α} {g : Nat → List Value} (h1 : ∀ k, k < l.length → g k = ga en l k) (h2 : g l.length = en x) : ∀ k, k < (l ++ [x]).length → g k = ga en (l ++ [x]) k := by
  intro k hk
  simp at hk
  by_cases hkl : k < l.length
  · rw [h1 k hkl, ga_at hkl, ga_at (by simp; omega), List.getElem_append_left hkl]
  · have e : k = l.length := by omega
    subst e
    rw [h2, ga_at (by simp)]
    simp

/-- append: one element, to a list or to nothing; a whole list -/
theorem _root_.Go.Proofs.Yteblbhbfdfifpaa.V.NApp.one {α : Type} [Inhabited α] {en : α → List Value} {l : List α} {x : α} {bytes : Nat} {K : Nat → (Nat → List Value) → Prop} (h1 : (l.length + 1) * bytes ≤ 140737488355328) (h2 : l.length + 1 ≤ 9223372036854775807) (hK : K (l ++ [x]).length (ga en (l ++ [x]))) :
    NApp l.length 1 (ga en l) (listG [en x]) bytes K :=
  ⟨⟨_, _, by simp, by simpa using h2, by simpa using h1, fun k hk => by rw [ga_at (by simp; omega), ga_at hk, List.getElem_append_left hk], fun k hk => by
    obtain rfl : k = 0 := by omega
    rw [Nat.add_zero, ga_at (by simp)]; simp [listG], hK⟩⟩
theorem _root_.Go.Proofs.Yteblbhbfdfifpaa.V.NApp.first {α : Type} [Inhabited α] {en : α → List Value} {x : α} {get : Nat → List Value} {bytes : Nat} {K : Nat → (Nat → List Value) → Prop} (h1 : bytes ≤ 140737488355328) (hK : K [x].length (ga en [x])) :
    NApp 0 1 get (listG [en x]) bytes K :=
  ⟨⟨_, _, rfl, by simp, by simpa using h1, fun k hk => absurd hk (by omega), fun k hk => by
    obtain rfl : k = 0 := by omega
    rfl, hK⟩⟩
theorem _root_.Go.Proofs.Yteblbhbfdfifpaa.V.NApp.list {α : Type} [Inhabited α] {en : α → List Value} {l m : List α} {bytes : Nat} {K : Nat → (Nat → List Value) → Prop} (h1 : (l.length + m.length) * bytes ≤ 140737488355328) (h2 : l.length + m.length ≤ 9223372036854775807) (hK : K (l ++ m).length (ga en (l ++ m))) :
    NApp l.length m.length (ga en l) (ga en m) bytes K :=
  ⟨⟨_, _, by simp, by simpa using h2, by simpa using h1, fun k hk => by rw [ga_at (by simp; omega), ga_at hk, List.getElem_append_left hk], fun k hk => by
    rw [ga_at (by simp; omega), ga_at hk, List.getElem_append_right (by omega)]; congr 2; omega, hK⟩⟩
theorem _root_.Go.Proofs.Yteblbhbfdfifpaa.V.NApp.all_ {α : Type} [Inhabited α] {en : α → List Value} {m : List α} {get : Nat → List Value} {bytes : Nat} {K : Nat → (Nat → List Value) → Prop} (h1 : m.length * bytes ≤ 140737488355328) (h2 : m.length ≤ 9223372036854775807) (hK : K m.length (ga en m)) :
    NApp 0 m.length get (ga en m) bytes K :=
  ⟨⟨_, _, by simp, h2, h1, fun k hk => absurd hk (by omega), fun k hk => by rw [Nat.zero_add], hK⟩⟩
/-- a store of a whole element -/
theorem _root_.Go.Proofs.Yteblbhbfdfifpaa.V.NPut.at_ {α : Type} [Inhabited α] {en : α → List Value} {l : List α} {k : Nat} (x : α) {r : List Value} {K : (Nat → List Value) → Prop} (hr : r = en x) (hK : K (ga en (l.set k x))) :
    NPut l.length k (ga en l) r K :=
  ⟨⟨_, fun k' hk => by
    rw [ga_at (by simpa using hk), ga_at hk, List.getElem_set, hr]
    by_cases e : k = k'
    · subst e; simp
    · rw [if_neg e, if_neg (fun q => e q.symm)], hK⟩⟩
theorem _root_.Go.Proofs.Yteblbhbfdfifpaa.V.NPut.to {α : Type} [Inhabited α] {en : α → List Value} {l : List α} {n k : Nat} (x : α) {r : List Value} {K : (Nat → List Value) → Prop} (hn : l.length = n) (hr : r = en x) (hK : K (ga en (l.set k x))) :
    NPut n k (ga en l) r K := by
  subst hn
  exact NPut.at_ x hr hK
/-- .. told otherwise; into a row that was made -/
theorem _root_.Go.Proofs.Yteblbhbfdfifpaa.V.NPut.is_ {α : Type} [Inhabited α] {en : α → List Value} {l : List α} {n k : Nat} (x : α) (l' : List α) {r : List Value} {K : (Nat → List Value) → Prop} (e : l.set k x = l') (hn : l.length = n) (hr : r = en x) (hK : K (ga en l')) :
    NPut n k (ga en l) r K := by
  subst e
  exact NPut.to x hn hr hK
theorem _root_.Go.Proofs.Yteblbhbfdfifpaa.V.NPut.rep {α : Type} [Inhabited α] {en : α → List Value} {n k : Nat} (x0 x : α) (l' : List α) {get : Nat → List Value} {r : List Value} {K : (Nat → List Value) → Prop} (hg : ∀ k, get k = en x0) (e : (List.replicate n x0).set k x = l') (hr : r = en x) (hK : K (ga en l')) :
    NPut n k get r K := by
  subst e
  refine ⟨⟨_, fun k' hk => ?_, hK⟩⟩
  rw [ga_at (by simpa using hk), List.getElem_set, hr]
  by_cases e : k = k'
  · subst e; simp
  · rw [if_neg e, if_neg (fun q => e q.symm), hg]; simp
theorem _root_.Go.Proofs.Yteblbhbfdfifpaa.V.ObLe.is_ {α : Type} [Inhabited α] {en : α → List Value} {t s n : Nat} {l l' : List α} (e : l' = l) (hn : n = l'.length) : ObLe (.row t s n (ga en l)) (.row t s l'.length (ga en l')) := by
  subst e hn
  exact ⟨rfl, rfl, rfl, fun k hk => rfl⟩
/-- a list and an error: nothing and the error -/
theorem _root_.Go.Proofs.Yteblbhbfdfifpaa.retE {α : Type} [Inhabited α] {en : α → List Value} {m t s : Nat} {l : List α} {e e' : Int} {obs : Obs} {get : Nat → List Value} (id : Nat) (h1 : e = e') (h2 : l = []) (h3 : fnd obs id = some (.row t s 0 get) := by rfl) : NRet m (.tup [.one (.ref m), .one (.val (.int .i64 e))]) [.row t s l.length (ga en l)] (.tup [.one (.ref id), .one (.val (.int .i64 e'))]) obs := by
  subst h1 h2
  refine NRet.mk_ [some id] rfl ⟨?_, rfl, trivial⟩ ⟨fndK_of h3 ⟨rfl, rfl, rfl, fun k hk => absurd hk (Nat.not_lt_zero _)⟩, trivial⟩
  show (if m < m then _ else _)
  rw [if_neg (Nat.lt_irrefl _)]; simp
/-- a row that was made -/
theorem _root_.Go.Proofs.Yteblbhbfdfifpaa.V.ObLe.rep {α : Type} [Inhabited α] {en : α → List Value} {t s n : Nat} {l : List α} {get : Nat → List Value} (x : α) (e : l = List.replicate n x) (h : ∀ k, get k = en x) : ObLe (.row t s n get) (.row t s l.length (ga en l)) := by
  subst e
  exact ⟨rfl, rfl, by simp, fun k hk => by rw [h, ga_at (by simpa using hk)]; simp⟩
/-- a row that got one element more; a row that is as it was; a row that is read from further on -/
theorem _root_.Go.Proofs.Yteblbhbfdfifpaa.V.ObLe.snoc {α : Type} [Inhabited α] {en : α → List Value} {t s : Nat} {l l' : List α} {x : α} {g : Nat → List Value} (e : l' = l ++ [x]) (h1 : ∀ k, k < l.length → g k = ga en l k) (h2 : ∀ k, k < 1 → g (l.length + k) = listG [en x] k) : ObLe (.row t s (l.length + 1) g) (.row t s l'.length (ga en l')) := by
  subst e
  exact ⟨rfl, rfl, by simp, fun k hk => ga_snoc h1 (h2 0 (by omega)) k (by simp; omega)⟩
theorem _root_.Go.Proofs.Yteblbhbfdfifpaa.V.ObLe.as_ {α : Type} [Inhabited α] {en : α → List Value} {t s : Nat} {l l' : List α} (e : l' = l) : ObLe (.row t s l.length (ga en l)) (.row t s l'.length (ga en l')) := by
  subst e
  exact ⟨rfl, rfl, rfl, fun k hk => rfl⟩
theorem _root_.Go.Proofs.Yteblbhbfdfifpaa.V.ObLe.cut_ {α : Type} [Inhabited α] {en : α → List Value} {s n n' a i i' : Nat} {l : List α} (e : n - a = n') (h : a + i = i') : ObLe (.arr s (n - a) fun k => en (l.getD (a + k + i) default)) (.arr s n' fun k => en (l.getD (k + i') default)) :=
  ⟨rfl, e, fun k _ => congrArg (fun z => en (l.getD z default)) (by omega)⟩

section
variable {H : Type} {enc : TypeId × Value → H} {P : Program} {w : World} {base : Nat} {spare : Nat → Bool} {held : Bool}
theorem ints_all : ∀ (cs : List Value), (∀ j (hj : j < cs.length), ∃ m, cs[j] = .int .i64 m ∧ (Lit.int .i64 m).wf = true) → ∃ ns : List Int, cs = ns.map (Value.int .i64) ∧ ∀ n ∈ ns, (Lit.int .i64 n).wf = true
  | [], _ => ⟨[], rfl, by simp⟩
  | c :: cs, h => by
    obtain ⟨m, e, wf⟩ := h 0 (by simp)
    obtain ⟨ns, e2, wfs⟩ := ints_all cs (fun j hj => h (j + 1) (by simpa using hj))
    refine ⟨m :: ns, by simp at e; simp [e, e2], fun n hn => ?_⟩
    rcases List.mem_cons.1 hn with rfl | hn
    · exact wf
    · exact wfs n hn
/-- a struct of integers alone, by its cells -/
theorem ints_struct {t : TypeId} {fs : Array Field} {fuel : Nat} {cs : List Value} {x : DataW H × List MemPlace} (hs : P.underlying t = some (.struct fs)) (hone : oneCellFields P fs = true) (hC : P.cellsOf t = fs.size)
    (hint : ∀ (j : Nat) (f : Field), fs[j]? = some f → P.underlying f.type = some (.int .i64)) (h : DataW.trod enc P w base spare held fuel t cs = some x) :
    ∃ ns : List Int, cs = ns.map (Value.int .i64) ∧ ns.length = fs.size ∧ ∀ n ∈ ns, (Lit.int .i64 n).wf = true := by
  obtain ⟨xs, n, _, _, hl, hlen, hg⟩ := DataW.trod_struct hs h
  have hC' : cs.length = fs.size := hl.trans hC
  obtain ⟨ns, e, wf⟩ := ints_all cs (fun j hj => by
    have hf : fs[j]? = some fs[j] := Array.getElem?_eq_getElem (by omega)
    obtain ⟨o, k⟩ := hone_of hone j _ hf
    have h1 := hg j _ hf
    rw [o, k] at h1
    have e1 : (cs.drop j).take 1 = [cs[j]] := by rw [List.drop_eq_getElem_cons hj]; rfl
    rw [e1] at h1
    have hx : j < xs.length := by omega
    rw [List.getElem?_eq_getElem hx] at h1
    obtain ⟨m, e2, _, wf⟩ := DataW.trod_int (hint j _ hf) h1
    exact ⟨m, by simpa using e2, wf⟩)
  exact ⟨ns, e, by rw [← hC', e]; simp, wf⟩
theorem list_of {α : Type} {p : Nat → α → Prop} : ∀ (n : Nat), (∀ i, i < n → ∃ f, p i f) → ∃ l : List α, l.length = n ∧ ∀ i (hi : i < l.length), p i l[i]
  | 0, _ => ⟨[], rfl, fun i hi => absurd hi (by simp)⟩
  | n + 1, h => by
    obtain ⟨l, hl, hp⟩ := list_of n (fun i hi => h i (by omega))
    obtain ⟨f, hf⟩ := h n (by omega)
    refine ⟨l ++ [f], by simp [hl], fun i hi => ?_⟩
    by_cases hi' : i < l.length
    · rw [List.getElem_append_left hi']; exact hp i hi'
    · have : i = l.length := by simp at hi; omega
      subst this
      rw [List.getElem_append_right (by omega)]
      simpa [hl] using hf
theorem cell_lt {W : World} {a : Addr} {v : Value} (h : W.cell? a = some v) : a.block < W.heap.size := by
  rcases Nat.lt_or_ge a.block W.heap.size with hlt | hge
  · exact hlt
  · unfold World.cell? at h; rw [Array.getElem?_eq_none hge] at h; cases h
/-- a list of elements that are data -/
theorem open_list {α : Type} [Inhabited α] {en : α → List Value} {Wf : α → Prop} {t e s : Nat} (hu : P.underlying t = some (.slice e)) (hs : P.cellsOf e = s) (hs0 : 0 < s)
    (hel : ∀ fuel cs x, DataW.trod enc P w base spare held fuel e cs = some x → ∃ f : α, cs = en f ∧ Wf f) {r : Reach} {b0 : Nat} {v : Value} {d : DataW H} {p : List MemPlace} (hv : Value.okWide P w r b0 t v) (h : DataW.Trod enc P w base spare held t v d p) :
    ∃ l : List α, ArrIs w v s l.length (ga en l) ∧ ∀ f ∈ l, Wf f := by
  obtain ⟨a0, len, cap, rfl⟩ := okWide_slice hu hv
  obtain ⟨fuel, hf⟩ := h
  rcases Go.Deep.open_slice hu hf with ⟨hcs, _⟩ | ⟨a, len', cap', m, n, D, Pl, hcs, _, hl, hm, hmm, _, hi⟩
  · have e : (Value.slice a0 len cap) = .slice none 0 0 := by simpa [Value.cells] using hcs
    injection e with e1 e2 e3
    subst e1 e2 e3
    exact ⟨[], ⟨none, 0, rfl, by simp, by simp, fun k hk => absurd hk (by simp)⟩, by simp⟩
  · have e : (Value.slice a0 len cap) = .slice (some a) len' cap' := by simpa [Value.cells] using hcs
    injection e with e1 e2 e3
    subst e1 e2 e3
    have hml : len ≤ m := by rw [hmm]; split <;> omega
    have all : ∀ i, i < len → ∃ f : α, (en f).length = s ∧ (∀ j u, (en f)[j]? = some u → w.cell? (a.add (i * s + j)) = some u) ∧ Wf f := by
      intro i hi'
      obtain ⟨cs', hc, ht'⟩ := hi i (by omega)
      rw [hs] at hc
      obtain ⟨f, e, wf⟩ := hel _ _ _ ht'
      obtain ⟨_, hcl, hat⟩ := World.cells?_some hc
      refine ⟨f, by rw [← e]; exact hcl, fun j u hu => ?_, wf⟩
      rw [← e] at hu
      have hj : j < s := by have := (List.getElem?_eq_some_iff.1 hu).1; omega
      have h1 := hat j hj
      rw [add_of_add] at h1
      rw [h1]; exact hu
    obtain ⟨l, hl2, hp⟩ := list_of len all
    refine ⟨l, ⟨some a, cap, by rw [hl2], by unfold maxLen at hm; omega, by omega, fun k hk => ?_⟩, fun f hf' => ?_⟩
    · obtain ⟨e1, e2, _⟩ := hp k hk
      rw [ga_at hk]
      have h0 : (en l[k])[0]? = some ((en l[k])[0]'(by omega)) := List.getElem?_eq_getElem _
      have := cell_lt (e2 0 _ h0)
      rw [block_of_add] at this
      exact ⟨a, rfl, this, e1, e2⟩
    · obtain ⟨i, hi', rfl⟩ := List.getElem_of_mem hf'
      exact (hp i hi').2.2
theorem open_ints_ {t e : Nat} (hu : P.underlying t = some (.slice e)) (hi : P.underlying e = some (.int .i64)) (hs : P.cellsOf e = 1) {r : Reach} {b0 : Nat} {v : Value} {d : DataW H} {p : List MemPlace} (hv : Value.okWide P w r b0 t v) (h : DataW.Trod enc P w base spare held t v d p) :
    ∃ l : List Int, ArrIs w v 1 l.length (ga e1 l) ∧ ∀ f ∈ l, (Lit.int .i64 f).wf = true :=
  open_list hu hs (by omega) (fun fuel cs x hx => by
    obtain ⟨m, e2, _, wf⟩ := DataW.trod_int hi hx
    exact ⟨m, e2, wf⟩) hv h
end
theorem ArrIs.one {w : World} {v : Value} {s n : Nat} {get : Nat → List Value} (h : ArrIs w v s n get) : v.oneCell' = true := by
  obtain ⟨_, _, rfl, _⟩ := h; rfl
/-- a call that is handed a nil list -/
theorem Svs.nil_ {ρ : Rho} {nx : Nat} (hx : ρ nx = none) : ∀ {args : List SV} {xs : List Value} {j : Nat}, args[j]? = some (.one (.val (.slice none 0 0))) → Svs ρ args xs → Svs (upd ρ nx (.slice none 0 0)) (args.set j (.one (.ref nx))) xs
  | [], _, j, h, _ => by simp at h
  | a :: l, _, 0, h, ⟨u, r, e, ha, hr⟩ => by
    have ea : a = .one (.val (.slice none 0 0)) := by simpa using h
    subst ea
    have eu : u = .slice none 0 0 := ha
    subst eu
    exact ⟨_, r, e, ⟨upd_same _ _ _, rfl⟩, Svs.ext (ext_upd hx) hr⟩
  | a :: l, _, j + 1, h, ⟨u, r, e, ha, hr⟩ => ⟨u, r, e, SV.is1_ext (ext_upd hx) ha, Svs.nil_ hx (by simpa using h) hr⟩
theorem NCall.nil_ {P : Program} {f : FuncId} {args : List SV} {obs : Obs} {nx : Nat} {K : SV → Obs → Nat → Prop} (j s : Nat) (e : args[j]? = some (.one (.val (.slice none 0 0)))) (h : NCall P f (args.set j (.one (.ref nx))) ((nx, .arr s 0 fun _ => []) :: obs) (nx + 1) K) : NCall P f args obs nx K := by
  refine ⟨h.b, fun B ρ w xs hC ha => ?_⟩
  have hx := hC.new nx (Nat.le_refl _)
  have hC' := hC.more (v := .slice none 0 0) (o := .arr s 0 fun _ => []) (Below.refl _ _) ⟨_, upd_same _ _ _, none, 0, rfl, by omega, by omega, fun k hk => by omega⟩ (fun b hf => by simp [foot] at hf)
  refine (h.h B _ w xs hC' (ha.nil_ hx e)).mono ?_
  rintro e w' ⟨v, obs', nx', ρ', x, hK, hE, r⟩
  exact ⟨v, obs', nx', ρ', x, hK, fun i y hy => hE i y (by have : i ≠ nx := fun q => (by rw [q, hx] at hy; cases hy); simpa [upd, this] using hy), r⟩
/-- lists that are handed in are no longer than lists can be -/
theorem Fn.lim {P : Program} {f : FuncId} {os : List Ob} {args : List SV} {x : Value} (hb : hasBody P f = true) (h : (∀ (i : Nat) s n g, os[i]? = some (.arr s n g) → n ≤ 9223372036854775807) → Fn P f os args x) : Fn P f os args x :=
  ⟨hb, fun w ρ xs ho hs => (h fun i s n g e => by
    obtain ⟨v, _, A, c, _, hn, _⟩ := ho i _ e
    exact hn).c w ρ xs ho hs⟩
end Go.Proofs.Yteblbhbfdfifpaa.V

/- Plain facts on amounts: sums, parts, near parts, totals. -/
namespace Go.Proofs.Yteblbhbfdfifpaa.M

def Amt (a : Int) : Prop := -1152921504606846976 ≤ a ∧ a ≤ 1152921504606846976
instance (a : Int) : Decidable (Amt a) := by unfold Amt; exact inferInstance
def chk (a : Int) : Int := if Amt a then 0 else 3
theorem chk_yes {a : Int} (h : Amt a) : chk a = 0 := if_pos h
theorem chk_no {a : Int} (h : ¬ Amt a) : chk a = 3 := if_neg h
def addE (a b : Int) : Int := if ¬ (Amt a ∧ Amt b) then 3 else if ¬ Amt (a + b) then 8 else 0
def addV (a b : Int) : Int := if Amt a ∧ Amt b ∧ Amt (a + b) then a + b else 0
theorem add_1 {a b : Int} (h : ¬ (Amt a ∧ Amt b)) : addE a b = 3 ∧ addV a b = 0 := ⟨if_pos h, if_neg fun q => h ⟨q.1, q.2.1⟩⟩
theorem add_2 {a b : Int} (h : Amt a ∧ Amt b) (k : ¬ Amt (a + b)) : addE a b = 8 ∧ addV a b = 0 := ⟨by unfold addE; rw [if_neg (by simpa using h), if_pos k], if_neg fun q => k q.2.2⟩
theorem add_3 {a b : Int} (h : Amt a ∧ Amt b) (k : Amt (a + b)) : addE a b = 0 ∧ addV a b = a + b := ⟨by unfold addE; rw [if_neg (by simpa using h), if_neg (by simpa using k)], if_pos ⟨h.1, h.2, k⟩⟩

def POk (a b c : Int) : Prop := Amt a ∧ (0 ≤ b ∧ b ≤ 1099511627776) ∧ (1 ≤ c ∧ c ≤ 1099511627776)
instance (a b c : Int) : Decidable (POk a b c) := by unfold POk; exact inferInstance
def ckE (a b c : Int) : Int := if POk a b c then 0 else 3
theorem ck_yes {a b c : Int} (h : POk a b c) : ckE a b c = 0 := if_pos h
theorem ck_no {a b c : Int} (h : ¬ POk a b c) : ckE a b c = 3 := if_neg h
def prE (a b c : Int) : Int := if ¬ POk a b c then 3 else if ¬ Amt (a * b / c) then 8 else 0
def prQ (a b c : Int) : Int := if POk a b c ∧ Amt (a * b / c) then a * b / c else 0
def prR (a b c : Int) : Int := if POk a b c ∧ Amt (a * b / c) then a * b % c else 0
theorem pr_1 {a b c : Int} (h : ¬ POk a b c) : prE a b c = 3 ∧ prQ a b c = 0 ∧ prR a b c = 0 := ⟨if_pos h, if_neg fun q => h q.1, if_neg fun q => h q.1⟩
theorem pr_2 {a b c : Int} (h : POk a b c) (k : ¬ Amt (a * b / c)) : prE a b c = 8 ∧ prQ a b c = 0 ∧ prR a b c = 0 := ⟨by unfold prE; rw [if_neg (by simpa using h), if_pos k], if_neg fun q => k q.2, if_neg fun q => k q.2⟩
theorem pr_3 {a b c : Int} (h : POk a b c) (k : Amt (a * b / c)) : prE a b c = 0 ∧ prQ a b c = a * b / c ∧ prR a b c = a * b % c := ⟨by unfold prE; rw [if_neg (by simpa using h), if_neg (by simpa using k)], if_pos ⟨h, k⟩, if_pos ⟨h, k⟩⟩
theorem pr_ok {a b c : Int} (h : prE a b c = 0) : POk a b c ∧ Amt (a * b / c) := by
  by_cases p : POk a b c
  · by_cases k : Amt (a * b / c)
    · exact ⟨p, k⟩
    · rw [(pr_2 p k).1] at h; omega
  · rw [(pr_1 p).1] at h; omega
theorem pr_cases (a b c : Int) : (prE a b c = 3 ∧ ¬ POk a b c) ∨ (prE a b c = 8 ∧ POk a b c ∧ ¬ Amt (a * b / c)) ∨ (prE a b c = 0 ∧ POk a b c ∧ Amt (a * b / c)) := by
  by_cases p : POk a b c
  · by_cases k : Amt (a * b / c)
    · exact .inr (.inr ⟨(pr_3 p k).1, p, k⟩)
    · exact .inr (.inl ⟨(pr_2 p k).1, p, k⟩)
  · exact .inl ⟨(pr_1 p).1, p⟩
theorem pr_z {a b c : Int} (h : prE a b c ≠ 0) : prQ a b c = 0 ∧ prR a b c = 0 := by
  rcases pr_cases a b c with ⟨_, p⟩ | ⟨_, p, k⟩ | ⟨e, _⟩
  · exact (pr_1 p).2
  · exact (pr_2 p k).2
  · exact absurd e h
theorem r_bd {x c : Int} (h : 1 ≤ c) : 0 ≤ x % c ∧ x % c < c := ⟨Int.emod_nonneg _ (by omega), Int.emod_lt_of_pos _ (by omega)⟩
theorem qr (x c : Int) : c * (x / c) + x % c = x := Int.mul_ediv_add_emod x c

/-- near: the part, or one more -/
def up (q r c : Int) : Int := if c < 2 * r ∨ (2 * r = c ∧ q % 2 ≠ 0) then q + 1 else q
def neE (a b c : Int) : Int := if prE a b c ≠ 0 then prE a b c else if ¬ Amt (up (a * b / c) (a * b % c) c) then 8 else 0
def neV (a b c : Int) : Int := if prE a b c = 0 ∧ Amt (up (a * b / c) (a * b % c) c) then up (a * b / c) (a * b % c) c else 0
theorem ne_1 {a b c : Int} (h : prE a b c ≠ 0) : neE a b c = prE a b c ∧ neV a b c = 0 := ⟨if_pos h, if_neg fun q => h q.1⟩
theorem ne_2 {a b c : Int} (h : prE a b c = 0) (k : ¬ Amt (up (a * b / c) (a * b % c) c)) : neE a b c = 8 ∧ neV a b c = 0 := ⟨by unfold neE; rw [if_neg (by simpa using h), if_pos k], if_neg fun q => k q.2⟩
theorem ne_3 {a b c : Int} (h : prE a b c = 0) (k : Amt (up (a * b / c) (a * b % c) c)) : neE a b c = 0 ∧ neV a b c = up (a * b / c) (a * b % c) c := ⟨by unfold neE; rw [if_neg (by simpa using h), if_neg (by simpa using k)], if_pos ⟨h, k⟩⟩

def sum : List Int → Int
  | [] => 0
  | a :: r => a + sum r
theorem sum_append (l r : List Int) : sum (l ++ r) = sum l + sum r := by
  induction l with
  | nil => simp [sum]
  | cons a l ih => simp only [List.cons_append, sum, ih]; omega
theorem sum_reverse (l : List Int) : sum l.reverse = sum l := by
  induction l with
  | nil => rfl
  | cons a l ih => simp only [List.reverse_cons, sum_append, sum, ih]; omega
/-- the checks of some amounts -/
def chks (l : List Int) : Int := if ∀ a ∈ l, Amt a then 0 else 3
theorem chks_yes {l : List Int} (h : ∀ a ∈ l, Amt a) : chks l = 0 := if_pos h
theorem chks_no {l : List Int} (h : ¬ ∀ a ∈ l, Amt a) : chks l = 3 := if_neg h
def toE (l : List Int) : Int := if 40 < l.length then 2 else if chks l ≠ 0 then chks l else if ¬ Amt (sum l) then 8 else 0
def toV (l : List Int) : Int := if toE l = 0 then sum l else 0
theorem to_ok {l : List Int} (h : toE l = 0) : l.length ≤ 40 ∧ (∀ a ∈ l, Amt a) ∧ Amt (sum l) := by
  unfold toE at h
  by_cases a : 40 < l.length
  · rw [if_pos a] at h; omega
  rw [if_neg a] at h
  by_cases b : ∀ a ∈ l, Amt a
  · rw [if_neg (by rw [chks_yes b]; simp)] at h
    by_cases c : Amt (sum l)
    · exact ⟨by omega, b, c⟩
    · rw [if_pos c] at h; omega
  · rw [if_pos (by rw [chks_no b]; omega), chks_no b] at h; omega
theorem to_of {l : List Int} (h1 : l.length ≤ 40) (h2 : ∀ a ∈ l, Amt a) (h3 : Amt (sum l)) : toE l = 0 ∧ toV l = sum l := by
  have e : toE l = 0 := by unfold toE; rw [if_neg (by omega), if_neg (by rw [chks_yes h2]; simp), if_neg (by simpa using h3)]
  exact ⟨e, if_pos e⟩
theorem sum_bd : ∀ {l : List Int}, (∀ a ∈ l, Amt a) → -(1152921504606846976 * (l.length : Int)) ≤ sum l ∧ sum l ≤ 1152921504606846976 * (l.length : Int)
  | [], _ => by simp [sum]
  | a :: r, h => by
    obtain ⟨h1, h2⟩ := sum_bd (l := r) fun x hx => h x (by simp [hx])
    have h3 : Amt a := h a (by simp)
    unfold Amt at h3
    simp only [sum, List.length_cons, Int.natCast_add, Int.mul_add]
    omega

/-! ### what the laws say -/
theorem rises {x y c : Int} (hc : 1 ≤ c) (h : x ≤ y) : x / c ≤ y / c := Int.ediv_le_ediv (by omega) h
theorem two {x y c : Int} (hc : 1 ≤ c) : x / c + y / c ≤ (x + y) / c ∧ (x + y) / c ≤ x / c + y / c + 1 := by
  have h1 := qr x c
  have h2 := qr y c
  have h3 := r_bd (x := x) hc
  have h4 := r_bd (x := y) hc
  refine ⟨(Int.le_ediv_iff_mul_le (by omega)).2 ?_, ?_⟩
  · have : (x / c + y / c) * c = c * (x / c) + c * (y / c) := by rw [Int.add_mul, Int.mul_comm, Int.mul_comm (y / c)]
    omega
  · apply Int.le_of_lt_add_one
    apply Int.ediv_lt_of_lt_mul (by omega)
    have : (x / c + y / c + 1 + 1) * c = c * (x / c) + c * (y / c) + c + c := by
      rw [Int.add_mul, Int.add_mul, Int.add_mul, Int.mul_comm, Int.mul_comm (y / c)]; omega
    omega
theorem neg_part {x c : Int} (hc : 1 ≤ c) : (x % c = 0 ∧ (-x) / c = -(x / c) ∧ (-x) % c = 0) ∨ (0 < x % c ∧ (-x) / c = -(x / c) - 1 ∧ (-x) % c = c - x % c) := by
  have h1 := qr x c
  have h3 := r_bd (x := x) hc
  by_cases h : x % c = 0
  · left
    have e : -x = c * (-(x / c)) := by rw [Int.mul_neg]; omega
    exact ⟨h, by rw [e]; exact Int.mul_ediv_cancel_left _ (by omega), by rw [e]; exact Int.mul_emod_right _ _⟩
  · right
    have e : -x = (c - x % c) + c * (-(x / c) - 1) := by
      rw [Int.mul_sub, Int.mul_neg]; omega
    refine ⟨by omega, ?_, ?_⟩
    · rw [e, Int.add_mul_ediv_left _ _ (by omega), Int.ediv_eq_zero_of_lt (by omega) (by omega)]; omega
    · rw [e, Int.add_mul_emod_self_left]; exact Int.emod_eq_of_lt (by omega) (by omega)
theorem near_neg {x c : Int} (hc : 1 ≤ c) : up ((-x) / c) ((-x) % c) c = -(up (x / c) (x % c) c) := by
  have h3 := r_bd (x := x) hc
  unfold up
  rcases neg_part (x := x) hc with ⟨h, e1, e2⟩ | ⟨h, e1, e2⟩
  · rw [e1, e2, h, if_neg (by omega), if_neg (by omega)]
  · rw [e1, e2]
    split <;> split <;> omega
end Go.Proofs.Yteblbhbfdfifpaa.M

/- Plain facts on division by halves: one step of the school's long division of a number of two words. -/
namespace Go.Proofs.Yteblbhbfdfifpaa.V

/-- the guess of one digit: 'q' and 'r' with q * a + r = u, q no less than the true digit -/
def Guess (a u q r : Nat) : Prop := q * a + r = u
/-- is the guess too great? just if q * (a * 2^32 + b) is above u * 2^32 + d -/
theorem too_great {a b u d q r : Nat} (h : q * a + r = u) : (r * 4294967296 + d < q * b) ↔ (u * 4294967296 + d < q * (a * 4294967296 + b)) := by
  have e : q * (a * 4294967296 + b) = q * a * 4294967296 + q * b := by rw [Nat.mul_add, Nat.mul_assoc]
  rw [e, ← h, Nat.add_mul]
  omega
theorem digit_le {V N q : Nat} (hb : N < q * V) : N / V ≤ q - 1 := by
  have h1 : N / V < q := Nat.div_lt_of_lt_mul (by rw [Nat.mul_comm]; exact hb)
  omega
theorem digit_eq {V N q : Nat} (h : N / V ≤ q) (hb : ¬ N < q * V) (hV : 0 < V) : q = N / V := by
  have h1 : q ≤ N / V := (Nat.le_div_iff_mul_le hV).2 (by omega)
  omega
theorem guess_ge {a b u d : Nat} (ha : 0 < a) (hd : d < 4294967296) : (u * 4294967296 + d) / (a * 4294967296 + b) ≤ u / a := by
  apply Nat.le_of_lt_succ
  apply Nat.div_lt_of_lt_mul
  have h1 : u < a * (u / a + 1) := by have := Nat.lt_mul_div_succ u ha; exact this
  have h2 : (u + 1) * 4294967296 ≤ a * (u / a + 1) * 4294967296 := Nat.mul_le_mul_right _ h1
  have h3 : (a * 4294967296 + b) * (u / a + 1) = a * (u / a + 1) * 4294967296 + b * (u / a + 1) := by
    rw [Nat.add_mul]; congr 1; rw [Nat.mul_assoc, Nat.mul_comm 4294967296, ← Nat.mul_assoc]
  show u * 4294967296 + d < (a * 4294967296 + b) * (u / a + 1)
  rw [h3]; omega
/-- a digit is below 2^32 -/
theorem digit_lt {V u d : Nat} (hu : u < V) (hd : d < 4294967296) : (u * 4294967296 + d) / V < 4294967296 := by
  apply Nat.div_lt_of_lt_mul
  have : (u + 1) * 4294967296 ≤ V * 4294967296 := Nat.mul_le_mul_right _ hu
  omega
/-- a guess of 2^32 or more is too great -/
theorem wide_great {V u d q : Nat} (hu : u < V) (hd : d < 4294967296) (hq : 4294967296 ≤ q) : u * 4294967296 + d < q * V := by
  have h1 : (u + 1) * 4294967296 ≤ V * 4294967296 := Nat.mul_le_mul_right _ hu
  have h2 : 4294967296 * V ≤ q * V := Nat.mul_le_mul_right _ hq
  have h3 : 4294967296 * V = V * 4294967296 := Nat.mul_comm _ _
  omega
/-- where what is left is 2^32 or more the guess is right -/
theorem wide_rest {a b u d q r : Nat} (h : q * a + r = u) (hu : u < a * 4294967296 + b) (hb : b < 4294967296) (hr : 4294967296 ≤ r) : q < 4294967296 ∧ ¬ u * 4294967296 + d < q * (a * 4294967296 + b) := by
  have hq : q < 4294967296 := by
    apply Classical.byContradiction; intro hc
    have h1 : 4294967296 * a ≤ q * a := Nat.mul_le_mul_right _ (by omega)
    have h2 : 4294967296 * a = a * 4294967296 := Nat.mul_comm _ _
    omega
  refine ⟨hq, ?_⟩
  rw [← too_great h]
  have h3 : q * b ≤ 4294967295 * b := Nat.mul_le_mul_right _ (by omega)
  omega
theorem two_digits_ {K V N d0 : Nat} (hV : 0 < V) : (N / V) * K + ((N % V) * K + d0) / V = (N * K + d0) / V ∧ ((N % V) * K + d0) % V = (N * K + d0) % V := by
  have h := Nat.div_add_mod N V
  generalize N / V = q1 at *
  generalize N % V = r1 at *
  have e : N * K + d0 = (r1 * K + d0) + V * (q1 * K) := by
    rw [← h, Nat.add_mul, Nat.mul_assoc]; omega
  rw [e, Nat.add_mul_div_left _ _ hV, Nat.add_mul_mod_self_left]
  exact ⟨by omega, rfl⟩
theorem two_digits {V u d1 d0 : Nat} (hV : 0 < V) :
    ((u * 4294967296 + d1) / V) * 4294967296 + (((u * 4294967296 + d1) % V) * 4294967296 + d0) / V = ((u * 4294967296 + d1) * 4294967296 + d0) / V ∧
    (((u * 4294967296 + d1) % V) * 4294967296 + d0) % V = ((u * 4294967296 + d1) * 4294967296 + d0) % V := two_digits_ hV
/-- shifted both, the part is the same and what is left is shifted -/
theorem shift_div {N y s : Nat} (hs : 0 < s) : (N * s) / (y * s) = N / y ∧ (N * s) % (y * s) / s = N % y := by
  refine ⟨Nat.mul_div_mul_right _ _ hs, ?_⟩
  rw [Nat.mul_mod_mul_right]
  exact Nat.mul_div_cancel _ hs
end Go.Proofs.Yteblbhbfdfifpaa.V

/- How many bits a number has, and the shift that brings its highest bit to the front. -/
namespace Go.Proofs.Yteblbhbfdfifpaa.V
open Go.Lib
theorem bl : ∀ (f x : Nat), x ≠ 0 → x < 2 ^ f → f ≤ 64 → 1 ≤ Lib.bitLen x ∧ Lib.bitLen x ≤ f ∧ 2 ^ (Lib.bitLen x - 1) ≤ x ∧ x < 2 ^ Lib.bitLen x
  | 0, x, h0, h, _ => by simp at h; exact absurd h h0
  | f + 1, x, h0, h, hf => by
    have h64 : x < 2 ^ 64 := Nat.lt_of_lt_of_le h (Nat.pow_le_pow_right (by omega) hf)
    rw [Lib.bitLen_half x h0 h64]
    by_cases hx : x / 2 = 0
    · have : x = 1 := by omega
      subst this
      rw [hx]
      have e : Lib.bitLen 0 = 0 := rfl
      rw [e]
      exact ⟨by omega, by omega, by decide, by decide⟩
    · have hlt : x / 2 < 2 ^ f := by rw [Nat.pow_succ] at h; omega
      obtain ⟨a, b, c, d⟩ := bl f (x / 2) hx hlt (by omega)
      generalize Lib.bitLen (x / 2) = k at *
      obtain ⟨j, rfl⟩ : ∃ j, k = j + 1 := ⟨k - 1, by omega⟩
      have e1 : 1 + (j + 1) - 1 = j + 1 := by omega
      have e2 : j + 1 - 1 = j := by omega
      rw [e1]
      rw [e2] at c
      have e3 : (2 : Nat) ^ (1 + (j + 1)) = 2 ^ (j + 1) * 2 := by rw [Nat.add_comm, Nat.pow_succ]
      rw [e3]
      have e4 : (2 : Nat) ^ (j + 1) = 2 ^ j * 2 := Nat.pow_succ ..
      refine ⟨by omega, by omega, by omega, by omega⟩
/-- the shift that brings the highest bit to the front -/
theorem lead {y : Nat} (h0 : y ≠ 0) (h : y < 18446744073709551616) : Lib.bitLen y ≤ 64 ∧ 1 ≤ Lib.bitLen y ∧ 9223372036854775808 ≤ y * 2 ^ (64 - Lib.bitLen y) ∧ y * 2 ^ (64 - Lib.bitLen y) < 18446744073709551616 := by
  obtain ⟨a, b, c, d⟩ := bl 64 y h0 h (Nat.le_refl _)
  have e1 : 2 ^ (Lib.bitLen y - 1) * 2 ^ (64 - Lib.bitLen y) = 9223372036854775808 := by
    rw [← Nat.pow_add, show Lib.bitLen y - 1 + (64 - Lib.bitLen y) = 63 from by omega]
  have e2 : 2 ^ Lib.bitLen y * 2 ^ (64 - Lib.bitLen y) = 18446744073709551616 := by
    rw [← Nat.pow_add, show Lib.bitLen y + (64 - Lib.bitLen y) = 64 from by omega]
  have hp : 0 < 2 ^ (64 - Lib.bitLen y) := Nat.pow_pos (by omega)
  refine ⟨b, a, ?_, ?_⟩
  · rw [← e1]; exact Nat.mul_le_mul_right _ c
  · rw [← e2]; exact Nat.mul_lt_mul_of_pos_right d hp
end Go.Proofs.Yteblbhbfdfifpaa.V

/- Plain facts: a number of two words, shifted so that the divisor's highest bit stands in front. -/
namespace Go.Proofs.Yteblbhbfdfifpaa.V
theorem step_eq {a u q r q' r' : Nat} (h : q * a + r = u) (hq : 1 ≤ q) (e1 : q' = q - 1) (e2 : r' = r + a) : q' * a + r' = u := by
  obtain ⟨k, rfl⟩ : ∃ k, q = k + 1 := ⟨q - 1, by omega⟩
  have : q' = k := by omega
  subst this
  rw [e2, ← h, Nat.add_mul]
  omega
theorem rem_wrap {u d Q Y : Nat} (hq : Q = (u * 4294967296 + d) / Y) (hY : 0 < Y) (hY2 : Y < 18446744073709551616) :
    ((((u : Int) * 4294967296 % 18446744073709551616 + (d : Int)) % 18446744073709551616 - (Q : Int) * (Y : Int) % 18446744073709551616) % 18446744073709551616) = (((u * 4294967296 + d) % Y : Nat) : Int) := by
  have h := Nat.div_add_mod (u * 4294967296 + d) Y
  have h2 := Nat.mod_lt (u * 4294967296 + d) hY
  rw [← hq] at h
  generalize (u * 4294967296 + d) % Y = m at *
  have e : (Q : Int) * (Y : Int) = ((Y * Q : Nat) : Int) := by simp [Int.mul_comm]
  rw [e]
  generalize Y * Q = z at *
  omega
theorem final_ {K W hi lo y s u d1 d0 V' Y : Nat} (hW : W = K * K) (hY : Y = y * 2 ^ s) (hy : 0 < Y) (hU : u * W + V' = (hi * W + lo) * 2 ^ s) (hV : V' = d1 * K + d0) :
    ((u * K + d1) / Y) * K + (((u * K + d1) % Y) * K + d0) / Y = (hi * W + lo) / y ∧ ((((u * K + d1) % Y) * K + d0) % Y) / 2 ^ s = (hi * W + lo) % y := by
  obtain ⟨t1, t2⟩ := two_digits_ (K := K) (V := Y) (N := u * K + d1) (d0 := d0) hy
  have e : (u * K + d1) * K + d0 = (hi * W + lo) * 2 ^ s := by rw [← hU, hV, hW, Nat.add_mul, Nat.mul_assoc]; omega
  rw [e, hY] at t1 t2
  obtain ⟨g1, g2⟩ := shift_div (N := hi * W + lo) (y := y) (s := 2 ^ s) (Nat.pow_pos (by omega))
  rw [hY]
  exact ⟨t1.trans g1, by rw [t2]; exact g2⟩
theorem final {hi lo y s u d1 d0 V' Y : Nat} (hY : Y = y * 2 ^ s) (hy : 0 < Y) (hU : u * 18446744073709551616 + V' = (hi * 18446744073709551616 + lo) * 2 ^ s) (hV : V' = d1 * 4294967296 + d0) :
    ((u * 4294967296 + d1) / Y) * 4294967296 + (((u * 4294967296 + d1) % Y) * 4294967296 + d0) / Y = (hi * 18446744073709551616 + lo) / y ∧
    ((((u * 4294967296 + d1) % Y) * 4294967296 + d0) % Y) / 2 ^ s = (hi * 18446744073709551616 + lo) % y := final_ (by omega) hY hy hU hV
theorem lt_words_ {K hi lo y : Nat} (h1 : hi < y) (h2 : lo < K) : hi * K + lo < y * K := by
  have h : (hi + 1) * K ≤ y * K := Nat.mul_le_mul_right _ h1
  rw [Nat.add_mul] at h; omega
theorem lt_words {hi lo y : Nat} (h1 : hi < y) (h2 : lo < 18446744073709551616) : hi * 18446744073709551616 + lo < y * 18446744073709551616 := lt_words_ h1 h2
theorem or_add {h l s : Nat} (hl : l < 2 ^ s) : (h * 2 ^ s) ||| l = h * 2 ^ s + l := by
  have := Nat.shiftLeft_add_eq_or_of_lt hl h
  rw [Nat.shiftLeft_eq] at this
  exact this.symm
theorem words_ {hi lo A B K : Nat} (hp : 0 < B) (e : A * B = K) : (hi * B + lo / A) * K + lo * B % K = (hi * K + lo) * B := by
  have hd : lo * B / K = lo / A := by rw [← e]; exact Nat.mul_div_mul_right _ _ hp
  have hdm := Nat.div_add_mod (lo * B) K
  rw [hd] at hdm
  rw [Nat.add_mul, Nat.add_mul, Nat.mul_assoc hi K B, Nat.mul_comm K B, ← Nat.mul_assoc hi B K, Nat.mul_comm (lo / A) K]
  omega
/-- the upper word, and the lower one, of the shifted number -/
theorem words {hi lo y s : Nat} (hs : s ≤ 63) (h1 : hi < y) (h2 : lo < 18446744073709551616) (h4 : y * 2 ^ s < 18446744073709551616) :
    hi * 2 ^ s < 18446744073709551616 ∧ lo / 2 ^ (64 - s) < 2 ^ s ∧ hi * 2 ^ s + lo / 2 ^ (64 - s) < y * 2 ^ s ∧
    (hi * 2 ^ s + lo / 2 ^ (64 - s)) * 18446744073709551616 + lo * 2 ^ s % 18446744073709551616 = (hi * 18446744073709551616 + lo) * 2 ^ s := by
  have hp : 0 < 2 ^ s := Nat.pow_pos (by omega)
  have e : 2 ^ (64 - s) * 2 ^ s = 18446744073709551616 := by rw [← Nat.pow_add, show 64 - s + s = 64 from by omega]
  have hl : lo / 2 ^ (64 - s) < 2 ^ s := Nat.div_lt_of_lt_mul (by rw [e]; exact h2)
  have hm : (hi + 1) * 2 ^ s ≤ y * 2 ^ s := Nat.mul_le_mul_right _ h1
  rw [Nat.add_mul] at hm
  exact ⟨by omega, hl, by omega, words_ hp e⟩
end Go.Proofs.Yteblbhbfdfifpaa.V
