/- The walk by verification conditions is sound: calls, regions, code, whole functions. -/
import Derived.Test.YteblbhbfdfifpaaVEff3
import Derived.OrdersIn
import Derived.TacticsIn
namespace Go.Proofs.Yteblbhbfdfifpaa.V
open Go Go.RowKit
set_option linter.unusedVariables false
set_option linter.unusedSimpArgs false
set_option linter.unusedSectionVars false

theorem wp_next {P : Program} {o : Oper} {a : Act} {w : World} {N N' : Act → World → Prop} {Q : Exit → Act → World → Prop} (h : o.wp P a w N Q) (hn : ∀ a w, N a w → N' a w) : o.wp P a w N' Q := by
  unfold Oper.wp at h ⊢
  generalize (execOp a.eval o).run P w = r at *
  cases r with
  | ok n w' =>
    cases n <;> simp only [Oper.upon] at h ⊢ <;> try exact hn _ _ h
    case enter f args =>
      refine h.mono fun e w'' he => ?_
      cases e <;> first | exact hn _ _ he | exact he
    case row r args => exact h.mono fun v w'' hv => hn _ _ hv
  | halt x w' =>
    cases x <;> simp only [Oper.upon] at h ⊢
    exact h
theorem calls_some {P : Program} {f : FuncId} {args : Array Value} {w : World} {R : Ending → World → Prop} (h : Calls P f args w R) : ∃ e w', R e w' := by
  obtain ⟨e, w', _, hr, _⟩ := h []
  exact ⟨e, w', hr⟩
theorem run_call {P : Program} {f : FuncId} (hb : hasBody P f = true) {a : Act} {g : Operand} {args : Array Operand} {ts : Array TypeId} {o : Oper} {cs : Array Value} (ho : o.op = .call ⟨.value g, args, ts⟩) (hg : a.eval g = .func (.func f) #[] cs) (w : World) :
    (execOp a.eval o).run P w = .ok (.enter f (args.map a.eval ++ cs)) w := by
  unfold hasBody at hb
  cases hf : P.funcs[f]? with
  | none => rw [hf] at hb; cases hb
  | some fn =>
    rw [hf] at hb
    simp only [Bool.and_eq_true, Bool.not_eq_true', Option.isSome_iff_ne_none] at hb
    obtain ⟨h1, h2⟩ := hb
    have h3 : fn.body.isNone = false := by cases hq : fn.body with | none => exact absurd hq h1 | some c => rfl
    have h4 : ¬ fn.name = "runtime.NumGoroutine" := by simpa using h2
    simp [execOp, ho, resolve, hg, Deferred.ofValue, invoke, callFunc, hf, h4, h3, Sem.run_bind]
    exact fun q => absurd q h1

/-! inside a round, too -/
def Fz : Option Nat → Fence
  | none => Fence.wide
  | some l => Fence.wide.inRound l
theorem fz_fn (ro : Option Nat) (f : FuncId) : (Fz ro).fn f := by cases ro <;> trivial
theorem fz_depth (ro : Option Nat) : (Fz ro).depth.isSome = false := by cases ro <;> rfl
theorem fz_ro (ro : Option Nat) : (Fz ro).round = ro := by cases ro <;> rfl
theorem fz_calls {ro : Option Nat} {n : Nat} {P : Program} {f : FuncId} {args : Array Value} {w : World} {R : Ending → World → Prop} (h : Calls P f args w R) : CallsIn (Fz ro) n P f args w R := by
  have := (callsIn_wide (n := n)).2 h
  cases ro <;> exact this
theorem fz_rows {ro : Option Nat} {n : Nat} {P : Program} {row : String} {args : Array Value} {w : World} {R : Value → World → Prop} (h : Rows P row args w R) : RowsIn (Fz ro) n P row args w R := by
  have : RowsIn Fence.wide n P row args w R := fun c cs _ => let ⟨v, w', r, s⟩ := h c cs; ⟨v, w', r, stepsIn_wide.2 s⟩
  cases ro <;> exact this
theorem fz_round {ro : Option Nat} {n : Nat} {P : Program} {l : Nat} {f : FuncId} {tmps : Array Value} {assign body : Code} {w : World} {R : Ending → World → Prop} (h : RoundIn Fence.wide n P l f tmps assign body w R) : RoundIn (Fz ro) n P l f tmps assign body w R := by
  cases ro <;> exact h
theorem semAt_fz {ro : Option Nat} {o : Oper} {f : Operand → Value} (hd : ro = none ∨ ∀ c, o.op ≠ .defer c) : Oper.semAt (Fz ro).round f o = execOp f o := by
  rw [fz_ro]
  rcases hd with rfl | hd
  · rfl
  · exact Oper.semAt_eq _ _ _ hd
theorem op_in {ro : Option Nat} {n : Nat} {P : Program} {o : Oper} {a : Act} {w : World} {N : Act → World → Prop} {Q : Exit → Act → World → Prop} (hd : ro = none ∨ ∀ c, o.op ≠ .defer c) (h : o.wp P a w N Q) : o.wpIn (Fz ro) n P a w N Q := by
  unfold Oper.wpIn
  refine ⟨fun _ _ => fz_fn _ _, ?_⟩
  rw [semAt_fz hd]
  unfold Oper.wp at h
  generalize (execOp a.eval o).run P w = r at *
  cases r with
  | ok x w' =>
    cases x <;> simp only [Oper.upon] at h <;> simp only [Oper.uponIn] <;> first
      | exact h
      | exact ⟨fun q => (by rw [fz_depth] at q; cases q), fz_calls (h.mono fun e w'' he => by cases e <;> exact he)⟩
      | exact ⟨fun q => (by rw [fz_depth] at q; cases q), fz_rows h⟩
  | halt x w' => cases x <;> simp only [Oper.upon] at h <;> simp only [Oper.uponIn] <;> exact h
theorem run_ycall {P : Program} {a : Act} {g : Operand} {args : Array Operand} {ts : Array TypeId} {o : Oper} {l : Nat} (ho : o.op = .call ⟨.value g, args, ts⟩) (hg : a.eval g = .func (.yield l) #[] #[]) (w : World) :
    (execOp a.eval o).run P w = (Instr.yield l (args.map a.eval)).run P w := by
  simp [execOp, ho, resolve, hg, Deferred.ofValue, invoke, Sem.run_bind]
def noDef (l : List Oper) : Bool := l.all fun o => match o.op with | .defer _ => false | _ => true
theorem noDef_spec {l : List Oper} (h : noDef l = true) {o : Oper} (ho : o ∈ l) (c : Call) : o.op ≠ .defer c := fun e => by
  have := List.all_eq_true.1 h o ho
  rw [e] at this; cases this
theorem any_in {P : Program} {md : Region.Mode} {ops : Array Oper} {Q : Exit → Act → World → Prop} {ro : Option Nat} {n : Nat} (hd : ro = none ∨ noDef ops.toList = true) (hQ : ¬ LetsOut Q) : ∀ (f : Nat) (listed : Array Bool) (a : Act) (w : World),
    wpAny P md ops Q f listed a w → wpAnyIn (Fz ro) n P md ops Q f listed a w
  | 0, _, _, _, h => h
  | f + 1, listed, a, w, h => ⟨h.1, fun i hi => by
    have h1 := h.2 i hi
    unfold wpOp at h1
    unfold wpOpIn
    split
    · rename_i ho; rw [ho] at h1; exact any_in hd hQ f _ _ _ h1
    · rename_i o ho
      simp only [ho] at h1
      split
      · rename_i hw
        rw [if_pos hw] at h1
        rcases h1 with h1 | ⟨_, q⟩
        · refine op_in ?_ (Oper.wp_mono (fun a w => any_in hd hQ f _ a w) h1)
          rcases hd with rfl | hd
          · exact .inl rfl
          · exact .inr (noDef_spec hd (by simpa using Array.mem_of_getElem? ho))
        · exact absurd q hQ
      · rename_i hw
        rw [if_neg hw] at h1
        exact ⟨fun _ _ => fz_fn _ _, any_in hd hQ f _ _ _ h1⟩⟩

section
variable {P : Program} {T : TT} {sz : Nat} {ρ : Rho} {env : Env} {a : Act} {B nx : Nat} {obs : Obs} {w0 : St} {w : World} (hT : TTok P T) (hE : EnvR sz ρ env a) (hC : Cls B ρ obs nx w) (hW : Wy B w0 ρ a.defers w) {K : Env → Obs → Nat → Prop} {Q : Exit → Act → World → Prop}
include hT hE hC hW
theorem op_call {ro : Option Nat} {n : Nat} {o : Oper} {g : Operand} {args : Array Operand} {ts : Array TypeId} (ho : o.op = .call ⟨.value g, args, ts⟩) (h : opK P T sz false o env obs nx K) : o.wpIn (Fz ro) n P a w (Nx B w0 sz K) Q := by
  simp only [opK, ho] at h
  obtain ⟨v, hv, h⟩ := evK_spec hE h
  split at h
  · rename_i f caps
    obtain ⟨cs, hcs, hg⟩ := hv
    obtain ⟨vs0, h, hvs0⟩ := evsK_spec hE h
    obtain ⟨vs, h, hvs⟩ := capE_spec hvs0 hcs h
    refine op_in (.inr fun c q => by rw [ho] at q; cases q) ?_
    unfold Oper.wp
    rw [run_call h.b ho hg w]
    have hc := h.h B ρ w _ hC hvs
    have e : (args.toList.map a.eval ++ cs).toArray = args.map a.eval ++ cs.toArray := by cases args; simp
    rw [e] at hc
    refine hc.mono fun e w' ⟨v, obs', nx', ρ', x, hK, hx, he, hv, hC', hb, hob⟩ => ?_
    subst he
    obtain ⟨env', hK, hE'⟩ := putK_spec (hE.ext hx) hv hK
    exact ⟨ρ', env', obs', nx', hK, hE', hC', ((hW.trans hb hob).ext hx).put⟩
  · rename_i i
    obtain ⟨ob, hob, h⟩ := fndK_spec h
    split at h
    · obtain ⟨vs, h, hvs⟩ := evsK_spec hE h
      obtain ⟨l, fn, tmps, D, e, _, _, _⟩ := hC.sat i _ hob
      have hg : a.eval g = .func (.yield l) #[] #[] := by have := hv.1; rw [e] at this; injection this with this; exact this.symm
      obtain ⟨fn', tmps', assign, body, hy, hR⟩ := h.h B ρ w _ l (n - 1) hC hvs e
      have ea : (args.toList.map a.eval).toArray = args.map a.eval := by cases args; simp
      rw [ea] at hy
      unfold Oper.wpIn
      refine ⟨fun _ _ => fz_fn _ _, ?_⟩
      have e1 : Oper.semAt (Fz ro).round a.eval o = execOp a.eval o := semAt_fz (.inr fun c q => by rw [ho] at q; cases q)
      rw [e1, run_ycall ho hg w, hy]
      refine ⟨fun q => (by rw [fz_depth] at q; cases q), ?_⟩
      refine (fz_round hR).mono fun e w' ⟨v, obs', nx', ρ', x, hK, hx, he, hv, hC', hb, hob⟩ => ?_
      subst he
      obtain ⟨env', hK, hE'⟩ := putK_spec (hE.ext hx) hv hK
      exact ⟨ρ', env', obs', nx', hK, hE', hC', ((hW.trans hb hob).ext hx).put⟩
    · exact h.elim
  · exact h.elim
theorem op_sound {o : Oper} (hnc : ∀ g args ts, o.op ≠ .call ⟨.value g, args, ts⟩) (h : opK P T sz false o env obs nx K) : o.wp P a w (Nx B w0 sz K) Q := by
  by_cases hnil : o.op = .assign (.const (.slice none 0 0))
  · exact wp_next (op_nil hT hE hC hW hnil h) fun _ _ h => h.nx
  have pur : (pureK T env obs o.op fun v => putK sz o.dst v env fun env' => K env' obs nx) → o.wp P a w (Nx B w0 sz K) Q := fun h => wp_next (op_pure hT hE hC hW h) fun _ _ h => h.nx
  cases hop : o.op
  case box t x => exact wp_next (op_box hT hE hC hW hop h) fun _ _ h => h.nx
  case alloc t => exact wp_next (op_alloc hT hE hC hW hop h) fun _ _ h => h.nx
  case store t x y => exact op_store hT hE hC hW hop h
  case buildSlice t n ps => exact wp_next (op_buildSlice hT hE hC hW hop h) fun _ _ h => h.nx
  case makeSlice t x y => exact wp_next (op_makeSlice hT hE hC hW hop h) fun _ _ h => h.nx
  case slice t x lo hi mx =>
    cases mx with
    | none => exact wp_next (op_slice hT hE hC hW hop h) fun _ _ h => h.nx
    | some m => exact pur (by unfold opK at h; rw [hop] at h ⊢; exact h)
  case assign x =>
    refine pur ?_
    unfold opK at h
    rw [hop] at h ⊢
    split at h
    all_goals first | (rename_i e; cases e; done) | skip
    all_goals first | (rename_i e; injection e with e; subst e; exact absurd hop hnil) | exact h
  case call c =>
    obtain ⟨cl, args, ts⟩ := c
    cases cl with
    | value g => exact absurd hop (hnc _ _ _)
    | invoke r m => exact pur (by unfold opK at h; rw [hop] at h ⊢; exact h)
    | builtin b =>
      by_cases happ : ∃ x y t t', b = .append ∧ args = #[x, y] ∧ ts = #[t, t']
      · obtain ⟨x, y, t, t', rfl, rfl, rfl⟩ := happ
        exact op_append hT hE hC hW hop h
      · refine pur ?_
        unfold opK at h
        rw [hop] at h ⊢
        split at h
        all_goals first | (rename_i e; cases e; done) | skip
        all_goals first | (rename_i e; injection e with e; injection e with e1 e2 e3; injection e1 with e1; exact absurd ⟨_, _, _, _, e1, e2, e3⟩ happ) | exact h
  all_goals exact pur (by unfold opK at h; rw [hop] at h ⊢; exact h)
omit hT hE hC hW in
theorem opK_nd {o : Oper} {q : Bool} (h : opK P T sz q o env obs nx K) (c : Call) : o.op ≠ .defer c := fun hc => by
  unfold opK at h
  rw [hc] at h
  exact h
theorem op_soundIn {ro : Option Nat} {n : Nat} {o : Oper} (h : opK P T sz false o env obs nx K) : o.wpIn (Fz ro) n P a w (Nx B w0 sz K) Q := by
  by_cases hnc : ∃ g args ts, o.op = .call ⟨.value g, args, ts⟩
  · obtain ⟨g, args, ts, hop⟩ := hnc
    exact op_call hT hE hC hW hop h
  · exact op_in (.inr (opK_nd h)) (op_sound hT hE hC hW (fun g args ts q => hnc ⟨g, args, ts, q⟩) h)
end

/-! an operation's guard -/
def asked (all : List Oper) (tmps : Array Value) (g : Option (Nat × Bool)) : Bool := match g with
  | none => true
  | some (j, want) => yielded all.toArray tmps j == some want
theorem wanted_eq (all : List Oper) (o : Oper) (tmps : Array Value) : Region.wanted o (yielded all.toArray tmps) = asked all tmps o.guard := by
  unfold Region.wanted asked
  cases o.guard <;> rfl
theorem EnvR.tf {sz : Nat} {ρ : Rho} {env : Env} {a : Act} (hE : EnvR sz ρ env a) {d : Nat} {b : Bool} (h : a.tmps[d]? = some (.bool b)) : EnvR sz ρ ((d, .one (.tf b)) :: env) a :=
  ⟨hE.size, fun t v ht => by
    rcases fnd_cons ht with ⟨rfl, rfl⟩ | ⟨_, ht⟩
    · exact ⟨_, h, rfl⟩
    · exact hE.env t v ht⟩
theorem guardK_spec {sz : Nat} {ρ : Rho} {env : Env} {a : Act} (hE : EnvR sz ρ env a) {all : List Oper} {g : Option (Nat × Bool)} {yes no : Env → Prop} (h : guardK all env g yes no) :
    ∃ env', EnvR sz ρ env' a ∧ ((asked all a.tmps g = true ∧ yes env') ∨ (asked all a.tmps g = false ∧ no env')) := by
  unfold guardK at h
  cases g with
  | none => exact ⟨env, hE, .inl ⟨rfl, h⟩⟩
  | some jw =>
    obtain ⟨j, want⟩ := jw
    simp only at h
    obtain ⟨o, eo, h⟩ := nthK_spec h
    have ask : ∀ d b, o.dst = some d → a.tmps[d]? = some (.bool b) → asked all a.tmps (some (j, want)) = (b == want) := by
      intro d b h1 h2
      simp [asked, yielded, eo, h1, h2]
    cases hd : o.dst with
    | none => rw [hd] at h; exact h.elim
    | some d =>
      rw [hd] at h
      simp only at h
      obtain ⟨v, hv, h⟩ := fndK_spec h
      obtain ⟨x, hx, hi⟩ := hE.env d v hv
      have both : ∀ b, x = .bool b → (b = true → (match want with | true => yes ((d, .one (.tf true)) :: env) | false => no ((d, .one (.tf true)) :: env))) → (b = false → (match want with | true => no ((d, .one (.tf false)) :: env) | false => yes ((d, .one (.tf false)) :: env))) →
          ∃ env', EnvR sz ρ env' a ∧ ((asked all a.tmps (some (j, want)) = true ∧ yes env') ∨ (asked all a.tmps (some (j, want)) = false ∧ no env')) := by
        intro b hb h1 h2
        subst hb
        have e := ask d b hd hx
        refine ⟨_, hE.tf hx, ?_⟩
        rw [e]
        cases b <;> cases want
        · exact .inl ⟨rfl, h2 rfl⟩
        · exact .inr ⟨rfl, h2 rfl⟩
        · exact .inr ⟨rfl, h1 rfl⟩
        · exact .inl ⟨rfl, h1 rfl⟩
      split at h
      · rename_i b
        have e := ask d b hd (by rw [hx, hi])
        refine ⟨env, hE, ?_⟩
        rw [e]
        cases b <;> cases want
        · exact .inl ⟨rfl, h⟩
        · exact .inr ⟨rfl, h⟩
        · exact .inr ⟨rfl, h⟩
        · exact .inl ⟨rfl, h⟩
      · obtain ⟨b, hb, hp⟩ := hi
        cases want
        · exact both b hb (fun e => h.t (hp.1 e)) (fun e => h.f (fun q => by have := hp.2 q; rw [e] at this; cases this))
        · exact both b hb (fun e => h.t (hp.1 e)) (fun e => h.f (fun q => by have := hp.2 q; rw [e] at this; cases this))
      · rename_i b
        cases want
        · exact both b hi (fun e => h.t e) (fun e => h.f (by rw [e]; decide))
        · exact both b hi (fun e => h.t e) (fun e => h.f (by rw [e]; decide))
      · obtain ⟨cs, _, rfl⟩ := hi
        refine ⟨env, hE, .inr ⟨?_, h⟩⟩
        simp [asked, yielded, eo, hd, hx]
      · exact h.elim

section
variable {P : Program} {T : TT} {sz : Nat} {B : Nat} {w0 : St} (hT : TTok P T)
include hT
theorem ops_sound {ro : Option Nat} {n : Nat} {all : List Oper} {K : Env → Obs → Nat → Prop} {Q : Exit → Act → World → Prop} (hQ : ∀ a w, Nx B w0 sz K a w → Q .normal a w) : ∀ (l : List Oper) {ρ : Rho} {env : Env} {a : Act} {obs : Obs} {nx : Nat} {w : World},
    EnvR sz ρ env a → Cls B ρ obs nx w → Wy B w0 ρ a.defers w → opsK P T sz false all l env obs nx K → wpListIn (Fz ro) n P all.toArray Q l a w
  | [], ρ, env, a, obs, nx, w, hE, hC, hW, h => hQ _ _ ⟨ρ, env, obs, nx, h, hE, hC, hW⟩
  | o :: r, ρ, env, a, obs, nx, w, hE, hC, hW, h => by
    rw [opsK_cons] at h
    obtain ⟨env', hE', h⟩ := guardK_spec hE h
    unfold wpListIn
    rw [wanted_eq]
    rcases h with ⟨hw, h⟩ | ⟨hw, h⟩
    · rw [if_pos hw]
      refine Oper.wpIn_mono ?_ (op_soundIn hT hE' hC hW h)
      rintro a1 w1 ⟨ρ1, env1, obs1, nx1, h1, hE1, hC1, hW1⟩
      exact ops_sound hQ r hE1 hC1 hW1 h1
    · rw [if_neg (by rw [hw]; decide)]
      obtain ⟨env2, h2, hE2⟩ := putK_spec hE' (undef_is ρ) h
      exact ⟨fun _ _ => fz_fn _ _, ops_sound hQ r hE2 hC hW.put h2⟩
theorem ops_quiet {all : List Oper} {ρ : Rho} {obs : Obs} {nx : Nat} {w : World} {ds : List Deferred} (hC : Cls B ρ obs nx w) (hW : Wy B w0 ρ ds w) {K : Env → Obs → Nat → Prop} {Q : Act → Prop} (hQ : ∀ a env, a.defers = ds → EnvR sz ρ env a → K env obs nx → Q a) : ∀ (l : List Oper) {env : Env} {a : Act},
    a.defers = ds → EnvR sz ρ env a → opsK P T sz true all l env obs nx K → wpQuiet P all.toArray (fun w' => Cls B ρ obs nx w' ∧ Wy B w0 ρ ds w') Q l a
  | [], env, a, hd, hE, h => hQ _ _ hd hE h
  | o :: r, env, a, hd, hE, h => by
    rw [opsK_cons] at h
    obtain ⟨env', hE', h⟩ := guardK_spec hE h
    unfold wpQuiet
    rw [wanted_eq]
    rcases h with ⟨hw, h⟩ | ⟨hw, h⟩
    · rw [if_pos hw]
      have pur : (pureK T env' obs o.op fun v => putK sz o.dst v env' fun e => opsK P T sz true all r e obs nx K) → o.quiet P a (fun w' => Cls B ρ obs nx w' ∧ Wy B w0 ρ ds w') (wpQuiet P all.toArray (fun w' => Cls B ρ obs nx w' ∧ Wy B w0 ρ ds w') Q r) := by
        intro h
        obtain ⟨v, x, hv, h, hr⟩ := pure_sound hT hE' hC h
        obtain ⟨env2, h2, hE2⟩ := putK_spec hE' hv h
        exact ⟨x, fun w1 hw1 => by unfold Oper.quietAt; rw [hr o rfl w1 hw1.1]; exact ⟨rfl, rfl⟩, ops_quiet hC hW hQ r (by rw [put_dfs]; exact hd) hE2 h2⟩
      cases hop : o.op
      case box t x => unfold opK at h; rw [hop] at h; exact h.elim
      case alloc t => unfold opK at h; rw [hop] at h; exact h.elim
      case store t x y => unfold opK at h; rw [hop] at h; exact h.elim
      case buildSlice t n ps => unfold opK at h; rw [hop] at h; exact h.elim
      case makeSlice t x y => unfold opK at h; rw [hop] at h; exact h.elim
      case slice t x lo hi mx =>
        cases mx with
        | none =>
          unfold opK at h
          rw [hop] at h
          obtain ⟨ty, _, h⟩ := fndK_spec h
          split at h
          · exact h.elim
          · exact pur (by rw [hop]; exact h)
        | some m => exact pur (by unfold opK at h; rw [hop] at h ⊢; exact h)
      case assign x =>
        refine pur ?_
        unfold opK at h
        rw [hop] at h ⊢
        split at h
        all_goals first | (rename_i e; cases e; done) | skip
        all_goals first | (rename_i e; injection e with e; subst e; exact h) | exact h
      case call c =>
        obtain ⟨cl, args, ts⟩ := c
        cases cl with
        | value g =>
          simp only [opK, hop] at h
          obtain ⟨v, hv, h⟩ := evK_spec hE' h
          split at h
          · rename_i f caps
            obtain ⟨cs, hcs, hg⟩ := hv
            obtain ⟨vs0, h, hvs0⟩ := evsK_spec hE' h
            obtain ⟨vs, h, hvs⟩ := capE_spec hvs0 hcs h
            obtain ⟨v, hK, hc⟩ := h.h
            have e : (args.toList.map a.eval ++ cs).toArray = args.map a.eval ++ cs.toArray := by cases args; simp
            have hc' : ∀ w1, Cls B ρ obs nx w1 → Calls P f (args.map a.eval ++ cs.toArray) w1 fun e w' => ∃ x, e = .returned x ∧ v.is ρ x ∧ Below w1.heap.size w1 w' := fun w1 h1 => e ▸ hc B ρ w1 _ h1 hvs
            obtain ⟨_, _, x, _, hx, _⟩ := calls_some (hc' w hC)
            obtain ⟨env2, h2, hE2⟩ := putK_spec hE' hx hK
            refine ⟨x, fun w1 hw1 => ?_, ops_quiet hC hW hQ r (by rw [put_dfs]; exact hd) hE2 h2⟩
            unfold Oper.quietAt
            rw [run_call h.b hop hg w1]
            refine ⟨rfl, (hc' w1 hw1.1).mono fun e w' ⟨y, he, hy, hb⟩ => ?_⟩
            rw [SV.is_fun hx hy]
            exact ⟨he, hw1.1.below hb, below_of hw1.2 hw1.1.le hb⟩
          · exact h.elim
          · exact h.elim
        | invoke r m => exact pur (by unfold opK at h; rw [hop] at h ⊢; exact h)
        | builtin b =>
          by_cases happ : ∃ x y t t', b = .append ∧ args = #[x, y] ∧ ts = #[t, t']
          · obtain ⟨x, y, t, t', rfl, rfl, rfl⟩ := happ
            unfold opK at h
            rw [hop] at h
            exact h.elim
          · refine pur ?_
            unfold opK at h
            rw [hop] at h ⊢
            split at h
            all_goals first | (rename_i e; cases e; done) | skip
            all_goals first | (rename_i e; injection e with e; injection e with e1 e2 e3; injection e1 with e1; exact absurd ⟨_, _, _, _, e1, e2, e3⟩ happ) | exact h
      all_goals exact pur (by unfold opK at h; rw [hop] at h ⊢; exact h)
    · rw [if_neg (by rw [hw]; decide)]
      obtain ⟨env2, h2, hE2⟩ := putK_spec hE' (undef_is ρ) h
      exact ops_quiet hC hW hQ r (by rw [put_dfs]; exact hd) hE2 h2
end
end Go.Proofs.Yteblbhbfdfifpaa.V
