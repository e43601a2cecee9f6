/- Shared texts, one behind the other: VRange, VTape3, VTape4, VTape5, VDee, VTape6, VTape7, VTape8, VTapeB, VTape9, VOpenB -/
import Derived.Lib.Bytes
import Derived.Test.YtdplkcciknfnhaaZ1
import Derived.Test.YtdplkcciknfnhaaZ2
import Derived.Test.YtdplkcciknfnhaaZ3
set_option linter.unusedVariables false
set_option linter.unusedSimpArgs false
set_option linter.unusedSectionVars false
set_option maxRecDepth 100000

namespace Go.Proofs.Ytdplkcciknfnhaa.V
open Go Go.RowKit
variable [Dr]
def lpK (obs : Obs) (i : Nat) (K : Lc → Env → Lst → Prop) : Prop := fndK obs i fun o => match o with
  | .lp L env st => K L env st
  | _ => False
theorem lpK_spec {obs : Obs} {i : Nat} {K : Lc → Env → Lst → Prop} (h : lpK obs i K) : ∃ L env st, fnd obs i = some (.lp L env st) ∧ K L env st := by
  obtain ⟨o, ho, h⟩ := fndK_spec h
  cases o <;> first | exact h.elim | exact ⟨_, _, _, ho, h⟩
def zipK (sz : Nat) : List Nat → List SV → Env → (Env → Prop) → Prop
  | [], [], env, K => K env
  | p :: ps, v :: vs, env, K => match Nat.blt p sz with
    | true => zipK sz ps vs ((p, v) :: env) K
    | false => False
  | _, _, _, _ => False
theorem zip_spec {sz : Nat} {ρ : Rho} : ∀ {ps : List Nat} {vs : List SV} {xs : List Value} {env : Env} {tmps : Array Value} {K : Env → Prop}, EnvR sz ρ env { tmps := tmps, defers := [] } → Svs ρ vs xs → zipK sz ps vs env K →
    ∃ env', K env' ∧ xs.length = ps.length ∧ EnvR sz ρ env' { tmps := (ps.zip xs).foldl (fun t (p : Nat × Value) => t.setIfInBounds p.1 p.2) tmps, defers := [] }
  | [], [], xs, env, tmps, K, hE, hs, h => by
    have e : xs = [] := hs
    subst e
    exact ⟨env, h, rfl, hE⟩
  | p :: ps, v :: vs, xs, env, tmps, K, hE, ⟨x, r, e, hv, hr⟩, h => by
    subst e
    unfold zipK at h
    cases hb : Nat.blt p sz <;> simp only [hb] at h
    have hd : p < sz := by simpa [Nat.blt_eq] using hb
    have hsz : tmps.size = sz := hE.size
    have hE' : EnvR sz ρ ((p, v) :: env) { tmps := tmps.setIfInBounds p x, defers := [] } := by
      refine ⟨by simp [hsz], fun t u hu => ?_⟩
      rcases fnd_cons hu with ⟨rfl, rfl⟩ | ⟨hn, hu⟩
      · exact ⟨x, by simp [hsz, hd], SV.is_of1 hv⟩
      · obtain ⟨y, hy, h2⟩ := hE.env t u hu
        exact ⟨y, by rw [Array.getElem?_setIfInBounds_ne hn]; exact hy, h2⟩
    obtain ⟨env', hK, hl, hE2⟩ := zip_spec hE' hr h
    exact ⟨env', hK, by simp [hl], hE2⟩
  | [], _ :: _, _, _, _, _, _, _, h => h.elim
  | _ :: _, [], _, _, _, _, _, _, h => h.elim
def rndK (i : Nat) (K : SV → Obs → Nat → Prop) : Kon := fun e _ obs nx => lpK obs i fun L env st => match st with
  | .busy => match e with
    | .nrm => K (.one (.tf true)) ((i, .lp L env .ready) :: obs) nx
    | .exit id => K (.one (.tf false)) ((i, .lp L env (.done (.exit id))) :: obs) nx
    | .ret => K (.one (.tf false)) ((i, .lp L env (.done .ret)) :: obs) nx
  | _ => False
def endK (i : Nat) (env : Env) (K : Kon) (obs : Obs) (nx : Nat) : Prop := lpK obs i fun _ _ st => match st with
  | .ready => K .nrm env ((i, .gone) :: obs) nx
  | .done (.exit id) => K (.exit id) env ((i, .gone) :: obs) nx
  | .done .ret => K .ret env ((i, .gone) :: obs) nx
  | _ => False
theorem put_below {B l : Nat} {w : World} (h : B ≤ l) (o : Obj) : Belw B w (w.putObj l o) :=
  ⟨⟨rfl, rfl, rfl, by rw [World.putObj_size]; exact Nat.le_refl _, fun k hk => World.putObj_heap_other (by omega)⟩, fun _ => Nat.le_refl _⟩
theorem put_oth {l : Nat} {w : World} {r : Loop} (h : w.heap[l]? = some (.loop r)) (o : Obj) : Oth w (w.putObj l o) :=
  oth_one (b := l) (fun k hk => World.putObj_heap_other hk) fun D e => by rw [h] at e; cases e
theorem Cls.lpset {B nx : Nat} {ρ : Rho} {obs : Obs} {w : World} {i l : Nat} {L : Lc} {env : Env} {st : Lst} (hC : Cls B ρ obs nx w) (ho : fnd obs i = some (.lp L env st)) (hl : ρ i = some (.func (.yield l) #[] #[])) :
    ∃ fn tmps D, B ≤ l ∧ w.heap[l]? = some (.loop { state := st.state, pending := st.pend, fn := fn, tmps := tmps, params := L.ps.toArray, assign := L.assign, body := L.body, defers := D }) ∧
      ∀ st' : Lst, Cls B ρ ((i, .lp L env st') :: obs) nx (w.putObj l (.loop { state := st'.state, pending := st'.pend, fn := fn, tmps := tmps, params := L.ps.toArray, assign := L.assign, body := L.body, defers := D })) := by
  obtain ⟨l', fn, tmps, D, e, hB, hh, hE⟩ := hC.sat i _ ho
  rw [hl] at e
  have e : l = l' := by injection e with e; injection e with e; injection e
  subst e
  have hf : ∀ st' : Lst, foot ρ i (.lp L env st') = some l := fun st' => by simp [foot, hl]
  exact ⟨fn, tmps, D, hB, hh, fun st' => hC.set ho rfl (hf st) (.inl (hf st')) rfl World.putObj_size (fun k hk => World.putObj_heap_other hk)
    ⟨l, fn, tmps, D, hl, hB, World.putObj_heap_same (Array.getElem?_eq_some_iff.1 hh).1, hE⟩⟩
theorem Cls.kill {B nx : Nat} {ρ : Rho} {obs : Obs} {w w' : World} {i b : Nat} {o : Ob} (h : Cls B ρ obs nx w) (ho : fnd obs i = some o) (hm : o.mut = true) (hf : foot ρ i o = some b) (hsz : w'.heap.size = w.heap.size) (hk : ∀ k, k ≠ b → w'.heap[k]? = w.heap[k]?) : Cls B ρ ((i, .gone) :: obs) nx w' := by
  refine ⟨by rw [hsz]; exact h.le, fun j u hu => ?_, fun j k o1 o2 c h1 h2 hne hmu hf1 => ?_, h.new, Apx.cons (o' := .gone) h.apx (fun _ _ _ _ => rfl) fun _ _ _ _ _ _ q => by cases q⟩
  · rcases fnd_cons hu with ⟨rfl, rfl⟩ | ⟨hn, hu⟩
    · trivial
    · exact (h.sat j u hu).keep (by omega) (fun c hc => hk c (fun e => by subst e; exact h.apart i j o u c ho hu hn hm hf hc)) (fun c hc => hk c fun e => by subst e; exact (h.apx j i u o c hu ho hc).1 hf) fun c hc => hk c fun e => by subst e; have := mut_ge (h.sat i o ho) hm hf; omega
  · rcases fnd_cons h1 with ⟨rfl, rfl⟩ | ⟨hn1, h1⟩
    · cases hf1
    · rcases fnd_cons h2 with ⟨rfl, rfl⟩ | ⟨hn2, h2⟩
      · intro e; cases e
      · exact h.apart j k o1 o2 c h1 h2 hne hmu hf1
theorem NYield.mk_ {P : Program} {T : TT} (hT : TTok P T) (hm : P.follows .mixedOrders = true) {i : Nat} {L : Lc} {env0 : Env} {sz : Nat} {ps : List Nat} {assign body : Code} (hL : L = ⟨sz, ps, assign, body⟩) (hc : (calm assign && calm body) = true)
    {args : List SV} {obs : Obs} {nx : Nat} {K : SV → Obs → Nat → Prop} (ho : fnd obs i = some (.lp L env0 .ready))
    (h : zipK sz ps args env0 fun env => vc P T sz nx assign env obs nx fun e env1 obs1 nx1 => match e with
      | .nrm => lpK obs1 i fun L1 e1 st => match st with
        | .ready => vc P T sz nx body env1 ((i, .lp L1 e1 .busy) :: obs1) nx1 (rndK i K)
        | _ => False
      | _ => False) : NYield P i args obs nx K :=
  ⟨fun B ρ w xs l n hC hs hl => by
    subst hL
    simp only [Bool.and_eq_true] at hc
    obtain ⟨l', fn, tmps, D, e, hB, hh, hE0⟩ := hC.sat i _ ho
    rw [hl] at e
    have e : l = l' := by injection e with e; injection e with e; injection e
    subst e
    obtain ⟨env, h, hlen, hE⟩ := zip_spec hE0 hs h
    have hy := run_yield (P := P) (args := xs.toArray) hh (by simp [hlen])
    have hin : i < nx := by
      rcases Nat.lt_or_ge i nx with q | q
      · exact q
      · rw [hC.new i q] at hl; cases hl
    have ex : ∀ {ρ1 : Rho} {ds : List Deferred} {w1 : World}, Wy B ⟨w, ρ, nx⟩ ρ1 ds w1 → ∀ j y, ρ j = some y → ρ1 j = some y := fun {ρ1 ds w1} hW j y hy => by
      by_cases hj : j < nx
      · exact hW.e j y hj hy
      · rw [hC.new j (by omega)] at hy; cases hy
    refine ⟨fn, _, assign, body, hy, roundIn_of_wpIn trivial ?_⟩
    have et : ((ps.toArray.zip xs.toArray).foldl (fun t (x : Nat × Value) => match x with | (t', a) => t.setIfInBounds t' a) tmps) = (ps.zip xs).foldl (fun t (p : Nat × Value) => t.setIfInBounds p.1 p.2) tmps := by
      rw [← Array.foldl_toList, Array.toList_zip]
    rw [et]
    have h1 := vc_sound (ro := some l) (n := n) (w0 := ⟨w, ρ, nx⟩) hT hm assign (.inr hc.1) h hE hC ⟨Belw.refl _ _, Oth.refl _, fun _ _ _ h => h, [], rfl, List.nodup_nil, by simp⟩
    refine wpIn_mono h1 ?_
    intro e a1 w1 q
    cases e with
    | normal =>
      obtain ⟨ρ1, env1, obs1, nx1, hk, hE1, hC1, hW1⟩ := q
      obtain ⟨L1, e1, st, ho1, hk⟩ := lpK_spec hk
      split at hk
      rotate_left
      · exact hk.elim
      have hl1 := ex hW1 _ _ hl
      obtain ⟨fn1, tmps1, D1, _, hh1, hset⟩ := hC1.lpset ho1 hl1
      refine ⟨_, run_beginRound hh1 rfl, ?_⟩
      have h2 := vc_sound (ro := some l) (n := n) (w0 := ⟨w, ρ, nx⟩) hT hm body (.inr hc.2) hk hE1 (hset .busy) (hW1.trans (put_below hB _) (put_oth hh1 _))
      refine wpIn_mono h2 ?_
      intro e a2 w2 q
      have fin : ∀ (e : Ex) (st : Lst) (b : Bool) (K2 : Env → Obs → Nat → Prop), Nx B ⟨w, ρ, nx⟩ sz K2 a2 w2 → (∀ env2 obs2 nx2, K2 env2 obs2 nx2 → lpK obs2 i fun L env s => match s with
            | .busy => K (.one (.tf b)) ((i, .lp L env st) :: obs2) nx2
            | _ => False) → st ≠ .busy → b = st.pend.isNone → st.state = (if st.pend.isNone then .ready else .done) →
          ∃ v w', (Instr.endRound l st.pend).run P w2 = .ok v w' ∧ ∃ u obs' nx' ρ' x, K u obs' nx' ∧ (∀ i y, ρ i = some y → ρ' i = some y) ∧ Ending.returned v = .returned x ∧ u.is ρ' x ∧ Cls B ρ' obs' nx' w' ∧ Belw B w w' ∧ Oth w w' := by
        rintro e st b K2 ⟨ρ2, env2, obs2, nx2, hk2, hE2, hC2, hW2⟩ hK hnb hb hst
        obtain ⟨L2, e2, s2, ho2, hk2⟩ := lpK_spec (hK _ _ _ hk2)
        split at hk2
        rotate_left
        · exact hk2.elim
        obtain ⟨fn2, tmps2, D2, _, hh2, hset2⟩ := hC2.lpset ho2 (ex hW2 _ _ hl)
        refine ⟨_, _, run_endRound st.pend hh2, _, _, _, ρ2, _, hk2, ex hW2, rfl, ?_, ?_, hW2.b.trans (put_below hB _), hW2.o.trans (put_oth hh2 _)⟩
        · subst hb; exact rfl
        · have := hset2 st
          rw [hst] at this
          exact this
      cases e with
      | normal => exact fin .nrm .ready true _ q (fun _ _ _ h => h) (fun q => by cases q) rfl rfl
      | ret => exact fin .ret (.done .ret) false _ q (fun _ _ _ h => h) (fun q => by cases q) rfl rfl
      | exit id => exact fin (.exit id) (.done (.exit id)) false _ q (fun _ _ _ h => h) (fun q => by cases q) rfl rfl
      | goto t => exact q.elim
      | panic c => exact q.elim
      | outgrown => exact q.elim
    | exit id => obtain ⟨_, _, _, _, hk, _⟩ := q; exact hk.elim
    | ret => obtain ⟨_, _, _, _, hk, _⟩ := q; exact hk.elim
    | goto t => exact q
    | panic c => exact q
    | outgrown => exact q⟩
structure NIs (a b : Nat) (K : Prop) : Prop where
  e : a = b
  h : K
theorem run_enter {P : Program} {f : FuncId} (hb : hasBody P f = true) (args : Array Value) (w : World) : (callFunc f args).run P w = .ok (.enter f args) w := by
  unfold hasBody at hb
  cases hf : P.funcs[f]? with
  | none => rw [hf] at hb; cases hb
  | some fn =>
    rw [hf] at hb
    simp only [Bool.and_eq_true, Bool.not_eq_true', Option.isSome_iff_ne_none] at hb
    obtain ⟨h1, h2⟩ := hb
    have h3 : fn.body.isNone = false := by cases hq : fn.body with | none => exact absurd hq h1 | some c => rfl
    have h4 : ¬ fn.name = "runtime.NumGoroutine" := by simpa using h2
    simp [callFunc, hf, h4, h3, Sem.run_bind]
    exact fun q => absurd q h1
def mvA (i j : Nat) : At → At
  | .ref k => match Nat.beq k i with
    | true => .ref j
    | false => .ref k
  | a => a
def mvOb (i j : Nat) : Ob → Ob
  | .box t l => .box t (l.map (mvA i j))
  | o => o
def mvObs (i j : Nat) : Obs → Obs
  | [] => []
  | (k, o) :: r => match Nat.beq k i with
    | true => (k, .gone) :: mvObs i j r
    | false => (k, mvOb i j o) :: mvObs i j r
theorem mvObs_get {i j k : Nat} {o : Ob} : ∀ {obs : Obs}, fnd (mvObs i j obs) k = some o → (k = i ∧ o = .gone) ∨ (k ≠ i ∧ ∃ o', fnd obs k = some o' ∧ o = mvOb i j o')
  | [], h => by cases h
  | (u, x) :: r, h => by
    unfold mvObs at h
    cases hb : Nat.beq u i <;> simp only [hb] at h
    · rcases fnd_cons h with ⟨rfl, rfl⟩ | ⟨hn, h⟩
      · exact .inr ⟨Nat.ne_of_beq_eq_false hb, x, by unfold fnd; rw [Nat.beq_refl], rfl⟩
      · rcases mvObs_get h with q | ⟨q, o', h1, h2⟩
        · exact .inl q
        · refine .inr ⟨q, o', ?_, h2⟩
          unfold fnd
          cases hb2 : Nat.beq u k
          · exact h1
          · exact absurd (Nat.eq_of_beq_eq_true hb2) hn
    · have e := Nat.eq_of_beq_eq_true hb
      subst e
      rcases fnd_cons h with ⟨rfl, rfl⟩ | ⟨hn, h⟩
      · exact .inl ⟨rfl, rfl⟩
      · rcases mvObs_get h with q | ⟨q, o', h1, h2⟩
        · exact .inl q
        · refine .inr ⟨q, o', ?_, h2⟩
          unfold fnd
          cases hb2 : Nat.beq u k
          · exact h1
          · exact absurd (Nat.eq_of_beq_eq_true hb2) hn
theorem Ats.mv {i j : Nat} {ρ : Rho} (hj : ρ j = ρ i) : ∀ {l : List At} {x : List Value}, Ats ρ l x → Ats ρ (l.map (mvA i j)) x
  | [], _, h => h
  | a :: l, _, ⟨u, r, hx, ha, hr⟩ => by
    refine ⟨u, r, hx, ?_, Ats.mv hj hr⟩
    cases a with
    | ref k =>
      show (mvA i j (.ref k)).is ρ u
      simp only [mvA]
      cases hb : Nat.beq k i
      · exact ha
      · have e := Nat.eq_of_beq_eq_true hb
        subst e
        exact ⟨hj.trans ha.1, ha.2⟩
    | _ => exact ha
theorem foot_mv {ρ : Rho} {i j k : Nat} {o : Ob} : foot ρ k (mvOb i j o) = foot ρ k o := by cases o <;> rfl
def mvAsK (i j : Nat) : List At → (List At → Prop) → Prop
  | [], K => K []
  | a :: l, K => match a with
    | .ref k => match Nat.beq k i with
      | true => mvAsK i j l fun r => K (.ref j :: r)
      | false => mvAsK i j l fun r => K (.ref k :: r)
    | a => mvAsK i j l fun r => K (a :: r)
theorem mvAsK_eq {i j : Nat} : ∀ {l : List At} {K : List At → Prop}, mvAsK i j l K → K (l.map (mvA i j))
  | [], _, h => h
  | a :: l, K, h => by
    unfold mvAsK at h
    cases a with
    | ref k =>
      simp only at h
      rw [List.map_cons]
      show K (mvA i j (.ref k) :: _)
      simp only [mvA]
      cases hb : Nat.beq k i <;> simp only [hb] at h ⊢ <;> exact mvAsK_eq (K := fun r => K (_ :: r)) h
    | _ => exact mvAsK_eq (K := fun r => K (_ :: r)) h
def mvK (i j : Nat) : Obs → (Obs → Prop) → Prop
  | [], K => K []
  | (k, o) :: r, K => match Nat.beq k i with
    | true => mvK i j r fun r' => K ((k, .gone) :: r')
    | false => match o with
      | .box t l => mvAsK i j l fun l' => mvK i j r fun r' => K ((k, .box t l') :: r')
      | o => mvK i j r fun r' => K ((k, o) :: r')
theorem mvK_eq {i j : Nat} : ∀ {obs : Obs} {K : Obs → Prop}, mvK i j obs K → K (mvObs i j obs)
  | [], _, h => h
  | (k, o) :: r, K, h => by
    unfold mvK at h
    unfold mvObs
    cases hb : Nat.beq k i <;> simp only [hb] at h ⊢
    · cases o with
      | box t l => exact mvK_eq (K := fun r' => K (_ :: r')) (mvAsK_eq h)
      | _ => exact mvK_eq (K := fun r' => K (_ :: r')) h
    · exact mvK_eq (K := fun r' => K (_ :: r')) h
theorem Cls.mv {B nx : Nat} {ρ : Rho} {obs : Obs} {w : World} (i : Nat) {t s n : Nat} {get : Nat → List Value} (hC : Cls B ρ obs nx w) (ho : fnd obs i = some (.row t s n get)) :
    ∃ ρ', Ext ρ ρ' ∧ Cls B ρ' ((nx, .row t s n get) :: mvObs i nx obs) (nx + 1) w := by
  obtain ⟨v, hv, hr⟩ := hC.sat i _ ho
  have hx : Ext ρ (upd ρ nx v) := ext_upd (hC.new nx (Nat.le_refl _))
  have hne : i ≠ nx := fun e => by rw [e, hC.new nx (Nat.le_refl _)] at hv; cases hv
  have hi : upd ρ nx v nx = upd ρ nx v i := by rw [upd_same, upd_ne v hne, hv]
  have ol : ∀ k o, nx ≠ k → foot (upd ρ nx v) k o = foot ρ k o := fun k o hn => foot_eq (upd_ne v (Ne.symm hn))
  have fnx : foot (upd ρ nx v) nx (.row t s n get) = foot ρ i (.row t s n get) := by rw [foot_at hi, foot_eq (upd_ne v hne)]
  have sm : ∀ o b, sub (mvOb i nx o) b = sub o b := fun o b => by cases o <;> rfl
  have ax : Apx (upd ρ nx v) ((nx, .row t s n get) :: mvObs i nx obs) := fun j k o1 o2 b h1 h2 hb => by
    rcases fnd_cons h1 with ⟨rfl, rfl⟩ | ⟨hn1, h1⟩
    · exact hb.elim
    · rcases mvObs_get h1 with ⟨_, rfl⟩ | ⟨q, o', h3, rfl⟩
      · exact hb.elim
      · rw [sm] at hb
        rcases fnd_cons h2 with ⟨rfl, rfl⟩ | ⟨hn2, h2⟩
        · exact ⟨by rw [fnx]; exact (hC.apx j i o' _ b h3 ho hb).1, fun _ z => z⟩
        · rcases mvObs_get h2 with ⟨_, rfl⟩ | ⟨q2, o2', h4, rfl⟩
          · exact ⟨fun z => (by cases z), fun _ z => z⟩
          · rw [foot_mv, ol _ _ hn2, sm]
            exact hC.apx j k o' o2' b h3 h4 hb
  refine ⟨upd ρ nx v, hx, ⟨hC.le, fun k o hk => ?_, fun j k o1 o2 b h1 h2 hne' hmu hf => ?_, fun k hk => ?_, ax⟩⟩
  · rcases fnd_cons hk with ⟨rfl, rfl⟩ | ⟨hn, hk⟩
    · exact ⟨v, upd_same _ _ _, hr⟩
    · rcases mvObs_get hk with ⟨_, rfl⟩ | ⟨_, o', h1, rfl⟩
      · trivial
      · have hs := (hC.sat k o' h1).ext hx
        cases o' with
        | box t l => obtain ⟨b, cs, e, hB, hl, hh⟩ := hs; exact ⟨b, cs, e, hB, hl.mv hi, hh⟩
        | _ => exact hs
  · rcases fnd_cons h1 with ⟨rfl, rfl⟩ | ⟨hn1, h1⟩
    · rcases fnd_cons h2 with ⟨rfl, rfl⟩ | ⟨hn2, h2⟩
      · exact absurd rfl hne'
      · rw [fnx] at hf
        rcases mvObs_get h2 with ⟨_, rfl⟩ | ⟨q, o', h3, rfl⟩
        · intro e; cases e
        · rw [foot_mv, ol _ _ hn2]
          exact hC.apart i k _ o' b ho h3 (Ne.symm q) rfl hf
    · rcases mvObs_get h1 with ⟨_, rfl⟩ | ⟨q, o', h3, rfl⟩
      · cases hf
      · rw [foot_mv, ol _ _ hn1] at hf
        have hmu' : o'.mut = true := by cases o' <;> exact hmu
        rcases fnd_cons h2 with ⟨rfl, rfl⟩ | ⟨hn2, h2⟩
        · rw [fnx]
          exact hC.apart j i o' _ b h3 ho q hmu' hf
        · rcases mvObs_get h2 with ⟨_, rfl⟩ | ⟨q2, o2', h4, rfl⟩
          · intro e; cases e
          · rw [foot_mv, ol _ _ hn2]
            exact hC.apart j k o' o2' b h3 h4 hne' hmu' hf
  · rw [upd_ne v (by omega)]; exact hC.new k (by omega)
def mvsK : List Nat → Obs → Nat → (Obs → Nat → Prop) → Prop
  | [], obs, n, K => K obs n
  | i :: r, obs, n, K => fndK obs i fun o => match o with
    | .row t s m g => mvK i n obs fun obs' => mvsK r ((n, .row t s m g) :: obs') (n + 1) K
    | _ => False
theorem mvsK_spec {B : Nat} {w : World} : ∀ {l : List Nat} {ρ : Rho} {obs : Obs} {n : Nat} {K : Obs → Nat → Prop}, Cls B ρ obs n w → mvsK l obs n K → ∃ ρ' obs' n', Ext ρ ρ' ∧ Cls B ρ' obs' n' w ∧ K obs' n'
  | [], ρ, obs, n, K, hC, h => ⟨ρ, obs, n, fun _ _ q => q, hC, h⟩
  | i :: r, ρ, obs, n, K, hC, h => by
    obtain ⟨o, ho, h⟩ := fndK_spec h
    cases o with
    | row t s m g =>
      obtain ⟨ρ1, hx1, hC1⟩ := hC.mv i ho
      obtain ⟨ρ2, obs2, n2, hx2, hC2, hK⟩ := mvsK_spec (l := r) hC1 (mvK_eq (K := fun obs' => mvsK r ((n, .row t s m g) :: obs') (n + 1) K) h)
      exact ⟨ρ2, obs2, n2, fun i y q => hx2 _ _ (hx1 _ _ q), hC2, hK⟩
    | _ => exact h.elim
theorem NRange.inl {P : Program} {T : TT} (hT : TTok P T) (hm : P.follows .mixedOrders = true) {g : FuncId} {gfn : Func} {c : Code} (hf : P.funcs[g]? = some gfn) (hb : gfn.body = some c) {gsz : Nat} (hs : gfn.ntmps = gsz) (hB : hasBody P g = true)
    {sz : Nat} {fo : Operand} {ps : Array Tmp} {assign body : Code} {env : Env} {obs : Obs} {nx : Nat} {K : Kon} (sl ml : List Nat)
    (h0 : evK env fo fun v => match v with
      | .one (.clo g' caps) => NIs g' g (keepK env sl fun env0 => capE [.one (.ref nx)] caps fun args => match Nat.ble args.length gsz with
        | true => ∀ L : Lc, L = ⟨sz, ps.toList, assign, body⟩ → mvsK ml ((nx, .lp L env0 .ready) :: obs) (nx + 1) fun obs0 nx0 => vc P T gsz (nx + 1) c (argEnv 0 args) obs0 nx0 (fnK T gfn.results.toList fun _ obs1 nx1 => endK nx env K obs1 nx1)
        | false => False)
      | _ => False) : NRange P sz fo ps assign body env obs nx K := by
  refine ⟨fun B s ρ a w n hE hC hW => ?_⟩
  obtain ⟨v, hv, h⟩ := evK_spec hE h0
  clear h0
  split at h
  rotate_left
  · exact h.elim
  rename_i g' caps
  obtain ⟨rfl, h⟩ := h
  obtain ⟨cs, hcs, hg⟩ := hv
  obtain ⟨env0, hle, h⟩ := keepE_spec h
  have hE0 : EnvR sz ρ env0 { tmps := a.tmps, defers := [] } := ⟨hE.size, fun t v ht => by
    obtain ⟨u, hu, hl⟩ := hle.get t v ht
    obtain ⟨x, e, hx⟩ := hE.env t u hu
    have := hl.is_ hx
    rw [renS_nil] at this
    exact ⟨x, e, this⟩⟩
  refine wpIn_rangeFunc ?_
  intro fn hfn
  have hro : Fence.wide.round = none := rfl
  rw [hro]
  obtain ⟨W1, hW1⟩ : ∃ W1, (w.alloc (.deferred (some []))).alloc (.loop { state := .ready, pending := none, fn := fn, tmps := a.tmps, params := ps, assign := assign, body := body, defers := w.heap.size }) = W1 := ⟨_, rfl⟩
  have hsz1 : W1.heap.size = w.heap.size + 2 := by rw [← hW1]; simp
  have hL1 : W1.heap[w.heap.size + 1]? = some (.loop { state := .ready, pending := none, fn := fn, tmps := a.tmps, params := ps, assign := assign, body := body, defers := w.heap.size }) := by
    rw [← hW1]
    have := World.alloc_heap_new (w.alloc (.deferred (some []))) (.loop { state := .ready, pending := none, fn := fn, tmps := a.tmps, params := ps, assign := assign, body := body, defers := w.heap.size })
    rwa [World.size_alloc] at this
  have hK1 : W1.heap[w.heap.size]? = some (.deferred (some [])) := by
    rw [← hW1]; exact (Below.heap_alloc _ _ _ (by simp)).trans (World.alloc_heap_new w _)
  have hb1 : Belw w.heap.size w W1 := by
    rw [← hW1]; exact (((Belw.refl _ w).alloc (Nat.le_refl _) _).alloc (by simp) _)
  have hx1 : Ext ρ (upd ρ nx (.func (.yield (w.heap.size + 1)) #[] #[])) := ext_upd (hC.new nx (Nat.le_refl _))
  have hone : Svs (upd ρ nx (.func (.yield (w.heap.size + 1)) #[] #[])) [.one (.ref nx)] [.func (.yield (w.heap.size + 1)) #[] #[]] := ⟨_, [], rfl, ⟨upd_same _ _ _, rfl⟩, rfl⟩
  have hcs1 : CapsAre (upd ρ nx (.func (.yield (w.heap.size + 1)) #[] #[])) caps cs := hcs.ext hx1
  obtain ⟨args, h, hsv⟩ := capE_spec hone hcs1 h
  cases hlen : Nat.ble args.length gsz <;> rw [hlen] at h
  · exact h.elim
  have hC1 := hC.more (v := .func (.yield (w.heap.size + 1)) #[] #[]) (o := .lp ⟨sz, ps.toList, assign, body⟩ env0 .ready) hb1 ⟨w.heap.size + 1, fn, a.tmps, w.heap.size, upd_same _ _ _, by have := hC.le; omega, by simpa [Lst.state, Lst.pend] using hL1, hE0.ext hx1⟩
    (fun b hf => by simp only [foot, upd_same] at hf; injection hf with hf; omega)
  have h1 := h _ rfl
  obtain ⟨ρ2, obs2, n2, hx2, hC2, h2⟩ := mvsK_spec hC1 h1
  have hcall := fn_sound_pin (xs := #[.func (.yield (w.heap.size + 1)) #[] #[]] ++ cs.toArray) hT hm hf hb hs hlen h2 hC2 (by simpa using hsv.ext hx2)
  refine ⟨w.heap.size + 1, [{ target := .collected w.heap.size, args := #[] }], W1, { target := .fn (.func g') cs.toArray, args := #[.func (.yield (w.heap.size + 1)) #[] #[]] }, W1, g', #[.func (.yield (w.heap.size + 1)) #[] #[]] ++ cs.toArray, W1, ?_, ?_, fun _ _ => trivial, ?_, fun q => (by cases q), ?_⟩
  · rw [← hW1]; exact run_enterLoop_outer _ _ _ _ _
  · simp only [resolve, hg]
    simp [go_sem]
  · simp [invoke, go_sem, run_enter hB]
  refine callsIn_wide.2 (hcall.mono ?_)
  rintro e w' ⟨ρ', v, obs', nx', x, hR, rfl, _, hC', hb', hx3, ho'⟩
  have hx' : Ext (upd ρ nx (.func (.yield (w.heap.size + 1)) #[] #[])) ρ' := fun i y hi => by
    by_cases q : i < nx + 1
    · exact hx3 i y q (hx2 _ _ hi)
    · rw [upd_ne _ (by omega), hC.new i (by omega)] at hi; cases hi
  obtain ⟨L2, e2, st, hol, hR⟩ := lpK_spec hR
  have hl2 : ρ' nx = some (.func (.yield (w.heap.size + 1)) #[] #[]) := hx' _ _ (upd_same _ _ _)
  obtain ⟨fn2, tmps2, D2, hBl, hh2, _⟩ := hC'.lpset hol hl2
  have hnb : st.state ≠ .busy := by
    intro q
    cases st with
    | ready => cases q
    | busy => exact hR
    | done c => cases q
  refine ⟨st.pend, _, run_endLoop hh2 hnb, ?_⟩
  have hf2 : foot ρ' nx (.lp L2 e2 st) = some (w.heap.size + 1) := by simp [foot, hl2]
  have hC4 := hC'.kill (w' := w'.putObj (w.heap.size + 1) (.loop { state := .exhausted, pending := st.pend, fn := fn2, tmps := tmps2, params := L2.ps.toArray, assign := L2.assign, body := L2.body, defers := D2 })) hol rfl hf2 World.putObj_size (fun k hk => World.putObj_heap_other hk)
  have hB1 : B ≤ w.heap.size := hC.le
  have hW4 : Wy B s ρ' ({ target := .collected w.heap.size, args := #[] } :: a.defers) (w'.putObj (w.heap.size + 1) (.loop { state := .exhausted, pending := st.pend, fn := fn2, tmps := tmps2, params := L2.ps.toArray, assign := L2.assign, body := L2.body, defers := D2 })) := by
    have o1 : Oth W1 (w'.putObj (w.heap.size + 1) (.loop { state := .exhausted, pending := st.pend, fn := fn2, tmps := tmps2, params := L2.ps.toArray, assign := L2.assign, body := L2.body, defers := D2 })) := ho'.trans (put_oth hh2 _)
    have o2 := (oth_of hb1).trans o1
    refine ⟨((hW.b.trans (hb1.mono hB1)).trans hb').trans (put_below (by omega) _), hW.o.trans o2, fun i y hi hy => hx' _ _ (hx1 _ _ (hW.e i y hi hy)), ?_⟩
    obtain ⟨Ds, hd, hn, hD⟩ := hW.m
    refine ⟨w.heap.size :: Ds, by rw [hd]; rfl, List.nodup_cons.2 ⟨fun q => ?_, hn⟩, fun D q => ?_⟩
    · have := (Array.getElem?_eq_some_iff.1 (hD _ q).2.2).1; omega
    · rcases List.mem_cons.1 q with rfl | q
      · exact ⟨hB1, hW.b.size, o1 _ _ hK1⟩
      · exact ⟨(hD _ q).1, (hD _ q).2.1, o2 _ _ (hD _ q).2.2⟩
  have hE4 : EnvR sz ρ' env { a with defers := [{ target := .collected w.heap.size, args := #[] }] ++ a.defers } := ⟨hE.size, ((hE.ext hx1).ext hx').env⟩
  split at hR
  · exact ⟨ρ', env, _, nx', hR, hE4, hC4, hW4⟩
  · exact wpIn_exit ⟨ρ', env, _, nx', hR, hE4, hC4, hW4⟩
  · exact wpIn_ret ⟨ρ', env, _, nx', hR, hE4, hC4, hW4⟩
  · exact hR.elim
end Go.Proofs.Ytdplkcciknfnhaa.V

namespace Go.Proofs.Ytdplkcciknfnhaa
open Go Go.RowKit V
theorem v_cloneB (l : List Nat) (hn : l.length ≤ 1099511627776) : V.FnR Try.prog 24 [.arr 1 l.length (ga ebn l)] [.one (.ref 0)] (.one (.ref 1)) [.row 5 1 l.length (ga ebn l)] := by
  refine V.FnR.mk_ V.Tok V.mixed Try.func24 rfl Try.ntmps24 (by kernel_rfl) rfl rfl rfl rfl ?_
  repeat' ((conv => whnf); first | refine V.NCond.mk ?_ | refine V.NPick.l ?_ | refine V.NIf.not_ ?_ | refine V.NIf.dec_ ?_ | refine V.a4 ?_ | refine V.a5 ?_ | refine V.NIf.mk (fun _ => ?_) (fun _ => ?_) | refine V.a7 ?_ | refine V.a8 ?_ | refine V.a9 ?_ | refine V.NBoth.mk ?_ ?_ | refine V.b1 ?_ | refine V.b2 ?_ | refine V.NTF.dec ?_ | refine V.b3 ?_ | refine V.b4 ?_ | (refine NNil.mk ?_; intro p hp) | (refine NOne.mk ?_ ?_; · (intro k hk; rfl)) | (refine NApp.all_ (by show l.length * 1 ≤ _; omega) (by omega) ?_) | (refine V.NDraw.any (by kernel_rfl) ?_) | fail)
  all_goals (conv => whnf)
  · refine NRet.mk_ [some 2] rfl ?_ ?_
    · exact rfl
    · exact ⟨⟨rfl, rfl, (hp (by assumption)).symm, fun k hk => absurd hk (Nat.not_lt_zero _)⟩, trivial⟩
  · refine NRet.mk_ [some 3] rfl ?_ ?_
    · exact rfl
    · exact ⟨⟨rfl, rfl, rfl, fun _ _ => rfl⟩, trivial⟩
theorem eq_at {a b : List Nat} (hl : a.length = b.length) (h : ∀ k, k < a.length → a.getD k default = b.getD k default) : a = b := by
  apply List.ext_getElem hl
  intro k h1 h2
  have := h k h1
  rwa [getD_at h1, getD_at h2] at this
theorem v_equalB (a b : List Nat) (ha : a.length ≤ 9223372036854775807) : V.Fn Try.prog 29 [.arr 1 a.length (ga ebn a), .arr 1 b.length (ga ebn b)] [.one (.ref 0), .one (.ref 1)] (.bool (decide (a = b))) := by
  by_cases hl : a.length = b.length
  · refine V.Fn.mk_ V.Tok V.mixed Try.func29 rfl Try.ntmps29 (by kernel_rfl) rfl rfl ?_
    repeat' ((conv => whnf); first | (refine V.NIf.yes ?_ ?_; · (omega; done)) | (refine V.NIf.no ?_ ?_; · (omega; done)) | refine V.NCond.mk ?_ | refine V.NPick.l ?_ | refine V.NIf.not_ ?_ | refine V.NIf.dec_ ?_ | refine V.a4 ?_ | refine V.a5 ?_ | refine V.NIf.mk (fun _ => ?_) (fun _ => ?_) | refine V.a7 ?_ | refine V.a8 ?_ | refine V.a9 ?_ | refine V.NBoth.mk ?_ ?_ | refine V.b1 ?_ | refine V.b2 ?_ | refine V.NTF.dec ?_ | refine V.b3 ?_ | refine V.b4 ?_ | (refine V.NDraw.any (by kernel_rfl) ?_) | fail)
    all_goals (conv => whnf)
    refine V.NLoop.auto (fun (k : Nat) => [(13, .one (.val (.int .i64 k)))]) (fun (k : Nat) => []) [] [] (fun (k : Nat) => a.length - k) (fun (k : Nat) => k ≤ a.length ∧ ∀ j, j < k → a.getD j default = b.getD j default) 0 ⟨Nat.zero_le _, fun j h => absurd h (Nat.not_lt_zero _)⟩ V.S_ V.S_ (fun _ => ⟨rfl, rfl⟩) ?_; (conv => whnf); refine ⟨⟨rfl, rfl⟩, ?_⟩
    rintro k ⟨hk, hj⟩
    by_cases hlt : k < a.length
    · by_cases he : a.getD k default = b.getD k default
      · repeat' ((conv => whnf); first | (refine V.NIf.no ?_ ?_; · (omega; done)) | (refine V.NIf.yes ?_ ?_; · (omega; done)) | refine V.NCond.mk ?_ | refine V.NPick.l ?_ | refine V.NIf.not_ ?_ | refine V.NIf.dec_ ?_ | refine V.a4 ?_ | refine V.a5 ?_ | refine V.NIf.mk (fun _ => ?_) (fun _ => ?_) | refine V.a7 ?_ | refine V.a8 ?_ | refine V.a9 ?_ | refine V.NBoth.mk ?_ ?_ | refine V.b1 ?_ | refine V.b2 ?_ | refine V.NTF.dec ?_ | refine V.b3 ?_ | refine V.b4 ?_ | (refine NIdx.mk ⟨k, rfl, by omega, ?_⟩) | (refine V.NDraw.any (by kernel_rfl) ?_) | fail)
        all_goals (conv => whnf)
        all_goals exact V.NBack.at_ (k + 1) [] ⟨by omega, fun j h => by
          rcases Nat.lt_or_ge j k with q | q
          · exact hj j q
          · obtain rfl : j = k := by omega
            exact he⟩ (by omega) V.S_ rfl V.S_ V.S_ V.S_
      · rw [decide_eq_false (fun e => he (by rw [e]))]
        repeat' ((conv => whnf); first | (refine V.NIf.no ?_ ?_; · (omega; done)) | (refine V.NIf.yes ?_ ?_; · (omega; done)) | refine V.NCond.mk ?_ | refine V.NPick.l ?_ | refine V.NIf.not_ ?_ | refine V.NIf.dec_ ?_ | refine V.a4 ?_ | refine V.a5 ?_ | refine V.NIf.mk (fun _ => ?_) (fun _ => ?_) | refine V.a7 ?_ | refine V.a8 ?_ | refine V.a9 ?_ | refine V.NBoth.mk ?_ ?_ | refine V.b1 ?_ | refine V.b2 ?_ | refine V.NTF.dec ?_ | refine V.b3 ?_ | refine V.b4 ?_ | (refine NIdx.mk ⟨k, rfl, by omega, ?_⟩) | (refine V.NDraw.any (by kernel_rfl) ?_) | fail)
        all_goals (conv => whnf)
    · obtain rfl : k = a.length := by omega
      rw [decide_eq_true (eq_at hl hj)]
      repeat' ((conv => whnf); first | (refine V.NIf.no ?_ ?_; · (omega; done)) | (refine V.NIf.yes ?_ ?_; · (omega; done)) | refine V.NCond.mk ?_ | refine V.NPick.l ?_ | refine V.NIf.not_ ?_ | refine V.NIf.dec_ ?_ | refine V.a4 ?_ | refine V.a5 ?_ | refine V.NIf.mk (fun _ => ?_) (fun _ => ?_) | refine V.a7 ?_ | refine V.a8 ?_ | refine V.a9 ?_ | refine V.NBoth.mk ?_ ?_ | refine V.b1 ?_ | refine V.b2 ?_ | refine V.NTF.dec ?_ | refine V.b3 ?_ | refine V.b4 ?_ | (refine V.NDraw.any (by kernel_rfl) ?_) | fail)
      all_goals (conv => whnf)
  · rw [decide_eq_false (fun e => hl (by rw [e]))]
    refine V.Fn.mk_ V.Tok V.mixed Try.func29 rfl Try.ntmps29 (by kernel_rfl) rfl rfl ?_
    repeat' ((conv => whnf); first | (refine V.NIf.yes ?_ ?_; · (omega; done)) | (refine V.NIf.no ?_ ?_; · (omega; done)) | refine V.NCond.mk ?_ | refine V.NPick.l ?_ | refine V.NIf.not_ ?_ | refine V.NIf.dec_ ?_ | refine V.a4 ?_ | refine V.a5 ?_ | refine V.NIf.mk (fun _ => ?_) (fun _ => ?_) | refine V.a7 ?_ | refine V.a8 ?_ | refine V.a9 ?_ | refine V.NBoth.mk ?_ ?_ | refine V.b1 ?_ | refine V.b2 ?_ | refine V.NTF.dec ?_ | refine V.b3 ?_ | refine V.b4 ?_ | (refine V.NDraw.any (by kernel_rfl) ?_) | fail)
    all_goals (conv => whnf)
def Ta.off (t : List Nat) (k : Nat) : Nat := (Ta.cat ((Ta.get t).take k)).length
theorem Ta.off_s {t : List Nat} {k : Nat} (h : k < (Ta.get t).length) : Ta.off t (k + 1) = Ta.off t k + ((Ta.get t).getD k default).length + 6 := by
  unfold Ta.off
  rw [List.take_succ_eq_append_getElem h, Ta.cat_app, List.length_append, Ta.cat_one, Ta.rc_len, ← getD_at h]
  omega
theorem Ta.off_all (t : List Nat) : Ta.off t (Ta.get t).length = Ta.en t := by unfold Ta.off Ta.en; rw [List.take_length]
theorem Ta.off_spec (t : List Nat) {k : Nat} (h : k ≤ (Ta.get t).length) : Ta.off t k ≤ t.length ∧ Ta.nxt (t.drop (Ta.off t k)) = if k < (Ta.get t).length then some ((Ta.get t).getD k default) else none := by
  obtain ⟨r, h1, h2, h3⟩ := Ta.get_split t
  have e : t = Ta.cat ((Ta.get t).take k) ++ (Ta.cat ((Ta.get t).drop k) ++ r) := by
    rw [← List.append_assoc, ← Ta.cat_app, List.take_append_drop]; exact h1
  have ed : t.drop (Ta.off t k) = Ta.cat ((Ta.get t).drop k) ++ r := by
    have := congrArg (List.drop (Ta.off t k)) e
    rw [this]; exact List.drop_left' rfl
  refine ⟨?_, ?_⟩
  · have := congrArg List.length e
    rw [List.length_append] at this
    unfold Ta.off; omega
  · rw [ed]
    by_cases q : k < (Ta.get t).length
    · rw [if_pos q, List.drop_eq_getElem_cons q, ← getD_at q]
      show Ta.nxt ((Ta.rc _ ++ Ta.cat _) ++ r) = _
      rw [List.append_assoc, Ta.nxt_rc (h3 _ (getD_mem q))]
    · rw [if_neg q, List.drop_eq_nil_of_le (by omega)]
      exact h2
end Go.Proofs.Ytdplkcciknfnhaa

namespace Go.Proofs.Ytdplkcciknfnhaa
open Go Go.RowKit V
def Ta.gV (t : List Nat) : List (List Nat) := if 4000 < t.length then [] else Ta.get t
def Ta.gN (t : List Nat) : Int := if 4000 < t.length then 0 else (Ta.en t : Nat)
def Ta.gE (t : List Nat) : Int := if 4000 < t.length then 2 else 0
def xB (L : List (List Nat)) (k : Nat) : Option (Nat × (Nat → List Go.Value)) := some ((L.getD k default).length, ga ebn (L.getD k default))
theorem xB_put {L : List (List Nat)} {k : Nat} {b : List Nat} (h : L.getD k default = b) : putX (xB L) k (some (b.length, ga ebn b)) = xB L := by
  subst h
  funext j
  unfold putX
  split
  · rename_i q; subst q; rfl
  · rfl
theorem getLeaf {t : List Nat} {a : Nat} {vs : Nat → Go.Value} {obs : Obs} (oa : a = Ta.en t) (h : fnd obs 6 = some (.rws 22 5 1 (Ta.get t).length vs (xB (Ta.get t))) := by rfl) : NRetX 1 (.tup [.one (.ref 1), .one (.val (.int .i64 ((Ta.en t : Nat) : Int))), .one (.val (.int .i64 0))]) (fun vs : Nat → Go.Value => [.rws 22 5 1 (Ta.get t).length vs (xB (Ta.get t))]) (.tup [.one (.ref 6), .one (.val (.int .i64 (a : Int))), .one (.val (.int .i64 0))]) obs := by
  subst oa
  exact ⟨vs, NRet.mk_ [some 6] rfl ⟨rfl, rfl, rfl, trivial⟩ ⟨fndK_of h ⟨rfl, rfl, rfl, rfl, fun k hk => ⟨rfl, fun m g hx => ⟨g, hx, fun _ _ => rfl⟩⟩⟩, trivial⟩⟩
theorem V.NDraw.tailN {P : Program} {T : TT} {sz pin : Nat} {all : List Oper} {env : Env} {obs : Obs} {nx : Nat} {K : Env → Obs → Nat → Prop} (n m : Nat) (e : all.length = n) (c : (freeB (all.take m) && tailB all m) = true) (h : explK true false P T sz (all.take m) (all.take m).length [] env obs nx fun e o n => opsK P T sz false all (all.drop m) e o n K) : NDraw P T sz pin all env obs nx K := NDraw.tail m c h
set_option maxHeartbeats 4000000 in
theorem v_get (t : List Nat) (ht : Ta.By t) : V.FnX Try.prog 11 [.arr 1 t.length (ga ebn t)] [.one (.ref 0)] (.tup [.one (.ref 1), .one (.val (.int .i64 (Ta.gN t))), .one (.val (.int .i64 (Ta.gE t)))]) (fun vs : Nat → Go.Value => [.rws 22 5 1 (Ta.gV t).length vs (xB (Ta.gV t))]) := by
  by_cases h : 4000 < t.length
  · rw [show Ta.gV t = [] from if_pos h, show Ta.gN t = 0 from if_pos h, show Ta.gE t = 2 from if_pos h]
    refine V.FnX.mk_ V.Tok V.mixed Try.func11 rfl Try.ntmps11 (by kernel_rfl) rfl rfl (fun _ => rfl) (fun _ => rfl) ?_
    repeat' ((conv => whnf); first | (refine V.NIf.yes ?_ ?_; · (omega; done)) | (refine V.NIf.no ?_ ?_; · (omega; done)) | refine V.NCond.mk ?_ | refine V.NPick.l ?_ | refine V.NIf.not_ ?_ | refine V.NIf.dec_ ?_ | refine V.a4 ?_ | refine V.a5 ?_ | refine V.NIf.mk (fun _ => ?_) (fun _ => ?_) | refine V.a7 ?_ | refine V.a8 ?_ | refine V.a9 ?_ | refine V.NBoth.mk ?_ ?_ | refine V.b1 ?_ | refine V.b2 ?_ | refine V.NTF.dec ?_ | refine V.b3 ?_ | refine V.b4 ?_ | (refine V.NDraw.any (by kernel_rfl) ?_) | fail)
    all_goals (conv => whnf)
    all_goals exact ⟨fun _ => .slice none 0 0, NRet.mk_ [none] rfl ⟨⟨Nat.le_refl _, rfl⟩, rfl, rfl, trivial⟩ ⟨rfl, trivial⟩⟩
  · rw [show Ta.gV t = Ta.get t from if_neg h, show Ta.gN t = (Ta.en t : Nat) from if_neg h, show Ta.gE t = 0 from if_neg h]
    refine V.FnX.mk_ V.Tok V.mixed Try.func11 rfl Try.ntmps11 (by kernel_rfl) rfl rfl (fun _ => rfl) (fun _ => rfl) ?_
    repeat' ((conv => whnf); first | (refine V.NIf.yes ?_ ?_; · (omega; done)) | (refine V.NIf.no ?_ ?_; · (omega; done)) | refine V.NCond.mk ?_ | refine V.NPick.l ?_ | refine V.NIf.not_ ?_ | refine V.NIf.dec_ ?_ | refine V.a4 ?_ | refine V.a5 ?_ | refine V.NIf.mk (fun _ => ?_) (fun _ => ?_) | refine V.a7 ?_ | refine V.a8 ?_ | refine V.a9 ?_ | refine V.NBoth.mk ?_ ?_ | refine V.b1 ?_ | refine V.b2 ?_ | refine V.NTF.dec ?_ | refine V.b3 ?_ | refine V.b4 ?_ | (refine V.NCall.inl (f := 23) V.Tok V.mixed Try.func23 rfl Try.ntmps23 (by kernel_rfl) rfl ?_) | (refine V.NRange.inl V.Tok V.mixed Try.func28 rfl Try.ntmps28 (by kernel_rfl) [2, 3] [1] ?_; (conv => whnf); refine V.NIs.mk rfl ?_; (conv => whnf); intro L hL) | (refine V.NDraw.any (by kernel_rfl) ?_) | fail)
    all_goals (conv => whnf)
    refine V.NLoop.auto (fun (⟨k, vs⟩ : Nat × (Nat → Go.Value)) => [(3, .one (.val (.int .i64 ((Ta.off t k : Nat) : Int))))]) (fun (⟨k, vs⟩ : Nat × (Nat → Go.Value)) => [(6, .rws 22 5 1 k vs (xB (Ta.get t))), (2, .box 28 [.ref 6]), (3, .box 3 [.val (.int .i64 ((Ta.off t k : Nat) : Int))])]) [] [] (fun (⟨k, vs⟩ : Nat × (Nat → Go.Value)) => (Ta.get t).length - k) (fun (⟨k, vs⟩ : Nat × (Nat → Go.Value)) => k ≤ (Ta.get t).length) (0, fun _ => .slice none 0 0) (Nat.zero_le _) V.S_ (by (conv => whnf); exact ⟨⟨rfl, rfl, rfl, fun k hk => absurd hk (Nat.not_lt_zero _)⟩, rfl, rfl, trivial⟩) (fun _ => ⟨rfl, rfl⟩) ?_; (conv => whnf); refine ⟨⟨rfl, rfl⟩, ?_⟩
    rintro ⟨k, vs⟩ hk
    have hk : k ≤ (Ta.get t).length := hk
    dsimp only
    obtain ⟨o1, o2⟩ := Ta.off_spec t hk
    obtain ⟨T, hT⟩ : ∃ T, T = t.drop (Ta.off t k) := ⟨_, rfl⟩
    have lT : T.length = t.length - Ta.off t k := by rw [hT, List.length_drop]
    have aT : ∀ j, T.getD j default = t.getD (Ta.off t k + j) default := fun j => by rw [hT]; simp [List.getD]
    have bT : Ta.By T := fun x hx => ht x (by rw [hT] at hx; exact List.mem_of_mem_drop hx)
    rw [← hT] at o2
    by_cases hlt : k < (Ta.get t).length
    · rw [if_pos hlt] at o2
      unfold Ta.nxt at o2
      split at o2
      rotate_left
      · cases o2
      rename_i q
      obtain ⟨q1, q2, q3, q4⟩ := q
      injection o2 with o2
      rw [o2] at q4
      have os := Ta.off_s hlt
      have hh : Ta.hd T = 256 * t.getD (Ta.off t k + 0) default + t.getD (Ta.off t k + 1) default := by rw [← aT, ← aT]; rfl
      generalize Ta.off t k = at_ at *
      generalize Ta.hd T = n at *
      generalize hbb : (Ta.get t).getD k default = b at *
      have x1 : t.getD (at_ + 0) default < 256 := ht _ (getD_mem (by omega))
      have x2 : t.getD (at_ + 1) default < 256 := ht _ (getD_mem (by omega))
      rw [Nat.add_zero] at hh x1
      have hor : t.getD at_ default * 2 ^ 8 ||| t.getD (at_ + 1) default = n := by rw [or_byte x2]; omega
      have lb : b.length = n := by rw [← o2, List.length_take, List.length_drop]; omega
      have bb : Ta.By b := fun x hx => bT x (by rw [← o2] at hx; exact List.mem_of_mem_drop (List.mem_of_mem_take hx))
      have gB : ∀ j, j < n → ga ebn t (at_ + 2 + j) = ga ebn b j := fun j hj => by
        show ebn (t.getD (at_ + 2 + j) default) = ebn (b.getD j default)
        rw [← o2, show at_ + 2 + j = at_ + (2 + j) by omega, ← aT]
        simp [List.getD, List.getElem?_take, hj]
      have gE : ∀ j, j < n + 6 → ga ebn t (at_ + j) = ga ebn (Ta.rc b) j := fun j hj => by
        show ebn (t.getD (at_ + j) default) = ebn ((Ta.rc b).getD j default)
        rw [← q4, ← aT]
        simp [List.getD, List.getElem?_take, hj]
      have rl := Ta.rc_len b
      have c1 := v_frame b bb (by omega)
      have c2 := v_equalB (Ta.rc b) (Ta.rc b) (by omega)
      rw [decide_eq_true rfl] at c2
      have c3 := v_cloneB b (by omega)
      have long := Ta.cat_long (Ta.get t) (Ta.get_split t).choose_spec.2.2
      have en4 := Ta.en_le t
      have ene : Ta.en t = (Ta.cat (Ta.get t)).length := rfl
      have pe := xB_put hbb
      clear o2 q4 hh aT ht bT
      repeat' ((conv => whnf); first | (refine V.NIf.yes ?_ ?_; · (decide; done)) | (refine V.NIf.no ?_ ?_; · (decide; done)) | (refine V.NIf.yes ?_ ?_; · (omega; done)) | (refine V.NIf.no ?_ ?_; · (omega; done)) | refine V.NCond.mk ?_ | refine V.NPick.l ?_ | refine V.NIf.not_ ?_ | refine V.NIf.dec_ ?_ | refine V.a4 ?_ | refine V.a5 ?_ | refine V.NIf.mk (fun _ => ?_) (fun _ => ?_) | refine V.a7 ?_ | refine V.a8 ?_ | refine V.a9 ?_ | refine V.NBoth.mk ?_ ?_ | refine V.b1 ?_ | refine V.b2 ?_ | refine V.NTF.dec ?_ | refine V.b3 ?_ | refine V.b4 ?_ | (refine NIdx.mk ⟨at_, rfl, by omega, ?_⟩) | (refine NIdx.mk ⟨at_ + 1, by omega, by omega, ?_⟩) | (refine NShl.nat (t.getD at_ default) 8 rfl rfl (by decide) (by omega) ?_) | (refine NBit.orI (t.getD at_ default * 2 ^ 8) (t.getD (at_ + 1) default) rfl rfl (by omega) (by omega) ?_; rw [hor]) | (refine NDraw.tailN 39 36 (by exact rfl) (by kernel_rfl) ?_; dsimp only [List.take, List.drop]) | (refine NCut.mk ⟨at_, at_ + n + 6, rfl, by (dsimp only [hiIs]; omega), by omega, by omega, ?_⟩) | (refine NCut.mk ⟨at_ + 2, at_ + 2 + n, by (dsimp only [loIs]; omega), by (dsimp only [hiIs]; omega), by omega, by omega, ?_⟩) | ((first | refine V.FnR.k_ (c1) [7] rfl ?_ ?_ | refine V.FnR.a_ (c1) [7] rfl ?_ ?_); · exact (show _ from ⟨⟨rfl, (by omega), fun k hk => gB k (by omega)⟩, trivial⟩)) | ((first | refine V.FnR.k_ (c1) [8] rfl ?_ ?_ | refine V.FnR.a_ (c1) [8] rfl ?_ ?_); · exact (show _ from ⟨⟨rfl, (by omega), fun k hk => gB k (by omega)⟩, trivial⟩)) | ((first | refine V.Fn.k (c2) [7, 9] rfl ?_ ?_ | refine V.Fn.q (c2) [7, 9] rfl ?_ ?_ | refine V.Fn.a (c2) [7, 9] rfl ?_ ?_); · exact (show _ from ⟨⟨rfl, (by omega), fun k hk => gE k (by omega)⟩, ⟨rfl, rfl, fun k hk => rfl⟩, trivial⟩)) | ((first | refine V.Fn.k (c2) [8, 9] rfl ?_ ?_ | refine V.Fn.q (c2) [8, 9] rfl ?_ ?_ | refine V.Fn.a (c2) [8, 9] rfl ?_ ?_); · exact (show _ from ⟨⟨rfl, (by omega), fun k hk => gE k (by omega)⟩, ⟨rfl, rfl, fun k hk => rfl⟩, trivial⟩)) | ((first | refine V.Fn.k (c2) [9, 8] rfl ?_ ?_ | refine V.Fn.q (c2) [9, 8] rfl ?_ ?_ | refine V.Fn.a (c2) [9, 8] rfl ?_ ?_); · exact (show _ from ⟨⟨rfl, (by omega), fun k hk => gE k (by omega)⟩, ⟨rfl, rfl, fun k hk => rfl⟩, trivial⟩)) | (refine V.NYield.mk_ V.Tok V.mixed hL rfl rfl ?_) | ((first | refine V.FnR.k_ (c3) [10] rfl ?_ ?_ | refine V.FnR.a_ (c3) [10] rfl ?_ ?_); · exact (show _ from ⟨⟨rfl, (by omega), fun k hk => gB k (by omega)⟩, trivial⟩)) | (refine NGrow.mk (by omega) (by show (k + 1) * 24 ≤ _; omega) ?_) | (refine NAny.mk ?_; intro v) | (refine V.NDraw.any (by kernel_rfl) ?_) | fail)
      all_goals (conv => whnf)
      all_goals
        refine V.NBack.at_ (k + 1, putX vs k v) [(6, 13)] ?_ ?_ ?_ rfl ?_ V.S_ V.S_
        · show k + 1 ≤ _; omega
        · show (Ta.get t).length - (k + 1) < (Ta.get t).length - k; omega
        · exact ⟨congrArg (fun z : Int => V.SV.one (V.At.val (Value.int .i64 z))) (by show _ = ((Ta.off t (k + 1) : Nat) : Int); omega), trivial⟩
        · exact ⟨⟨rfl, rfl, rfl, rfl, fun j hj => ⟨rfl, fun m g' hx => ⟨g', by rw [pe]; exact hx, fun _ _ => rfl⟩⟩⟩, rfl, congrArg (fun z : Int => Ob.box 3 [.val (.int .i64 z)]) (by show _ = ((Ta.off t (k + 1) : Nat) : Int); omega), trivial⟩
    · obtain rfl : k = (Ta.get t).length := by omega
      rw [if_neg (Nat.lt_irrefl _)] at o2
      have oa := Ta.off_all t
      by_cases q1 : 2 ≤ T.length
      · have x1 : t.getD (Ta.off t (Ta.get t).length + 0) default < 256 := ht _ (getD_mem (by omega))
        have x2 : t.getD (Ta.off t (Ta.get t).length + 1) default < 256 := ht _ (getD_mem (by omega))
        have hh : Ta.hd T = 256 * t.getD (Ta.off t (Ta.get t).length + 0) default + t.getD (Ta.off t (Ta.get t).length + 1) default := by rw [← aT, ← aT]; rfl
        obtain ⟨b, hb⟩ : ∃ b, b = (T.drop 2).take (Ta.hd T) := ⟨_, rfl⟩
        obtain ⟨E, hE⟩ : ∃ E, E = T.take (Ta.hd T + 6) := ⟨_, rfl⟩
        have no : Ta.hd T ≠ 0 → Ta.hd T + 6 ≤ T.length → E ≠ Ta.rc b := fun z1 z2 z3 => by
          unfold Ta.nxt at o2
          rw [if_pos ⟨q1, z1, z2, by rw [← hE, ← hb]; exact z3⟩] at o2
          cases o2
        rw [Nat.add_zero] at hh x1
        generalize Ta.off t (Ta.get t).length = at_ at *
        generalize Ta.hd T = n at *
        have hor : t.getD at_ default * 2 ^ 8 ||| t.getD (at_ + 1) default = n := by rw [or_byte x2]; omega
        have nb : n < 65536 := by omega
        by_cases z : n ≠ 0 ∧ n + 6 ≤ T.length
        · have no := no z.1 z.2
          have lb : b.length = n := by rw [hb, List.length_take, List.length_drop]; omega
          have lE : E.length = n + 6 := by rw [hE, List.length_take]; omega
          have bb : Ta.By b := fun x hx => bT x (by rw [hb] at hx; exact List.mem_of_mem_drop (List.mem_of_mem_take hx))
          have gB : ∀ j, j < n → ga ebn t (at_ + 2 + j) = ga ebn b j := fun j hj => by
            show ebn (t.getD (at_ + 2 + j) default) = ebn (b.getD j default)
            rw [hb, show at_ + 2 + j = at_ + (2 + j) by omega, ← aT]
            simp [List.getD, List.getElem?_take, hj]
          have gE : ∀ j, j < n + 6 → ga ebn t (at_ + j) = ga ebn E j := fun j hj => by
            show ebn (t.getD (at_ + j) default) = ebn (E.getD j default)
            rw [hE, ← aT]
            simp [List.getD, List.getElem?_take, hj]
          have c1 := v_frame b bb (by omega)
          have c2 := v_equalB E (Ta.rc b) (by omega)
          rw [decide_eq_false no] at c2
          have rl := Ta.rc_len b
          clear hb hE hh aT ht bT o2 no
          repeat' ((conv => whnf); first | (refine V.NIf.yes ?_ ?_; · (decide; done)) | (refine V.NIf.no ?_ ?_; · (decide; done)) | (refine V.NIf.yes ?_ ?_; · (omega; done)) | (refine V.NIf.no ?_ ?_; · (omega; done)) | refine V.NCond.mk ?_ | refine V.NPick.l ?_ | refine V.NIf.not_ ?_ | refine V.NIf.dec_ ?_ | refine V.a4 ?_ | refine V.a5 ?_ | refine V.NIf.mk (fun _ => ?_) (fun _ => ?_) | refine V.a7 ?_ | refine V.a8 ?_ | refine V.a9 ?_ | refine V.NBoth.mk ?_ ?_ | refine V.b1 ?_ | refine V.b2 ?_ | refine V.NTF.dec ?_ | refine V.b3 ?_ | refine V.b4 ?_ | (refine NIdx.mk ⟨at_, rfl, by omega, ?_⟩) | (refine NIdx.mk ⟨at_ + 1, by omega, by omega, ?_⟩) | (refine NShl.nat (t.getD at_ default) 8 rfl rfl (by decide) (by omega) ?_) | (refine NBit.orI (t.getD at_ default * 2 ^ 8) (t.getD (at_ + 1) default) rfl rfl (by omega) (by omega) ?_; rw [hor]) | (refine NDraw.tailN 39 36 (by exact rfl) (by kernel_rfl) ?_; dsimp only [List.take, List.drop]) | (refine NCut.mk ⟨at_, at_ + n + 6, rfl, by (dsimp only [hiIs]; omega), by omega, by omega, ?_⟩) | (refine NCut.mk ⟨at_ + 2, at_ + 2 + n, by (dsimp only [loIs]; omega), by (dsimp only [hiIs]; omega), by omega, by omega, ?_⟩) | ((first | refine V.FnR.k_ (c1) [7] rfl ?_ ?_ | refine V.FnR.a_ (c1) [7] rfl ?_ ?_); · exact (show _ from ⟨⟨rfl, (by omega), fun k hk => gB k (by omega)⟩, trivial⟩)) | ((first | refine V.FnR.k_ (c1) [8] rfl ?_ ?_ | refine V.FnR.a_ (c1) [8] rfl ?_ ?_); · exact (show _ from ⟨⟨rfl, (by omega), fun k hk => gB k (by omega)⟩, trivial⟩)) | ((first | refine V.Fn.k (c2) [7, 9] rfl ?_ ?_ | refine V.Fn.q (c2) [7, 9] rfl ?_ ?_ | refine V.Fn.a (c2) [7, 9] rfl ?_ ?_); · exact (show _ from ⟨⟨rfl, (by omega), fun k hk => gE k (by omega)⟩, ⟨rfl, rfl, fun k hk => rfl⟩, trivial⟩)) | ((first | refine V.Fn.k (c2) [8, 9] rfl ?_ ?_ | refine V.Fn.q (c2) [8, 9] rfl ?_ ?_ | refine V.Fn.a (c2) [8, 9] rfl ?_ ?_); · exact (show _ from ⟨⟨rfl, (by omega), fun k hk => gE k (by omega)⟩, ⟨rfl, rfl, fun k hk => rfl⟩, trivial⟩)) | ((first | refine V.Fn.k (c2) [9, 8] rfl ?_ ?_ | refine V.Fn.q (c2) [9, 8] rfl ?_ ?_ | refine V.Fn.a (c2) [9, 8] rfl ?_ ?_); · exact (show _ from ⟨⟨rfl, (by omega), fun k hk => gE k (by omega)⟩, ⟨rfl, rfl, fun k hk => rfl⟩, trivial⟩)) | (refine V.NDraw.any (by kernel_rfl) ?_) | fail)
          all_goals (conv => whnf)
          all_goals exact getLeaf oa
        · clear no hb hE hh aT ht bT o2
          repeat' ((conv => whnf); first | (refine V.NIf.yes ?_ ?_; · (decide; done)) | (refine V.NIf.no ?_ ?_; · (decide; done)) | (refine V.NIf.yes ?_ ?_; · (omega; done)) | (refine V.NIf.no ?_ ?_; · (omega; done)) | refine V.NCond.mk ?_ | refine V.NPick.l ?_ | refine V.NIf.not_ ?_ | refine V.NIf.dec_ ?_ | refine V.a4 ?_ | refine V.a5 ?_ | refine V.NIf.mk (fun _ => ?_) (fun _ => ?_) | refine V.a7 ?_ | refine V.a8 ?_ | refine V.a9 ?_ | refine V.NBoth.mk ?_ ?_ | refine V.b1 ?_ | refine V.b2 ?_ | refine V.NTF.dec ?_ | refine V.b3 ?_ | refine V.b4 ?_ | (refine NIdx.mk ⟨at_, rfl, by omega, ?_⟩) | (refine NIdx.mk ⟨at_ + 1, by omega, by omega, ?_⟩) | (refine NShl.nat (t.getD at_ default) 8 rfl rfl (by decide) (by omega) ?_) | (refine NBit.orI (t.getD at_ default * 2 ^ 8) (t.getD (at_ + 1) default) rfl rfl (by omega) (by omega) ?_; rw [hor]) | (refine NDraw.tailN 39 36 (by exact rfl) (by kernel_rfl) ?_; dsimp only [List.take, List.drop]) | (refine V.NDraw.any (by kernel_rfl) ?_) | fail)
          all_goals (conv => whnf)
          all_goals exact getLeaf oa
      · generalize Ta.off t (Ta.get t).length = at_ at *
        repeat' ((conv => whnf); first | (refine V.NIf.yes ?_ ?_; · (decide; done)) | (refine V.NIf.no ?_ ?_; · (decide; done)) | (refine V.NIf.yes ?_ ?_; · (omega; done)) | (refine V.NIf.no ?_ ?_; · (omega; done)) | refine V.NCond.mk ?_ | refine V.NPick.l ?_ | refine V.NIf.not_ ?_ | refine V.NIf.dec_ ?_ | refine V.a4 ?_ | refine V.a5 ?_ | refine V.NIf.mk (fun _ => ?_) (fun _ => ?_) | refine V.a7 ?_ | refine V.a8 ?_ | refine V.a9 ?_ | refine V.NBoth.mk ?_ ?_ | refine V.b1 ?_ | refine V.b2 ?_ | refine V.NTF.dec ?_ | refine V.b3 ?_ | refine V.b4 ?_ | (refine V.NDraw.any (by kernel_rfl) ?_) | fail)
        all_goals (conv => whnf)
        all_goals exact getLeaf oa
end Go.Proofs.Ytdplkcciknfnhaa

namespace Go.Proofs.Ytdplkcciknfnhaa
open Go Go.RowKit V
def Ta.nums (l : List Nat) : List Int := l.map Int.ofNat
theorem Ta.nums_at {l : List Nat} {k : Nat} (h : k < l.length) : ga ebn l k = [.int .u8 ((Ta.nums l).getD k 0)] := by
  show ebn (l.getD k default) = _
  unfold Ta.nums ebn
  simp [List.getD, List.getElem?_map, h]
theorem Ta.str_inj {a b : List Nat} (ha : Ta.By a) (hb : Ta.By b) : (strOfNums (Ta.nums a)).toList = (strOfNums (Ta.nums b)).toList ↔ a = b := by
  rw [Lib.strOfNums_toList, Lib.strOfNums_toList]
  constructor
  · intro h
    have key : ∀ {a b : List Nat}, Ta.By a → Ta.By b → (Ta.nums a).map (fun n => UInt8.ofNat n.toNat) = (Ta.nums b).map (fun n => UInt8.ofNat n.toNat) → a = b := fun {a} => by
      induction a with
      | nil =>
        intro b _ _ h
        cases b with
        | nil => rfl
        | cons y s => simp [Ta.nums] at h
      | cons x r ih =>
        intro b ha hb h
        cases b with
        | nil => simp [Ta.nums] at h
        | cons y s =>
          simp only [Ta.nums, List.map_cons, List.cons.injEq] at h
          have e := ih (fun z hz => ha z (List.mem_cons_of_mem _ hz)) (fun z hz => hb z (List.mem_cons_of_mem _ hz)) h.2
          have hx := ha x (by simp)
          have hy := hb y (by simp)
          have h1 := congrArg UInt8.toNat h.1
          simp only [Int.ofNat_eq_natCast, Int.toNat_natCast, UInt8.toNat_ofNat'] at h1
          rw [e]
          congr 1
          omega
    exact key ha hb h
  · rintro rfl; rfl
theorem v_samebytes (a b : List Nat) (ha : Ta.By a) (hb : Ta.By b) : V.Fn Try.prog 17 [.arr 1 a.length (ga ebn a), .arr 1 b.length (ga ebn b)] [.one (.ref 0), .one (.ref 1)] (.bool (decide (a = b))) := by
  have i := Ta.str_inj ha hb
  refine V.Fn.mk_ V.Tok V.mixed Try.func17 rfl Try.ntmps17 (by kernel_rfl) rfl rfl ?_
  repeat' ((conv => whnf); first | refine V.NCond.mk ?_ | refine V.NPick.l ?_ | refine V.NIf.not_ ?_ | refine V.NIf.dec_ ?_ | refine V.a4 ?_ | refine V.a5 ?_ | refine V.NIf.mk (fun _ => ?_) (fun _ => ?_) | refine V.a7 ?_ | refine V.a8 ?_ | refine V.a9 ?_ | refine V.NBoth.mk ?_ ?_ | refine V.b1 ?_ | refine V.b2 ?_ | refine V.NTF.dec ?_ | refine V.b3 ?_ | refine V.b4 ?_ | (refine NStr.mk ⟨Ta.nums a, by simp [Ta.nums], fun k hk => Ta.nums_at hk, ?_⟩) | (refine NStr.mk ⟨Ta.nums b, by simp [Ta.nums], fun k hk => Ta.nums_at hk, ?_⟩) | (refine V.NDraw.any (by kernel_rfl) ?_) | fail)
  all_goals (conv => whnf)
  all_goals exact ⟨decide (a = b), rfl, i.trans decide_eq_true_iff.symm⟩
def Ta.toE (t : List Nat) (keep : Int) : Int := if 4000 < t.length then 2 else if keep < 0 ∨ (t.length : Int) < keep then 3 else 0
def Ta.toV (t : List Nat) (keep : Int) : List Nat := if Ta.toE t keep = 0 then t.take keep.toNat else []
theorem Ta.to_ok {t : List Nat} {keep : Int} (h : Ta.toE t keep = 0) : t.length ≤ 4000 ∧ 0 ≤ keep ∧ keep ≤ t.length ∧ Ta.toV t keep = t.take keep.toNat := by
  have e : Ta.toV t keep = t.take keep.toNat := if_pos h
  unfold Ta.toE at h
  split at h
  · cases h
  · split at h
    · cases h
    · exact ⟨by omega, by omega, by omega, e⟩
theorem v_torn (t : List Nat) (keep : Int) (hl : t.length ≤ 9223372036854775807) : V.FnR Try.prog 12 [.arr 1 t.length (ga ebn t)] [.one (.ref 0), .one (.val (.int .i64 keep))] (.tup [.one (.ref 1), .one (.val (.int .i64 (Ta.toE t keep)))]) [.row 5 1 (Ta.toV t keep).length (ga ebn (Ta.toV t keep))] := by
  by_cases h1 : 4000 < t.length
  · have q : Ta.toE t keep = 2 := if_pos h1
    rw [show Ta.toV t keep = [] from if_neg (by omega), q]
    refine V.FnR.mk_ V.Tok V.mixed Try.func12 rfl Try.ntmps12 (by kernel_rfl) rfl rfl rfl rfl ?_
    repeat' ((conv => whnf); first | (refine V.NIf.yes ?_ ?_; · (omega; done)) | (refine V.NIf.no ?_ ?_; · (omega; done)) | refine V.NCond.mk ?_ | refine V.NPick.l ?_ | refine V.NIf.not_ ?_ | refine V.NIf.dec_ ?_ | refine V.a4 ?_ | refine V.a5 ?_ | refine V.NIf.mk (fun _ => ?_) (fun _ => ?_) | refine V.a7 ?_ | refine V.a8 ?_ | refine V.a9 ?_ | refine V.NBoth.mk ?_ ?_ | refine V.b1 ?_ | refine V.b2 ?_ | refine V.NTF.dec ?_ | refine V.b3 ?_ | refine V.b4 ?_ | (refine V.NDraw.any (by kernel_rfl) ?_) | fail)
    all_goals (conv => whnf)
    all_goals exact V.er 2
  by_cases h2 : keep < 0 ∨ (t.length : Int) < keep
  · have q : Ta.toE t keep = 3 := (if_neg h1).trans (if_pos h2)
    rw [show Ta.toV t keep = [] from if_neg (by omega), q]
    refine V.FnR.mk_ V.Tok V.mixed Try.func12 rfl Try.ntmps12 (by kernel_rfl) rfl rfl rfl rfl ?_
    repeat' ((conv => whnf); first | (refine V.NIf.yes ?_ ?_; · (omega; done)) | (refine V.NIf.no ?_ ?_; · (omega; done)) | refine V.NCond.mk ?_ | refine V.NPick.l ?_ | refine V.NIf.not_ ?_ | refine V.NIf.dec_ ?_ | refine V.a4 ?_ | refine V.a5 ?_ | refine V.NIf.mk (fun _ => ?_) (fun _ => ?_) | refine V.a7 ?_ | refine V.a8 ?_ | refine V.a9 ?_ | refine V.NBoth.mk ?_ ?_ | refine V.b1 ?_ | refine V.b2 ?_ | refine V.NTF.dec ?_ | refine V.b3 ?_ | refine V.b4 ?_ | (refine V.NDraw.any (by kernel_rfl) ?_) | fail)
    all_goals (conv => whnf)
    all_goals exact V.er 2
  have q : Ta.toE t keep = 0 := (if_neg h1).trans (if_neg h2)
  rw [(Ta.to_ok q).2.2.2, q]
  obtain ⟨k, rfl⟩ : ∃ k : Nat, keep = k := ⟨keep.toNat, by omega⟩
  rw [Int.toNat_natCast]
  have lt : (t.take k).length = k := by rw [List.length_take]; omega
  have c1 := v_cloneB (t.take k) (by omega)
  have g1 : ∀ j, j < k → ga ebn t (0 + j) = ga ebn (t.take k) j := fun j hj => by rw [Nat.zero_add]; exact (V.ga_take hj (by omega)).symm
  generalize t.take k = c at *
  refine V.FnR.mk_ V.Tok V.mixed Try.func12 rfl Try.ntmps12 (by kernel_rfl) rfl rfl rfl rfl ?_
  repeat' ((conv => whnf); first | (refine V.NIf.yes ?_ ?_; · (omega; done)) | (refine V.NIf.no ?_ ?_; · (omega; done)) | refine V.NCond.mk ?_ | refine V.NPick.l ?_ | refine V.NIf.not_ ?_ | refine V.NIf.dec_ ?_ | refine V.a4 ?_ | refine V.a5 ?_ | refine V.NIf.mk (fun _ => ?_) (fun _ => ?_) | refine V.a7 ?_ | refine V.a8 ?_ | refine V.a9 ?_ | refine V.NBoth.mk ?_ ?_ | refine V.b1 ?_ | refine V.b2 ?_ | refine V.NTF.dec ?_ | refine V.b3 ?_ | refine V.b4 ?_ | (refine NCut.mk ⟨0, k, rfl, rfl, by omega, by omega, ?_⟩) | ((first | refine V.FnR.k_ (c1) [2] rfl ?_ ?_ | refine V.FnR.a_ (c1) [2] rfl ?_ ?_); · exact (show _ from ⟨⟨rfl, (by omega), fun j hj => g1 j (by omega)⟩, trivial⟩)) | ((first | refine V.FnR.k_ (c1) [3] rfl ?_ ?_ | refine V.FnR.a_ (c1) [3] rfl ?_ ?_); · exact (show _ from ⟨⟨rfl, (by omega), fun j hj => g1 j (by omega)⟩, trivial⟩)) | (refine V.NDraw.any (by kernel_rfl) ?_) | fail)
  all_goals (conv => whnf)
  all_goals exact V.erf 3
end Go.Proofs.Ytdplkcciknfnhaa

namespace Go.Proofs.Ytdplkcciknfnhaa.V
open Go Go.RowKit
variable [Dr]
set_option linter.unusedSectionVars false
theorem ArrB.foot {B : Nat} {w : World} {v : Value} {s n b nx : Nat} {get : Nat → List Value} {ρ : Rho} (h : ArrB B w v s n get) (hf : foot (upd ρ nx v) nx (.arr s n get) = some b) : b < B := by
  obtain ⟨A, c, rfl, _, _, hh⟩ := h
  cases n with
  | zero => simp [V.foot] at hf
  | succ n =>
    obtain ⟨a, rfl, hlt, _⟩ := hh 0 (by omega)
    simp only [V.foot, base_sl (upd_same _ _ _), Option.map_some] at hf
    injection hf with hf; subst hf; exact hlt
theorem Redo.refl (sz : Nat) (env : Env) (obs : Obs) (nx : Nat) : Redo sz env obs nx env obs nx := ⟨fun _ ρ _ _ h1 h2 => ⟨ρ, fun _ _ h => h, h1, h2⟩⟩
theorem Redo.out {sz : Nat} {env env' : Env} {obs obs' : Obs} {nx nx' : Nat} (i k : Nat) {t e s n m : Nat} {vs : Nat → Value} {xs : Nat → Option (Nat × (Nat → List Value))} {g : Nat → List Value} (ho : fnd obs i = some (.rws t e s n vs xs)) (hk : k < n) (hx : xs k = some (m, g))
    (h : Redo sz env ((nx, .rov (vs k) e s m g) :: (i, .rws t e s n vs (putX xs k none)) :: obs) (nx + 1) env' obs' nx') : Redo sz env obs nx env' obs' nx' :=
  ⟨fun B ρ w a hE hC => by
    obtain ⟨c, _⟩ := hC.out ho hk hx (.inl rfl)
    have hX : Ext ρ (upd ρ nx (vs k)) := ext_upd (hC.new nx (Nat.le_refl _))
    obtain ⟨ρ', h1, h2, h3⟩ := h.h B _ w a (hE.ext hX) c
    exact ⟨ρ', fun i y q => h1 i y (hX i y q), h2, h3⟩⟩
end Go.Proofs.Ytdplkcciknfnhaa.V

namespace Go.Proofs.Ytdplkcciknfnhaa
open Go Go.RowKit V
end Go.Proofs.Ytdplkcciknfnhaa

namespace Go.Proofs.Ytdplkcciknfnhaa
open Go Go.RowKit V
end Go.Proofs.Ytdplkcciknfnhaa

namespace Go.Proofs.Ytdplkcciknfnhaa
open Go Go.RowKit V
end Go.Proofs.Ytdplkcciknfnhaa

namespace Go.Proofs.Ytdplkcciknfnhaa
open Go Go.RowKit V
instance (l : List Nat) : Decidable (Ta.By l) := by unfold Ta.By; infer_instance
theorem Ta.lg {l : List Nat} {ll : List (List Value)} (h : ll = l.map ebn) {k : Nat} (hk : k < l.length) : listG ll k = ga ebn l k := by
  subst h
  simp [listG, ga, hk]
def Ta.b9 : List Nat := [49, 50, 51, 52, 53, 54, 55, 56, 57]
theorem Ta.s9 : Ta.sm Ta.b9 = 3421780262 := by decide
theorem Ta.t7 : Ta.pE [] [7] = 0 ∧ Ta.pV [] [7] = Ta.rc [7] := ⟨rfl, rfl⟩
def Ta.T7 : List Nat := Ta.rc [7] ++ [0, 1, 7, 0]
theorem Ta.g7 : Ta.gV Ta.T7 = [[7]] ∧ Ta.gN Ta.T7 = 7 ∧ Ta.gE Ta.T7 = 0 := by
  have n : Ta.nxt [0, 1, 7, 0] = none := by decide
  have := Ta.get_is (L := [[7]]) (r := [0, 1, 7, 0]) (fun b hb => by rw [List.mem_singleton.1 hb]; simp) n
  rw [Ta.cat_one] at this
  have l : ¬ 4000 < Ta.T7.length := by decide
  exact ⟨(if_neg l).trans this.1, (if_neg l).trans (by rw [show Ta.en Ta.T7 = 7 from this.2.trans (Ta.rc_len [7])]; rfl), if_neg l⟩
set_option maxHeartbeats 2000000 in
theorem v_tapeBegun : V.Fn Try.prog 16 [] [] (.bool true) := by
  have c1 := v_Sum Ta.b9 (by decide) (by decide)
  rw [show Ta.suV Ta.b9 = 3421780262 by unfold Ta.suV; rw [if_neg (by decide), Ta.s9]; rfl, show Ta.suE Ta.b9 = 0 from rfl] at c1
  have c2 := v_put [] [7] (by decide) (by decide) (by decide) (by decide)
  rw [Ta.t7.1, Ta.t7.2] at c2
  obtain ⟨R, hR⟩ : ∃ R, R = Ta.rc [7] := ⟨_, rfl⟩
  have lR : R.length = 7 := by rw [hR]; exact Ta.rc_len [7]
  have c3 := v_get Ta.T7 (by unfold Ta.T7; decide)
  rw [Ta.g7.1, Ta.g7.2.1, Ta.g7.2.2] at c3
  have lT : Ta.T7.length = 11 := by decide
  have eT : Ta.T7 = R ++ [0, 1, 7, 0] := by rw [hR]; rfl
  have c4 := v_torn R 3 (by omega)
  have e4 : Ta.toE R 3 = 0 ∧ Ta.toV R 3 = [0, 1, 7] := by rw [hR]; decide
  rw [e4.1, e4.2] at c4
  have c5 := v_put [] [] (by decide) (by decide) (by decide) (by decide)
  rw [show Ta.pE [] [] = 3 from rfl, show Ta.pV [] [] = [] from rfl] at c5
  have c6 := v_samebytes [7] [7] (by decide) (by decide)
  have c7 := v_samebytes [0, 1, 7] [0, 1, 7] (by decide) (by decide)
  rw [decide_eq_true rfl] at c6 c7
  rw [← hR] at c2
  rw [eT] at c3
  have lT2 : (R ++ [0, 1, 7, 0]).length = 11 := by rw [List.length_append, lR]; rfl
  have apT : ∀ k, k < 4 → ga ebn (R ++ [0, 1, 7, 0]) (R.length + k) = listG [[Value.int .u8 0], [Value.int .u8 1], [Value.int .u8 7], [Value.int .u8 0]] k := fun k hk => (ga_right (r := [0, 1, 7, 0]) rfl hk).trans (Ta.lg (l := [0, 1, 7, 0]) rfl hk).symm
  clear e4 hR eT lT
  refine V.Fn.mk_ V.Tok V.mixed Try.func16 rfl Try.ntmps16 (by kernel_rfl) rfl rfl ?_
  repeat' ((conv => whnf); first | (refine V.NIf.no ?_ ?_; · (exact fun h => h rfl; done)) | (refine V.NIf.yes ?_ ?_; · (decide; done)) | (refine V.NIf.no ?_ ?_; · (decide; done)) | (refine V.NIf.yes ?_ ?_; · (omega; done)) | (refine V.NIf.no ?_ ?_; · (omega; done)) | refine V.NCond.mk ?_ | refine V.NPick.l ?_ | refine V.NIf.not_ ?_ | refine V.NIf.dec_ ?_ | refine V.a4 ?_ | refine V.a5 ?_ | refine V.NIf.mk (fun _ => ?_) (fun _ => ?_) | refine V.a7 ?_ | refine V.a8 ?_ | refine V.a9 ?_ | refine V.NBoth.mk ?_ ?_ | refine V.b1 ?_ | refine V.b2 ?_ | refine V.NTF.dec ?_ | refine V.b3 ?_ | refine V.b4 ?_ | ((first | refine V.Fn.k (c1) [0] rfl ?_ ?_ | refine V.Fn.q (c1) [0] rfl ?_ ?_ | refine V.Fn.a (c1) [0] rfl ?_ ?_); · exact ⟨⟨rfl, rfl, fun k hk => Ta.lg (l := Ta.b9) rfl hk⟩, trivial⟩) | (refine NCall.nil_ 0 1 rfl ?_) | (refine NCall.nil_ 1 1 rfl ?_) | ((first | refine V.FnR.k_ (c2) [2, 1] rfl ?_ ?_ | refine V.FnR.a_ (c2) [2, 1] rfl ?_ ?_); · exact ⟨⟨rfl, rfl, fun k hk => absurd hk (Nat.not_lt_zero _)⟩, ⟨rfl, rfl, V.D_⟩, trivial⟩) | (refine NOne.mk ?_ ?_; · (intro k hk; rfl)) | (refine V.NApp.to_ (en := ebn) R (by show 0 + R.length = _; omega) (by omega) (by show R.length * 1 ≤ _; omega) (fun k hk => absurd hk (Nat.not_lt_zero _)) (fun k hk => by rw [Nat.zero_add]) ?_) | (refine V.NApp.to_ (en := ebn) (R ++ [0, 1, 7, 0]) (by show R.length + 4 = _; omega) (by omega) (by show (R ++ [0, 1, 7, 0]).length * 1 ≤ _; omega) (fun k hk => ga_left hk) (fun k hk => apT k hk) ?_) | ((first | refine V.FnX.k_ (c3) [7] rfl ?_ ?_ | refine V.FnX.a_ (c3) [7] rfl ?_ ?_); (· exact V.D_); intro vs) | ((first | refine V.FnR.k_ (c4) [3] rfl ?_ ?_ | refine V.FnR.a_ (c4) [3] rfl ?_ ?_); · exact V.D_) | ((first | refine V.FnR.k_ (c5) [10, 11] rfl ?_ ?_ | refine V.FnR.a_ (c5) [10, 11] rfl ?_ ?_); · exact V.D_) | (refine V.NCall.inl (f := 18) V.Tok V.mixed Try.func18 rfl Try.ntmps18 (by kernel_rfl) rfl ?_) | (refine V.NDraw.any (by kernel_rfl) ?_) | fail)
  all_goals (conv => whnf)
  refine V.NLoop.auto (fun (k : Nat) => [(5, .one (.val (.int .i64 k))), (0, .one (.ref 8))]) (fun (k : Nat) => [(8, .rws 22 5 1 1 vs (if k = 0 then xB [ [7] ] else fun _ => none))]) [] [] (fun (k : Nat) => 1 - k) (fun (k : Nat) => k ≤ 1) 0 (Nat.zero_le _) V.S_ (by (conv => whnf); exact ⟨⟨rfl, rfl, rfl, rfl, fun k hk => ⟨rfl, fun m g hx => ⟨g, hx, fun _ _ => rfl⟩⟩⟩, trivial⟩) (fun _ => ⟨rfl, rfl⟩) ?_; (conv => whnf); refine ⟨⟨rfl, rfl⟩, ?_⟩
  rintro k hk
  have hk : k ≤ 1 := hk
  have hk2 : k = 0 ∨ k = 1 := by omega
  clear hk
  rcases hk2 with rfl | rfl
  · rw [if_pos rfl]
    repeat' ((conv => whnf); first | (refine V.NIf.yes ?_ ?_; · (decide; done)) | (refine V.NIf.no ?_ ?_; · (decide; done)) | (refine NDraw.preR (by kernel_rfl) (Redo.out 8 0 rfl (by decide) rfl (Redo.refl _ _ _ _)) ?_) | refine V.NCond.mk ?_ | refine V.NPick.l ?_ | refine V.NIf.not_ ?_ | refine V.NIf.dec_ ?_ | refine V.a4 ?_ | refine V.a5 ?_ | refine V.NIf.mk (fun _ => ?_) (fun _ => ?_) | refine V.a7 ?_ | refine V.a8 ?_ | refine V.a9 ?_ | refine V.NBoth.mk ?_ ?_ | refine V.b1 ?_ | refine V.b2 ?_ | refine V.NTF.dec ?_ | refine V.b3 ?_ | refine V.b4 ?_ | (refine NIdx.mk ⟨0, rfl, Nat.zero_lt_one, ?_⟩) | (refine NSrc.mk (.inr (.inl ⟨15, _, _, _, _, rfl, ?_⟩))) | ((first | refine V.Fn.k (c6) [15, 13] rfl ?_ ?_ | refine V.Fn.q (c6) [15, 13] rfl ?_ ?_ | refine V.Fn.a (c6) [15, 13] rfl ?_ ?_); · exact V.D_) | (refine V.NDraw.any (by kernel_rfl) ?_) | fail)
    all_goals (conv => whnf)
    all_goals exact V.NBack.at_ 1 [] (Nat.le_refl _) (by decide) V.S_ rfl ⟨⟨rfl, rfl, rfl, rfl, fun k hk => ⟨rfl, fun m g h => by rw [if_neg (by decide)] at h; cases h⟩⟩, trivial⟩ V.S_ V.S_
  · rw [if_neg (by decide)]
    repeat' ((conv => whnf); first | (refine V.NIf.yes ?_ ?_; · (decide; done)) | (refine V.NIf.no ?_ ?_; · (decide; done)) | (refine V.NIf.yes ?_ ?_; · (omega; done)) | (refine V.NIf.no ?_ ?_; · (omega; done)) | refine V.NCond.mk ?_ | refine V.NPick.l ?_ | refine V.NIf.not_ ?_ | refine V.NIf.dec_ ?_ | refine V.a4 ?_ | refine V.a5 ?_ | refine V.NIf.mk (fun _ => ?_) (fun _ => ?_) | refine V.a7 ?_ | refine V.a8 ?_ | refine V.a9 ?_ | refine V.NBoth.mk ?_ ?_ | refine V.b1 ?_ | refine V.b2 ?_ | refine V.NTF.dec ?_ | refine V.b3 ?_ | refine V.b4 ?_ | ((first | refine V.Fn.k (c7) [9, 15] rfl ?_ ?_ | refine V.Fn.q (c7) [9, 15] rfl ?_ ?_ | refine V.Fn.a (c7) [9, 15] rfl ?_ ?_); · exact V.D_) | (refine V.NDraw.any (by kernel_rfl) ?_) | fail)
    all_goals (conv => whnf)
    all_goals exact ⟨true, rfl, iff_of_true rfl rfl⟩
end Go.Proofs.Ytdplkcciknfnhaa

namespace Go.Proofs.Ytdplkcciknfnhaa.V
open Go Go.RowKit
section
variable [Dr]
end
end Go.Proofs.Ytdplkcciknfnhaa.V
namespace Go.Proofs.Ytdplkcciknfnhaa
open Go Go.RowKit V
end Go.Proofs.Ytdplkcciknfnhaa

namespace Go.Proofs.Ytdplkcciknfnhaa
open Go Go.RowKit Go.ChangeShapes Go.WideShapes Go.Deep V
namespace V
section
variable {H : Type} {enc : TypeId × Value → H} {P : Program} {w : World} {base : Nat} {spare : Nat → Bool} {held : Bool}
end
end V
theorem byteCells : Try.prog.cellsOf 5 = 1 := by kernel_rfl
theorem byte_of {H : Type} {enc : TypeId × Value → H} {w : World} {base : Nat} {spare : Nat → Bool} {held : Bool} {fuel : Nat} {cs : List Value} {x : DataW H × List MemPlace} (h : DataW.trod enc Try.prog w base spare held fuel 5 cs = some x) :
    ∃ n : Nat, cs = ebn n ∧ n < 256 := by
  obtain ⟨m, e2, _, wf⟩ := DataW.trod_int Try.underlying5 h
  have h0 : 0 ≤ m ∧ m < 256 := by
    have h1 : (decide (IntKind.min .u8 ≤ m) && decide (m ≤ IntKind.max .u8)) = true := wf
    rw [Bool.and_eq_true, decide_eq_true_eq, decide_eq_true_eq] at h1
    obtain ⟨h2, h3⟩ := h1
    have h2 : (0 : Int) ≤ m := h2
    have h3 : m ≤ (255 : Int) := h3
    omega
  exact ⟨m.toNat, by rw [e2]; unfold ebn; rw [Int.toNat_of_nonneg h0.1], by omega⟩
theorem open_bl {H : Type} {enc : TypeId × Value → H} {W : World} {base : Nat} {spare : Nat → Bool} {held : Bool} {r : Reach} {b0 : Nat} {v : Value} {d : DataW H} {p : List MemPlace} (hv : Value.okWide Try.prog W r b0 22 v) (h : DataW.Trod enc Try.prog W base spare held 22 v d p) :
    ∃ l : List Nat, ArrIs W v 1 l.length (ga ebn l) ∧ Ta.By l :=
  open_list Try.underlying22 byteCells (by omega) (fun fuel cs x hx => byte_of hx) hv h
end Go.Proofs.Ytdplkcciknfnhaa
