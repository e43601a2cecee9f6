/- Ranges over functions, walked by verification conditions: the iterator is walked in place, and the loop's body where the iterator calls yield. -/
import Derived.Test.YteblbhbfdfifpaaVRet
namespace Go.Proofs.Yteblbhbfdfifpaa.V
open Go Go.RowKit
set_option linter.unusedVariables false
set_option linter.unusedSimpArgs false

def lpK (obs : Obs) (i : Nat) (K : Lc → Env → Lst → Prop) : Prop := fndK obs i fun o => match o with
  | .lp L env st => K L env st
  | _ => False
theorem lpK_spec {obs : Obs} {i : Nat} {K : Lc → Env → Lst → Prop} (h : lpK obs i K) : ∃ L env st, fnd obs i = some (.lp L env st) ∧ K L env st := by
  obtain ⟨o, ho, h⟩ := fndK_spec h
  cases o <;> first | exact h.elim | exact ⟨_, _, _, ho, h⟩
/-- the parameters of a round -/
def zipK (sz : Nat) : List Nat → List SV → Env → (Env → Prop) → Prop
  | [], [], env, K => K env
  | p :: ps, v :: vs, env, K => match Nat.blt p sz with
    | true => zipK sz ps vs ((p, v) :: env) K
    | false => False
  | _, _, _, _ => False
theorem zip_spec {sz : Nat} {ρ : Rho} : ∀ {ps : List Nat} {vs : List SV} {xs : List Value} {env : Env} {tmps : Array Value} {K : Env → Prop}, EnvR sz ρ env { tmps := tmps, defers := [] } → Svs ρ vs xs → zipK sz ps vs env K →
    ∃ env', K env' ∧ xs.length = ps.length ∧ EnvR sz ρ env' { tmps := (ps.zip xs).foldl (fun t (p : Nat × Value) => t.setIfInBounds p.1 p.2) tmps, defers := [] }
  | [], [], xs, env, tmps, K, hE, hs, h => by
    have e : xs = [] := hs
    subst e
    exact ⟨env, h, rfl, hE⟩
  | p :: ps, v :: vs, xs, env, tmps, K, hE, ⟨x, r, e, hv, hr⟩, h => by
    subst e
    unfold zipK at h
    cases hb : Nat.blt p sz <;> simp only [hb] at h
    have hd : p < sz := by simpa [Nat.blt_eq] using hb
    have hsz : tmps.size = sz := hE.size
    have hE' : EnvR sz ρ ((p, v) :: env) { tmps := tmps.setIfInBounds p x, defers := [] } := by
      refine ⟨by simp [hsz], fun t u hu => ?_⟩
      rcases fnd_cons hu with ⟨rfl, rfl⟩ | ⟨hn, hu⟩
      · exact ⟨x, by simp [hsz, hd], SV.is_of1 hv⟩
      · obtain ⟨y, hy, h2⟩ := hE.env t u hu
        exact ⟨y, by rw [Array.getElem?_setIfInBounds_ne hn]; exact hy, h2⟩
    obtain ⟨env', hK, hl, hE2⟩ := zip_spec hE' hr h
    exact ⟨env', hK, by simp [hl], hE2⟩
  | [], _ :: _, _, _, _, _, _, _, h => h.elim
  | _ :: _, [], _, _, _, _, _, _, h => h.elim
/-- what becomes of the record at a round's end -/
def rndK (i : Nat) (K : SV → Obs → Nat → Prop) : Kon := fun e _ obs nx => lpK obs i fun L env st => match st with
  | .busy => match e with
    | .nrm => K (.one (.tf true)) ((i, .lp L env .ready) :: obs) nx
    | .exit id => K (.one (.tf false)) ((i, .lp L env (.done (.exit id))) :: obs) nx
    | .ret => K (.one (.tf false)) ((i, .lp L env (.done .ret)) :: obs) nx
  | _ => False
/-- what is done when the iterator has returned -/
def endK (i : Nat) (env : Env) (K : Kon) (obs : Obs) (nx : Nat) : Prop := lpK obs i fun _ _ st => match st with
  | .ready => K .nrm env ((i, .gone) :: obs) nx
  | .done (.exit id) => K (.exit id) env ((i, .gone) :: obs) nx
  | .done .ret => K .ret env ((i, .gone) :: obs) nx
  | _ => False
theorem put_below {B l : Nat} {w : World} (h : B ≤ l) (o : Obj) : Below B w (w.putObj l o) :=
  ⟨rfl, rfl, rfl, by rw [World.putObj_size]; exact Nat.le_refl _, fun k hk => World.putObj_heap_other (by omega)⟩
theorem put_oth {l : Nat} {w : World} {r : Loop} (h : w.heap[l]? = some (.loop r)) (o : Obj) : Oth w (w.putObj l o) :=
  oth_one (b := l) (fun k hk => World.putObj_heap_other hk) fun D e => by rw [h] at e; cases e
theorem Cls.lpset {B nx : Nat} {ρ : Rho} {obs : Obs} {w : World} {i l : Nat} {L : Lc} {env : Env} {st : Lst} (hC : Cls B ρ obs nx w) (ho : fnd obs i = some (.lp L env st)) (hl : ρ i = some (.func (.yield l) #[] #[])) :
    ∃ fn tmps D, B ≤ l ∧ w.heap[l]? = some (.loop { state := st.state, pending := st.pend, fn := fn, tmps := tmps, params := L.ps.toArray, assign := L.assign, body := L.body, defers := D }) ∧
      ∀ st' : Lst, Cls B ρ ((i, .lp L env st') :: obs) nx (w.putObj l (.loop { state := st'.state, pending := st'.pend, fn := fn, tmps := tmps, params := L.ps.toArray, assign := L.assign, body := L.body, defers := D })) := by
  obtain ⟨l', fn, tmps, D, e, hB, hh, hE⟩ := hC.sat i _ ho
  rw [hl] at e
  have e : l = l' := by injection e with e; injection e with e; injection e
  subst e
  have hf : ∀ st' : Lst, foot ρ i (.lp L env st') = some l := fun st' => by simp [foot, hl]
  exact ⟨fn, tmps, D, hB, hh, fun st' => hC.set ho rfl (hf st) (.inl (hf st')) rfl World.putObj_size (fun k hk => World.putObj_heap_other hk)
    ⟨l, fn, tmps, D, hl, hB, World.putObj_heap_same (Array.getElem?_eq_some_iff.1 hh).1, hE⟩⟩
theorem Cls.kill {B nx : Nat} {ρ : Rho} {obs : Obs} {w w' : World} {i b : Nat} {o : Ob} (h : Cls B ρ obs nx w) (ho : fnd obs i = some o) (hm : o.mut = true) (hf : foot ρ i o = some b) (hsz : w'.heap.size = w.heap.size) (hk : ∀ k, k ≠ b → w'.heap[k]? = w.heap[k]?) : Cls B ρ ((i, .gone) :: obs) nx w' := by
  refine ⟨by rw [hsz]; exact h.le, fun j u hu => ?_, fun j k o1 o2 c h1 h2 hne hmu hf1 => ?_, h.new⟩
  · rcases fnd_cons hu with ⟨rfl, rfl⟩ | ⟨hn, hu⟩
    · trivial
    · exact (h.sat j u hu).keep (by omega) fun c hc => hk c (fun e => by subst e; exact h.apart i j o u c ho hu hn hm hf hc)
  · rcases fnd_cons h1 with ⟨rfl, rfl⟩ | ⟨hn1, h1⟩
    · cases hf1
    · rcases fnd_cons h2 with ⟨rfl, rfl⟩ | ⟨hn2, h2⟩
      · intro e; cases e
      · exact h.apart j k o1 o2 c h1 h2 hne hmu hf1

/-- a round -/
theorem NYield.mk_ {P : Program} {T : TT} (hT : TTok P T) (hm : P.follows .mixedOrders = true) {i : Nat} {L : Lc} {env0 : Env} {sz : Nat} {ps : List Nat} {assign body : Code} (hL : L = ⟨sz, ps, assign, body⟩) (hc : (calm assign && calm body) = true)
    {args : List SV} {obs : Obs} {nx : Nat} {K : SV → Obs → Nat → Prop} (ho : fnd obs i = some (.lp L env0 .ready))
    (h : zipK sz ps args env0 fun env => vc P T sz nx assign env obs nx fun e env1 obs1 nx1 => match e with
      | .nrm => lpK obs1 i fun L1 e1 st => match st with
        | .ready => vc P T sz nx body env1 ((i, .lp L1 e1 .busy) :: obs1) nx1 (rndK i K)
        | _ => False
      | _ => False) : NYield P i args obs nx K :=
  ⟨fun B ρ w xs l n hC hs hl => by
    subst hL
    simp only [Bool.and_eq_true] at hc
    obtain ⟨l', fn, tmps, D, e, hB, hh, hE0⟩ := hC.sat i _ ho
    rw [hl] at e
    have e : l = l' := by injection e with e; injection e with e; injection e
    subst e
    obtain ⟨env, h, hlen, hE⟩ := zip_spec hE0 hs h
    have hy := run_yield (P := P) (args := xs.toArray) hh (by simp [hlen])
    have hin : i < nx := by
      rcases Nat.lt_or_ge i nx with q | q
      · exact q
      · rw [hC.new i q] at hl; cases hl
    have ex : ∀ {ρ1 : Rho} {ds : List Deferred} {w1 : World}, Wy B ⟨w, ρ, nx⟩ ρ1 ds w1 → ∀ j y, ρ j = some y → ρ1 j = some y := fun {ρ1 ds w1} hW j y hy => by
      by_cases hj : j < nx
      · exact hW.e j y hj hy
      · rw [hC.new j (by omega)] at hy; cases hy
    refine ⟨fn, _, assign, body, hy, roundIn_of_wpIn trivial ?_⟩
    have et : ((ps.toArray.zip xs.toArray).foldl (fun t (x : Nat × Value) => match x with | (t', a) => t.setIfInBounds t' a) tmps) = (ps.zip xs).foldl (fun t (p : Nat × Value) => t.setIfInBounds p.1 p.2) tmps := by
      rw [← Array.foldl_toList, Array.toList_zip]
    rw [et]
    have h1 := vc_sound (ro := some l) (n := n) (w0 := ⟨w, ρ, nx⟩) hT hm assign (.inr hc.1) h hE hC ⟨Below.refl _ _, Oth.refl _, fun _ _ _ h => h, [], rfl, List.nodup_nil, by simp⟩
    refine wpIn_mono h1 ?_
    intro e a1 w1 q
    cases e with
    | normal =>
      obtain ⟨ρ1, env1, obs1, nx1, hk, hE1, hC1, hW1⟩ := q
      obtain ⟨L1, e1, st, ho1, hk⟩ := lpK_spec hk
      split at hk
      rotate_left
      · exact hk.elim
      have hl1 := ex hW1 _ _ hl
      obtain ⟨fn1, tmps1, D1, _, hh1, hset⟩ := hC1.lpset ho1 hl1
      refine ⟨_, run_beginRound hh1 rfl, ?_⟩
      have h2 := vc_sound (ro := some l) (n := n) (w0 := ⟨w, ρ, nx⟩) hT hm body (.inr hc.2) hk hE1 (hset .busy) (hW1.trans (put_below hB _) (put_oth hh1 _))
      refine wpIn_mono h2 ?_
      intro e a2 w2 q
      have fin : ∀ (e : Ex) (st : Lst) (b : Bool) (K2 : Env → Obs → Nat → Prop), Nx B ⟨w, ρ, nx⟩ sz K2 a2 w2 → (∀ env2 obs2 nx2, K2 env2 obs2 nx2 → lpK obs2 i fun L env s => match s with
            | .busy => K (.one (.tf b)) ((i, .lp L env st) :: obs2) nx2
            | _ => False) → st ≠ .busy → b = st.pend.isNone → st.state = (if st.pend.isNone then .ready else .done) →
          ∃ v w', (Instr.endRound l st.pend).run P w2 = .ok v w' ∧ ∃ u obs' nx' ρ' x, K u obs' nx' ∧ (∀ i y, ρ i = some y → ρ' i = some y) ∧ Ending.returned v = .returned x ∧ u.is ρ' x ∧ Cls B ρ' obs' nx' w' ∧ Below B w w' ∧ Oth w w' := by
        rintro e st b K2 ⟨ρ2, env2, obs2, nx2, hk2, hE2, hC2, hW2⟩ hK hnb hb hst
        obtain ⟨L2, e2, s2, ho2, hk2⟩ := lpK_spec (hK _ _ _ hk2)
        split at hk2
        rotate_left
        · exact hk2.elim
        obtain ⟨fn2, tmps2, D2, _, hh2, hset2⟩ := hC2.lpset ho2 (ex hW2 _ _ hl)
        refine ⟨_, _, run_endRound st.pend hh2, _, _, _, ρ2, _, hk2, ex hW2, rfl, ?_, ?_, hW2.b.trans (put_below hB _), hW2.o.trans (put_oth hh2 _)⟩
        · subst hb; exact rfl
        · have := hset2 st
          rw [hst] at this
          exact this
      cases e with
      | normal => exact fin .nrm .ready true _ q (fun _ _ _ h => h) (fun q => by cases q) rfl rfl
      | ret => exact fin .ret (.done .ret) false _ q (fun _ _ _ h => h) (fun q => by cases q) rfl rfl
      | exit id => exact fin (.exit id) (.done (.exit id)) false _ q (fun _ _ _ h => h) (fun q => by cases q) rfl rfl
      | goto t => exact q.elim
      | panic c => exact q.elim
      | outgrown => exact q.elim
    | exit id => obtain ⟨_, _, _, _, hk, _⟩ := q; exact hk.elim
    | ret => obtain ⟨_, _, _, _, hk, _⟩ := q; exact hk.elim
    | goto t => exact q
    | panic c => exact q
    | outgrown => exact q⟩
structure NIs (a b : Nat) (K : Prop) : Prop where
  e : a = b
  h : K
theorem run_enter {P : Program} {f : FuncId} (hb : hasBody P f = true) (args : Array Value) (w : World) : (callFunc f args).run P w = .ok (.enter f args) w := by
  unfold hasBody at hb
  cases hf : P.funcs[f]? with
  | none => rw [hf] at hb; cases hb
  | some fn =>
    rw [hf] at hb
    simp only [Bool.and_eq_true, Bool.not_eq_true', Option.isSome_iff_ne_none] at hb
    obtain ⟨h1, h2⟩ := hb
    have h3 : fn.body.isNone = false := by cases hq : fn.body with | none => exact absurd hq h1 | some c => rfl
    have h4 : ¬ fn.name = "runtime.NumGoroutine" := by simpa using h2
    simp [callFunc, hf, h4, h3, Sem.run_bind]
    exact fun q => absurd q h1
/-! a row that the rounds change takes a new name -/
def mvA (i j : Nat) : At → At
  | .ref k => match Nat.beq k i with
    | true => .ref j
    | false => .ref k
  | a => a
def mvOb (i j : Nat) : Ob → Ob
  | .box t l => .box t (l.map (mvA i j))
  | o => o
def mvObs (i j : Nat) : Obs → Obs
  | [] => []
  | (k, o) :: r => match Nat.beq k i with
    | true => (k, .gone) :: mvObs i j r
    | false => (k, mvOb i j o) :: mvObs i j r
theorem mvObs_get {i j k : Nat} {o : Ob} : ∀ {obs : Obs}, fnd (mvObs i j obs) k = some o → (k = i ∧ o = .gone) ∨ (k ≠ i ∧ ∃ o', fnd obs k = some o' ∧ o = mvOb i j o')
  | [], h => by cases h
  | (u, x) :: r, h => by
    unfold mvObs at h
    cases hb : Nat.beq u i <;> simp only [hb] at h
    · rcases fnd_cons h with ⟨rfl, rfl⟩ | ⟨hn, h⟩
      · exact .inr ⟨Nat.ne_of_beq_eq_false hb, x, by unfold fnd; rw [Nat.beq_refl], rfl⟩
      · rcases mvObs_get h with q | ⟨q, o', h1, h2⟩
        · exact .inl q
        · refine .inr ⟨q, o', ?_, h2⟩
          unfold fnd
          cases hb2 : Nat.beq u k
          · exact h1
          · exact absurd (Nat.eq_of_beq_eq_true hb2) hn
    · have e := Nat.eq_of_beq_eq_true hb
      subst e
      rcases fnd_cons h with ⟨rfl, rfl⟩ | ⟨hn, h⟩
      · exact .inl ⟨rfl, rfl⟩
      · rcases mvObs_get h with q | ⟨q, o', h1, h2⟩
        · exact .inl q
        · refine .inr ⟨q, o', ?_, h2⟩
          unfold fnd
          cases hb2 : Nat.beq u k
          · exact h1
          · exact absurd (Nat.eq_of_beq_eq_true hb2) hn
theorem Ats.mv {i j : Nat} {ρ : Rho} (hj : ρ j = ρ i) : ∀ {l : List At} {x : List Value}, Ats ρ l x → Ats ρ (l.map (mvA i j)) x
  | [], _, h => h
  | a :: l, _, ⟨u, r, hx, ha, hr⟩ => by
    refine ⟨u, r, hx, ?_, Ats.mv hj hr⟩
    cases a with
    | ref k =>
      show (mvA i j (.ref k)).is ρ u
      simp only [mvA]
      cases hb : Nat.beq k i
      · exact ha
      · have e := Nat.eq_of_beq_eq_true hb
        subst e
        exact ⟨hj.trans ha.1, ha.2⟩
    | _ => exact ha
theorem foot_mv {ρ : Rho} {i j k : Nat} {o : Ob} : foot ρ k (mvOb i j o) = foot ρ k o := by cases o <;> rfl
def mvAsK (i j : Nat) : List At → (List At → Prop) → Prop
  | [], K => K []
  | a :: l, K => match a with
    | .ref k => match Nat.beq k i with
      | true => mvAsK i j l fun r => K (.ref j :: r)
      | false => mvAsK i j l fun r => K (.ref k :: r)
    | a => mvAsK i j l fun r => K (a :: r)
theorem mvAsK_eq {i j : Nat} : ∀ {l : List At} {K : List At → Prop}, mvAsK i j l K → K (l.map (mvA i j))
  | [], _, h => h
  | a :: l, K, h => by
    unfold mvAsK at h
    cases a with
    | ref k =>
      simp only at h
      rw [List.map_cons]
      show K (mvA i j (.ref k) :: _)
      simp only [mvA]
      cases hb : Nat.beq k i <;> simp only [hb] at h ⊢ <;> exact mvAsK_eq (K := fun r => K (_ :: r)) h
    | _ => exact mvAsK_eq (K := fun r => K (_ :: r)) h
def mvK (i j : Nat) : Obs → (Obs → Prop) → Prop
  | [], K => K []
  | (k, o) :: r, K => match Nat.beq k i with
    | true => mvK i j r fun r' => K ((k, .gone) :: r')
    | false => match o with
      | .box t l => mvAsK i j l fun l' => mvK i j r fun r' => K ((k, .box t l') :: r')
      | o => mvK i j r fun r' => K ((k, o) :: r')
theorem mvK_eq {i j : Nat} : ∀ {obs : Obs} {K : Obs → Prop}, mvK i j obs K → K (mvObs i j obs)
  | [], _, h => h
  | (k, o) :: r, K, h => by
    unfold mvK at h
    unfold mvObs
    cases hb : Nat.beq k i <;> simp only [hb] at h ⊢
    · cases o with
      | box t l => exact mvK_eq (K := fun r' => K (_ :: r')) (mvAsK_eq h)
      | _ => exact mvK_eq (K := fun r' => K (_ :: r')) h
    · exact mvK_eq (K := fun r' => K (_ :: r')) h
theorem Cls.mv {B nx : Nat} {ρ : Rho} {obs : Obs} {w : World} (i : Nat) {t s n : Nat} {get : Nat → List Value} (hC : Cls B ρ obs nx w) (ho : fnd obs i = some (.row t s n get)) :
    ∃ ρ', Ext ρ ρ' ∧ Cls B ρ' ((nx, .row t s n get) :: mvObs i nx obs) (nx + 1) w := by
  obtain ⟨v, hv, hr⟩ := hC.sat i _ ho
  have hx : Ext ρ (upd ρ nx v) := ext_upd (hC.new nx (Nat.le_refl _))
  have hne : i ≠ nx := fun e => by rw [e, hC.new nx (Nat.le_refl _)] at hv; cases hv
  have hi : upd ρ nx v nx = upd ρ nx v i := by rw [upd_same, upd_ne v hne, hv]
  have ol : ∀ k o, nx ≠ k → foot (upd ρ nx v) k o = foot ρ k o := fun k o hn => foot_eq (upd_ne v (Ne.symm hn))
  have fnx : foot (upd ρ nx v) nx (.row t s n get) = foot ρ i (.row t s n get) := by rw [foot_at hi, foot_eq (upd_ne v hne)]
  refine ⟨upd ρ nx v, hx, ⟨hC.le, fun k o hk => ?_, fun j k o1 o2 b h1 h2 hne' hmu hf => ?_, fun k hk => ?_⟩⟩
  · rcases fnd_cons hk with ⟨rfl, rfl⟩ | ⟨hn, hk⟩
    · exact ⟨v, upd_same _ _ _, hr⟩
    · rcases mvObs_get hk with ⟨_, rfl⟩ | ⟨_, o', h1, rfl⟩
      · trivial
      · have hs := (hC.sat k o' h1).ext hx
        cases o' with
        | box t l => obtain ⟨b, cs, e, hB, hl, hh⟩ := hs; exact ⟨b, cs, e, hB, hl.mv hi, hh⟩
        | _ => exact hs
  · rcases fnd_cons h1 with ⟨rfl, rfl⟩ | ⟨hn1, h1⟩
    · rcases fnd_cons h2 with ⟨rfl, rfl⟩ | ⟨hn2, h2⟩
      · exact absurd rfl hne'
      · rw [fnx] at hf
        rcases mvObs_get h2 with ⟨_, rfl⟩ | ⟨q, o', h3, rfl⟩
        · intro e; cases e
        · rw [foot_mv, ol _ _ hn2]
          exact hC.apart i k _ o' b ho h3 (Ne.symm q) rfl hf
    · rcases mvObs_get h1 with ⟨_, rfl⟩ | ⟨q, o', h3, rfl⟩
      · cases hf
      · rw [foot_mv, ol _ _ hn1] at hf
        have hmu' : o'.mut = true := by cases o' <;> exact hmu
        rcases fnd_cons h2 with ⟨rfl, rfl⟩ | ⟨hn2, h2⟩
        · rw [fnx]
          exact hC.apart j i o' _ b h3 ho q hmu' hf
        · rcases mvObs_get h2 with ⟨_, rfl⟩ | ⟨q2, o2', h4, rfl⟩
          · intro e; cases e
          · rw [foot_mv, ol _ _ hn2]
            exact hC.apart j k o' o2' b h3 h4 hne' hmu' hf
  · rw [upd_ne v (by omega)]; exact hC.new k (by omega)
def mvsK : List Nat → Obs → Nat → (Obs → Nat → Prop) → Prop
  | [], obs, n, K => K obs n
  | i :: r, obs, n, K => fndK obs i fun o => match o with
    | .row t s m g => mvK i n obs fun obs' => mvsK r ((n, .row t s m g) :: obs') (n + 1) K
    | _ => False
theorem mvsK_spec {B : Nat} {w : World} : ∀ {l : List Nat} {ρ : Rho} {obs : Obs} {n : Nat} {K : Obs → Nat → Prop}, Cls B ρ obs n w → mvsK l obs n K → ∃ ρ' obs' n', Ext ρ ρ' ∧ Cls B ρ' obs' n' w ∧ K obs' n'
  | [], ρ, obs, n, K, hC, h => ⟨ρ, obs, n, fun _ _ q => q, hC, h⟩
  | i :: r, ρ, obs, n, K, hC, h => by
    obtain ⟨o, ho, h⟩ := fndK_spec h
    cases o with
    | row t s m g =>
      obtain ⟨ρ1, hx1, hC1⟩ := hC.mv i ho
      obtain ⟨ρ2, obs2, n2, hx2, hC2, hK⟩ := mvsK_spec (l := r) hC1 (mvK_eq (K := fun obs' => mvsK r ((n, .row t s m g) :: obs') (n + 1) K) h)
      exact ⟨ρ2, obs2, n2, fun i y q => hx2 _ _ (hx1 _ _ q), hC2, hK⟩
    | _ => exact h.elim
/-- the statement: the iterator in place -/
theorem NRange.inl {P : Program} {T : TT} (hT : TTok P T) (hm : P.follows .mixedOrders = true) {g : FuncId} {gfn : Func} {c : Code} (hf : P.funcs[g]? = some gfn) (hb : gfn.body = some c) {gsz : Nat} (hs : gfn.ntmps = gsz) (hB : hasBody P g = true)
    {sz : Nat} {fo : Operand} {ps : Array Tmp} {assign body : Code} {env : Env} {obs : Obs} {nx : Nat} {K : Kon} (sl ml : List Nat)
    (h0 : evK env fo fun v => match v with
      | .one (.clo g' caps) => NIs g' g (keepK env sl fun env0 => capE [.one (.ref nx)] caps fun args => match Nat.ble args.length gsz with
        | true => ∀ L : Lc, L = ⟨sz, ps.toList, assign, body⟩ → mvsK ml ((nx, .lp L env0 .ready) :: obs) (nx + 1) fun obs0 nx0 => vc P T gsz (nx + 1) c (argEnv 0 args) obs0 nx0 (fnK T gfn.results.toList fun _ obs1 nx1 => endK nx env K obs1 nx1)
        | false => False)
      | _ => False) : NRange P sz fo ps assign body env obs nx K := by
  refine ⟨fun B s ρ a w n hE hC hW => ?_⟩
  obtain ⟨v, hv, h⟩ := evK_spec hE h0
  clear h0
  split at h
  rotate_left
  · exact h.elim
  rename_i g' caps
  obtain ⟨rfl, h⟩ := h
  obtain ⟨cs, hcs, hg⟩ := hv
  obtain ⟨env0, hle, h⟩ := keepE_spec h
  have hE0 : EnvR sz ρ env0 { tmps := a.tmps, defers := [] } := ⟨hE.size, fun t v ht => by
    obtain ⟨u, hu, hl⟩ := hle.get t v ht
    obtain ⟨x, e, hx⟩ := hE.env t u hu
    have := hl.is_ hx
    rw [renS_nil] at this
    exact ⟨x, e, this⟩⟩
  refine wpIn_rangeFunc ?_
  intro fn hfn
  have hro : Fence.wide.round = none := rfl
  rw [hro]
  obtain ⟨W1, hW1⟩ : ∃ W1, (w.alloc (.deferred (some []))).alloc (.loop { state := .ready, pending := none, fn := fn, tmps := a.tmps, params := ps, assign := assign, body := body, defers := w.heap.size }) = W1 := ⟨_, rfl⟩
  have hsz1 : W1.heap.size = w.heap.size + 2 := by rw [← hW1]; simp
  have hL1 : W1.heap[w.heap.size + 1]? = some (.loop { state := .ready, pending := none, fn := fn, tmps := a.tmps, params := ps, assign := assign, body := body, defers := w.heap.size }) := by
    rw [← hW1]
    have := World.alloc_heap_new (w.alloc (.deferred (some []))) (.loop { state := .ready, pending := none, fn := fn, tmps := a.tmps, params := ps, assign := assign, body := body, defers := w.heap.size })
    rwa [World.size_alloc] at this
  have hK1 : W1.heap[w.heap.size]? = some (.deferred (some [])) := by
    rw [← hW1]; exact (Below.heap_alloc _ _ _ (by simp)).trans (World.alloc_heap_new w _)
  have hb1 : Below w.heap.size w W1 := by
    rw [← hW1]; exact (((Below.refl _ w).alloc (Nat.le_refl _) _).alloc (by simp) _)
  have hx1 : Ext ρ (upd ρ nx (.func (.yield (w.heap.size + 1)) #[] #[])) := ext_upd (hC.new nx (Nat.le_refl _))
  have hone : Svs (upd ρ nx (.func (.yield (w.heap.size + 1)) #[] #[])) [.one (.ref nx)] [.func (.yield (w.heap.size + 1)) #[] #[]] := ⟨_, [], rfl, ⟨upd_same _ _ _, rfl⟩, rfl⟩
  have hcs1 : CapsAre (upd ρ nx (.func (.yield (w.heap.size + 1)) #[] #[])) caps cs := hcs.ext hx1
  obtain ⟨args, h, hsv⟩ := capE_spec hone hcs1 h
  cases hlen : Nat.ble args.length gsz <;> rw [hlen] at h
  · exact h.elim
  have hC1 := hC.more (v := .func (.yield (w.heap.size + 1)) #[] #[]) (o := .lp ⟨sz, ps.toList, assign, body⟩ env0 .ready) hb1 ⟨w.heap.size + 1, fn, a.tmps, w.heap.size, upd_same _ _ _, by have := hC.le; omega, by simpa [Lst.state, Lst.pend] using hL1, hE0.ext hx1⟩
    (fun b hf => by simp only [foot, upd_same] at hf; injection hf with hf; omega)
  have h1 := h _ rfl
  obtain ⟨ρ2, obs2, n2, hx2, hC2, h2⟩ := mvsK_spec hC1 h1
  have hcall := fn_sound_pin (xs := #[.func (.yield (w.heap.size + 1)) #[] #[]] ++ cs.toArray) hT hm hf hb hs hlen h2 hC2 (by simpa using hsv.ext hx2)
  refine ⟨w.heap.size + 1, [{ target := .collected w.heap.size, args := #[] }], W1, { target := .fn (.func g') cs.toArray, args := #[.func (.yield (w.heap.size + 1)) #[] #[]] }, W1, g', #[.func (.yield (w.heap.size + 1)) #[] #[]] ++ cs.toArray, W1, ?_, ?_, fun _ _ => trivial, ?_, fun q => (by cases q), ?_⟩
  · rw [← hW1]; exact run_enterLoop_outer _ _ _ _ _
  · simp only [resolve, hg]
    simp [go_sem]
  · simp [invoke, go_sem, run_enter hB]
  refine callsIn_wide.2 (hcall.mono ?_)
  rintro e w' ⟨ρ', v, obs', nx', x, hR, rfl, _, hC', hb', hx3, ho'⟩
  have hx' : Ext (upd ρ nx (.func (.yield (w.heap.size + 1)) #[] #[])) ρ' := fun i y hi => by
    by_cases q : i < nx + 1
    · exact hx3 i y q (hx2 _ _ hi)
    · rw [upd_ne _ (by omega), hC.new i (by omega)] at hi; cases hi
  obtain ⟨L2, e2, st, hol, hR⟩ := lpK_spec hR
  have hl2 : ρ' nx = some (.func (.yield (w.heap.size + 1)) #[] #[]) := hx' _ _ (upd_same _ _ _)
  obtain ⟨fn2, tmps2, D2, hBl, hh2, _⟩ := hC'.lpset hol hl2
  have hnb : st.state ≠ .busy := by
    intro q
    cases st with
    | ready => cases q
    | busy => exact hR
    | done c => cases q
  refine ⟨st.pend, _, run_endLoop hh2 hnb, ?_⟩
  have hf2 : foot ρ' nx (.lp L2 e2 st) = some (w.heap.size + 1) := by simp [foot, hl2]
  have hC4 := hC'.kill (w' := w'.putObj (w.heap.size + 1) (.loop { state := .exhausted, pending := st.pend, fn := fn2, tmps := tmps2, params := L2.ps.toArray, assign := L2.assign, body := L2.body, defers := D2 })) hol rfl hf2 World.putObj_size (fun k hk => World.putObj_heap_other hk)
  have hB1 : B ≤ w.heap.size := hC.le
  have hW4 : Wy B s ρ' ({ target := .collected w.heap.size, args := #[] } :: a.defers) (w'.putObj (w.heap.size + 1) (.loop { state := .exhausted, pending := st.pend, fn := fn2, tmps := tmps2, params := L2.ps.toArray, assign := L2.assign, body := L2.body, defers := D2 })) := by
    have o1 : Oth W1 (w'.putObj (w.heap.size + 1) (.loop { state := .exhausted, pending := st.pend, fn := fn2, tmps := tmps2, params := L2.ps.toArray, assign := L2.assign, body := L2.body, defers := D2 })) := ho'.trans (put_oth hh2 _)
    have o2 := (oth_of hb1).trans o1
    refine ⟨((hW.b.trans (hb1.mono hB1)).trans hb').trans (put_below (by omega) _), hW.o.trans o2, fun i y hi hy => hx' _ _ (hx1 _ _ (hW.e i y hi hy)), ?_⟩
    obtain ⟨Ds, hd, hn, hD⟩ := hW.m
    refine ⟨w.heap.size :: Ds, by rw [hd]; rfl, List.nodup_cons.2 ⟨fun q => ?_, hn⟩, fun D q => ?_⟩
    · have := (Array.getElem?_eq_some_iff.1 (hD _ q).2.2).1; omega
    · rcases List.mem_cons.1 q with rfl | q
      · exact ⟨hB1, hW.b.size, o1 _ _ hK1⟩
      · exact ⟨(hD _ q).1, (hD _ q).2.1, o2 _ _ (hD _ q).2.2⟩
  have hE4 : EnvR sz ρ' env { a with defers := [{ target := .collected w.heap.size, args := #[] }] ++ a.defers } := ⟨hE.size, ((hE.ext hx1).ext hx').env⟩
  split at hR
  · exact ⟨ρ', env, _, nx', hR, hE4, hC4, hW4⟩
  · exact wpIn_exit ⟨ρ', env, _, nx', hR, hE4, hC4, hW4⟩
  · exact wpIn_ret ⟨ρ', env, _, nx', hR, hE4, hC4, hW4⟩
  · exact hR.elim

end Go.Proofs.Yteblbhbfdfifpaa.V
