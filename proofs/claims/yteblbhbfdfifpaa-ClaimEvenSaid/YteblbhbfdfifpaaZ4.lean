/- Shared texts, one behind the other: VRange, VClaim, VClaimR, LotPl, VSame, VFailB, VClaimB, VFam, StPl, StQ, StQ2, StQ3, StQ4, StQ5, StQ6, StQ7, VOr, StP, StP2, StP3, StP4 -/
import Derived.Sort.LotA
import Derived.Test.YteblbhbfdfifpaaZ1
import Derived.Test.YteblbhbfdfifpaaZ2
import Derived.Test.YteblbhbfdfifpaaZ3

/- Ranges over functions, walked by verification conditions: the iterator is walked in place, and the loop's body where the iterator calls yield. -/
namespace Go.Proofs.Yteblbhbfdfifpaa.V
open Go Go.RowKit
set_option linter.unusedVariables false
set_option linter.unusedSimpArgs false

def lpK (obs : Obs) (i : Nat) (K : Lc → Env → Lst → Prop) : Prop := fndK obs i fun o => match o with
  | .lp L env st => K L env st
  | _ => False
theorem lpK_spec {obs : Obs} {i : Nat} {K : Lc → Env → Lst → Prop} (h : lpK obs i K) : ∃ L env st, fnd obs i = some (.lp L env st) ∧ K L env st := by
  obtain ⟨o, ho, h⟩ := fndK_spec h
  cases o <;> first | exact h.elim | exact ⟨_, _, _, ho, h⟩
/-- the parameters of a round -/
def zipK (sz : Nat) : List Nat → List SV → Env → (Env → Prop) → Prop
  | [], [], env, K => K env
  | p :: ps, v :: vs, env, K => match Nat.blt p sz with
    | true => zipK sz ps vs ((p, v) :: env) K
    | false => False
  | _, _, _, _ => False
theorem zip_spec {sz : Nat} {ρ : Rho} : ∀ {ps : List Nat} {vs : List SV} {xs : List Value} {env : Env} {tmps : Array Value} {K : Env → Prop}, EnvR sz ρ env { tmps := tmps, defers := [] } → Svs ρ vs xs → zipK sz ps vs env K →
    ∃ env', K env' ∧ xs.length = ps.length ∧ EnvR sz ρ env' { tmps := (ps.zip xs).foldl (fun t (p : Nat × Value) => t.setIfInBounds p.1 p.2) tmps, defers := [] }
  | [], [], xs, env, tmps, K, hE, hs, h => by
    have e : xs = [] := hs
    subst e
    exact ⟨env, h, rfl, hE⟩
  | p :: ps, v :: vs, xs, env, tmps, K, hE, ⟨x, r, e, hv, hr⟩, h => by
    subst e
    unfold zipK at h
    cases hb : Nat.blt p sz <;> simp only [hb] at h
    have hd : p < sz := by simpa [Nat.blt_eq] using hb
    have hsz : tmps.size = sz := hE.size
    have hE' : EnvR sz ρ ((p, v) :: env) { tmps := tmps.setIfInBounds p x, defers := [] } := by
      refine ⟨by simp [hsz], fun t u hu => ?_⟩
      rcases fnd_cons hu with ⟨rfl, rfl⟩ | ⟨hn, hu⟩
      · exact ⟨x, by simp [hsz, hd], SV.is_of1 hv⟩
      · obtain ⟨y, hy, h2⟩ := hE.env t u hu
        exact ⟨y, by rw [Array.getElem?_setIfInBounds_ne hn]; exact hy, h2⟩
    obtain ⟨env', hK, hl, hE2⟩ := zip_spec hE' hr h
    exact ⟨env', hK, by simp [hl], hE2⟩
  | [], _ :: _, _, _, _, _, _, _, h => h.elim
  | _ :: _, [], _, _, _, _, _, _, h => h.elim
/-- what becomes of the record at a round's end -/
def rndK (i : Nat) (K : SV → Obs → Nat → Prop) : Kon := fun e _ obs nx => lpK obs i fun L env st => match st with
  | .busy => match e with
    | .nrm => K (.one (.tf true)) ((i, .lp L env .ready) :: obs) nx
    | .exit id => K (.one (.tf false)) ((i, .lp L env (.done (.exit id))) :: obs) nx
    | .ret => K (.one (.tf false)) ((i, .lp L env (.done .ret)) :: obs) nx
  | _ => False
/-- what is done when the iterator has returned -/
def endK (i : Nat) (env : Env) (K : Kon) (obs : Obs) (nx : Nat) : Prop := lpK obs i fun _ _ st => match st with
  | .ready => K .nrm env ((i, .gone) :: obs) nx
  | .done (.exit id) => K (.exit id) env ((i, .gone) :: obs) nx
  | .done .ret => K .ret env ((i, .gone) :: obs) nx
  | _ => False
theorem put_below {B l : Nat} {w : World} (h : B ≤ l) (o : Obj) : Below B w (w.putObj l o) :=
  ⟨rfl, rfl, rfl, by rw [World.putObj_size]; exact Nat.le_refl _, fun k hk => World.putObj_heap_other (by omega)⟩
theorem put_oth {l : Nat} {w : World} {r : Loop} (h : w.heap[l]? = some (.loop r)) (o : Obj) : Oth w (w.putObj l o) :=
  oth_one (b := l) (fun k hk => World.putObj_heap_other hk) fun D e => by rw [h] at e; cases e
theorem Cls.lpset {B nx : Nat} {ρ : Rho} {obs : Obs} {w : World} {i l : Nat} {L : Lc} {env : Env} {st : Lst} (hC : Cls B ρ obs nx w) (ho : fnd obs i = some (.lp L env st)) (hl : ρ i = some (.func (.yield l) #[] #[])) :
    ∃ fn tmps D, B ≤ l ∧ w.heap[l]? = some (.loop { state := st.state, pending := st.pend, fn := fn, tmps := tmps, params := L.ps.toArray, assign := L.assign, body := L.body, defers := D }) ∧
      ∀ st' : Lst, Cls B ρ ((i, .lp L env st') :: obs) nx (w.putObj l (.loop { state := st'.state, pending := st'.pend, fn := fn, tmps := tmps, params := L.ps.toArray, assign := L.assign, body := L.body, defers := D })) := by
  obtain ⟨l', fn, tmps, D, e, hB, hh, hE⟩ := hC.sat i _ ho
  rw [hl] at e
  have e : l = l' := by injection e with e; injection e with e; injection e
  subst e
  have hf : ∀ st' : Lst, foot ρ i (.lp L env st') = some l := fun st' => by simp [foot, hl]
  exact ⟨fn, tmps, D, hB, hh, fun st' => hC.set ho rfl (hf st) (.inl (hf st')) rfl World.putObj_size (fun k hk => World.putObj_heap_other hk)
    ⟨l, fn, tmps, D, hl, hB, World.putObj_heap_same (Array.getElem?_eq_some_iff.1 hh).1, hE⟩⟩
theorem Cls.kill {B nx : Nat} {ρ : Rho} {obs : Obs} {w w' : World} {i b : Nat} {o : Ob} (h : Cls B ρ obs nx w) (ho : fnd obs i = some o) (hm : o.mut = true) (hf : foot ρ i o = some b) (hsz : w'.heap.size = w.heap.size) (hk : ∀ k, k ≠ b → w'.heap[k]? = w.heap[k]?) : Cls B ρ ((i, .gone) :: obs) nx w' := by
  refine ⟨by rw [hsz]; exact h.le, fun j u hu => ?_, fun j k o1 o2 c h1 h2 hne hmu hf1 => ?_, h.new⟩
  · rcases fnd_cons hu with ⟨rfl, rfl⟩ | ⟨hn, hu⟩
    · trivial
    · exact (h.sat j u hu).keep (by omega) fun c hc => hk c (fun e => by subst e; exact h.apart i j o u c ho hu hn hm hf hc)
  · rcases fnd_cons h1 with ⟨rfl, rfl⟩ | ⟨hn1, h1⟩
    · cases hf1
    · rcases fnd_cons h2 with ⟨rfl, rfl⟩ | ⟨hn2, h2⟩
      · intro e; cases e
      · exact h.apart j k o1 o2 c h1 h2 hne hmu hf1

/-- a round -/
theorem NYield.mk_ {P : Program} {T : TT} (hT : TTok P T) (hm : P.follows .mixedOrders = true) {i : Nat} {L : Lc} {env0 : Env} {sz : Nat} {ps : List Nat} {assign body : Code} (hL : L = ⟨sz, ps, assign, body⟩) (hc : (calm assign && calm body) = true)
    {args : List SV} {obs : Obs} {nx : Nat} {K : SV → Obs → Nat → Prop} (ho : fnd obs i = some (.lp L env0 .ready))
    (h : zipK sz ps args env0 fun env => vc P T sz nx assign env obs nx fun e env1 obs1 nx1 => match e with
      | .nrm => lpK obs1 i fun L1 e1 st => match st with
        | .ready => vc P T sz nx body env1 ((i, .lp L1 e1 .busy) :: obs1) nx1 (rndK i K)
        | _ => False
      | _ => False) : NYield P i args obs nx K :=
  ⟨fun B ρ w xs l n hC hs hl => by
    subst hL
    simp only [Bool.and_eq_true] at hc
    obtain ⟨l', fn, tmps, D, e, hB, hh, hE0⟩ := hC.sat i _ ho
    rw [hl] at e
    have e : l = l' := by injection e with e; injection e with e; injection e
    subst e
    obtain ⟨env, h, hlen, hE⟩ := zip_spec hE0 hs h
    have hy := run_yield (P := P) (args := xs.toArray) hh (by simp [hlen])
    have hin : i < nx := by
      rcases Nat.lt_or_ge i nx with q | q
      · exact q
      · rw [hC.new i q] at hl; cases hl
    have ex : ∀ {ρ1 : Rho} {ds : List Deferred} {w1 : World}, Wy B ⟨w, ρ, nx⟩ ρ1 ds w1 → ∀ j y, ρ j = some y → ρ1 j = some y := fun {ρ1 ds w1} hW j y hy => by
      by_cases hj : j < nx
      · exact hW.e j y hj hy
      · rw [hC.new j (by omega)] at hy; cases hy
    refine ⟨fn, _, assign, body, hy, roundIn_of_wpIn trivial ?_⟩
    have et : ((ps.toArray.zip xs.toArray).foldl (fun t (x : Nat × Value) => match x with | (t', a) => t.setIfInBounds t' a) tmps) = (ps.zip xs).foldl (fun t (p : Nat × Value) => t.setIfInBounds p.1 p.2) tmps := by
      rw [← Array.foldl_toList, Array.toList_zip]
    rw [et]
    have h1 := vc_sound (ro := some l) (n := n) (w0 := ⟨w, ρ, nx⟩) hT hm assign (.inr hc.1) h hE hC ⟨Below.refl _ _, Oth.refl _, fun _ _ _ h => h, [], rfl, List.nodup_nil, by simp⟩
    refine wpIn_mono h1 ?_
    intro e a1 w1 q
    cases e with
    | normal =>
      obtain ⟨ρ1, env1, obs1, nx1, hk, hE1, hC1, hW1⟩ := q
      obtain ⟨L1, e1, st, ho1, hk⟩ := lpK_spec hk
      split at hk
      rotate_left
      · exact hk.elim
      have hl1 := ex hW1 _ _ hl
      obtain ⟨fn1, tmps1, D1, _, hh1, hset⟩ := hC1.lpset ho1 hl1
      refine ⟨_, run_beginRound hh1 rfl, ?_⟩
      have h2 := vc_sound (ro := some l) (n := n) (w0 := ⟨w, ρ, nx⟩) hT hm body (.inr hc.2) hk hE1 (hset .busy) (hW1.trans (put_below hB _) (put_oth hh1 _))
      refine wpIn_mono h2 ?_
      intro e a2 w2 q
      have fin : ∀ (e : Ex) (st : Lst) (b : Bool) (K2 : Env → Obs → Nat → Prop), Nx B ⟨w, ρ, nx⟩ sz K2 a2 w2 → (∀ env2 obs2 nx2, K2 env2 obs2 nx2 → lpK obs2 i fun L env s => match s with
            | .busy => K (.one (.tf b)) ((i, .lp L env st) :: obs2) nx2
            | _ => False) → st ≠ .busy → b = st.pend.isNone → st.state = (if st.pend.isNone then .ready else .done) →
          ∃ v w', (Instr.endRound l st.pend).run P w2 = .ok v w' ∧ ∃ u obs' nx' ρ' x, K u obs' nx' ∧ (∀ i y, ρ i = some y → ρ' i = some y) ∧ Ending.returned v = .returned x ∧ u.is ρ' x ∧ Cls B ρ' obs' nx' w' ∧ Below B w w' ∧ Oth w w' := by
        rintro e st b K2 ⟨ρ2, env2, obs2, nx2, hk2, hE2, hC2, hW2⟩ hK hnb hb hst
        obtain ⟨L2, e2, s2, ho2, hk2⟩ := lpK_spec (hK _ _ _ hk2)
        split at hk2
        rotate_left
        · exact hk2.elim
        obtain ⟨fn2, tmps2, D2, _, hh2, hset2⟩ := hC2.lpset ho2 (ex hW2 _ _ hl)
        refine ⟨_, _, run_endRound st.pend hh2, _, _, _, ρ2, _, hk2, ex hW2, rfl, ?_, ?_, hW2.b.trans (put_below hB _), hW2.o.trans (put_oth hh2 _)⟩
        · subst hb; exact rfl
        · have := hset2 st
          rw [hst] at this
          exact this
      cases e with
      | normal => exact fin .nrm .ready true _ q (fun _ _ _ h => h) (fun q => by cases q) rfl rfl
      | ret => exact fin .ret (.done .ret) false _ q (fun _ _ _ h => h) (fun q => by cases q) rfl rfl
      | exit id => exact fin (.exit id) (.done (.exit id)) false _ q (fun _ _ _ h => h) (fun q => by cases q) rfl rfl
      | goto t => exact q.elim
      | panic c => exact q.elim
      | outgrown => exact q.elim
    | exit id => obtain ⟨_, _, _, _, hk, _⟩ := q; exact hk.elim
    | ret => obtain ⟨_, _, _, _, hk, _⟩ := q; exact hk.elim
    | goto t => exact q
    | panic c => exact q
    | outgrown => exact q⟩
structure NIs (a b : Nat) (K : Prop) : Prop where
  e : a = b
  h : K
theorem run_enter {P : Program} {f : FuncId} (hb : hasBody P f = true) (args : Array Value) (w : World) : (callFunc f args).run P w = .ok (.enter f args) w := by
  unfold hasBody at hb
  cases hf : P.funcs[f]? with
  | none => rw [hf] at hb; cases hb
  | some fn =>
    rw [hf] at hb
    simp only [Bool.and_eq_true, Bool.not_eq_true', Option.isSome_iff_ne_none] at hb
    obtain ⟨h1, h2⟩ := hb
    have h3 : fn.body.isNone = false := by cases hq : fn.body with | none => exact absurd hq h1 | some c => rfl
    have h4 : ¬ fn.name = "runtime.NumGoroutine" := by simpa using h2
    simp [callFunc, hf, h4, h3, Sem.run_bind]
    exact fun q => absurd q h1
/-! a row that the rounds change takes a new name -/
def mvA (i j : Nat) : At → At
  | .ref k => match Nat.beq k i with
    | true => .ref j
    | false => .ref k
  | a => a
def mvOb (i j : Nat) : Ob → Ob
  | .box t l => .box t (l.map (mvA i j))
  | o => o
def mvObs (i j : Nat) : Obs → Obs
  | [] => []
  | (k, o) :: r => match Nat.beq k i with
    | true => (k, .gone) :: mvObs i j r
    | false => (k, mvOb i j o) :: mvObs i j r
theorem mvObs_get {i j k : Nat} {o : Ob} : ∀ {obs : Obs}, fnd (mvObs i j obs) k = some o → (k = i ∧ o = .gone) ∨ (k ≠ i ∧ ∃ o', fnd obs k = some o' ∧ o = mvOb i j o')
  | [], h => by cases h
  | (u, x) :: r, h => by
    unfold mvObs at h
    cases hb : Nat.beq u i <;> simp only [hb] at h
    · rcases fnd_cons h with ⟨rfl, rfl⟩ | ⟨hn, h⟩
      · exact .inr ⟨Nat.ne_of_beq_eq_false hb, x, by unfold fnd; rw [Nat.beq_refl], rfl⟩
      · rcases mvObs_get h with q | ⟨q, o', h1, h2⟩
        · exact .inl q
        · refine .inr ⟨q, o', ?_, h2⟩
          unfold fnd
          cases hb2 : Nat.beq u k
          · exact h1
          · exact absurd (Nat.eq_of_beq_eq_true hb2) hn
    · have e := Nat.eq_of_beq_eq_true hb
      subst e
      rcases fnd_cons h with ⟨rfl, rfl⟩ | ⟨hn, h⟩
      · exact .inl ⟨rfl, rfl⟩
      · rcases mvObs_get h with q | ⟨q, o', h1, h2⟩
        · exact .inl q
        · refine .inr ⟨q, o', ?_, h2⟩
          unfold fnd
          cases hb2 : Nat.beq u k
          · exact h1
          · exact absurd (Nat.eq_of_beq_eq_true hb2) hn
theorem Ats.mv {i j : Nat} {ρ : Rho} (hj : ρ j = ρ i) : ∀ {l : List At} {x : List Value}, Ats ρ l x → Ats ρ (l.map (mvA i j)) x
  | [], _, h => h
  | a :: l, _, ⟨u, r, hx, ha, hr⟩ => by
    refine ⟨u, r, hx, ?_, Ats.mv hj hr⟩
    cases a with
    | ref k =>
      show (mvA i j (.ref k)).is ρ u
      simp only [mvA]
      cases hb : Nat.beq k i
      · exact ha
      · have e := Nat.eq_of_beq_eq_true hb
        subst e
        exact ⟨hj.trans ha.1, ha.2⟩
    | _ => exact ha
theorem foot_mv {ρ : Rho} {i j k : Nat} {o : Ob} : foot ρ k (mvOb i j o) = foot ρ k o := by cases o <;> rfl
def mvAsK (i j : Nat) : List At → (List At → Prop) → Prop
  | [], K => K []
  | a :: l, K => match a with
    | .ref k => match Nat.beq k i with
      | true => mvAsK i j l fun r => K (.ref j :: r)
      | false => mvAsK i j l fun r => K (.ref k :: r)
    | a => mvAsK i j l fun r => K (a :: r)
theorem mvAsK_eq {i j : Nat} : ∀ {l : List At} {K : List At → Prop}, mvAsK i j l K → K (l.map (mvA i j))
  | [], _, h => h
  | a :: l, K, h => by
    unfold mvAsK at h
    cases a with
    | ref k =>
      simp only at h
      rw [List.map_cons]
      show K (mvA i j (.ref k) :: _)
      simp only [mvA]
      cases hb : Nat.beq k i <;> simp only [hb] at h ⊢ <;> exact mvAsK_eq (K := fun r => K (_ :: r)) h
    | _ => exact mvAsK_eq (K := fun r => K (_ :: r)) h
def mvK (i j : Nat) : Obs → (Obs → Prop) → Prop
  | [], K => K []
  | (k, o) :: r, K => match Nat.beq k i with
    | true => mvK i j r fun r' => K ((k, .gone) :: r')
    | false => match o with
      | .box t l => mvAsK i j l fun l' => mvK i j r fun r' => K ((k, .box t l') :: r')
      | o => mvK i j r fun r' => K ((k, o) :: r')
theorem mvK_eq {i j : Nat} : ∀ {obs : Obs} {K : Obs → Prop}, mvK i j obs K → K (mvObs i j obs)
  | [], _, h => h
  | (k, o) :: r, K, h => by
    unfold mvK at h
    unfold mvObs
    cases hb : Nat.beq k i <;> simp only [hb] at h ⊢
    · cases o with
      | box t l => exact mvK_eq (K := fun r' => K (_ :: r')) (mvAsK_eq h)
      | _ => exact mvK_eq (K := fun r' => K (_ :: r')) h
    · exact mvK_eq (K := fun r' => K (_ :: r')) h
theorem Cls.mv {B nx : Nat} {ρ : Rho} {obs : Obs} {w : World} (i : Nat) {t s n : Nat} {get : Nat → List Value} (hC : Cls B ρ obs nx w) (ho : fnd obs i = some (.row t s n get)) :
    ∃ ρ', Ext ρ ρ' ∧ Cls B ρ' ((nx, .row t s n get) :: mvObs i nx obs) (nx + 1) w := by
  obtain ⟨v, hv, hr⟩ := hC.sat i _ ho
  have hx : Ext ρ (upd ρ nx v) := ext_upd (hC.new nx (Nat.le_refl _))
  have hne : i ≠ nx := fun e => by rw [e, hC.new nx (Nat.le_refl _)] at hv; cases hv
  have hi : upd ρ nx v nx = upd ρ nx v i := by rw [upd_same, upd_ne v hne, hv]
  have ol : ∀ k o, nx ≠ k → foot (upd ρ nx v) k o = foot ρ k o := fun k o hn => foot_eq (upd_ne v (Ne.symm hn))
  have fnx : foot (upd ρ nx v) nx (.row t s n get) = foot ρ i (.row t s n get) := by rw [foot_at hi, foot_eq (upd_ne v hne)]
  refine ⟨upd ρ nx v, hx, ⟨hC.le, fun k o hk => ?_, fun j k o1 o2 b h1 h2 hne' hmu hf => ?_, fun k hk => ?_⟩⟩
  · rcases fnd_cons hk with ⟨rfl, rfl⟩ | ⟨hn, hk⟩
    · exact ⟨v, upd_same _ _ _, hr⟩
    · rcases mvObs_get hk with ⟨_, rfl⟩ | ⟨_, o', h1, rfl⟩
      · trivial
      · have hs := (hC.sat k o' h1).ext hx
        cases o' with
        | box t l => obtain ⟨b, cs, e, hB, hl, hh⟩ := hs; exact ⟨b, cs, e, hB, hl.mv hi, hh⟩
        | _ => exact hs
  · rcases fnd_cons h1 with ⟨rfl, rfl⟩ | ⟨hn1, h1⟩
    · rcases fnd_cons h2 with ⟨rfl, rfl⟩ | ⟨hn2, h2⟩
      · exact absurd rfl hne'
      · rw [fnx] at hf
        rcases mvObs_get h2 with ⟨_, rfl⟩ | ⟨q, o', h3, rfl⟩
        · intro e; cases e
        · rw [foot_mv, ol _ _ hn2]
          exact hC.apart i k _ o' b ho h3 (Ne.symm q) rfl hf
    · rcases mvObs_get h1 with ⟨_, rfl⟩ | ⟨q, o', h3, rfl⟩
      · cases hf
      · rw [foot_mv, ol _ _ hn1] at hf
        have hmu' : o'.mut = true := by cases o' <;> exact hmu
        rcases fnd_cons h2 with ⟨rfl, rfl⟩ | ⟨hn2, h2⟩
        · rw [fnx]
          exact hC.apart j i o' _ b h3 ho q hmu' hf
        · rcases mvObs_get h2 with ⟨_, rfl⟩ | ⟨q2, o2', h4, rfl⟩
          · intro e; cases e
          · rw [foot_mv, ol _ _ hn2]
            exact hC.apart j k o' o2' b h3 h4 hne' hmu' hf
  · rw [upd_ne v (by omega)]; exact hC.new k (by omega)
def mvsK : List Nat → Obs → Nat → (Obs → Nat → Prop) → Prop
  | [], obs, n, K => K obs n
  | i :: r, obs, n, K => fndK obs i fun o => match o with
    | .row t s m g => mvK i n obs fun obs' => mvsK r ((n, .row t s m g) :: obs') (n + 1) K
    | _ => False
theorem mvsK_spec {B : Nat} {w : World} : ∀ {l : List Nat} {ρ : Rho} {obs : Obs} {n : Nat} {K : Obs → Nat → Prop}, Cls B ρ obs n w → mvsK l obs n K → ∃ ρ' obs' n', Ext ρ ρ' ∧ Cls B ρ' obs' n' w ∧ K obs' n'
  | [], ρ, obs, n, K, hC, h => ⟨ρ, obs, n, fun _ _ q => q, hC, h⟩
  | i :: r, ρ, obs, n, K, hC, h => by
    obtain ⟨o, ho, h⟩ := fndK_spec h
    cases o with
    | row t s m g =>
      obtain ⟨ρ1, hx1, hC1⟩ := hC.mv i ho
      obtain ⟨ρ2, obs2, n2, hx2, hC2, hK⟩ := mvsK_spec (l := r) hC1 (mvK_eq (K := fun obs' => mvsK r ((n, .row t s m g) :: obs') (n + 1) K) h)
      exact ⟨ρ2, obs2, n2, fun i y q => hx2 _ _ (hx1 _ _ q), hC2, hK⟩
    | _ => exact h.elim
/-- the statement: the iterator in place -/
theorem NRange.inl {P : Program} {T : TT} (hT : TTok P T) (hm : P.follows .mixedOrders = true) {g : FuncId} {gfn : Func} {c : Code} (hf : P.funcs[g]? = some gfn) (hb : gfn.body = some c) {gsz : Nat} (hs : gfn.ntmps = gsz) (hB : hasBody P g = true)
    {sz : Nat} {fo : Operand} {ps : Array Tmp} {assign body : Code} {env : Env} {obs : Obs} {nx : Nat} {K : Kon} (sl ml : List Nat)
    (h0 : evK env fo fun v => match v with
      | .one (.clo g' caps) => NIs g' g (keepK env sl fun env0 => capE [.one (.ref nx)] caps fun args => match Nat.ble args.length gsz with
        | true => ∀ L : Lc, L = ⟨sz, ps.toList, assign, body⟩ → mvsK ml ((nx, .lp L env0 .ready) :: obs) (nx + 1) fun obs0 nx0 => vc P T gsz (nx + 1) c (argEnv 0 args) obs0 nx0 (fnK T gfn.results.toList fun _ obs1 nx1 => endK nx env K obs1 nx1)
        | false => False)
      | _ => False) : NRange P sz fo ps assign body env obs nx K := by
  refine ⟨fun B s ρ a w n hE hC hW => ?_⟩
  obtain ⟨v, hv, h⟩ := evK_spec hE h0
  clear h0
  split at h
  rotate_left
  · exact h.elim
  rename_i g' caps
  obtain ⟨rfl, h⟩ := h
  obtain ⟨cs, hcs, hg⟩ := hv
  obtain ⟨env0, hle, h⟩ := keepE_spec h
  have hE0 : EnvR sz ρ env0 { tmps := a.tmps, defers := [] } := ⟨hE.size, fun t v ht => by
    obtain ⟨u, hu, hl⟩ := hle.get t v ht
    obtain ⟨x, e, hx⟩ := hE.env t u hu
    have := hl.is_ hx
    rw [renS_nil] at this
    exact ⟨x, e, this⟩⟩
  refine wpIn_rangeFunc ?_
  intro fn hfn
  have hro : Fence.wide.round = none := rfl
  rw [hro]
  obtain ⟨W1, hW1⟩ : ∃ W1, (w.alloc (.deferred (some []))).alloc (.loop { state := .ready, pending := none, fn := fn, tmps := a.tmps, params := ps, assign := assign, body := body, defers := w.heap.size }) = W1 := ⟨_, rfl⟩
  have hsz1 : W1.heap.size = w.heap.size + 2 := by rw [← hW1]; simp
  have hL1 : W1.heap[w.heap.size + 1]? = some (.loop { state := .ready, pending := none, fn := fn, tmps := a.tmps, params := ps, assign := assign, body := body, defers := w.heap.size }) := by
    rw [← hW1]
    have := World.alloc_heap_new (w.alloc (.deferred (some []))) (.loop { state := .ready, pending := none, fn := fn, tmps := a.tmps, params := ps, assign := assign, body := body, defers := w.heap.size })
    rwa [World.size_alloc] at this
  have hK1 : W1.heap[w.heap.size]? = some (.deferred (some [])) := by
    rw [← hW1]; exact (Below.heap_alloc _ _ _ (by simp)).trans (World.alloc_heap_new w _)
  have hb1 : Below w.heap.size w W1 := by
    rw [← hW1]; exact (((Below.refl _ w).alloc (Nat.le_refl _) _).alloc (by simp) _)
  have hx1 : Ext ρ (upd ρ nx (.func (.yield (w.heap.size + 1)) #[] #[])) := ext_upd (hC.new nx (Nat.le_refl _))
  have hone : Svs (upd ρ nx (.func (.yield (w.heap.size + 1)) #[] #[])) [.one (.ref nx)] [.func (.yield (w.heap.size + 1)) #[] #[]] := ⟨_, [], rfl, ⟨upd_same _ _ _, rfl⟩, rfl⟩
  have hcs1 : CapsAre (upd ρ nx (.func (.yield (w.heap.size + 1)) #[] #[])) caps cs := hcs.ext hx1
  obtain ⟨args, h, hsv⟩ := capE_spec hone hcs1 h
  cases hlen : Nat.ble args.length gsz <;> rw [hlen] at h
  · exact h.elim
  have hC1 := hC.more (v := .func (.yield (w.heap.size + 1)) #[] #[]) (o := .lp ⟨sz, ps.toList, assign, body⟩ env0 .ready) hb1 ⟨w.heap.size + 1, fn, a.tmps, w.heap.size, upd_same _ _ _, by have := hC.le; omega, by simpa [Lst.state, Lst.pend] using hL1, hE0.ext hx1⟩
    (fun b hf => by simp only [foot, upd_same] at hf; injection hf with hf; omega)
  have h1 := h _ rfl
  obtain ⟨ρ2, obs2, n2, hx2, hC2, h2⟩ := mvsK_spec hC1 h1
  have hcall := fn_sound_pin (xs := #[.func (.yield (w.heap.size + 1)) #[] #[]] ++ cs.toArray) hT hm hf hb hs hlen h2 hC2 (by simpa using hsv.ext hx2)
  refine ⟨w.heap.size + 1, [{ target := .collected w.heap.size, args := #[] }], W1, { target := .fn (.func g') cs.toArray, args := #[.func (.yield (w.heap.size + 1)) #[] #[]] }, W1, g', #[.func (.yield (w.heap.size + 1)) #[] #[]] ++ cs.toArray, W1, ?_, ?_, fun _ _ => trivial, ?_, fun q => (by cases q), ?_⟩
  · rw [← hW1]; exact run_enterLoop_outer _ _ _ _ _
  · simp only [resolve, hg]
    simp [go_sem]
  · simp [invoke, go_sem, run_enter hB]
  refine callsIn_wide.2 (hcall.mono ?_)
  rintro e w' ⟨ρ', v, obs', nx', x, hR, rfl, _, hC', hb', hx3, ho'⟩
  have hx' : Ext (upd ρ nx (.func (.yield (w.heap.size + 1)) #[] #[])) ρ' := fun i y hi => by
    by_cases q : i < nx + 1
    · exact hx3 i y q (hx2 _ _ hi)
    · rw [upd_ne _ (by omega), hC.new i (by omega)] at hi; cases hi
  obtain ⟨L2, e2, st, hol, hR⟩ := lpK_spec hR
  have hl2 : ρ' nx = some (.func (.yield (w.heap.size + 1)) #[] #[]) := hx' _ _ (upd_same _ _ _)
  obtain ⟨fn2, tmps2, D2, hBl, hh2, _⟩ := hC'.lpset hol hl2
  have hnb : st.state ≠ .busy := by
    intro q
    cases st with
    | ready => cases q
    | busy => exact hR
    | done c => cases q
  refine ⟨st.pend, _, run_endLoop hh2 hnb, ?_⟩
  have hf2 : foot ρ' nx (.lp L2 e2 st) = some (w.heap.size + 1) := by simp [foot, hl2]
  have hC4 := hC'.kill (w' := w'.putObj (w.heap.size + 1) (.loop { state := .exhausted, pending := st.pend, fn := fn2, tmps := tmps2, params := L2.ps.toArray, assign := L2.assign, body := L2.body, defers := D2 })) hol rfl hf2 World.putObj_size (fun k hk => World.putObj_heap_other hk)
  have hB1 : B ≤ w.heap.size := hC.le
  have hW4 : Wy B s ρ' ({ target := .collected w.heap.size, args := #[] } :: a.defers) (w'.putObj (w.heap.size + 1) (.loop { state := .exhausted, pending := st.pend, fn := fn2, tmps := tmps2, params := L2.ps.toArray, assign := L2.assign, body := L2.body, defers := D2 })) := by
    have o1 : Oth W1 (w'.putObj (w.heap.size + 1) (.loop { state := .exhausted, pending := st.pend, fn := fn2, tmps := tmps2, params := L2.ps.toArray, assign := L2.assign, body := L2.body, defers := D2 })) := ho'.trans (put_oth hh2 _)
    have o2 := (oth_of hb1).trans o1
    refine ⟨((hW.b.trans (hb1.mono hB1)).trans hb').trans (put_below (by omega) _), hW.o.trans o2, fun i y hi hy => hx' _ _ (hx1 _ _ (hW.e i y hi hy)), ?_⟩
    obtain ⟨Ds, hd, hn, hD⟩ := hW.m
    refine ⟨w.heap.size :: Ds, by rw [hd]; rfl, List.nodup_cons.2 ⟨fun q => ?_, hn⟩, fun D q => ?_⟩
    · have := (Array.getElem?_eq_some_iff.1 (hD _ q).2.2).1; omega
    · rcases List.mem_cons.1 q with rfl | q
      · exact ⟨hB1, hW.b.size, o1 _ _ hK1⟩
      · exact ⟨(hD _ q).1, (hD _ q).2.1, o2 _ _ (hD _ q).2.2⟩
  have hE4 : EnvR sz ρ' env { a with defers := [{ target := .collected w.heap.size, args := #[] }] ++ a.defers } := ⟨hE.size, ((hE.ext hx1).ext hx').env⟩
  split at hR
  · exact ⟨ρ', env, _, nx', hR, hE4, hC4, hW4⟩
  · exact wpIn_exit ⟨ρ', env, _, nx', hR, hE4, hC4, hW4⟩
  · exact wpIn_ret ⟨ρ', env, _, nx', hR, hE4, hC4, hW4⟩
  · exact hR.elim

end Go.Proofs.Yteblbhbfdfifpaa.V

/- What the functions on what papers bring answer. -/
namespace Go.Proofs.Yteblbhbfdfifpaa
open Go Go.RowKit V
set_option maxRecDepth 100000
set_option linter.unusedVariables false
theorem v_clwithin (n a b : Int) : V.Fn Try.prog 41 [] [.one (.val (.int .i64 n)), .one (.val (.int .i64 a)), .one (.val (.int .i64 b))] (.bool (decide (a ≤ n ∧ n ≤ b))) := by
  refine V.Fn.mk_ V.Tok V.mixed Try.func41 rfl Try.ntmps41 (by kernel_rfl) rfl rfl ?_
  repeat' ((conv => whnf); first | refine V.NCond.mk ?_ | refine V.NIf.not_ ?_ | refine V.NIf.dec_ ?_ | refine V.NIf.no (by omega) ?_ | refine V.NIf.yes (by omega) ?_ | refine V.NIf.mk (fun _ => ?_) (fun _ => ?_) | refine V.NWrap.ok (by omega) (by omega) ?_ | refine V.NWrap.u64 (by omega) (by omega) ?_ | refine V.NLt.mk (by omega) ?_ | refine V.NBoth.mk ?_ ?_ | refine V.NTF.yes (by omega) ?_ | refine V.NTF.no (by omega) ?_ | refine V.NTF.dec ?_ | refine V.NDraw.q (by exact rfl) (by kernel_rfl) ?_ | refine V.NApp.one (by first | omega | (simp; omega)) (by first | omega | (simp; omega)) ?_ | (refine V.NDraw.any (by kernel_rfl) ?_) | fail)
  · exact ⟨_, rfl, by simp_all⟩
  · exact congrArg Value.bool (by simp_all; omega)
theorem v_clCheck (v : Ev) : V.Fn Try.prog 18 [] [.agg [.val (.int .i64 v.pa), .val (.int .i64 v.ca), .val (.int .i64 v.gi), .val (.int .i64 v.fo)]] (.int .i64 (C.ev v)) := by
  have h1 := @C.ev_1 v
  have h2 := @C.ev_2 v
  have h3 := @C.ev_3 v
  have p : (P.chk v.ca = 0 ∧ (0 ≤ v.ca ∧ v.ca ≤ 1099511627776)) ∨ (P.chk v.ca = 3 ∧ ¬ (0 ≤ v.ca ∧ v.ca ≤ 1099511627776)) := (Classical.em (P.Ok v.ca)).imp (fun q => ⟨P.chk_yes q, q⟩) (fun q => ⟨P.chk_no q, q⟩)
  unfold C.Ok P.Ok at *
  unfold C.Odd at *
  refine V.Fn.mk_ V.Tok V.mixed Try.func18 rfl Try.ntmps18 (by kernel_rfl) rfl rfl ?_
  repeat' ((conv => whnf); first | refine V.NCond.mk ?_ | refine V.NIf.not_ ?_ | refine V.NIf.dec_ ?_ | refine V.NIf.no (by omega) ?_ | refine V.NIf.yes (by omega) ?_ | refine V.NIf.mk (fun _ => ?_) (fun _ => ?_) | refine V.NWrap.ok (by omega) (by omega) ?_ | refine V.NWrap.u64 (by omega) (by omega) ?_ | refine V.NLt.mk (by omega) ?_ | refine V.NBoth.mk ?_ ?_ | refine V.NTF.yes (by omega) ?_ | refine V.NTF.no (by omega) ?_ | refine V.NTF.dec ?_ | refine V.NDraw.q (by exact rfl) (by kernel_rfl) ?_ | refine V.NApp.one (by first | omega | (simp; omega)) (by first | omega | (simp; omega)) ?_ | (first | refine V.Fn.k0 (v_clwithin _ _ _) rfl ?_ | refine V.Fn.q0 (v_clwithin _ _ _) rfl ?_ | refine V.Fn.a0 (v_clwithin _ _ _) rfl ?_) | (first | refine V.Fn.k0 (v_pcheck _) rfl ?_ | refine V.Fn.q0 (v_pcheck _) rfl ?_ | refine V.Fn.a0 (v_pcheck _) rfl ?_) | (refine V.NDraw.any (by kernel_rfl) ?_) | fail)
  all_goals (conv => whnf)
  all_goals first
    | exact V.fin1 (h1 (by omega))
    | exact V.fin1 (h2 (by omega) (by omega))
    | exact V.fin1 (h3 (by omega) (by omega))
theorem v_rclCheck (v : Ev) : V.Fn Try.prog 19 [] [.agg [.val (.int .i64 v.pa), .val (.int .i64 v.ca), .val (.int .i64 v.gi), .val (.int .i64 v.fo)]] (.int .i64 (C.ev v)) := by
  have h1 := @C.ev_1 v
  have h2 := @C.ev_2 v
  have h3 := @C.ev_3 v
  have p : (P.chk v.ca = 0 ∧ (0 ≤ v.ca ∧ v.ca ≤ 1099511627776)) ∨ (P.chk v.ca = 3 ∧ ¬ (0 ≤ v.ca ∧ v.ca ≤ 1099511627776)) := (Classical.em (P.Ok v.ca)).imp (fun q => ⟨P.chk_yes q, q⟩) (fun q => ⟨P.chk_no q, q⟩)
  unfold C.Ok P.Ok at *
  unfold C.Odd at *
  refine V.Fn.mk_ V.Tok V.mixed Try.func19 rfl Try.ntmps19 (by kernel_rfl) rfl rfl ?_
  repeat' ((conv => whnf); first | refine V.NCond.mk ?_ | refine V.NIf.not_ ?_ | refine V.NIf.dec_ ?_ | refine V.NIf.no (by omega) ?_ | refine V.NIf.yes (by omega) ?_ | refine V.NIf.mk (fun _ => ?_) (fun _ => ?_) | refine V.NWrap.ok (by omega) (by omega) ?_ | refine V.NWrap.u64 (by omega) (by omega) ?_ | refine V.NLt.mk (by omega) ?_ | refine V.NBoth.mk ?_ ?_ | refine V.NTF.yes (by omega) ?_ | refine V.NTF.no (by omega) ?_ | refine V.NTF.dec ?_ | refine V.NDraw.q (by exact rfl) (by kernel_rfl) ?_ | refine V.NApp.one (by first | omega | (simp; omega)) (by first | omega | (simp; omega)) ?_ | (first | refine V.Fn.k0 (v_rbetween _ _ _) rfl ?_ | refine V.Fn.q0 (v_rbetween _ _ _) rfl ?_ | refine V.Fn.a0 (v_rbetween _ _ _) rfl ?_) | (first | refine V.Fn.k0 (v_rpcheck _) rfl ?_ | refine V.Fn.q0 (v_rpcheck _) rfl ?_ | refine V.Fn.a0 (v_rpcheck _) rfl ?_) | (refine V.NDraw.any (by kernel_rfl) ?_) | fail)
  all_goals (conv => whnf)
  all_goals first
    | exact V.fin1 (h1 (by omega))
    | exact V.fin1 (h2 (by omega) (by omega))
    | exact V.fin1 (h3 (by omega) (by omega))
theorem v_clcheck (v : Ev) (u : Int) : V.Fn Try.prog 28 [] [.agg [.val (.int .i64 v.pa), .val (.int .i64 v.ca), .val (.int .i64 v.gi), .val (.int .i64 v.fo)], .one (.val (.int .i64 u))] (.int .i64 (C.uE v u)) := by
  have h1 := @C.uE_1 v u
  have h2 := @C.uE_2 v u
  have h3 := @C.uE_3 v u
  refine V.Fn.mk_ V.Tok V.mixed Try.func28 rfl Try.ntmps28 (by kernel_rfl) rfl rfl ?_
  repeat' ((conv => whnf); first | refine V.NCond.mk ?_ | refine V.NIf.not_ ?_ | refine V.NIf.dec_ ?_ | refine V.NIf.no (by omega) ?_ | refine V.NIf.yes (by omega) ?_ | refine V.NIf.mk (fun _ => ?_) (fun _ => ?_) | refine V.NWrap.ok (by omega) (by omega) ?_ | refine V.NWrap.u64 (by omega) (by omega) ?_ | refine V.NLt.mk (by omega) ?_ | refine V.NBoth.mk ?_ ?_ | refine V.NTF.yes (by omega) ?_ | refine V.NTF.no (by omega) ?_ | refine V.NTF.dec ?_ | refine V.NDraw.q (by exact rfl) (by kernel_rfl) ?_ | refine V.NApp.one (by first | omega | (simp; omega)) (by first | omega | (simp; omega)) ?_ | (first | refine V.Fn.k0 (v_clCheck _) rfl ?_ | refine V.Fn.q0 (v_clCheck _) rfl ?_ | refine V.Fn.a0 (v_clCheck _) rfl ?_) | (first | refine V.Fn.k0 (v_clwithin _ _ _) rfl ?_ | refine V.Fn.q0 (v_clwithin _ _ _) rfl ?_ | refine V.Fn.a0 (v_clwithin _ _ _) rfl ?_) | (refine V.NDraw.any (by kernel_rfl) ?_) | fail)
  all_goals (conv => whnf)
  all_goals first
    | exact V.fin1 (h1 (by omega))
    | exact V.fin1 (h2 (by omega) (by omega))
    | exact V.fin1 (by omega)
theorem v_rclcheck (v : Ev) (u : Int) : V.Fn Try.prog 12 [] [.agg [.val (.int .i64 v.pa), .val (.int .i64 v.ca), .val (.int .i64 v.gi), .val (.int .i64 v.fo)], .one (.val (.int .i64 u))] (.int .i64 (C.uE v u)) := by
  have h1 := @C.uE_1 v u
  have h2 := @C.uE_2 v u
  have h3 := @C.uE_3 v u
  refine V.Fn.mk_ V.Tok V.mixed Try.func12 rfl Try.ntmps12 (by kernel_rfl) rfl rfl ?_
  repeat' ((conv => whnf); first | refine V.NCond.mk ?_ | refine V.NIf.not_ ?_ | refine V.NIf.dec_ ?_ | refine V.NIf.no (by omega) ?_ | refine V.NIf.yes (by omega) ?_ | refine V.NIf.mk (fun _ => ?_) (fun _ => ?_) | refine V.NWrap.ok (by omega) (by omega) ?_ | refine V.NWrap.u64 (by omega) (by omega) ?_ | refine V.NLt.mk (by omega) ?_ | refine V.NBoth.mk ?_ ?_ | refine V.NTF.yes (by omega) ?_ | refine V.NTF.no (by omega) ?_ | refine V.NTF.dec ?_ | refine V.NDraw.q (by exact rfl) (by kernel_rfl) ?_ | refine V.NApp.one (by first | omega | (simp; omega)) (by first | omega | (simp; omega)) ?_ | (first | refine V.Fn.k0 (v_rclCheck _) rfl ?_ | refine V.Fn.q0 (v_rclCheck _) rfl ?_ | refine V.Fn.a0 (v_rclCheck _) rfl ?_) | (first | refine V.Fn.k0 (v_rbetween _ _ _) rfl ?_ | refine V.Fn.q0 (v_rbetween _ _ _) rfl ?_ | refine V.Fn.a0 (v_rbetween _ _ _) rfl ?_) | (refine V.NDraw.any (by kernel_rfl) ?_) | fail)
  all_goals (conv => whnf)
  all_goals first
    | exact V.fin1 (h1 (by omega))
    | exact V.fin1 (h2 (by omega) (by omega))
    | exact V.fin1 (by omega)
theorem v_clcash (v : Ev) (u : Int) (h : C.Ok v) (hu : 0 ≤ u ∧ u ≤ 1073741824) : V.Fn Try.prog 29 [] [.agg [.val (.int .i64 v.pa), .val (.int .i64 v.ca), .val (.int .i64 v.gi), .val (.int .i64 v.fo)], .one (.val (.int .i64 u))] (.int .i64 (C.cash v u)) := by
  have vc := v_cost u v.ca
  obtain ⟨e1, e2⟩ := P.part_cost hu h.2.1
  rw [e1, e2] at vc
  refine V.Fn.mk_ V.Tok V.mixed Try.func29 rfl Try.ntmps29 (by kernel_rfl) rfl rfl ?_
  repeat' ((conv => whnf); first | refine V.NCond.mk ?_ | refine V.NIf.not_ ?_ | refine V.NIf.dec_ ?_ | refine V.NIf.no (by omega) ?_ | refine V.NIf.yes (by omega) ?_ | refine V.NIf.mk (fun _ => ?_) (fun _ => ?_) | refine V.NWrap.ok (by omega) (by omega) ?_ | refine V.NWrap.u64 (by omega) (by omega) ?_ | refine V.NLt.mk (by omega) ?_ | refine V.NBoth.mk ?_ ?_ | refine V.NTF.yes (by omega) ?_ | refine V.NTF.no (by omega) ?_ | refine V.NTF.dec ?_ | refine V.NDraw.q (by exact rfl) (by kernel_rfl) ?_ | refine V.NApp.one (by first | omega | (simp; omega)) (by first | omega | (simp; omega)) ?_ | (first | refine V.Fn.k0 (vc) rfl ?_ | refine V.Fn.q0 (vc) rfl ?_ | refine V.Fn.a0 (vc) rfl ?_) | (refine V.NDraw.any (by kernel_rfl) ?_) | fail)
  exact rfl
theorem v_rclcash (v : Ev) (u : Int) (h : C.Ok v) (hu : 0 ≤ u ∧ u ≤ 1073741824) : V.Fn Try.prog 13 [] [.agg [.val (.int .i64 v.pa), .val (.int .i64 v.ca), .val (.int .i64 v.gi), .val (.int .i64 v.fo)], .one (.val (.int .i64 u))] (.int .i64 (C.cash v u)) := by
  have vc := v_partOf u v.ca 10000 (by omega) h.2.1 (by omega)
  have c := P.cost_bd hu h.2.1
  have e1 : M.poQ u v.ca 10000 = C.cash v u := if_neg (by unfold P.cost at c; omega)
  rw [e1] at vc
  refine V.Fn.mk_ V.Tok V.mixed Try.func13 rfl Try.ntmps13 (by kernel_rfl) rfl rfl ?_
  repeat' ((conv => whnf); first | refine V.NCond.mk ?_ | refine V.NIf.not_ ?_ | refine V.NIf.dec_ ?_ | refine V.NIf.no (by omega) ?_ | refine V.NIf.yes (by omega) ?_ | refine V.NIf.mk (fun _ => ?_) (fun _ => ?_) | refine V.NWrap.ok (by omega) (by omega) ?_ | refine V.NWrap.u64 (by omega) (by omega) ?_ | refine V.NLt.mk (by omega) ?_ | refine V.NBoth.mk ?_ ?_ | refine V.NTF.yes (by omega) ?_ | refine V.NTF.no (by omega) ?_ | refine V.NTF.dec ?_ | refine V.NDraw.q (by exact rfl) (by kernel_rfl) ?_ | refine V.NApp.one (by first | omega | (simp; omega)) (by first | omega | (simp; omega)) ?_ | (first | refine V.Fn.k0 (vc) rfl ?_ | refine V.Fn.q0 (vc) rfl ?_ | refine V.Fn.a0 (vc) rfl ?_) | (refine V.NDraw.any (by kernel_rfl) ?_) | fail)
  exact rfl
theorem v_clfresh (v : Ev) (u : Int) (h : C.Ok v) (hu : 0 ≤ u ∧ u ≤ 1073741824) : V.Fn Try.prog 30 [] [.agg [.val (.int .i64 v.pa), .val (.int .i64 v.ca), .val (.int .i64 v.gi), .val (.int .i64 v.fo)], .one (.val (.int .i64 u))] (.tuple #[.int .i64 (C.fr v u), .int .i64 (C.le v u)]) := by
  have hm := C.mul_bd h hu
  have h4 := h.2.2.2
  have h5 : v.fo = 0 → C.fr v u = 0 ∧ C.le v u = 0 := fun q => ⟨if_pos q, if_pos q⟩
  have h6 : v.fo ≠ 0 → C.fr v u = u * v.gi / v.fo ∧ C.le v u = u * v.gi % v.fo := fun q => ⟨if_neg q, if_neg q⟩
  refine V.Fn.mk_ V.Tok V.mixed Try.func30 rfl Try.ntmps30 (by kernel_rfl) rfl rfl ?_
  repeat' ((conv => whnf); first | refine V.NCond.mk ?_ | refine V.NIf.not_ ?_ | refine V.NIf.dec_ ?_ | refine V.NIf.no (by omega) ?_ | refine V.NIf.yes (by omega) ?_ | refine V.NIf.mk (fun _ => ?_) (fun _ => ?_) | refine V.NWrap.ok (by omega) (by omega) ?_ | refine V.NWrap.u64 (by omega) (by omega) ?_ | refine V.NLt.mk (by omega) ?_ | refine V.NBoth.mk ?_ ?_ | refine V.NTF.yes (by omega) ?_ | refine V.NTF.no (by omega) ?_ | refine V.NTF.dec ?_ | refine V.NDraw.q (by exact rfl) (by kernel_rfl) ?_ | refine V.NApp.one (by first | omega | (simp; omega)) (by first | omega | (simp; omega)) ?_ | (refine NQuo.pos (by omega) (by omega) (by omega) ?_; intro z hz hz0 hz1) | (refine NRem.pos (by omega) (by omega) ?_; intro r hr hr0 hr1) | (refine V.NDraw.any (by kernel_rfl) ?_) | fail)
  all_goals (conv => whnf)
  · obtain ⟨a, b⟩ := h5 (by assumption)
    exact V.fin2 ⟨a, b⟩
  · obtain ⟨a, b⟩ := h6 (by assumption)
    exact V.fin2 ⟨a.trans hz.symm, b.trans hr.symm⟩
theorem v_rclfresh (v : Ev) (u : Int) (h : C.Ok v) (hu : 0 ≤ u ∧ u ≤ 1073741824) : V.Fn Try.prog 14 [] [.agg [.val (.int .i64 v.pa), .val (.int .i64 v.ca), .val (.int .i64 v.gi), .val (.int .i64 v.fo)], .one (.val (.int .i64 u))] (.tuple #[.int .i64 (C.fr v u), .int .i64 (C.le v u)]) := by
  have h4 := h.2.2.2
  have h3 := h.2.2.1
  have c := C.fr_bd h hu
  have h5 : v.fo = 0 → C.fr v u = 0 ∧ C.le v u = 0 := fun q => ⟨if_pos q, if_pos q⟩
  have h6 : v.fo ≠ 0 → C.fr v u = u * v.gi / v.fo ∧ C.le v u = u * v.gi % v.fo := fun q => ⟨if_neg q, if_neg q⟩
  have vc := fun q => v_partOf u v.gi v.fo (by omega) (by omega) q
  refine V.Fn.mk_ V.Tok V.mixed Try.func14 rfl Try.ntmps14 (by kernel_rfl) rfl rfl ?_
  repeat' ((conv => whnf); first | refine V.NCond.mk ?_ | refine V.NIf.not_ ?_ | refine V.NIf.dec_ ?_ | refine V.NIf.no (by omega) ?_ | refine V.NIf.yes (by omega) ?_ | refine V.NIf.mk (fun _ => ?_) (fun _ => ?_) | refine V.NWrap.ok (by omega) (by omega) ?_ | refine V.NWrap.u64 (by omega) (by omega) ?_ | refine V.NLt.mk (by omega) ?_ | refine V.NBoth.mk ?_ ?_ | refine V.NTF.yes (by omega) ?_ | refine V.NTF.no (by omega) ?_ | refine V.NTF.dec ?_ | refine V.NDraw.q (by exact rfl) (by kernel_rfl) ?_ | refine V.NApp.one (by first | omega | (simp; omega)) (by first | omega | (simp; omega)) ?_ | (first | refine V.Fn.k0 (vc (by omega)) rfl ?_ | refine V.Fn.q0 (vc (by omega)) rfl ?_ | refine V.Fn.a0 (vc (by omega)) rfl ?_) | (refine V.NDraw.any (by kernel_rfl) ?_) | fail)
  all_goals (conv => whnf)
  · obtain ⟨a, b⟩ := h5 (by assumption)
    exact V.fin2 ⟨a, b⟩
  · obtain ⟨a, b⟩ := h6 (by assumption)
    exact V.fin2 ⟨a.trans (if_neg (by omega)).symm, b.trans (if_neg (by omega)).symm⟩
theorem v_clCash (v : Ev) (u : Int) : V.Fn Try.prog 8 [] [.agg [.val (.int .i64 v.pa), .val (.int .i64 v.ca), .val (.int .i64 v.gi), .val (.int .i64 v.fo)], .one (.val (.int .i64 u))] (.tuple #[.int .i64 (C.cV v u), .int .i64 (C.uE v u)]) := by
  have h1 : C.uE v u = 0 → C.Ok v ∧ (0 ≤ u ∧ u ≤ 1073741824) := fun h => ⟨(C.ev_ok (C.uE_ok h).1).1, (C.uE_ok h).2⟩
  refine V.Fn.mk_ V.Tok V.mixed Try.func8 rfl Try.ntmps8 (by kernel_rfl) rfl rfl ?_
  repeat' ((conv => whnf); first | refine V.NCond.mk ?_ | refine V.NIf.not_ ?_ | refine V.NIf.dec_ ?_ | refine V.NIf.no (by omega) ?_ | refine V.NIf.yes (by omega) ?_ | refine V.NIf.mk (fun _ => ?_) (fun _ => ?_) | refine V.NWrap.ok (by omega) (by omega) ?_ | refine V.NWrap.u64 (by omega) (by omega) ?_ | refine V.NLt.mk (by omega) ?_ | refine V.NBoth.mk ?_ ?_ | refine V.NTF.yes (by omega) ?_ | refine V.NTF.no (by omega) ?_ | refine V.NTF.dec ?_ | refine V.NDraw.q (by exact rfl) (by kernel_rfl) ?_ | refine V.NApp.one (by first | omega | (simp; omega)) (by first | omega | (simp; omega)) ?_ | (first | refine V.Fn.k0 (v_clcheck _ _) rfl ?_ | refine V.Fn.q0 (v_clcheck _ _) rfl ?_ | refine V.Fn.a0 (v_clcheck _ _) rfl ?_) | (first | refine V.Fn.k0 (v_clcash v u (h1 (by omega)).1 (h1 (by omega)).2) rfl ?_ | refine V.Fn.q0 (v_clcash v u (h1 (by omega)).1 (h1 (by omega)).2) rfl ?_ | refine V.Fn.a0 (v_clcash v u (h1 (by omega)).1 (h1 (by omega)).2) rfl ?_) | (refine V.NDraw.any (by kernel_rfl) ?_) | fail)
  all_goals (conv => whnf)
  · exact V.fin2 ⟨if_pos (by omega), by omega⟩
  · exact V.fin2 ⟨if_neg (by assumption), rfl⟩
theorem v_clFresh (v : Ev) (u : Int) : V.Fn Try.prog 9 [] [.agg [.val (.int .i64 v.pa), .val (.int .i64 v.ca), .val (.int .i64 v.gi), .val (.int .i64 v.fo)], .one (.val (.int .i64 u))] (.tuple #[.int .i64 (C.fV v u), .int .i64 (C.lV v u), .int .i64 (C.uE v u)]) := by
  have h1 : C.uE v u = 0 → C.Ok v ∧ (0 ≤ u ∧ u ≤ 1073741824) := fun h => ⟨(C.ev_ok (C.uE_ok h).1).1, (C.uE_ok h).2⟩
  refine V.Fn.mk_ V.Tok V.mixed Try.func9 rfl Try.ntmps9 (by kernel_rfl) rfl rfl ?_
  repeat' ((conv => whnf); first | refine V.NCond.mk ?_ | refine V.NIf.not_ ?_ | refine V.NIf.dec_ ?_ | refine V.NIf.no (by omega) ?_ | refine V.NIf.yes (by omega) ?_ | refine V.NIf.mk (fun _ => ?_) (fun _ => ?_) | refine V.NWrap.ok (by omega) (by omega) ?_ | refine V.NWrap.u64 (by omega) (by omega) ?_ | refine V.NLt.mk (by omega) ?_ | refine V.NBoth.mk ?_ ?_ | refine V.NTF.yes (by omega) ?_ | refine V.NTF.no (by omega) ?_ | refine V.NTF.dec ?_ | refine V.NDraw.q (by exact rfl) (by kernel_rfl) ?_ | refine V.NApp.one (by first | omega | (simp; omega)) (by first | omega | (simp; omega)) ?_ | (first | refine V.Fn.k0 (v_clcheck _ _) rfl ?_ | refine V.Fn.q0 (v_clcheck _ _) rfl ?_ | refine V.Fn.a0 (v_clcheck _ _) rfl ?_) | (first | refine V.Fn.k0 (v_clfresh v u (h1 (by omega)).1 (h1 (by omega)).2) rfl ?_ | refine V.Fn.q0 (v_clfresh v u (h1 (by omega)).1 (h1 (by omega)).2) rfl ?_ | refine V.Fn.a0 (v_clfresh v u (h1 (by omega)).1 (h1 (by omega)).2) rfl ?_) | (refine V.NDraw.any (by kernel_rfl) ?_) | fail)
  all_goals (conv => whnf)
  · exact V.fin3 ⟨if_pos (by omega), if_pos (by omega), by omega⟩
  · exact V.fin3 ⟨if_neg (by assumption), if_neg (by assumption), rfl⟩
theorem v_clchecks (v : Ev) (fs : List Fl) : V.Fn Try.prog 31 [.arr 10 fs.length (ga encF fs)] [.agg [.val (.int .i64 v.pa), .val (.int .i64 v.ca), .val (.int .i64 v.gi), .val (.int .i64 v.fo)], .one (.ref 0)] (.int .i64 (C.xE v fs)) := by
  refine V.Fn.mk_ V.Tok V.mixed Try.func31 rfl Try.ntmps31 (by kernel_rfl) rfl rfl ?_
  repeat' ((conv => whnf); first | refine V.NCond.mk ?_ | refine V.NIf.not_ ?_ | refine V.NIf.dec_ ?_ | refine V.NIf.no (by omega) ?_ | refine V.NIf.yes (by omega) ?_ | refine V.NIf.mk (fun _ => ?_) (fun _ => ?_) | refine V.NWrap.ok (by omega) (by omega) ?_ | refine V.NWrap.u64 (by omega) (by omega) ?_ | refine V.NLt.mk (by omega) ?_ | refine V.NBoth.mk ?_ ?_ | refine V.NTF.yes (by omega) ?_ | refine V.NTF.no (by omega) ?_ | refine V.NTF.dec ?_ | refine V.NDraw.q (by exact rfl) (by kernel_rfl) ?_ | refine V.NApp.one (by first | omega | (simp; omega)) (by first | omega | (simp; omega)) ?_ | (first | refine V.Fn.k0 (v_clCheck _) rfl ?_ | refine V.Fn.q0 (v_clCheck _) rfl ?_ | refine V.Fn.a0 (v_clCheck _) rfl ?_) | ((first | refine V.Fn.k (v_fchecks fs) [0] rfl ?_ ?_ | refine V.Fn.q (v_fchecks fs) [0] rfl ?_ ?_ | refine V.Fn.a (v_fchecks fs) [0] rfl ?_ ?_); · ((repeat' (first | exact rfl | exact Iff.rfl | exact trivial | exact (fun _ _ => rfl) | exact (fun _ h => absurd h (Nat.not_lt_zero _)) | refine ⟨?_, ?_⟩ | exact Iff.rfl | exact congrArg (fun z => V.SV.one (V.At.val (Value.int .i64 z))) (by omega))); done)) | (refine V.NDraw.any (by kernel_rfl) ?_) | fail)
  all_goals (conv => whnf)
  · exact V.fin1 (C.xE_2 (by assumption))
  · exact V.fin1 (C.xE_1 (by assumption))
theorem v_moved (a b c d : Int) (hd : 0 ≤ d ∧ d ≤ 1152921504606846976) : V.FnR Try.prog 33 [] [.one (.val (.int .i64 a)), .one (.val (.int .i64 b)), .one (.val (.int .i64 c)), .one (.val (.int .i64 d))] (.one (.ref 0)) [.arr 3 [(⟨a, c, -d⟩ : Po), ⟨b, c, d⟩].length (ga encP [⟨a, c, -d⟩, ⟨b, c, d⟩])] := by
  refine V.FnR.mk_ V.Tok V.mixed Try.func33 rfl Try.ntmps33 (by kernel_rfl) rfl rfl rfl rfl ?_
  repeat' ((conv => whnf); first | refine V.NCond.mk ?_ | refine V.NIf.not_ ?_ | refine V.NIf.dec_ ?_ | refine V.NIf.no (by omega) ?_ | refine V.NIf.yes (by omega) ?_ | refine V.NIf.mk (fun _ => ?_) (fun _ => ?_) | refine V.NWrap.ok (by omega) (by omega) ?_ | refine V.NWrap.u64 (by omega) (by omega) ?_ | refine V.NLt.mk (by omega) ?_ | refine V.NBoth.mk ?_ ?_ | refine V.NTF.yes (by omega) ?_ | refine V.NTF.no (by omega) ?_ | refine V.NTF.dec ?_ | refine V.NDraw.q (by exact rfl) (by kernel_rfl) ?_ | refine V.NApp.one (by first | omega | (simp; omega)) (by first | omega | (simp; omega)) ?_ | (refine V.NDraw.any (by kernel_rfl) ?_) | fail)
  refine NRet.mk_ [some 1] rfl ?_ ?_
  · exact rfl
  · exact ⟨⟨rfl, rfl, by repeat' (first | exact trivial | refine ⟨?_, ?_⟩ | rfl | exact congrArg (Value.int .i64) (show 0 - d = -d by omega))⟩, trivial⟩
set_option maxHeartbeats 4000000 in
theorem v_Claims (v : Ev) (fs : List Fl) : V.FnR Try.prog 10 [.arr 10 fs.length (ga encF fs)] [.agg [.val (.int .i64 v.pa), .val (.int .i64 v.ca), .val (.int .i64 v.gi), .val (.int .i64 v.fo)], .one (.ref 0)] (.tup [.one (.ref 1), .one (.ref 2), .one (.val (.int .i64 (C.xE v fs)))]) [.row 54 3 (C.dV v fs).length (ga encD (C.dV v fs)), .row 56 3 (C.pV v fs).length (ga encP (C.pV v fs))] := by
  refine V.FnR.mk_ V.Tok V.mixed Try.func10 rfl Try.ntmps10 (by kernel_rfl) rfl rfl rfl rfl ?_
  repeat' ((conv => whnf); first | refine V.NCond.mk ?_ | refine V.NIf.not_ ?_ | refine V.NIf.dec_ ?_ | refine V.NIf.no (by omega) ?_ | refine V.NIf.yes (by omega) ?_ | refine V.NIf.mk (fun _ => ?_) (fun _ => ?_) | refine V.NWrap.ok (by omega) (by omega) ?_ | refine V.NWrap.u64 (by omega) (by omega) ?_ | refine V.NLt.mk (by omega) ?_ | refine V.NBoth.mk ?_ ?_ | refine V.NTF.yes (by omega) ?_ | refine V.NTF.no (by omega) ?_ | refine V.NTF.dec ?_ | refine V.NDraw.q (by exact rfl) (by kernel_rfl) ?_ | refine V.NApp.one (by first | omega | (simp; omega)) (by first | omega | (simp; omega)) ?_ | ((first | refine V.Fn.k (v_clchecks v fs) [0] rfl ?_ ?_ | refine V.Fn.q (v_clchecks v fs) [0] rfl ?_ ?_ | refine V.Fn.a (v_clchecks v fs) [0] rfl ?_ ?_); · ((repeat' (first | exact rfl | exact Iff.rfl | exact trivial | exact (fun _ _ => rfl) | exact (fun _ h => absurd h (Nat.not_lt_zero _)) | refine ⟨?_, ?_⟩ | exact Iff.rfl | exact congrArg (fun z => V.SV.one (V.At.val (Value.int .i64 z))) (by omega))); done)) | (refine V.NCall.inl (f := 32) V.Tok V.mixed Try.func32 rfl Try.ntmps32 (by kernel_rfl) rfl ?_) | (refine V.NRange.inl V.Tok V.mixed Try.func60 rfl Try.ntmps60 (by kernel_rfl) [2, 3, 4, 5, 6, 8] [3, 5] ?_; (conv => whnf); refine V.NIs.mk rfl ?_; (conv => whnf); intro L hL) | (refine V.NDraw.any (by kernel_rfl) ?_) | fail)
  all_goals (conv => whnf)
  · have hx : C.xE v fs = 0 := by assumption
    obtain ⟨hv, hF⟩ := C.xE_ok hx
    obtain ⟨n60, hall, _⟩ := K.checks_all hF
    have ok := (C.ev_ok hv).1
    have eD : C.dV v fs = C.dus v fs := if_pos hx
    have eP : C.pV v fs = C.pos v fs := if_pos hx
    refine V.NLoop.auto (fun (k : Nat) => [(9, .one (.val (.int .i64 k)))]) (fun (k : Nat) => [(11, .row 54 3 (C.dus v (fs.take k)).length (ga encD (C.dus v (fs.take k)))), (12, .row 56 3 (C.pos v (fs.take k)).length (ga encP (C.pos v (fs.take k)))), (4, .box 30 [.ref 11]), (6, .box 31 [.ref 12])]) [] [] (fun (k : Nat) => fs.length - k) (fun (k : Nat) => k ≤ fs.length) 0 (Nat.zero_le _) (by repeat' (first | exact rfl | exact Iff.rfl | exact trivial | exact (fun _ _ => rfl) | exact (fun _ h => absurd h (Nat.not_lt_zero _)) | refine ⟨?_, ?_⟩ | exact Iff.rfl | exact congrArg (fun z => V.SV.one (V.At.val (Value.int .i64 z))) (by omega))) (by repeat' (first | exact rfl | exact Iff.rfl | exact trivial | exact (fun _ _ => rfl) | exact (fun _ h => absurd h (Nat.not_lt_zero _)) | refine ⟨?_, ?_⟩ | exact Iff.rfl | exact congrArg (fun z => V.SV.one (V.At.val (Value.int .i64 z))) (by omega))) (fun _ => ⟨rfl, rfl⟩) ?_; (conv => whnf); refine ⟨⟨rfl, rfl⟩, ?_⟩
    rintro k hk
    have ld := C.dus_len v (fs.take k)
    have lp := C.pos_len v (fs.take k)
    rw [List.length_take] at ld lp
    by_cases hlt : k < fs.length
    · have hf := hall _ (getD_mem hlt)
      have hl := K.left_bd hf
      have ed := C.dus_snoc (v := v) hlt
      have ep := C.pos_snoc (v := v) hlt
      have cb := C.cash_bd ok hl
      have fbd := C.fr_bd ok hl
      have d1 : ¬ ((fs.getD k default).pa = v.pa ∧ 0 < F.left (fs.getD k default) ∧ 0 < C.cash v (F.left (fs.getD k default))) → C.duO v (fs.getD k default) = [] := fun q => if_neg q
      have d2 : ((fs.getD k default).pa = v.pa ∧ 0 < F.left (fs.getD k default) ∧ 0 < C.cash v (F.left (fs.getD k default))) → C.duO v (fs.getD k default) = [⟨(fs.getD k default).fr, (fs.getD k default).to, C.cash v (F.left (fs.getD k default))⟩] := fun q => if_pos q
      have p1 : ¬ ((fs.getD k default).pa = v.pa ∧ 0 < F.left (fs.getD k default) ∧ 0 < C.fr v (F.left (fs.getD k default))) → C.poO v (fs.getD k default) = [] := fun q => if_neg q
      have p2 : ((fs.getD k default).pa = v.pa ∧ 0 < F.left (fs.getD k default) ∧ 0 < C.fr v (F.left (fs.getD k default))) → C.poO v (fs.getD k default) = [⟨(fs.getD k default).fr, v.pa, -C.fr v (F.left (fs.getD k default))⟩, ⟨(fs.getD k default).to, v.pa, C.fr v (F.left (fs.getD k default))⟩] := fun q => if_pos q
      repeat' ((conv => whnf); first | (refine NApp.one (en := encD) (l := C.dus v (fs.take k)) (x := ⟨(fs.getD k default).fr, (fs.getD k default).to, C.cash v (F.left (fs.getD k default))⟩) (by simp; omega) (by simp; omega) ?_) | refine V.NCond.mk ?_ | refine V.NIf.not_ ?_ | refine V.NIf.dec_ ?_ | refine V.NIf.no (by omega) ?_ | refine V.NIf.yes (by omega) ?_ | refine V.NIf.mk (fun _ => ?_) (fun _ => ?_) | refine V.NWrap.ok (by omega) (by omega) ?_ | refine V.NWrap.u64 (by omega) (by omega) ?_ | refine V.NLt.mk (by omega) ?_ | refine V.NBoth.mk ?_ ?_ | refine V.NTF.yes (by omega) ?_ | refine V.NTF.no (by omega) ?_ | refine V.NTF.dec ?_ | refine V.NDraw.q (by exact rfl) (by kernel_rfl) ?_ | refine V.NApp.one (by first | omega | (simp; omega)) (by first | omega | (simp; omega)) ?_ | (refine NIdx.mk ⟨k, rfl, by omega, ?_⟩) | (first | refine V.Fn.k0 (v_fleft _ hf) rfl ?_ | refine V.Fn.q0 (v_fleft _ hf) rfl ?_ | refine V.Fn.a0 (v_fleft _ hf) rfl ?_) | (refine V.NYield.mk_ V.Tok V.mixed hL rfl rfl ?_) | (first | refine V.Fn.k0 (v_clcash v _ ok hl) rfl ?_ | refine V.Fn.q0 (v_clcash v _ ok hl) rfl ?_ | refine V.Fn.a0 (v_clcash v _ ok hl) rfl ?_) | (first | refine V.Fn.k0 (v_clfresh v _ ok hl) rfl ?_ | refine V.Fn.q0 (v_clfresh v _ ok hl) rfl ?_ | refine V.Fn.a0 (v_clfresh v _ ok hl) rfl ?_) | (first | refine V.FnR.k0 (v_moved (fs.getD k default).fr (fs.getD k default).to v.pa (C.fr v (F.left (fs.getD k default))) (by omega)) rfl ?_ | refine V.FnR.a0 (v_moved (fs.getD k default).fr (fs.getD k default).to v.pa (C.fr v (F.left (fs.getD k default))) (by omega)) rfl ?_) | (refine NOne.mk ?_ ?_; · (intro k hk; rfl)) | (refine NApp.list (by simp only [List.length_cons, List.length_nil]; omega) (by simp only [List.length_cons, List.length_nil]; omega) ?_) | (refine V.NDraw.any (by kernel_rfl) ?_) | fail)
      all_goals (conv => whnf)
      · refine V.NBack.at_ (k + 1) [(11, 15), (12, 17)] (by omega) (by omega) (by repeat' (first | exact rfl | exact Iff.rfl | exact trivial | exact (fun _ _ => rfl) | exact (fun _ h => absurd h (Nat.not_lt_zero _)) | refine ⟨?_, ?_⟩ | exact Iff.rfl | exact congrArg (fun z => V.SV.one (V.At.val (Value.int .i64 z))) (by omega))) rfl ⟨ObLe.as_ (by rw [ed, d2 (by omega)]), ObLe.as_ (by rw [ep, p2 (by omega)]), rfl, rfl, trivial⟩ (by repeat' (first | exact rfl | exact Iff.rfl | exact trivial | exact (fun _ _ => rfl) | exact (fun _ h => absurd h (Nat.not_lt_zero _)) | refine ⟨?_, ?_⟩ | exact Iff.rfl | exact congrArg (fun z => V.SV.one (V.At.val (Value.int .i64 z))) (by omega))) (by repeat' (first | exact rfl | exact Iff.rfl | exact trivial | exact (fun _ _ => rfl) | exact (fun _ h => absurd h (Nat.not_lt_zero _)) | refine ⟨?_, ?_⟩ | exact Iff.rfl | exact congrArg (fun z => V.SV.one (V.At.val (Value.int .i64 z))) (by omega)))
      · refine V.NBack.at_ (k + 1) [(11, 15)] (by omega) (by omega) (by repeat' (first | exact rfl | exact Iff.rfl | exact trivial | exact (fun _ _ => rfl) | exact (fun _ h => absurd h (Nat.not_lt_zero _)) | refine ⟨?_, ?_⟩ | exact Iff.rfl | exact congrArg (fun z => V.SV.one (V.At.val (Value.int .i64 z))) (by omega))) rfl ⟨ObLe.as_ (by rw [ed, d2 (by omega)]), ObLe.as_ (by rw [ep, p1 (by omega), List.append_nil]), rfl, rfl, trivial⟩ (by repeat' (first | exact rfl | exact Iff.rfl | exact trivial | exact (fun _ _ => rfl) | exact (fun _ h => absurd h (Nat.not_lt_zero _)) | refine ⟨?_, ?_⟩ | exact Iff.rfl | exact congrArg (fun z => V.SV.one (V.At.val (Value.int .i64 z))) (by omega))) (by repeat' (first | exact rfl | exact Iff.rfl | exact trivial | exact (fun _ _ => rfl) | exact (fun _ h => absurd h (Nat.not_lt_zero _)) | refine ⟨?_, ?_⟩ | exact Iff.rfl | exact congrArg (fun z => V.SV.one (V.At.val (Value.int .i64 z))) (by omega)))
      · refine V.NBack.at_ (k + 1) [(12, 15)] (by omega) (by omega) (by repeat' (first | exact rfl | exact Iff.rfl | exact trivial | exact (fun _ _ => rfl) | exact (fun _ h => absurd h (Nat.not_lt_zero _)) | refine ⟨?_, ?_⟩ | exact Iff.rfl | exact congrArg (fun z => V.SV.one (V.At.val (Value.int .i64 z))) (by omega))) rfl ⟨ObLe.as_ (by rw [ed, d1 (by omega), List.append_nil]), ObLe.as_ (by rw [ep, p2 (by omega)]), rfl, rfl, trivial⟩ (by repeat' (first | exact rfl | exact Iff.rfl | exact trivial | exact (fun _ _ => rfl) | exact (fun _ h => absurd h (Nat.not_lt_zero _)) | refine ⟨?_, ?_⟩ | exact Iff.rfl | exact congrArg (fun z => V.SV.one (V.At.val (Value.int .i64 z))) (by omega))) (by repeat' (first | exact rfl | exact Iff.rfl | exact trivial | exact (fun _ _ => rfl) | exact (fun _ h => absurd h (Nat.not_lt_zero _)) | refine ⟨?_, ?_⟩ | exact Iff.rfl | exact congrArg (fun z => V.SV.one (V.At.val (Value.int .i64 z))) (by omega)))
      all_goals exact V.NBack.at_ (k + 1) [] (by omega) (by omega) (by repeat' (first | exact rfl | exact Iff.rfl | exact trivial | exact (fun _ _ => rfl) | exact (fun _ h => absurd h (Nat.not_lt_zero _)) | refine ⟨?_, ?_⟩ | exact Iff.rfl | exact congrArg (fun z => V.SV.one (V.At.val (Value.int .i64 z))) (by omega))) rfl ⟨ObLe.as_ (by rw [ed, d1 (by omega), List.append_nil]), ObLe.as_ (by rw [ep, p1 (by omega), List.append_nil]), rfl, rfl, trivial⟩ (by repeat' (first | exact rfl | exact Iff.rfl | exact trivial | exact (fun _ _ => rfl) | exact (fun _ h => absurd h (Nat.not_lt_zero _)) | refine ⟨?_, ?_⟩ | exact Iff.rfl | exact congrArg (fun z => V.SV.one (V.At.val (Value.int .i64 z))) (by omega))) (by repeat' (first | exact rfl | exact Iff.rfl | exact trivial | exact (fun _ _ => rfl) | exact (fun _ h => absurd h (Nat.not_lt_zero _)) | refine ⟨?_, ?_⟩ | exact Iff.rfl | exact congrArg (fun z => V.SV.one (V.At.val (Value.int .i64 z))) (by omega)))
    · obtain rfl : k = fs.length := by omega
      rw [List.take_length] at *
      repeat' ((conv => whnf); first | refine V.NCond.mk ?_ | refine V.NIf.not_ ?_ | refine V.NIf.dec_ ?_ | refine V.NIf.no (by omega) ?_ | refine V.NIf.yes (by omega) ?_ | refine V.NIf.mk (fun _ => ?_) (fun _ => ?_) | refine V.NWrap.ok (by omega) (by omega) ?_ | refine V.NWrap.u64 (by omega) (by omega) ?_ | refine V.NLt.mk (by omega) ?_ | refine V.NBoth.mk ?_ ?_ | refine V.NTF.yes (by omega) ?_ | refine V.NTF.no (by omega) ?_ | refine V.NTF.dec ?_ | refine V.NDraw.q (by exact rfl) (by kernel_rfl) ?_ | refine V.NApp.one (by first | omega | (simp; omega)) (by first | omega | (simp; omega)) ?_ | (refine V.NDraw.any (by kernel_rfl) ?_) | fail)
      all_goals (conv => whnf)
      all_goals refine NRet.mk_ [some 11, some 12] rfl ?_ ?_
      all_goals first
        | exact ⟨rfl, rfl, V.fin1 hx, trivial⟩
        | exact ⟨ObLe.as_ eD, ObLe.as_ eP, trivial⟩
  · have hx : ¬ C.xE v fs = 0 := by assumption
    have eD : C.dV v fs = [] := if_neg hx
    have eP : C.pV v fs = [] := if_neg hx
    rw [eD, eP]
    refine NRet.mk_ [none, none] rfl ?_ ?_
    · exact ⟨⟨Nat.le_refl _, rfl⟩, ⟨by simp, rfl⟩, rfl, trivial⟩
    · exact ⟨rfl, rfl, trivial⟩
theorem v_cloneF (l : List Fl) (hn : l.length ≤ 1099511627776) : V.FnR Try.prog 34 [.arr 10 l.length (ga encF l)] [.one (.ref 0)] (.one (.ref 1)) [.row 48 10 l.length (ga encF l)] := by
  refine V.FnR.mk_ V.Tok V.mixed Try.func34 rfl Try.ntmps34 (by kernel_rfl) rfl rfl rfl rfl ?_
  repeat' ((conv => whnf); first | refine V.NCond.mk ?_ | refine V.NIf.not_ ?_ | refine V.NIf.dec_ ?_ | refine V.NIf.no (by omega) ?_ | refine V.NIf.yes (by omega) ?_ | refine V.NIf.mk (fun _ => ?_) (fun _ => ?_) | refine V.NWrap.ok (by omega) (by omega) ?_ | refine V.NWrap.u64 (by omega) (by omega) ?_ | refine V.NLt.mk (by omega) ?_ | refine V.NBoth.mk ?_ ?_ | refine V.NTF.yes (by omega) ?_ | refine V.NTF.no (by omega) ?_ | refine V.NTF.dec ?_ | refine V.NDraw.q (by exact rfl) (by kernel_rfl) ?_ | refine V.NApp.one (by first | omega | (simp; omega)) (by first | omega | (simp; omega)) ?_ | (refine NNil.mk ?_; intro p hp) | (refine NOne.mk ?_ ?_; · (intro k hk; rfl)) | (refine NApp.all_ (by first | omega | (simp; omega)) (by omega) ?_) | (refine V.NDraw.any (by kernel_rfl) ?_) | fail)
  all_goals (conv => whnf)
  · refine NRet.mk_ [some 2] rfl ?_ ?_
    · exact rfl
    · exact ⟨⟨rfl, rfl, (hp (by assumption)).symm, fun k hk => absurd hk (Nat.not_lt_zero _)⟩, trivial⟩
  · refine NRet.mk_ [some 3] rfl ?_ ?_
    · exact rfl
    · exact ⟨⟨rfl, rfl, rfl, fun _ _ => rfl⟩, trivial⟩
set_option maxHeartbeats 4000000 in
theorem v_Grow (v : Ev) (fs : List Fl) : V.FnR Try.prog 11 [.arr 10 fs.length (ga encF fs)] [.agg [.val (.int .i64 v.pa), .val (.int .i64 v.ca), .val (.int .i64 v.gi), .val (.int .i64 v.fo)], .one (.ref 0)] (.tup [.one (.ref 1), .one (.val (.int .i64 (C.gE v fs)))]) [.row 48 10 (C.gV v fs).length (ga encF (C.gV v fs))] := by
  refine V.FnR.mk_ V.Tok V.mixed Try.func11 rfl Try.ntmps11 (by kernel_rfl) rfl rfl rfl rfl ?_
  repeat' ((conv => whnf); first | refine V.NCond.mk ?_ | refine V.NIf.not_ ?_ | refine V.NIf.dec_ ?_ | refine V.NIf.no (by omega) ?_ | refine V.NIf.yes (by omega) ?_ | refine V.NIf.mk (fun _ => ?_) (fun _ => ?_) | refine V.NWrap.ok (by omega) (by omega) ?_ | refine V.NWrap.u64 (by omega) (by omega) ?_ | refine V.NLt.mk (by omega) ?_ | refine V.NBoth.mk ?_ ?_ | refine V.NTF.yes (by omega) ?_ | refine V.NTF.no (by omega) ?_ | refine V.NTF.dec ?_ | refine V.NDraw.q (by exact rfl) (by kernel_rfl) ?_ | refine V.NApp.one (by first | omega | (simp; omega)) (by first | omega | (simp; omega)) ?_ | ((first | refine V.Fn.k (v_clchecks v fs) [0] rfl ?_ ?_ | refine V.Fn.q (v_clchecks v fs) [0] rfl ?_ ?_ | refine V.Fn.a (v_clchecks v fs) [0] rfl ?_ ?_); · ((repeat' (first | exact rfl | exact Iff.rfl | exact trivial | exact (fun _ _ => rfl) | exact (fun _ h => absurd h (Nat.not_lt_zero _)) | refine ⟨?_, ?_⟩ | exact Iff.rfl | exact congrArg (fun z => V.SV.one (V.At.val (Value.int .i64 z))) (by omega))); done)) | ((first | refine V.FnR.k_ (v_cloneF fs (by have := (K.checks_all (C.xE_ok (by assumption)).2).1; omega)) [0] rfl ?_ ?_ | refine V.FnR.a_ (v_cloneF fs (by have := (K.checks_all (C.xE_ok (by assumption)).2).1; omega)) [0] rfl ?_ ?_); · ((repeat' (first | exact rfl | exact Iff.rfl | exact trivial | exact (fun _ _ => rfl) | exact (fun _ h => absurd h (Nat.not_lt_zero _)) | refine ⟨?_, ?_⟩ | exact Iff.rfl | exact congrArg (fun z => V.SV.one (V.At.val (Value.int .i64 z))) (by omega))); done)) | (refine V.NCall.inl (f := 32) V.Tok V.mixed Try.func32 rfl Try.ntmps32 (by kernel_rfl) rfl ?_) | (refine V.NRange.inl V.Tok V.mixed Try.func60 rfl Try.ntmps60 (by kernel_rfl) [4, 5, 7, 8] [] ?_; (conv => whnf); refine V.NIs.mk rfl ?_; (conv => whnf); intro L hL) | (refine V.NDraw.any (by kernel_rfl) ?_) | fail)
  all_goals (conv => whnf)
  · have hx : C.xE v fs = 0 := by assumption
    obtain ⟨hv, hF⟩ := C.xE_ok hx
    obtain ⟨n60, hall, _⟩ := K.checks_all hF
    have ok := (C.ev_ok hv).1
    refine V.NLoop.auto (fun (k : Nat) => [(9, .one (.val (.int .i64 k)))]) (fun (k : Nat) => [(6, .row 48 10 (C.grk v fs k).length (ga encF (C.grk v fs k)))]) [] [] (fun (k : Nat) => fs.length - k) (fun (k : Nat) => k ≤ fs.length ∧ ∀ f ∈ fs.take k, ¬ 1073741824 < (C.gr v f).un) 0 ⟨Nat.zero_le _, by simp⟩ (by repeat' (first | exact rfl | exact Iff.rfl | exact trivial | exact (fun _ _ => rfl) | exact (fun _ h => absurd h (Nat.not_lt_zero _)) | refine ⟨?_, ?_⟩ | exact Iff.rfl | exact congrArg (fun z => V.SV.one (V.At.val (Value.int .i64 z))) (by omega))) (by repeat' (first | exact rfl | exact Iff.rfl | exact trivial | exact (fun _ _ => rfl) | exact (fun _ h => absurd h (Nat.not_lt_zero _)) | refine ⟨?_, ?_⟩ | exact Iff.rfl | exact congrArg (fun z => V.SV.one (V.At.val (Value.int .i64 z))) (by omega))) (fun _ => ⟨rfl, rfl⟩) ?_; (conv => whnf); refine ⟨⟨rfl, rfl⟩, ?_⟩
    rintro k ⟨hk, hJ⟩
    have gl := C.grk_len v fs k
    by_cases hlt : k < fs.length
    · have hf := hall _ (getD_mem hlt)
      have hl := K.left_bd hf
      have hun := (F.ok_bounds hf).2.1
      have hun2 := (F.ok_bounds hf).2.2.1
      have fbd := C.fr_bd ok hl
      have ga := C.grk_at (v := v) hlt
      have gsc := C.grk_succ (v := v) hlt
      have gsm := C.grk_same (v := v) hlt
      have gz := C.gr_zero (v := v) (f := fs.getD k default)
      have gp := C.gr_pos (v := v) (f := fs.getD k default)
      have sf : ∀ x : Fl, ((C.grk v fs k).set k x).getD k default = x := fun x => by rw [getD_at (by simp; omega)]; simp
      have eun : ((C.grk v fs k).getD k default).un = (fs.getD k default).un := by rw [ga]
      have upun : (C.up ((C.grk v fs k).getD k default) (C.fr v (F.left (fs.getD k default)))).un = (fs.getD k default).un + C.fr v (F.left (fs.getD k default)) := by rw [ga]; rfl
      have sun : (((C.grk v fs k).set k (C.up ((C.grk v fs k).getD k default) (C.fr v (F.left (fs.getD k default))))).getD k default).un = (fs.getD k default).un + C.fr v (F.left (fs.getD k default)) := by rw [sf]; exact upun
      repeat' ((conv => whnf); first | refine V.NCond.mk ?_ | refine V.NIf.not_ ?_ | refine V.NIf.dec_ ?_ | refine V.NIf.no (by omega) ?_ | refine V.NIf.yes (by omega) ?_ | refine V.NIf.mk (fun _ => ?_) (fun _ => ?_) | refine V.NWrap.ok (by omega) (by omega) ?_ | refine V.NWrap.u64 (by omega) (by omega) ?_ | refine V.NLt.mk (by omega) ?_ | refine V.NBoth.mk ?_ ?_ | refine V.NTF.yes (by omega) ?_ | refine V.NTF.no (by omega) ?_ | refine V.NTF.dec ?_ | refine V.NDraw.q (by exact rfl) (by kernel_rfl) ?_ | refine V.NApp.one (by first | omega | (simp; omega)) (by first | omega | (simp; omega)) ?_ | (refine NIdx.mk ⟨k, rfl, by omega, ?_⟩) | (refine NIdx.mk ⟨k, rfl, by simp only [List.length_set]; omega, ?_⟩) | (first | refine V.Fn.k0 (v_fleft _ hf) rfl ?_ | refine V.Fn.q0 (v_fleft _ hf) rfl ?_ | refine V.Fn.a0 (v_fleft _ hf) rfl ?_) | (refine V.NYield.mk_ V.Tok V.mixed hL rfl rfl ?_) | (first | refine V.Fn.k0 (v_clfresh v _ ok hl) rfl ?_ | refine V.Fn.q0 (v_clfresh v _ ok hl) rfl ?_ | refine V.Fn.a0 (v_clfresh v _ ok hl) rfl ?_) | (refine NPut.to (C.up ((C.grk v fs k).getD k default) (C.fr v (F.left (fs.getD k default)))) rfl rfl ?_) | (refine V.NDraw.any (by kernel_rfl) ?_) | fail)
      all_goals (conv => whnf)
      · have hp : (fs.getD k default).pa = v.pa := by assumption
        obtain ⟨a, b⟩ := C.g_2 (v := v) (fs := fs) hx ⟨_, getD_mem hlt, by rw [gp hp]; show 1073741824 < (fs.getD k default).un + _; omega⟩
        rw [a, b]
        refine NRet.mk_ [none] rfl ?_ ?_
        · exact ⟨⟨by simp, rfl⟩, rfl, trivial⟩
        · exact ⟨rfl, trivial⟩
      · have hp : (fs.getD k default).pa = v.pa := by assumption
        exact V.NBack.at_ (k + 1) [] ⟨by omega, all_snoc hlt hJ (by rw [gp hp]; show ¬ 1073741824 < (fs.getD k default).un + _; omega)⟩ (by omega) (by repeat' (first | exact rfl | exact Iff.rfl | exact trivial | exact (fun _ _ => rfl) | exact (fun _ h => absurd h (Nat.not_lt_zero _)) | refine ⟨?_, ?_⟩ | exact Iff.rfl | exact congrArg (fun z => V.SV.one (V.At.val (Value.int .i64 z))) (by omega))) rfl ⟨ObLe.is_ (by rw [ga, ← gp hp, gsc]) (by simp [C.grk_len]), trivial⟩ (by repeat' (first | exact rfl | exact Iff.rfl | exact trivial | exact (fun _ _ => rfl) | exact (fun _ h => absurd h (Nat.not_lt_zero _)) | refine ⟨?_, ?_⟩ | exact Iff.rfl | exact congrArg (fun z => V.SV.one (V.At.val (Value.int .i64 z))) (by omega))) (by repeat' (first | exact rfl | exact Iff.rfl | exact trivial | exact (fun _ _ => rfl) | exact (fun _ h => absurd h (Nat.not_lt_zero _)) | refine ⟨?_, ?_⟩ | exact Iff.rfl | exact congrArg (fun z => V.SV.one (V.At.val (Value.int .i64 z))) (by omega)))
      all_goals exact V.NBack.at_ (k + 1) [] ⟨by omega, all_snoc hlt hJ (by rw [gz (by omega) hl.1]; omega)⟩ (by omega) (by repeat' (first | exact rfl | exact Iff.rfl | exact trivial | exact (fun _ _ => rfl) | exact (fun _ h => absurd h (Nat.not_lt_zero _)) | refine ⟨?_, ?_⟩ | exact Iff.rfl | exact congrArg (fun z => V.SV.one (V.At.val (Value.int .i64 z))) (by omega))) rfl ⟨ObLe.as_ (gsm (gz (by omega) hl.1)), trivial⟩ (by repeat' (first | exact rfl | exact Iff.rfl | exact trivial | exact (fun _ _ => rfl) | exact (fun _ h => absurd h (Nat.not_lt_zero _)) | refine ⟨?_, ?_⟩ | exact Iff.rfl | exact congrArg (fun z => V.SV.one (V.At.val (Value.int .i64 z))) (by omega))) (by repeat' (first | exact rfl | exact Iff.rfl | exact trivial | exact (fun _ _ => rfl) | exact (fun _ h => absurd h (Nat.not_lt_zero _)) | refine ⟨?_, ?_⟩ | exact Iff.rfl | exact congrArg (fun z => V.SV.one (V.At.val (Value.int .i64 z))) (by omega)))
    · obtain rfl : k = fs.length := by omega
      rw [List.take_length] at hJ
      obtain ⟨a, b⟩ := C.g_3 hx (fun ⟨f, h1, h2⟩ => hJ f h1 h2)
      repeat' ((conv => whnf); first | refine V.NCond.mk ?_ | refine V.NIf.not_ ?_ | refine V.NIf.dec_ ?_ | refine V.NIf.no (by omega) ?_ | refine V.NIf.yes (by omega) ?_ | refine V.NIf.mk (fun _ => ?_) (fun _ => ?_) | refine V.NWrap.ok (by omega) (by omega) ?_ | refine V.NWrap.u64 (by omega) (by omega) ?_ | refine V.NLt.mk (by omega) ?_ | refine V.NBoth.mk ?_ ?_ | refine V.NTF.yes (by omega) ?_ | refine V.NTF.no (by omega) ?_ | refine V.NTF.dec ?_ | refine V.NDraw.q (by exact rfl) (by kernel_rfl) ?_ | refine V.NApp.one (by first | omega | (simp; omega)) (by first | omega | (simp; omega)) ?_ | (refine V.NDraw.any (by kernel_rfl) ?_) | fail)
      all_goals (conv => whnf)
      all_goals refine NRet.mk_ [some 6] rfl ?_ ?_
      all_goals first
        | exact ⟨rfl, V.fin1 a, trivial⟩
        | exact ⟨ObLe.as_ (b.trans (C.grk_end v fs).symm), trivial⟩
  · obtain ⟨a, b⟩ := C.g_1 (v := v) (fs := fs) (by assumption)
    rw [a, b]
    refine NRet.mk_ [none] rfl ?_ ?_
    · exact ⟨⟨by simp, rfl⟩, rfl, trivial⟩
    · exact ⟨rfl, trivial⟩
end Go.Proofs.Yteblbhbfdfifpaa

/- What the document's functions on what papers bring answer. -/
namespace Go.Proofs.Yteblbhbfdfifpaa
open Go Go.RowKit V
set_option maxRecDepth 100000
set_option linter.unusedVariables false
theorem _root_.Go.Proofs.Yteblbhbfdfifpaa.V.NApp.lits {α : Type} [Inhabited α] {en : α → List Value} {l : List α} (m : List α) {rows : List (List Value)} {bytes : Nat} {K : Nat → (Nat → List Value) → Prop} (e : rows = m.map en) (h1 : (l.length + m.length) * bytes ≤ 140737488355328) (h2 : l.length + m.length ≤ 9223372036854775807) (hK : K (l ++ m).length (ga en (l ++ m))) :
    NApp l.length rows.length (ga en l) (listG rows) bytes K := by
  subst e
  refine ⟨⟨_, _, by simp, by simpa using h2, by simpa using h1, fun k hk => by rw [ga_at (by simp; omega), ga_at hk, List.getElem_append_left hk], fun k hk => ?_, hK⟩⟩
  simp at hk
  rw [ga_at (by simp; omega), List.getElem_append_right (by omega)]
  simp [listG, hk]
theorem rfo {f : Fl} (h : F.Ok f) : F.Kn f ∧ F.Pt f := ⟨h.1, h.2.2.1⟩
set_option maxHeartbeats 4000000 in
theorem v_rClaims (v : Ev) (fs : List Fl) : V.FnR Try.prog 15 [.arr 10 fs.length (ga encF fs)] [.agg [.val (.int .i64 v.pa), .val (.int .i64 v.ca), .val (.int .i64 v.gi), .val (.int .i64 v.fo)], .one (.ref 0)] (.tup [.one (.ref 1), .one (.ref 2), .one (.val (.int .i64 (C.xE v fs)))]) [.row 54 3 (C.dV v fs).length (ga encD (C.dV v fs)), .row 56 3 (C.pV v fs).length (ga encP (C.pV v fs))] := by
  have x1 := @C.xE_1 v fs
  have x2 := @C.xE_2 v fs
  have no : ∀ e, C.xE v fs = e → e ≠ 0 → C.dV v fs = [] ∧ C.pV v fs = [] ∧ C.xE v fs = e := fun e h1 h2 => ⟨if_neg (by omega), if_neg (by omega), h1⟩
  refine V.FnR.mk_ V.Tok V.mixed Try.func15 rfl Try.ntmps15 (by kernel_rfl) rfl rfl rfl rfl ?_
  repeat' ((conv => whnf); first | refine V.NCond.mk ?_ | refine V.NIf.not_ ?_ | refine V.NIf.dec_ ?_ | refine V.NIf.no (by omega) ?_ | refine V.NIf.yes (by omega) ?_ | refine V.NIf.mk (fun _ => ?_) (fun _ => ?_) | refine V.NWrap.ok (by omega) (by omega) ?_ | refine V.NWrap.u64 (by omega) (by omega) ?_ | refine V.NLt.mk (by omega) ?_ | refine V.NBoth.mk ?_ ?_ | refine V.NTF.yes (by omega) ?_ | refine V.NTF.no (by omega) ?_ | refine V.NTF.dec ?_ | refine V.NDraw.q (by exact rfl) (by kernel_rfl) ?_ | refine V.NApp.one (by first | omega | (simp; omega)) (by first | omega | (simp; omega)) ?_ | (first | refine V.Fn.k0 (v_rclCheck _) rfl ?_ | refine V.Fn.q0 (v_rclCheck _) rfl ?_ | refine V.Fn.a0 (v_rclCheck _) rfl ?_) | ((first | refine V.Fn.k (v_rfchecks fs) [0] rfl ?_ ?_ | refine V.Fn.q (v_rfchecks fs) [0] rfl ?_ ?_ | refine V.Fn.a (v_rfchecks fs) [0] rfl ?_ ?_); · ((repeat' (first | exact rfl | exact Iff.rfl | exact trivial | exact (fun _ _ => rfl) | exact (fun _ h => absurd h (Nat.not_lt_zero _)) | refine ⟨?_, ?_⟩ | exact Iff.rfl | exact congrArg (fun z => V.SV.one (V.At.val (Value.int .i64 z))) (by omega))); done)) | (refine V.NDraw.any (by kernel_rfl) ?_) | fail)
  all_goals (conv => whnf)
  · have hx : C.xE v fs = 0 := by rw [x2 (by assumption)]; omega
    obtain ⟨hv, hF⟩ := C.xE_ok hx
    obtain ⟨n60, hall, _⟩ := K.checks_all hF
    have ok := (C.ev_ok hv).1
    have eD : C.dV v fs = C.dus v fs := if_pos hx
    have eP : C.pV v fs = C.pos v fs := if_pos hx
    refine V.NLoop.auto (fun (k : Nat) => [(10, .one (.val (.int .i64 k))), (8, .one (.ref 4)), (9, .one (.ref 5))]) (fun (k : Nat) => [(4, .row 54 3 (C.dus v (fs.take k)).length (ga encD (C.dus v (fs.take k)))), (5, .row 56 3 (C.pos v (fs.take k)).length (ga encP (C.pos v (fs.take k))))]) [] [] (fun (k : Nat) => fs.length - k) (fun (k : Nat) => k ≤ fs.length) 0 (Nat.zero_le _) (by repeat' (first | exact rfl | exact Iff.rfl | exact trivial | exact (fun _ _ => rfl) | exact (fun _ h => absurd h (Nat.not_lt_zero _)) | refine ⟨?_, ?_⟩ | exact Iff.rfl | exact congrArg (fun z => V.SV.one (V.At.val (Value.int .i64 z))) (by omega))) (by repeat' (first | exact rfl | exact Iff.rfl | exact trivial | exact (fun _ _ => rfl) | exact (fun _ h => absurd h (Nat.not_lt_zero _)) | refine ⟨?_, ?_⟩ | exact Iff.rfl | exact congrArg (fun z => V.SV.one (V.At.val (Value.int .i64 z))) (by omega))) (fun _ => ⟨rfl, rfl⟩) ?_; (conv => whnf); refine ⟨⟨rfl, rfl⟩, ?_⟩
    rintro k hk
    have ld := C.dus_len v (fs.take k)
    have lp := C.pos_len v (fs.take k)
    rw [List.length_take] at ld lp
    by_cases hlt : k < fs.length
    · have hf := hall _ (getD_mem hlt)
      have hl := K.left_bd hf
      have ed := C.dus_snoc (v := v) hlt
      have ep := C.pos_snoc (v := v) hlt
      have cb := C.cash_bd ok hl
      have fbd := C.fr_bd ok hl
      have d1 : ¬ ((fs.getD k default).pa = v.pa ∧ 0 < F.left (fs.getD k default) ∧ 0 < C.cash v (F.left (fs.getD k default))) → C.duO v (fs.getD k default) = [] := fun q => if_neg q
      have d2 : ((fs.getD k default).pa = v.pa ∧ 0 < F.left (fs.getD k default) ∧ 0 < C.cash v (F.left (fs.getD k default))) → C.duO v (fs.getD k default) = [⟨(fs.getD k default).fr, (fs.getD k default).to, C.cash v (F.left (fs.getD k default))⟩] := fun q => if_pos q
      have p1 : ¬ ((fs.getD k default).pa = v.pa ∧ 0 < F.left (fs.getD k default) ∧ 0 < C.fr v (F.left (fs.getD k default))) → C.poO v (fs.getD k default) = [] := fun q => if_neg q
      have p2 : ((fs.getD k default).pa = v.pa ∧ 0 < F.left (fs.getD k default) ∧ 0 < C.fr v (F.left (fs.getD k default))) → C.poO v (fs.getD k default) = [⟨(fs.getD k default).fr, v.pa, 0 - C.fr v (F.left (fs.getD k default))⟩, ⟨(fs.getD k default).to, v.pa, C.fr v (F.left (fs.getD k default))⟩] := fun q => by rw [Int.zero_sub]; exact if_pos q
      repeat' ((conv => whnf); first | (refine NApp.lits (en := encD) (l := C.dus v (fs.take k)) [⟨(fs.getD k default).fr, (fs.getD k default).to, C.cash v (F.left (fs.getD k default))⟩] rfl (by simp; omega) (by simp; omega) ?_) | (refine NApp.lits (en := encP) (l := C.pos v (fs.take k)) [⟨(fs.getD k default).fr, v.pa, 0 - C.fr v (F.left (fs.getD k default))⟩, ⟨(fs.getD k default).to, v.pa, C.fr v (F.left (fs.getD k default))⟩] rfl (by simp; omega) (by simp; omega) ?_) | refine V.NCond.mk ?_ | refine V.NIf.not_ ?_ | refine V.NIf.dec_ ?_ | refine V.NIf.no (by omega) ?_ | refine V.NIf.yes (by omega) ?_ | refine V.NIf.mk (fun _ => ?_) (fun _ => ?_) | refine V.NWrap.ok (by omega) (by omega) ?_ | refine V.NWrap.u64 (by omega) (by omega) ?_ | refine V.NLt.mk (by omega) ?_ | refine V.NBoth.mk ?_ ?_ | refine V.NTF.yes (by omega) ?_ | refine V.NTF.no (by omega) ?_ | refine V.NTF.dec ?_ | refine V.NDraw.q (by exact rfl) (by kernel_rfl) ?_ | refine V.NApp.one (by first | omega | (simp; omega)) (by first | omega | (simp; omega)) ?_ | (refine NIdx.mk ⟨k, rfl, by omega, ?_⟩) | (first | refine V.Fn.k0 (v_rfopen _ (rfo hf)) rfl ?_ | refine V.Fn.q0 (v_rfopen _ (rfo hf)) rfl ?_ | refine V.Fn.a0 (v_rfopen _ (rfo hf)) rfl ?_) | (first | refine V.Fn.k0 (v_rclcash v _ ok hl) rfl ?_ | refine V.Fn.q0 (v_rclcash v _ ok hl) rfl ?_ | refine V.Fn.a0 (v_rclcash v _ ok hl) rfl ?_) | (first | refine V.Fn.k0 (v_rclfresh v _ ok hl) rfl ?_ | refine V.Fn.q0 (v_rclfresh v _ ok hl) rfl ?_ | refine V.Fn.a0 (v_rclfresh v _ ok hl) rfl ?_) | (refine V.NDraw.any (by kernel_rfl) ?_) | fail)
      all_goals (conv => whnf)
      all_goals first
        | exact V.NBack.at_ (k + 1) [(4, 7), (5, 9)] (by omega) (by omega) (by repeat' (first | exact rfl | exact Iff.rfl | exact trivial | exact (fun _ _ => rfl) | exact (fun _ h => absurd h (Nat.not_lt_zero _)) | refine ⟨?_, ?_⟩ | exact Iff.rfl | exact congrArg (fun z => V.SV.one (V.At.val (Value.int .i64 z))) (by omega))) rfl ⟨ObLe.as_ (by rw [ed, d2 (by omega)]), ObLe.as_ (by rw [ep, p2 (by omega)]), trivial⟩ (by repeat' (first | exact rfl | exact Iff.rfl | exact trivial | exact (fun _ _ => rfl) | exact (fun _ h => absurd h (Nat.not_lt_zero _)) | refine ⟨?_, ?_⟩ | exact Iff.rfl | exact congrArg (fun z => V.SV.one (V.At.val (Value.int .i64 z))) (by omega))) (by repeat' (first | exact rfl | exact Iff.rfl | exact trivial | exact (fun _ _ => rfl) | exact (fun _ h => absurd h (Nat.not_lt_zero _)) | refine ⟨?_, ?_⟩ | exact Iff.rfl | exact congrArg (fun z => V.SV.one (V.At.val (Value.int .i64 z))) (by omega)))
        | exact V.NBack.at_ (k + 1) [(4, 7)] (by omega) (by omega) (by repeat' (first | exact rfl | exact Iff.rfl | exact trivial | exact (fun _ _ => rfl) | exact (fun _ h => absurd h (Nat.not_lt_zero _)) | refine ⟨?_, ?_⟩ | exact Iff.rfl | exact congrArg (fun z => V.SV.one (V.At.val (Value.int .i64 z))) (by omega))) rfl ⟨ObLe.as_ (by rw [ed, d2 (by omega)]), ObLe.as_ (by rw [ep, p1 (by omega), List.append_nil]), trivial⟩ (by repeat' (first | exact rfl | exact Iff.rfl | exact trivial | exact (fun _ _ => rfl) | exact (fun _ h => absurd h (Nat.not_lt_zero _)) | refine ⟨?_, ?_⟩ | exact Iff.rfl | exact congrArg (fun z => V.SV.one (V.At.val (Value.int .i64 z))) (by omega))) (by repeat' (first | exact rfl | exact Iff.rfl | exact trivial | exact (fun _ _ => rfl) | exact (fun _ h => absurd h (Nat.not_lt_zero _)) | refine ⟨?_, ?_⟩ | exact Iff.rfl | exact congrArg (fun z => V.SV.one (V.At.val (Value.int .i64 z))) (by omega)))
        | exact V.NBack.at_ (k + 1) [(5, 7)] (by omega) (by omega) (by repeat' (first | exact rfl | exact Iff.rfl | exact trivial | exact (fun _ _ => rfl) | exact (fun _ h => absurd h (Nat.not_lt_zero _)) | refine ⟨?_, ?_⟩ | exact Iff.rfl | exact congrArg (fun z => V.SV.one (V.At.val (Value.int .i64 z))) (by omega))) rfl ⟨ObLe.as_ (by rw [ed, d1 (by omega), List.append_nil]), ObLe.as_ (by rw [ep, p2 (by omega)]), trivial⟩ (by repeat' (first | exact rfl | exact Iff.rfl | exact trivial | exact (fun _ _ => rfl) | exact (fun _ h => absurd h (Nat.not_lt_zero _)) | refine ⟨?_, ?_⟩ | exact Iff.rfl | exact congrArg (fun z => V.SV.one (V.At.val (Value.int .i64 z))) (by omega))) (by repeat' (first | exact rfl | exact Iff.rfl | exact trivial | exact (fun _ _ => rfl) | exact (fun _ h => absurd h (Nat.not_lt_zero _)) | refine ⟨?_, ?_⟩ | exact Iff.rfl | exact congrArg (fun z => V.SV.one (V.At.val (Value.int .i64 z))) (by omega)))
        | exact V.NBack.at_ (k + 1) [] (by omega) (by omega) (by repeat' (first | exact rfl | exact Iff.rfl | exact trivial | exact (fun _ _ => rfl) | exact (fun _ h => absurd h (Nat.not_lt_zero _)) | refine ⟨?_, ?_⟩ | exact Iff.rfl | exact congrArg (fun z => V.SV.one (V.At.val (Value.int .i64 z))) (by omega))) rfl ⟨ObLe.as_ (by rw [ed, d1 (by omega), List.append_nil]), ObLe.as_ (by rw [ep, p1 (by omega), List.append_nil]), trivial⟩ (by repeat' (first | exact rfl | exact Iff.rfl | exact trivial | exact (fun _ _ => rfl) | exact (fun _ h => absurd h (Nat.not_lt_zero _)) | refine ⟨?_, ?_⟩ | exact Iff.rfl | exact congrArg (fun z => V.SV.one (V.At.val (Value.int .i64 z))) (by omega))) (by repeat' (first | exact rfl | exact Iff.rfl | exact trivial | exact (fun _ _ => rfl) | exact (fun _ h => absurd h (Nat.not_lt_zero _)) | refine ⟨?_, ?_⟩ | exact Iff.rfl | exact congrArg (fun z => V.SV.one (V.At.val (Value.int .i64 z))) (by omega)))
    · obtain rfl : k = fs.length := by omega
      rw [List.take_length] at *
      repeat' ((conv => whnf); first | refine V.NCond.mk ?_ | refine V.NIf.not_ ?_ | refine V.NIf.dec_ ?_ | refine V.NIf.no (by omega) ?_ | refine V.NIf.yes (by omega) ?_ | refine V.NIf.mk (fun _ => ?_) (fun _ => ?_) | refine V.NWrap.ok (by omega) (by omega) ?_ | refine V.NWrap.u64 (by omega) (by omega) ?_ | refine V.NLt.mk (by omega) ?_ | refine V.NBoth.mk ?_ ?_ | refine V.NTF.yes (by omega) ?_ | refine V.NTF.no (by omega) ?_ | refine V.NTF.dec ?_ | refine V.NDraw.q (by exact rfl) (by kernel_rfl) ?_ | refine V.NApp.one (by first | omega | (simp; omega)) (by first | omega | (simp; omega)) ?_ | (refine V.NDraw.any (by kernel_rfl) ?_) | fail)
      all_goals (conv => whnf)
      refine NRet.mk_ [some 4, some 5] rfl ?_ ?_
      · exact ⟨rfl, rfl, V.fin1 hx, trivial⟩
      · exact ⟨ObLe.as_ eD, ObLe.as_ eP, trivial⟩
  · obtain ⟨a, b, c⟩ := no _ (x2 (by assumption)) (by assumption)
    rw [a, b, c]
    refine NRet.mk_ [some 4, some 5] rfl ?_ ?_
    · exact ⟨rfl, rfl, rfl, trivial⟩
    · exact ⟨⟨rfl, rfl, rfl, fun k hk => absurd hk (Nat.not_lt_zero _)⟩, ⟨rfl, rfl, rfl, fun k hk => absurd hk (Nat.not_lt_zero _)⟩, trivial⟩
  · obtain ⟨a, b, c⟩ := no _ (x1 (by assumption)) (by assumption)
    rw [a, b, c]
    refine NRet.mk_ [some 4, some 5] rfl ?_ ?_
    · exact ⟨rfl, rfl, rfl, trivial⟩
    · exact ⟨⟨rfl, rfl, rfl, fun k hk => absurd hk (Nat.not_lt_zero _)⟩, ⟨rfl, rfl, rfl, fun k hk => absurd hk (Nat.not_lt_zero _)⟩, trivial⟩
set_option maxHeartbeats 4000000 in
theorem v_rGrow (v : Ev) (fs : List Fl) (hn : fs.length ≤ 9223372036854775807) : V.FnR Try.prog 16 [.arr 10 fs.length (ga encF fs)] [.agg [.val (.int .i64 v.pa), .val (.int .i64 v.ca), .val (.int .i64 v.gi), .val (.int .i64 v.fo)], .one (.ref 0)] (.tup [.one (.ref 1), .one (.val (.int .i64 (C.gE v fs)))]) [.row 48 10 (C.gV v fs).length (ga encF (C.gV v fs))] := by
  have x1 := @C.xE_1 v fs
  have x2 := @C.xE_2 v fs
  refine V.FnR.mk_ V.Tok V.mixed Try.func16 rfl Try.ntmps16 (by kernel_rfl) rfl rfl rfl rfl ?_
  repeat' ((conv => whnf); first | refine V.NCond.mk ?_ | refine V.NIf.not_ ?_ | refine V.NIf.dec_ ?_ | refine V.NIf.no (by omega) ?_ | refine V.NIf.yes (by omega) ?_ | refine V.NIf.mk (fun _ => ?_) (fun _ => ?_) | refine V.NWrap.ok (by omega) (by omega) ?_ | refine V.NWrap.u64 (by omega) (by omega) ?_ | refine V.NLt.mk (by omega) ?_ | refine V.NBoth.mk ?_ ?_ | refine V.NTF.yes (by omega) ?_ | refine V.NTF.no (by omega) ?_ | refine V.NTF.dec ?_ | refine V.NDraw.q (by exact rfl) (by kernel_rfl) ?_ | refine V.NApp.one (by first | omega | (simp; omega)) (by first | omega | (simp; omega)) ?_ | (first | refine V.Fn.k0 (v_rclCheck _) rfl ?_ | refine V.Fn.q0 (v_rclCheck _) rfl ?_ | refine V.Fn.a0 (v_rclCheck _) rfl ?_) | ((first | refine V.Fn.k (v_rfchecks fs) [0] rfl ?_ ?_ | refine V.Fn.q (v_rfchecks fs) [0] rfl ?_ ?_ | refine V.Fn.a (v_rfchecks fs) [0] rfl ?_ ?_); · ((repeat' (first | exact rfl | exact Iff.rfl | exact trivial | exact (fun _ _ => rfl) | exact (fun _ h => absurd h (Nat.not_lt_zero _)) | refine ⟨?_, ?_⟩ | exact Iff.rfl | exact congrArg (fun z => V.SV.one (V.At.val (Value.int .i64 z))) (by omega))); done)) | (refine NOne.mk ?_ ?_; · (intro k hk; rfl)) | (refine NApp.all_ (by have := (K.checks_all (by assumption)).1; simp; omega) (by omega) ?_) | (refine V.NDraw.any (by kernel_rfl) ?_) | fail)
  all_goals (conv => whnf)
  · have hx : C.xE v fs = 0 := by rw [x2 (by assumption)]; assumption
    obtain ⟨hv, hF⟩ := C.xE_ok hx
    obtain ⟨n60, hall, _⟩ := K.checks_all hF
    have ok := (C.ev_ok hv).1
    refine V.NLoop.auto (fun (k : Nat) => [(8, .one (.val (.int .i64 k))), (7, .one (.ref 4))]) (fun (k : Nat) => [(4, .row 48 10 (C.grk v fs k).length (ga encF (C.grk v fs k)))]) [] [] (fun (k : Nat) => fs.length - k) (fun (k : Nat) => k ≤ fs.length ∧ ∀ f ∈ fs.take k, ¬ 1073741824 < (C.gr v f).un) 0 ⟨Nat.zero_le _, by simp⟩ (by repeat' (first | exact rfl | exact Iff.rfl | exact trivial | exact (fun _ _ => rfl) | exact (fun _ h => absurd h (Nat.not_lt_zero _)) | refine ⟨?_, ?_⟩ | exact Iff.rfl | exact congrArg (fun z => V.SV.one (V.At.val (Value.int .i64 z))) (by omega))) (by repeat' (first | exact rfl | exact Iff.rfl | exact trivial | exact (fun _ _ => rfl) | exact (fun _ h => absurd h (Nat.not_lt_zero _)) | refine ⟨?_, ?_⟩ | exact Iff.rfl | exact congrArg (fun z => V.SV.one (V.At.val (Value.int .i64 z))) (by omega))) (fun _ => ⟨rfl, rfl⟩) ?_; (conv => whnf); refine ⟨⟨rfl, rfl⟩, ?_⟩
    rintro k ⟨hk, hJ⟩
    have gl := C.grk_len v fs k
    by_cases hlt : k < fs.length
    · have hf := hall _ (getD_mem hlt)
      have hl := K.left_bd hf
      have hun := (F.ok_bounds hf).2.1
      have hun2 := (F.ok_bounds hf).2.2.1
      have fbd := C.fr_bd ok hl
      have ga := C.grk_at (v := v) hlt
      have gsc := C.grk_succ (v := v) hlt
      have gsm := C.grk_same (v := v) hlt
      have gp := C.gr_pos (v := v) (f := fs.getD k default)
      have gn : ¬ (fs.getD k default).pa = v.pa → C.gr v (fs.getD k default) = fs.getD k default := fun q => if_neg q
      have sf : ∀ x : Fl, ((C.grk v fs k).set k x).getD k default = x := fun x => by rw [getD_at (by simp; omega)]; simp
      have vo := v_rfopen ((C.grk v fs k).getD k default) (by rw [ga]; exact rfo hf)
      have vf := v_rclfresh v (F.left ((C.grk v fs k).getD k default)) ok (by rw [ga]; exact hl)
      have eun : ((C.grk v fs k).getD k default).un = (fs.getD k default).un := by rw [ga]
      have epa : ((C.grk v fs k).getD k default).pa = (fs.getD k default).pa := by rw [ga]
      have efr : C.fr v (F.left ((C.grk v fs k).getD k default)) = C.fr v (F.left (fs.getD k default)) := by rw [ga]
      have sun : (((C.grk v fs k).set k (C.up ((C.grk v fs k).getD k default) (C.fr v (F.left ((C.grk v fs k).getD k default))))).getD k default).un = (fs.getD k default).un + C.fr v (F.left (fs.getD k default)) := by rw [sf, ga]; rfl
      repeat' ((conv => whnf); first | refine V.NCond.mk ?_ | refine V.NIf.not_ ?_ | refine V.NIf.dec_ ?_ | refine V.NIf.no (by omega) ?_ | refine V.NIf.yes (by omega) ?_ | refine V.NIf.mk (fun _ => ?_) (fun _ => ?_) | refine V.NWrap.ok (by omega) (by omega) ?_ | refine V.NWrap.u64 (by omega) (by omega) ?_ | refine V.NLt.mk (by omega) ?_ | refine V.NBoth.mk ?_ ?_ | refine V.NTF.yes (by omega) ?_ | refine V.NTF.no (by omega) ?_ | refine V.NTF.dec ?_ | refine V.NDraw.q (by exact rfl) (by kernel_rfl) ?_ | refine V.NApp.one (by first | omega | (simp; omega)) (by first | omega | (simp; omega)) ?_ | (refine NIdx.mk ⟨k, rfl, by omega, ?_⟩) | (refine NIdx.mk ⟨k, rfl, by simp only [List.length_set]; omega, ?_⟩) | (first | refine V.Fn.k0 (vo) rfl ?_ | refine V.Fn.q0 (vo) rfl ?_ | refine V.Fn.a0 (vo) rfl ?_) | (first | refine V.Fn.k0 (vf) rfl ?_ | refine V.Fn.q0 (vf) rfl ?_ | refine V.Fn.a0 (vf) rfl ?_) | (refine NPut.to (C.up ((C.grk v fs k).getD k default) (C.fr v (F.left ((C.grk v fs k).getD k default)))) rfl rfl ?_) | (refine V.NDraw.any (by kernel_rfl) ?_) | fail)
      all_goals (conv => whnf)
      · have hp : (fs.getD k default).pa = v.pa := by omega
        obtain ⟨a, b⟩ := C.g_2 (v := v) (fs := fs) hx ⟨_, getD_mem hlt, by rw [gp hp]; show 1073741824 < (fs.getD k default).un + _; omega⟩
        exact retE 5 a b
      · have hp : (fs.getD k default).pa = v.pa := by omega
        exact V.NBack.at_ (k + 1) [] ⟨by omega, all_snoc hlt hJ (by rw [gp hp]; show ¬ 1073741824 < (fs.getD k default).un + _; omega)⟩ (by omega) (by repeat' (first | exact rfl | exact Iff.rfl | exact trivial | exact (fun _ _ => rfl) | exact (fun _ h => absurd h (Nat.not_lt_zero _)) | refine ⟨?_, ?_⟩ | exact Iff.rfl | exact congrArg (fun z => V.SV.one (V.At.val (Value.int .i64 z))) (by omega))) rfl ⟨ObLe.is_ (by rw [ga, ← gp hp, gsc]) (by simp [C.grk_len]), trivial⟩ (by repeat' (first | exact rfl | exact Iff.rfl | exact trivial | exact (fun _ _ => rfl) | exact (fun _ h => absurd h (Nat.not_lt_zero _)) | refine ⟨?_, ?_⟩ | exact Iff.rfl | exact congrArg (fun z => V.SV.one (V.At.val (Value.int .i64 z))) (by omega))) (by repeat' (first | exact rfl | exact Iff.rfl | exact trivial | exact (fun _ _ => rfl) | exact (fun _ h => absurd h (Nat.not_lt_zero _)) | refine ⟨?_, ?_⟩ | exact Iff.rfl | exact congrArg (fun z => V.SV.one (V.At.val (Value.int .i64 z))) (by omega)))
      · exact V.NBack.at_ (k + 1) [] ⟨by omega, all_snoc hlt hJ (by rw [gn (by omega)]; omega)⟩ (by omega) (by repeat' (first | exact rfl | exact Iff.rfl | exact trivial | exact (fun _ _ => rfl) | exact (fun _ h => absurd h (Nat.not_lt_zero _)) | refine ⟨?_, ?_⟩ | exact Iff.rfl | exact congrArg (fun z => V.SV.one (V.At.val (Value.int .i64 z))) (by omega))) rfl ⟨ObLe.as_ (gsm (gn (by omega))), trivial⟩ (by repeat' (first | exact rfl | exact Iff.rfl | exact trivial | exact (fun _ _ => rfl) | exact (fun _ h => absurd h (Nat.not_lt_zero _)) | refine ⟨?_, ?_⟩ | exact Iff.rfl | exact congrArg (fun z => V.SV.one (V.At.val (Value.int .i64 z))) (by omega))) (by repeat' (first | exact rfl | exact Iff.rfl | exact trivial | exact (fun _ _ => rfl) | exact (fun _ h => absurd h (Nat.not_lt_zero _)) | refine ⟨?_, ?_⟩ | exact Iff.rfl | exact congrArg (fun z => V.SV.one (V.At.val (Value.int .i64 z))) (by omega)))
    · obtain rfl : k = fs.length := by omega
      rw [List.take_length] at hJ
      obtain ⟨a, b⟩ := C.g_3 hx (fun ⟨f, h1, h2⟩ => hJ f h1 h2)
      repeat' ((conv => whnf); first | refine V.NCond.mk ?_ | refine V.NIf.not_ ?_ | refine V.NIf.dec_ ?_ | refine V.NIf.no (by omega) ?_ | refine V.NIf.yes (by omega) ?_ | refine V.NIf.mk (fun _ => ?_) (fun _ => ?_) | refine V.NWrap.ok (by omega) (by omega) ?_ | refine V.NWrap.u64 (by omega) (by omega) ?_ | refine V.NLt.mk (by omega) ?_ | refine V.NBoth.mk ?_ ?_ | refine V.NTF.yes (by omega) ?_ | refine V.NTF.no (by omega) ?_ | refine V.NTF.dec ?_ | refine V.NDraw.q (by exact rfl) (by kernel_rfl) ?_ | refine V.NApp.one (by first | omega | (simp; omega)) (by first | omega | (simp; omega)) ?_ | (refine V.NDraw.any (by kernel_rfl) ?_) | fail)
      all_goals (conv => whnf)
      refine NRet.mk_ [some 4] rfl ?_ ?_
      · exact ⟨rfl, V.fin1 a, trivial⟩
      · exact ⟨ObLe.as_ (b.trans (C.grk_end v fs).symm), trivial⟩
  · have e := x2 (by assumption)
    obtain ⟨a, b⟩ := C.g_1 (v := v) (fs := fs) (by rw [e]; assumption)
    exact retE 3 (a.trans e) b
  · have e := x1 (by assumption)
    obtain ⟨a, b⟩ := C.g_1 (v := v) (fs := fs) (by rw [e]; assumption)
    exact retE 3 (a.trans e) b
end Go.Proofs.Yteblbhbfdfifpaa

/- Plain facts on lots. -/
namespace Go.Proofs.Yteblbhbfdfifpaa
open Go
structure Lt where
  day : Int
  un : Int
  co : Int
instance : Inhabited Lt := ⟨⟨0, 0, 0⟩⟩
def encL (l : Lt) : List Go.Value := [.int .i64 l.day, .int .i64 l.un, .int .i64 l.co]
end Go.Proofs.Yteblbhbfdfifpaa

/- Are two lists one? -/
namespace Go.Proofs.Yteblbhbfdfifpaa
open Go Go.RowKit V
set_option maxRecDepth 100000
set_option linter.unusedVariables false
instance : DecidableEq Du := fun x y => decidable_of_iff (x.fr = y.fr ∧ x.to = y.to ∧ x.am = y.am) ⟨fun h => by cases x; cases y; simp_all, fun h => by subst h; simp⟩
theorem Du_ne {x y : Du} (h : ¬ (x.fr = y.fr ∧ x.to = y.to ∧ x.am = y.am ∧ True)) : x ≠ y := fun e => by subst e; exact h (by simp)
theorem Du_eq {x y : Du} (h : x.fr = y.fr ∧ x.to = y.to ∧ x.am = y.am ∧ True) : x = y := by cases x; cases y; simp_all
theorem v_samedues (a b : List Du) (ha : a.length ≤ 9223372036854775807) : V.Fn Try.prog 20 [.arr 3 a.length (ga encD a), .arr 3 b.length (ga encD b)] [.one (.ref 0), .one (.ref 1)] (.bool (decide (a = b))) := by
  refine V.Fn.mk_ V.Tok V.mixed Try.func20 rfl Try.ntmps20 (by kernel_rfl) rfl rfl ?_
  repeat' ((conv => whnf); first | refine V.NCond.mk ?_ | refine V.NIf.not_ ?_ | refine V.NIf.dec_ ?_ | refine V.NIf.no (by omega) ?_ | refine V.NIf.yes (by omega) ?_ | refine V.NIf.mk (fun _ => ?_) (fun _ => ?_) | refine V.NWrap.ok (by omega) (by omega) ?_ | refine V.NWrap.u64 (by omega) (by omega) ?_ | refine V.NLt.mk (by omega) ?_ | refine V.NBoth.mk ?_ ?_ | refine V.NTF.yes (by omega) ?_ | refine V.NTF.no (by omega) ?_ | refine V.NTF.dec ?_ | refine V.NDraw.q (by exact rfl) (by kernel_rfl) ?_ | refine V.NApp.one (by first | omega | (simp; omega)) (by first | omega | (simp; omega)) ?_ | (refine V.NDraw.any (by kernel_rfl) ?_) | fail)
  rotate_left
  · exact congrArg Value.bool (decide_eq_false (by rintro rfl; omega)).symm
  (conv => whnf)
  rename_i hl
  have hl : a.length = b.length := by omega
  refine V.NLoop.auto (fun (k : Nat) => [(5, .one (.val (.int .i64 k)))]) (fun (k : Nat) => []) [] [] (fun (k : Nat) => a.length - k) (fun (k : Nat) => k ≤ a.length ∧ a.take k = b.take k) 0 ⟨by omega, by simp⟩ (by repeat' (first | exact rfl | exact Iff.rfl | exact trivial | exact (fun _ _ => rfl) | exact (fun _ h => absurd h (Nat.not_lt_zero _)) | refine ⟨?_, ?_⟩ | exact Iff.rfl | exact congrArg (fun z => V.SV.one (V.At.val (Value.int .i64 z))) (by omega))) (by repeat' (first | exact rfl | exact Iff.rfl | exact trivial | exact (fun _ _ => rfl) | exact (fun _ h => absurd h (Nat.not_lt_zero _)) | refine ⟨?_, ?_⟩ | exact Iff.rfl | exact congrArg (fun z => V.SV.one (V.At.val (Value.int .i64 z))) (by omega))) (fun _ => ⟨rfl, rfl⟩) ?_; (conv => whnf); refine ⟨⟨rfl, rfl⟩, ?_⟩
  rintro k ⟨hk, hJ⟩
  by_cases hlt : k < a.length
  · have e1 := getD_at (l := a) (by omega)
    have e2 := getD_at (l := b) (k := k) (by omega)
    repeat' ((conv => whnf); first | refine V.NCond.mk ?_ | refine V.NIf.not_ ?_ | refine V.NIf.dec_ ?_ | refine V.NIf.no (by omega) ?_ | refine V.NIf.yes (by omega) ?_ | refine V.NIf.mk (fun _ => ?_) (fun _ => ?_) | refine V.NWrap.ok (by omega) (by omega) ?_ | refine V.NWrap.u64 (by omega) (by omega) ?_ | refine V.NLt.mk (by omega) ?_ | refine V.NBoth.mk ?_ ?_ | refine V.NTF.yes (by omega) ?_ | refine V.NTF.no (by omega) ?_ | refine V.NTF.dec ?_ | refine V.NDraw.q (by exact rfl) (by kernel_rfl) ?_ | refine V.NApp.one (by first | omega | (simp; omega)) (by first | omega | (simp; omega)) ?_ | (refine NIdx.mk ⟨k, rfl, by omega, ?_⟩) | (refine V.NDraw.any (by kernel_rfl) ?_) | fail)
    all_goals (conv => whnf)
    · rename_i q
      exact V.NBack.at_ (k + 1) [] ⟨by omega, by rw [List.take_succ_eq_append_getElem hlt, List.take_succ_eq_append_getElem (by omega), hJ, ← e1, ← e2, Du_eq q]⟩ (by omega) (by repeat' (first | exact rfl | exact Iff.rfl | exact trivial | exact (fun _ _ => rfl) | exact (fun _ h => absurd h (Nat.not_lt_zero _)) | refine ⟨?_, ?_⟩ | exact Iff.rfl | exact congrArg (fun z => V.SV.one (V.At.val (Value.int .i64 z))) (by omega))) rfl (by repeat' (first | exact rfl | exact Iff.rfl | exact trivial | exact (fun _ _ => rfl) | exact (fun _ h => absurd h (Nat.not_lt_zero _)) | refine ⟨?_, ?_⟩ | exact Iff.rfl | exact congrArg (fun z => V.SV.one (V.At.val (Value.int .i64 z))) (by omega))) (by repeat' (first | exact rfl | exact Iff.rfl | exact trivial | exact (fun _ _ => rfl) | exact (fun _ h => absurd h (Nat.not_lt_zero _)) | refine ⟨?_, ?_⟩ | exact Iff.rfl | exact congrArg (fun z => V.SV.one (V.At.val (Value.int .i64 z))) (by omega))) (by repeat' (first | exact rfl | exact Iff.rfl | exact trivial | exact (fun _ _ => rfl) | exact (fun _ h => absurd h (Nat.not_lt_zero _)) | refine ⟨?_, ?_⟩ | exact Iff.rfl | exact congrArg (fun z => V.SV.one (V.At.val (Value.int .i64 z))) (by omega)))
    · rename_i q
      exact congrArg Value.bool (decide_eq_false (by rintro rfl; exact Du_ne q rfl)).symm
  · obtain rfl : k = a.length := by omega
    repeat' ((conv => whnf); first | refine V.NCond.mk ?_ | refine V.NIf.not_ ?_ | refine V.NIf.dec_ ?_ | refine V.NIf.no (by omega) ?_ | refine V.NIf.yes (by omega) ?_ | refine V.NIf.mk (fun _ => ?_) (fun _ => ?_) | refine V.NWrap.ok (by omega) (by omega) ?_ | refine V.NWrap.u64 (by omega) (by omega) ?_ | refine V.NLt.mk (by omega) ?_ | refine V.NBoth.mk ?_ ?_ | refine V.NTF.yes (by omega) ?_ | refine V.NTF.no (by omega) ?_ | refine V.NTF.dec ?_ | refine V.NDraw.q (by exact rfl) (by kernel_rfl) ?_ | refine V.NApp.one (by first | omega | (simp; omega)) (by first | omega | (simp; omega)) ?_ | (refine V.NDraw.any (by kernel_rfl) ?_) | fail)
    (conv => whnf)
    refine congrArg Value.bool (decide_eq_true ?_).symm
    rw [List.take_length, List.take_of_length_le (by omega)] at hJ
    exact hJ
instance : DecidableEq Po := fun x y => decidable_of_iff (x.ac = y.ac ∧ x.ut = y.ut ∧ x.am = y.am) ⟨fun h => by cases x; cases y; simp_all, fun h => by subst h; simp⟩
theorem Po_ne {x y : Po} (h : ¬ (x.ac = y.ac ∧ x.ut = y.ut ∧ x.am = y.am ∧ True)) : x ≠ y := fun e => by subst e; exact h (by simp)
theorem Po_eq {x y : Po} (h : x.ac = y.ac ∧ x.ut = y.ut ∧ x.am = y.am ∧ True) : x = y := by cases x; cases y; simp_all
theorem v_sameposts (a b : List Po) (ha : a.length ≤ 9223372036854775807) : V.Fn Try.prog 21 [.arr 3 a.length (ga encP a), .arr 3 b.length (ga encP b)] [.one (.ref 0), .one (.ref 1)] (.bool (decide (a = b))) := by
  refine V.Fn.mk_ V.Tok V.mixed Try.func21 rfl Try.ntmps21 (by kernel_rfl) rfl rfl ?_
  repeat' ((conv => whnf); first | refine V.NCond.mk ?_ | refine V.NIf.not_ ?_ | refine V.NIf.dec_ ?_ | refine V.NIf.no (by omega) ?_ | refine V.NIf.yes (by omega) ?_ | refine V.NIf.mk (fun _ => ?_) (fun _ => ?_) | refine V.NWrap.ok (by omega) (by omega) ?_ | refine V.NWrap.u64 (by omega) (by omega) ?_ | refine V.NLt.mk (by omega) ?_ | refine V.NBoth.mk ?_ ?_ | refine V.NTF.yes (by omega) ?_ | refine V.NTF.no (by omega) ?_ | refine V.NTF.dec ?_ | refine V.NDraw.q (by exact rfl) (by kernel_rfl) ?_ | refine V.NApp.one (by first | omega | (simp; omega)) (by first | omega | (simp; omega)) ?_ | (refine V.NDraw.any (by kernel_rfl) ?_) | fail)
  rotate_left
  · exact congrArg Value.bool (decide_eq_false (by rintro rfl; omega)).symm
  (conv => whnf)
  rename_i hl
  have hl : a.length = b.length := by omega
  refine V.NLoop.auto (fun (k : Nat) => [(5, .one (.val (.int .i64 k)))]) (fun (k : Nat) => []) [] [] (fun (k : Nat) => a.length - k) (fun (k : Nat) => k ≤ a.length ∧ a.take k = b.take k) 0 ⟨by omega, by simp⟩ (by repeat' (first | exact rfl | exact Iff.rfl | exact trivial | exact (fun _ _ => rfl) | exact (fun _ h => absurd h (Nat.not_lt_zero _)) | refine ⟨?_, ?_⟩ | exact Iff.rfl | exact congrArg (fun z => V.SV.one (V.At.val (Value.int .i64 z))) (by omega))) (by repeat' (first | exact rfl | exact Iff.rfl | exact trivial | exact (fun _ _ => rfl) | exact (fun _ h => absurd h (Nat.not_lt_zero _)) | refine ⟨?_, ?_⟩ | exact Iff.rfl | exact congrArg (fun z => V.SV.one (V.At.val (Value.int .i64 z))) (by omega))) (fun _ => ⟨rfl, rfl⟩) ?_; (conv => whnf); refine ⟨⟨rfl, rfl⟩, ?_⟩
  rintro k ⟨hk, hJ⟩
  by_cases hlt : k < a.length
  · have e1 := getD_at (l := a) (by omega)
    have e2 := getD_at (l := b) (k := k) (by omega)
    repeat' ((conv => whnf); first | refine V.NCond.mk ?_ | refine V.NIf.not_ ?_ | refine V.NIf.dec_ ?_ | refine V.NIf.no (by omega) ?_ | refine V.NIf.yes (by omega) ?_ | refine V.NIf.mk (fun _ => ?_) (fun _ => ?_) | refine V.NWrap.ok (by omega) (by omega) ?_ | refine V.NWrap.u64 (by omega) (by omega) ?_ | refine V.NLt.mk (by omega) ?_ | refine V.NBoth.mk ?_ ?_ | refine V.NTF.yes (by omega) ?_ | refine V.NTF.no (by omega) ?_ | refine V.NTF.dec ?_ | refine V.NDraw.q (by exact rfl) (by kernel_rfl) ?_ | refine V.NApp.one (by first | omega | (simp; omega)) (by first | omega | (simp; omega)) ?_ | (refine NIdx.mk ⟨k, rfl, by omega, ?_⟩) | (refine V.NDraw.any (by kernel_rfl) ?_) | fail)
    all_goals (conv => whnf)
    · rename_i q
      exact V.NBack.at_ (k + 1) [] ⟨by omega, by rw [List.take_succ_eq_append_getElem hlt, List.take_succ_eq_append_getElem (by omega), hJ, ← e1, ← e2, Po_eq q]⟩ (by omega) (by repeat' (first | exact rfl | exact Iff.rfl | exact trivial | exact (fun _ _ => rfl) | exact (fun _ h => absurd h (Nat.not_lt_zero _)) | refine ⟨?_, ?_⟩ | exact Iff.rfl | exact congrArg (fun z => V.SV.one (V.At.val (Value.int .i64 z))) (by omega))) rfl (by repeat' (first | exact rfl | exact Iff.rfl | exact trivial | exact (fun _ _ => rfl) | exact (fun _ h => absurd h (Nat.not_lt_zero _)) | refine ⟨?_, ?_⟩ | exact Iff.rfl | exact congrArg (fun z => V.SV.one (V.At.val (Value.int .i64 z))) (by omega))) (by repeat' (first | exact rfl | exact Iff.rfl | exact trivial | exact (fun _ _ => rfl) | exact (fun _ h => absurd h (Nat.not_lt_zero _)) | refine ⟨?_, ?_⟩ | exact Iff.rfl | exact congrArg (fun z => V.SV.one (V.At.val (Value.int .i64 z))) (by omega))) (by repeat' (first | exact rfl | exact Iff.rfl | exact trivial | exact (fun _ _ => rfl) | exact (fun _ h => absurd h (Nat.not_lt_zero _)) | refine ⟨?_, ?_⟩ | exact Iff.rfl | exact congrArg (fun z => V.SV.one (V.At.val (Value.int .i64 z))) (by omega)))
    · rename_i q
      exact congrArg Value.bool (decide_eq_false (by rintro rfl; exact Po_ne q rfl)).symm
  · obtain rfl : k = a.length := by omega
    repeat' ((conv => whnf); first | refine V.NCond.mk ?_ | refine V.NIf.not_ ?_ | refine V.NIf.dec_ ?_ | refine V.NIf.no (by omega) ?_ | refine V.NIf.yes (by omega) ?_ | refine V.NIf.mk (fun _ => ?_) (fun _ => ?_) | refine V.NWrap.ok (by omega) (by omega) ?_ | refine V.NWrap.u64 (by omega) (by omega) ?_ | refine V.NLt.mk (by omega) ?_ | refine V.NBoth.mk ?_ ?_ | refine V.NTF.yes (by omega) ?_ | refine V.NTF.no (by omega) ?_ | refine V.NTF.dec ?_ | refine V.NDraw.q (by exact rfl) (by kernel_rfl) ?_ | refine V.NApp.one (by first | omega | (simp; omega)) (by first | omega | (simp; omega)) ?_ | (refine V.NDraw.any (by kernel_rfl) ?_) | fail)
    (conv => whnf)
    refine congrArg Value.bool (decide_eq_true ?_).symm
    rw [List.take_length, List.take_of_length_le (by omega)] at hJ
    exact hJ
instance : DecidableEq Fl := fun x y => decidable_of_iff (x.id = y.id ∧ x.fr = y.fr ∧ x.to = y.to ∧ x.cl = y.cl ∧ x.pa = y.pa ∧ x.day = y.day ∧ x.un = y.un ∧ x.de = y.de ∧ x.bo = y.bo ∧ x.pd = y.pd) ⟨fun h => by cases x; cases y; simp_all, fun h => by subst h; simp⟩
theorem Fl_ne {x y : Fl} (h : ¬ (x.id = y.id ∧ x.fr = y.fr ∧ x.to = y.to ∧ x.cl = y.cl ∧ x.pa = y.pa ∧ x.day = y.day ∧ x.un = y.un ∧ x.de = y.de ∧ x.bo = y.bo ∧ x.pd = y.pd ∧ True)) : x ≠ y := fun e => by subst e; exact h (by simp)
theorem Fl_eq {x y : Fl} (h : x.id = y.id ∧ x.fr = y.fr ∧ x.to = y.to ∧ x.cl = y.cl ∧ x.pa = y.pa ∧ x.day = y.day ∧ x.un = y.un ∧ x.de = y.de ∧ x.bo = y.bo ∧ x.pd = y.pd ∧ True) : x = y := by cases x; cases y; simp_all
theorem v_samefails (a b : List Fl) (ha : a.length ≤ 9223372036854775807) : V.Fn Try.prog 22 [.arr 10 a.length (ga encF a), .arr 10 b.length (ga encF b)] [.one (.ref 0), .one (.ref 1)] (.bool (decide (a = b))) := by
  refine V.Fn.mk_ V.Tok V.mixed Try.func22 rfl Try.ntmps22 (by kernel_rfl) rfl rfl ?_
  repeat' ((conv => whnf); first | refine V.NCond.mk ?_ | refine V.NIf.not_ ?_ | refine V.NIf.dec_ ?_ | refine V.NIf.no (by omega) ?_ | refine V.NIf.yes (by omega) ?_ | refine V.NIf.mk (fun _ => ?_) (fun _ => ?_) | refine V.NWrap.ok (by omega) (by omega) ?_ | refine V.NWrap.u64 (by omega) (by omega) ?_ | refine V.NLt.mk (by omega) ?_ | refine V.NBoth.mk ?_ ?_ | refine V.NTF.yes (by omega) ?_ | refine V.NTF.no (by omega) ?_ | refine V.NTF.dec ?_ | refine V.NDraw.q (by exact rfl) (by kernel_rfl) ?_ | refine V.NApp.one (by first | omega | (simp; omega)) (by first | omega | (simp; omega)) ?_ | (refine V.NDraw.any (by kernel_rfl) ?_) | fail)
  rotate_left
  · exact congrArg Value.bool (decide_eq_false (by rintro rfl; omega)).symm
  (conv => whnf)
  rename_i hl
  have hl : a.length = b.length := by omega
  refine V.NLoop.auto (fun (k : Nat) => [(5, .one (.val (.int .i64 k)))]) (fun (k : Nat) => []) [] [] (fun (k : Nat) => a.length - k) (fun (k : Nat) => k ≤ a.length ∧ a.take k = b.take k) 0 ⟨by omega, by simp⟩ (by repeat' (first | exact rfl | exact Iff.rfl | exact trivial | exact (fun _ _ => rfl) | exact (fun _ h => absurd h (Nat.not_lt_zero _)) | refine ⟨?_, ?_⟩ | exact Iff.rfl | exact congrArg (fun z => V.SV.one (V.At.val (Value.int .i64 z))) (by omega))) (by repeat' (first | exact rfl | exact Iff.rfl | exact trivial | exact (fun _ _ => rfl) | exact (fun _ h => absurd h (Nat.not_lt_zero _)) | refine ⟨?_, ?_⟩ | exact Iff.rfl | exact congrArg (fun z => V.SV.one (V.At.val (Value.int .i64 z))) (by omega))) (fun _ => ⟨rfl, rfl⟩) ?_; (conv => whnf); refine ⟨⟨rfl, rfl⟩, ?_⟩
  rintro k ⟨hk, hJ⟩
  by_cases hlt : k < a.length
  · have e1 := getD_at (l := a) (by omega)
    have e2 := getD_at (l := b) (k := k) (by omega)
    repeat' ((conv => whnf); first | refine V.NCond.mk ?_ | refine V.NIf.not_ ?_ | refine V.NIf.dec_ ?_ | refine V.NIf.no (by omega) ?_ | refine V.NIf.yes (by omega) ?_ | refine V.NIf.mk (fun _ => ?_) (fun _ => ?_) | refine V.NWrap.ok (by omega) (by omega) ?_ | refine V.NWrap.u64 (by omega) (by omega) ?_ | refine V.NLt.mk (by omega) ?_ | refine V.NBoth.mk ?_ ?_ | refine V.NTF.yes (by omega) ?_ | refine V.NTF.no (by omega) ?_ | refine V.NTF.dec ?_ | refine V.NDraw.q (by exact rfl) (by kernel_rfl) ?_ | refine V.NApp.one (by first | omega | (simp; omega)) (by first | omega | (simp; omega)) ?_ | (refine NIdx.mk ⟨k, rfl, by omega, ?_⟩) | (refine V.NDraw.any (by kernel_rfl) ?_) | fail)
    all_goals (conv => whnf)
    · rename_i q
      exact V.NBack.at_ (k + 1) [] ⟨by omega, by rw [List.take_succ_eq_append_getElem hlt, List.take_succ_eq_append_getElem (by omega), hJ, ← e1, ← e2, Fl_eq q]⟩ (by omega) (by repeat' (first | exact rfl | exact Iff.rfl | exact trivial | exact (fun _ _ => rfl) | exact (fun _ h => absurd h (Nat.not_lt_zero _)) | refine ⟨?_, ?_⟩ | exact Iff.rfl | exact congrArg (fun z => V.SV.one (V.At.val (Value.int .i64 z))) (by omega))) rfl (by repeat' (first | exact rfl | exact Iff.rfl | exact trivial | exact (fun _ _ => rfl) | exact (fun _ h => absurd h (Nat.not_lt_zero _)) | refine ⟨?_, ?_⟩ | exact Iff.rfl | exact congrArg (fun z => V.SV.one (V.At.val (Value.int .i64 z))) (by omega))) (by repeat' (first | exact rfl | exact Iff.rfl | exact trivial | exact (fun _ _ => rfl) | exact (fun _ h => absurd h (Nat.not_lt_zero _)) | refine ⟨?_, ?_⟩ | exact Iff.rfl | exact congrArg (fun z => V.SV.one (V.At.val (Value.int .i64 z))) (by omega))) (by repeat' (first | exact rfl | exact Iff.rfl | exact trivial | exact (fun _ _ => rfl) | exact (fun _ h => absurd h (Nat.not_lt_zero _)) | refine ⟨?_, ?_⟩ | exact Iff.rfl | exact congrArg (fun z => V.SV.one (V.At.val (Value.int .i64 z))) (by omega)))
    · rename_i q
      exact congrArg Value.bool (decide_eq_false (by rintro rfl; exact Fl_ne q rfl)).symm
  · obtain rfl : k = a.length := by omega
    repeat' ((conv => whnf); first | refine V.NCond.mk ?_ | refine V.NIf.not_ ?_ | refine V.NIf.dec_ ?_ | refine V.NIf.no (by omega) ?_ | refine V.NIf.yes (by omega) ?_ | refine V.NIf.mk (fun _ => ?_) (fun _ => ?_) | refine V.NWrap.ok (by omega) (by omega) ?_ | refine V.NWrap.u64 (by omega) (by omega) ?_ | refine V.NLt.mk (by omega) ?_ | refine V.NBoth.mk ?_ ?_ | refine V.NTF.yes (by omega) ?_ | refine V.NTF.no (by omega) ?_ | refine V.NTF.dec ?_ | refine V.NDraw.q (by exact rfl) (by kernel_rfl) ?_ | refine V.NApp.one (by first | omega | (simp; omega)) (by first | omega | (simp; omega)) ?_ | (refine V.NDraw.any (by kernel_rfl) ?_) | fail)
    (conv => whnf)
    refine congrArg Value.bool (decide_eq_true ?_).symm
    rw [List.take_length, List.take_of_length_le (by omega)] at hJ
    exact hJ
instance : DecidableEq Lt := fun x y => decidable_of_iff (x.day = y.day ∧ x.un = y.un ∧ x.co = y.co) ⟨fun h => by cases x; cases y; simp_all, fun h => by subst h; simp⟩
theorem Lt_ne {x y : Lt} (h : ¬ (x.day = y.day ∧ x.un = y.un ∧ x.co = y.co ∧ True)) : x ≠ y := fun e => by subst e; exact h (by simp)
theorem Lt_eq {x y : Lt} (h : x.day = y.day ∧ x.un = y.un ∧ x.co = y.co ∧ True) : x = y := by cases x; cases y; simp_all
end Go.Proofs.Yteblbhbfdfifpaa

/- The laws' own helper. -/
namespace Go.Proofs.Yteblbhbfdfifpaa
open Go Go.RowKit V
set_option maxRecDepth 100000
namespace F
def s0 : Fl := ⟨7, 1, 2, 0, 3, 739935, 100, 0, 0, 0⟩
def l1 : List Fl := [s0]
end F
theorem v_some : V.Fn Try.prog 40 [] [] (.agg #[.int .i64 (F.s0).id, .int .i64 (F.s0).fr, .int .i64 (F.s0).to, .int .i64 (F.s0).cl, .int .i64 (F.s0).pa, .int .i64 (F.s0).day, .int .i64 (F.s0).un, .int .i64 (F.s0).de, .int .i64 (F.s0).bo, .int .i64 (F.s0).pd]) := by
  refine V.Fn.mk_ V.Tok V.mixed Try.func40 rfl Try.ntmps40 (by kernel_rfl) rfl rfl ?_
  repeat' ((conv => whnf); first | refine V.NCond.mk ?_ | refine V.NIf.not_ ?_ | refine V.NIf.dec_ ?_ | refine V.NIf.no (by omega) ?_ | refine V.NIf.yes (by omega) ?_ | refine V.NIf.mk (fun _ => ?_) (fun _ => ?_) | refine V.NWrap.ok (by omega) (by omega) ?_ | refine V.NWrap.u64 (by omega) (by omega) ?_ | refine V.NLt.mk (by omega) ?_ | refine V.NBoth.mk ?_ ?_ | refine V.NTF.yes (by omega) ?_ | refine V.NTF.no (by omega) ?_ | refine V.NTF.dec ?_ | refine V.NDraw.q (by exact rfl) (by kernel_rfl) ?_ | refine V.NApp.one (by first | omega | (simp; omega)) (by first | omega | (simp; omega)) ?_ | (refine V.NDraw.any (by kernel_rfl) ?_) | fail)
  exact (by repeat' (first | exact rfl | exact Iff.rfl | exact trivial | exact (fun _ _ => rfl) | exact (fun _ h => absurd h (Nat.not_lt_zero _)) | refine ⟨?_, ?_⟩ | exact Iff.rfl | exact congrArg (fun z => V.SV.one (V.At.val (Value.int .i64 z))) (by omega)))
theorem v_fbegun : V.Fn Try.prog 23 [] [] (.bool true) := by
  refine V.Fn.mk_ V.Tok V.mixed Try.func23 rfl Try.ntmps23 (by kernel_rfl) rfl rfl ?_
  repeat' ((conv => whnf); first | (refine V.NIf.yes (by rfl) ?_) | refine V.NCond.mk ?_ | refine V.NIf.not_ ?_ | refine V.NIf.dec_ ?_ | refine V.NIf.no (by omega) ?_ | refine V.NIf.yes (by omega) ?_ | refine V.NIf.mk (fun _ => ?_) (fun _ => ?_) | refine V.NWrap.ok (by omega) (by omega) ?_ | refine V.NWrap.u64 (by omega) (by omega) ?_ | refine V.NLt.mk (by omega) ?_ | refine V.NBoth.mk ?_ ?_ | refine V.NTF.yes (by omega) ?_ | refine V.NTF.no (by omega) ?_ | refine V.NTF.dec ?_ | refine V.NDraw.q (by exact rfl) (by kernel_rfl) ?_ | refine V.NApp.one (by first | omega | (simp; omega)) (by first | omega | (simp; omega)) ?_ | (first | refine V.Fn.k0 (v_some) rfl ?_ | refine V.Fn.q0 (v_some) rfl ?_ | refine V.Fn.a0 (v_some) rfl ?_) | (first | refine V.Fn.k0 (v_deliver F.s0 30) rfl ?_ | refine V.Fn.q0 (v_deliver F.s0 30) rfl ?_ | refine V.Fn.a0 (v_deliver F.s0 30) rfl ?_) | (first | refine V.Fn.k0 (v_deliver _ _) rfl ?_ | refine V.Fn.q0 (v_deliver _ _) rfl ?_ | refine V.Fn.a0 (v_deliver _ _) rfl ?_) | (first | refine V.Fn.k0 (v_buy _ _) rfl ?_ | refine V.Fn.q0 (v_buy _ _) rfl ?_ | refine V.Fn.a0 (v_buy _ _) rfl ?_) | (first | refine V.Fn.k0 (v_pay _) rfl ?_ | refine V.Fn.q0 (v_pay _) rfl ?_ | refine V.Fn.a0 (v_pay _) rfl ?_) | (first | refine V.Fn.k0 (v_open _) rfl ?_ | refine V.Fn.q0 (v_open _) rfl ?_ | refine V.Fn.a0 (v_open _) rfl ?_) | ((first | refine V.Fn.k (v_ffind [F.s0] 7) [_] rfl ?_ ?_ | refine V.Fn.q (v_ffind [F.s0] 7) [_] rfl ?_ ?_ | refine V.Fn.a (v_ffind [F.s0] 7) [_] rfl ?_ ?_); · ((repeat' (first | exact rfl | exact Iff.rfl | exact trivial | exact (fun _ _ => rfl) | exact (fun _ h => absurd h (Nat.not_lt_zero _)) | refine ⟨?_, ?_⟩ | exact Iff.rfl | exact congrArg (fun z => V.SV.one (V.At.val (Value.int .i64 z))) (by omega))); done)) | (first | refine V.Fn.k0 (v_fcheck F.zero) rfl ?_ | refine V.Fn.q0 (v_fcheck F.zero) rfl ?_ | refine V.Fn.a0 (v_fcheck F.zero) rfl ?_) | ((first | refine V.Fn.k (v_fchecks [F.deliver F.s0 30, F.buy (F.deliver F.s0 30) 50]) [_] rfl ?_ ?_ | refine V.Fn.q (v_fchecks [F.deliver F.s0 30, F.buy (F.deliver F.s0 30) 50]) [_] rfl ?_ ?_ | refine V.Fn.a (v_fchecks [F.deliver F.s0 30, F.buy (F.deliver F.s0 30) 50]) [_] rfl ?_ ?_); · ((repeat' (first | exact rfl | exact Iff.rfl | exact trivial | exact (fun _ _ => rfl) | exact (fun _ h => absurd h (Nat.not_lt_zero _)) | refine ⟨?_, ?_⟩ | exact Iff.rfl | exact congrArg (fun z => V.SV.one (V.At.val (Value.int .i64 z))) (by omega))); done)) | (refine V.NDraw.any (by kernel_rfl) ?_) | fail)
  exact ⟨_, rfl, by simp; rfl⟩
end Go.Proofs.Yteblbhbfdfifpaa

/- What must be in any case, of what papers bring. -/
namespace Go.Proofs.Yteblbhbfdfifpaa
open Go Go.RowKit V
set_option maxRecDepth 100000
set_option linter.unusedVariables false
namespace C
def sp : Ev := ⟨3, 2500, 2, 3⟩
theorem b_c : cV sp 100 = 25 ∧ uE sp 100 = 0 := by decide +kernel
theorem b_f : fV sp 100 = 66 ∧ lV sp 100 = 2 := by decide +kernel
theorem b_x : xE sp [F.s0] = 0 := by decide +kernel
theorem b_d : dV sp [F.s0] = [⟨1, 2, 25⟩] ∧ pV sp [F.s0] = [⟨1, 3, -66⟩, ⟨2, 3, 66⟩] := by decide +kernel
theorem b_n : uE sp (-1) = 3 := by decide +kernel
theorem b_e : ev ⟨1, 0, 0, 0⟩ = 1 := by decide +kernel
theorem b_g : gE sp [F.s0] = 0 ∧ gV sp [F.s0] = [gr sp F.s0] := g_3 b_x (fun ⟨f, h1, h2⟩ => by
  rw [List.mem_singleton] at h1
  subst h1
  exact absurd h2 (by decide +kernel))
theorem b_u : (gr sp F.s0).un = 166 := by decide +kernel
end C
theorem v_clsplit : V.Fn Try.prog 39 [] [] (.agg #[.int .i64 3, .int .i64 2500, .int .i64 2, .int .i64 3]) := by
  refine V.Fn.mk_ V.Tok V.mixed Try.func39 rfl Try.ntmps39 (by kernel_rfl) rfl rfl ?_
  repeat' ((conv => whnf); first | refine V.NCond.mk ?_ | refine V.NIf.not_ ?_ | refine V.NIf.dec_ ?_ | refine V.NIf.no (by omega) ?_ | refine V.NIf.yes (by omega) ?_ | refine V.NIf.mk (fun _ => ?_) (fun _ => ?_) | refine V.NWrap.ok (by omega) (by omega) ?_ | refine V.NWrap.u64 (by omega) (by omega) ?_ | refine V.NLt.mk (by omega) ?_ | refine V.NBoth.mk ?_ ?_ | refine V.NTF.yes (by omega) ?_ | refine V.NTF.no (by omega) ?_ | refine V.NTF.dec ?_ | refine V.NDraw.q (by exact rfl) (by kernel_rfl) ?_ | refine V.NApp.one (by first | omega | (simp; omega)) (by first | omega | (simp; omega)) ?_ | (refine V.NDraw.any (by kernel_rfl) ?_) | fail)
  exact (by repeat' (first | exact rfl | exact Iff.rfl | exact trivial | exact (fun _ _ => rfl) | exact (fun _ h => absurd h (Nat.not_lt_zero _)) | refine ⟨?_, ?_⟩ | exact Iff.rfl | exact congrArg (fun z => V.SV.one (V.At.val (Value.int .i64 z))) (by omega)))
set_option maxHeartbeats 4000000 in
theorem v_clbegun : V.Fn Try.prog 17 [] [] (.bool true) := by
  have a1 := v_clCash C.sp 100
  have a2 := v_clFresh C.sp 100
  have a3 := v_Claims C.sp [F.s0]
  have a4 := v_Grow C.sp [F.s0]
  have a5 := v_clCash C.sp (-1)
  have a6 := v_clCheck ⟨1, 0, 0, 0⟩
  have a7 := v_samedues [⟨1, 2, 25⟩] [⟨1, 2, 25⟩] (by decide)
  have a8 := v_sameposts [⟨1, 3, -66⟩, ⟨2, 3, 66⟩] [⟨1, 3, -66⟩, ⟨2, 3, 66⟩] (by decide)
  rw [C.b_c.1, C.b_c.2] at a1
  rw [C.b_f.1, C.b_f.2, C.b_c.2] at a2
  rw [C.b_d.1, C.b_d.2, C.b_x] at a3
  rw [C.b_g.1, C.b_g.2] at a4
  rw [C.b_n] at a5
  rw [C.b_e] at a6
  have u := C.b_u
  refine V.Fn.mk_ V.Tok V.mixed Try.func17 rfl Try.ntmps17 (by kernel_rfl) rfl rfl ?_
  repeat' ((conv => whnf); first | refine V.NCond.mk ?_ | refine V.NIf.not_ ?_ | refine V.NIf.dec_ ?_ | refine V.NIf.no (by omega) ?_ | refine V.NIf.yes (by omega) ?_ | refine V.NIf.mk (fun _ => ?_) (fun _ => ?_) | refine V.NWrap.ok (by omega) (by omega) ?_ | refine V.NWrap.u64 (by omega) (by omega) ?_ | refine V.NLt.mk (by omega) ?_ | refine V.NBoth.mk ?_ ?_ | refine V.NTF.yes (by omega) ?_ | refine V.NTF.no (by omega) ?_ | refine V.NTF.dec ?_ | refine V.NDraw.q (by exact rfl) (by kernel_rfl) ?_ | refine V.NApp.one (by first | omega | (simp; omega)) (by first | omega | (simp; omega)) ?_ | (first | refine V.Fn.k0 (v_clsplit) rfl ?_ | refine V.Fn.q0 (v_clsplit) rfl ?_ | refine V.Fn.a0 (v_clsplit) rfl ?_) | (first | refine V.Fn.k0 (v_some) rfl ?_ | refine V.Fn.q0 (v_some) rfl ?_ | refine V.Fn.a0 (v_some) rfl ?_) | (first | refine V.Fn.k0 (a1) rfl ?_ | refine V.Fn.q0 (a1) rfl ?_ | refine V.Fn.a0 (a1) rfl ?_) | (first | refine V.Fn.k0 (a2) rfl ?_ | refine V.Fn.q0 (a2) rfl ?_ | refine V.Fn.a0 (a2) rfl ?_) | ((first | refine V.FnR.k_ (a3) [0] rfl ?_ ?_ | refine V.FnR.a_ (a3) [0] rfl ?_ ?_); · ((repeat' (first | exact rfl | exact Iff.rfl | exact trivial | exact (fun _ _ => rfl) | exact (fun _ h => absurd h (Nat.not_lt_zero _)) | refine ⟨?_, ?_⟩ | exact Iff.rfl | exact congrArg (fun z => V.SV.one (V.At.val (Value.int .i64 z))) (by omega))); done)) | ((first | refine V.FnR.k_ (a4) [3] rfl ?_ ?_ | refine V.FnR.a_ (a4) [3] rfl ?_ ?_); · ((repeat' (first | exact rfl | exact Iff.rfl | exact trivial | exact (fun _ _ => rfl) | exact (fun _ h => absurd h (Nat.not_lt_zero _)) | refine ⟨?_, ?_⟩ | exact Iff.rfl | exact congrArg (fun z => V.SV.one (V.At.val (Value.int .i64 z))) (by omega))); done)) | (first | refine V.Fn.k0 (a5) rfl ?_ | refine V.Fn.q0 (a5) rfl ?_ | refine V.Fn.a0 (a5) rfl ?_) | (first | refine V.Fn.k0 (a6) rfl ?_ | refine V.Fn.q0 (a6) rfl ?_ | refine V.Fn.a0 (a6) rfl ?_) | ((first | refine V.Fn.k (a7) [1, 5] rfl ?_ ?_ | refine V.Fn.q (a7) [1, 5] rfl ?_ ?_ | refine V.Fn.a (a7) [1, 5] rfl ?_ ?_); · ((repeat' (first | exact rfl | exact Iff.rfl | exact trivial | exact (fun _ _ => rfl) | exact (fun _ h => absurd h (Nat.not_lt_zero _)) | refine ⟨?_, ?_⟩ | exact Iff.rfl | exact congrArg (fun z => V.SV.one (V.At.val (Value.int .i64 z))) (by omega))); done)) | ((first | refine V.Fn.k (a8) [2, 6] rfl ?_ ?_ | refine V.Fn.q (a8) [2, 6] rfl ?_ ?_ | refine V.Fn.a (a8) [2, 6] rfl ?_ ?_); · ((repeat' (first | exact rfl | exact Iff.rfl | exact trivial | exact (fun _ _ => rfl) | exact (fun _ h => absurd h (Nat.not_lt_zero _)) | refine ⟨?_, ?_⟩ | exact Iff.rfl | exact congrArg (fun z => V.SV.one (V.At.val (Value.int .i64 z))) (by omega))); done)) | (refine NIdx.mk ⟨0, rfl, by decide, ?_⟩) | (refine V.NDraw.any (by kernel_rfl) ?_) | fail)
  all_goals (conv => whnf)
  · exact ⟨true, rfl, iff_of_true rfl rfl⟩
  · exact absurd C.b_u (by assumption)
  all_goals exact absurd rfl (by assumption)
theorem C.dV_len (v : Ev) (fs : List Fl) : (C.dV v fs).length ≤ 60 ∧ (C.pV v fs).length ≤ 120 ∧ (C.gV v fs).length ≤ 60 := by
  by_cases h : C.xE v fs = 0
  · have n := (K.checks_all (C.xE_ok h).2).1
    have a := C.dus_len v fs
    have b := C.pos_len v fs
    refine ⟨?_, ?_, ?_⟩
    · unfold C.dV; rw [if_pos h]; omega
    · unfold C.pV; rw [if_pos h]; omega
    · by_cases g : C.gE v fs = 0
      · rw [(C.g_ok g).2.2]; simp; omega
      · unfold C.gV; rw [if_neg g]; simp
  · refine ⟨?_, ?_, ?_⟩
    · unfold C.dV; rw [if_neg h]; simp
    · unfold C.pV; rw [if_neg h]; simp
    · rw [(C.g_1 h).2]; simp
end Go.Proofs.Yteblbhbfdfifpaa

/- Functions that write a row that is handed to them (and nothing else): contracts, also for those that call themselves. The row is object 0; whatever other objects there are stand behind it, untouched. -/
namespace Go.Proofs.Yteblbhbfdfifpaa.V
open Go Go.RowKit
set_option linter.unusedVariables false
set_option linter.unusedSimpArgs false
/-- entries for object 0 alone -/
def allz : Obs → Bool
  | [] => true
  | (i, _) :: r => Nat.beq i 0 && allz r
theorem fnd_allz : ∀ {L O : Obs} {i : Nat}, allz L = true → i ≠ 0 → fnd (L ++ O) i = fnd O i
  | [], O, i, _, _ => rfl
  | (j, o) :: r, O, i, h, hi => by
    unfold allz at h
    simp only [Bool.and_eq_true] at h
    have hj := Nat.eq_of_beq_eq_true h.1
    subst hj
    have : Nat.beq 0 i = false := by
      cases hb : Nat.beq 0 i
      · rfl
      · exact absurd (Nat.eq_of_beq_eq_true hb).symm hi
    have ih := fnd_allz (O := O) h.2 hi
    refine Eq.trans ?_ ih
    show fnd ((0, o) :: (r ++ O)) i = _
    conv => lhs; unfold fnd
    rw [this]
theorem fnd_app0 : ∀ {L O : Obs} {i : Nat} {o : Ob}, fnd L i = some o → fnd (L ++ O) i = some o
  | [], O, i, o, h => by cases h
  | (j, u) :: r, O, i, o, h => by
    show fnd ((j, u) :: (r ++ O)) i = some o
    unfold fnd at h ⊢
    cases hb : Nat.beq j i <;> rw [hb] at h
    · exact fnd_app0 h
    · exact h
/-- no object 0, and none twice -/
def onceB : Obs → Bool
  | [] => true
  | (i, _) :: r => (match fnd r i with | none => true | some _ => false) && !Nat.beq i 0 && onceB r
/-- the objects behind the row -/
structure Tail (nx : Nat) (O : Obs) : Prop where
  b : obsB nx O = true
  s : ∀ L : Obs, allz L = true → ObsLe (sgm []) (L ++ O) O
theorem once_le {L : Obs} (hL : allz L = true) {A : Obs} : ∀ {O : Obs}, onceB O = true → (∀ i o, fnd O i = some o → fnd A i = some o) → ObsLe (sgm []) (L ++ A) O
  | [], _, _ => trivial
  | (i, o) :: r, h, e => by
    unfold onceB at h
    simp only [Bool.and_eq_true, Bool.not_eq_true'] at h
    obtain ⟨⟨h1, h2⟩, h3⟩ := h
    have hi : i ≠ 0 := fun q => by subst q; rw [Nat.beq_refl] at h2; cases h2
    refine ⟨?_, once_le hL h3 fun j u hj => ?_⟩
    · have t : fnd ((i, o) :: r) i = some o := fnd_top
      have := e i o t
      rw [← fnd_allz (L := L) hL hi] at this
      exact fndK_of this (by rw [renO_nil]; exact ObLe.refl o)
    · refine e j u ?_
      have hne : j ≠ i := fun q => by subst q; rw [hj] at h1; cases h1
      exact fndK_skip hne hj
theorem Tail.of {nx : Nat} {O : Obs} (h1 : obsB nx O = true) (h2 : onceB O = true) : Tail nx O := ⟨h1, fun L hL => once_le hL h2 fun _ _ q => q⟩
theorem Tail.row {nx : Nat} {O L : Obs} (h : Tail nx O) {t s n : Nat} {g g' : Nat → List Value} (hL : allz L = true) (hr : fnd L 0 = some (.row t s n g)) (e : ∀ k, k < n → g k = g' k) : ObsLe (sgm []) (L ++ O) ((0, .row t s n g') :: O) :=
  ⟨fndK_of (fnd_app0 hr) ⟨rfl, rfl, rfl, e⟩, h.s L hL⟩
theorem Tail.bz {nx : Nat} {O : Obs} (h : Tail (nx + 1) O) (t s n : Nat) (g : Nat → List Value) : obsB (nx + 1) ((0, .row t s n g) :: O) = true := by
  have := h.b
  unfold obsB at this ⊢
  rw [List.all_cons, this]
  rfl
/-- the end: the row holds g, of which Q is told -/
structure FEnd (t s n nx : Nat) (O : Obs) (Q : (Nat → List Value) → Prop) (v : SV) (obs : Obs) (nx' : Nat) : Prop where
  h : v = .tup [] ∧ nx' = nx ∧ ∃ L g, obs = L ++ O ∧ allz L = true ∧ fnd L 0 = some (.row t s n g) ∧ Q g
structure FOne (t s n nx : Nat) (O : Obs) (Q : (Nat → List Value) → Prop) (v : SV) (obs : Obs) (nx' : Nat) : Prop where
  h : v = .tup [] ∧ nx' = nx ∧ ∃ g, obs = (0, .row t s n g) :: O ∧ Q g
/-- A CONTRACT of a function that writes the row that is object 0: Q is told of what the row holds then -/
def Fam (P : Program) (f : FuncId) (args : List SV) (t s n : Nat) (get : Nat → List Value) (nx : Nat) (O : Obs) (Q : (Nat → List Value) → Prop) : Prop :=
  NCall P f args ((0, .row t s n get) :: O) (nx + 1) (FOne t s n (nx + 1) O Q)
theorem NCall.mono {P : Program} {f : FuncId} {args : List SV} {obs : Obs} {nx : Nat} {K K' : SV → Obs → Nat → Prop} (h : NCall P f args obs nx K) (m : ∀ v o n, K v o n → K' v o n) : NCall P f args obs nx K' :=
  ⟨h.b, fun B ρ w xs hC ha => (h.h B ρ w xs hC ha).mono fun e w' ⟨v, o, n, ρ', x, hK, r⟩ => ⟨v, o, n, ρ', x, m _ _ _ hK, r⟩⟩
theorem cut_id {B nx : Nat} {ρ : Rho} {obs : Obs} {w : World} (hC : Cls B ρ obs nx w) : cut nx (via (sgm []) ρ) = ρ := by
  funext i
  unfold cut via
  by_cases h : i < nx
  · rw [if_pos h]; rfl
  · rw [if_neg h, hC.new i (by omega)]
theorem Fam.mk {P : Program} {f : FuncId} {args : List SV} {t s n nx : Nat} {get : Nat → List Value} {O : Obs} {Q : (Nat → List Value) → Prop} (hT : Tail (nx + 1) O)
    (h : NCall P f args ((0, .row t s n get) :: O) (nx + 1) (FEnd t s n (nx + 1) O Q)) : Fam P f args t s n get nx O Q :=
  ⟨h.b, fun B ρ w xs hC ha => (h.h B ρ w xs hC ha).mono fun e w' ⟨v, o, m, ρ', x, hK, hx, he, hv, hC', hb, ho⟩ => by
    obtain ⟨rfl, rfl, L, g, rfl, hL, hr, hQ⟩ := hK.h
    have c := hC'.head (hT.row hL hr fun _ _ => rfl) (hT.bz t s n g) (injB_id _)
    rw [cut_id hC'] at c
    exact ⟨_, _, _, ρ', x, ⟨rfl, rfl, g, rfl, hQ⟩, hx, he, hv, c, hb, ho⟩⟩
/-- its use within such a function -/
theorem Fam.use {P : Program} {f : FuncId} {args : List SV} {t s n nx : Nat} {get : Nat → List Value} {O : Obs} {Q : (Nat → List Value) → Prop} (h : Fam P f args t s n get nx O Q) (hT : Tail (nx + 1) O) {obs : Obs} (L : Obs) {K : SV → Obs → Nat → Prop} {g : Nat → List Value}
    (ho : obs = L ++ O) (hL : allz L = true) (hr : fnd L 0 = some (.row t s n g)) (e : ∀ k, k < n → g k = get k) (hK : ∀ g', Q g' → K (.tup []) ((0, .row t s n g') :: O) (nx + 1)) : NCall P f args obs (nx + 1) K := by
  subst ho
  refine ⟨h.b, fun B ρ w xs hC ha => ?_⟩
  have c := hC.head (hT.row hL hr e) (hT.bz t s n get) (injB_id _)
  rw [cut_id hC] at c
  refine (h.h B ρ w xs c ha).mono ?_
  rintro e' w' ⟨v, o, m, ρ', x, hK', r⟩
  obtain ⟨rfl, rfl, g', rfl, hQ⟩ := hK'.h
  exact ⟨_, _, _, ρ', x, hK g' hQ, r⟩
/-- a round's end -/
structure FBack {ι : Type} (nx t s n : Nat) (O : Obs) (chg : ι → Env) (base : Env) (get : ι → Nat → List Value) (μ : ι → Nat) (J : ι → Prop) (m : Nat) (env1 : Env) (obs1 : Obs) : Prop where
  h : ∃ i' l, J i' ∧ μ i' < m ∧ pinB (nx + 1) l = true ∧ injB (sgm l) (nx + 1) = true ∧ EnvLe (sgm l) env1 (chg i' ++ base) ∧ ObsLe (sgm l) obs1 ((0, .row t s n (get i')) :: O)
theorem FBack.at_ {ι : Type} {nx t s n : Nat} {O : Obs} {chg : ι → Env} {base : Env} {get : ι → Nat → List Value} {μ : ι → Nat} {J : ι → Prop} {m : Nat} {env1 : Env} {obs1 : Obs} (hT : Tail (nx + 1) O) (i' : ι) (L : Obs) {g : Nat → List Value} (h1 : J i') (h2 : μ i' < m) (h3 : EnvLe (sgm []) env1 (chg i' ++ base))
    (h4 : obs1 = L ++ O) (h5 : allz L = true) (h6 : fnd L 0 = some (.row t s n g)) (h7 : ∀ k, k < n → g k = get i' k) : FBack nx t s n O chg base get μ J m env1 obs1 := by
  subst h4
  exact ⟨⟨i', [], h1, h2, rfl, injB_id _, h3, hT.row h5 h6 h7⟩⟩
/-- a loop -/
theorem NLoop.fam {ws : List Nat} {nx : Nat} {body : Env → Obs → Nat → Kon → Prop} {env : Env} {obs : Obs} {K : Kon} {O : Obs} (hT : Tail (nx + 1) O) {ι : Type} (chg : ι → Env) (base : Env) (t s n : Nat) (get : ι → Nat → List Value) (μ : ι → Nat) (J : ι → Prop) (i0 : ι) (h0 : J i0)
    (L : Obs) {g : Nat → List Value} (ho : obs = L ++ O) (hL : allz L = true) (hr : fnd L 0 = some (.row t s n g)) (e : ∀ k, k < n → g k = get i0 k) (he : EnvLe (sgm []) env (chg i0 ++ base)) (hb : ∀ i, envB (nx + 1) (chg i) = true) (hb2 : envB (nx + 1) base = true)
    (h : ∀ i, J i → body (chg i ++ base) ((0, .row t s n (get i)) :: O) (nx + 1) fun e env1 obs1 nx1 => match e with
      | .nrm => FBack nx t s n O chg base get μ J (μ i) env1 obs1
      | .exit n => K (.exit n) env1 obs1 nx1
      | .ret => K .ret env1 obs1 nx1) : NLoop ws (nx + 1) body env obs (nx + 1) K := by
  subst ho
  refine ⟨⟨ι, fun i => (chg i ++ base, (0, .row t s n (get i)) :: O), μ, J, i0, nx + 1, Nat.le_refl _, h0, injB_id _, he, hT.row hL hr e, fun i => ⟨?_, hT.bz t s n _⟩, fun i hi => ?_⟩⟩
  · simp only [envB, List.all_append, Bool.and_eq_true]; exact ⟨hb i, hb2⟩
  · have := h i hi
    refine cast ?_ this
    congr 1
    funext e env1 obs1 nx1
    cases e
    · apply propext
      constructor
      · rintro ⟨q⟩; exact q
      · intro q; exact ⟨q⟩
    · rfl
    · rfl
theorem Svs.ren_ {σ : Nat → Nat} {ρ : Rho} {nx : Nat} : ∀ {l : List SV} {xs : List Value}, argB nx l = true → Svs ρ (l.map (renS σ)) xs → Svs (V.cut nx (via σ ρ)) l xs
  | [], _, _, h => h
  | v :: l, _, hb, ⟨x, r, e, hv, hr⟩ => by
    unfold argB at hb
    simp only [List.all_cons, Bool.and_eq_true] at hb
    refine ⟨x, r, e, ?_, Svs.ren_ (l := l) (by unfold argB; exact hb.2) hr⟩
    cases v with
    | one a => exact At.is_cut (a := a) hb.1 (SV.is_via (v := .one a) hb.1 hv)
    | agg c =>
      obtain ⟨cs, hc, e⟩ := hv
      exact ⟨cs, hc.via.cut hb.1, e⟩
    | tup l => exact hv.elim
/-- its use by a caller, whose objects bear other numbers: l changes them (and back) -/
theorem Fam.call {P : Program} {f : FuncId} {args : List SV} {t s n nx : Nat} {get : Nat → List Value} {O : Obs} {Q : (Nat → List Value) → Prop} (h : Fam P f args t s n get nx O Q) (hT : Tail (nx + 1) O) {obs : Obs} {args' : List SV} {K : SV → Obs → Nat → Prop} (l : List (Nat × Nat)) (obs2 : (Nat → List Value) → Obs)
    (ha : args' = args.map (renS (sgm l))) (hab : argB (nx + 1) args = true) (hi : injB (sgm l) (nx + 1) = true) (hinv : ∀ i, i < nx + 1 → sgm l i < nx + 1 ∧ sgm l (sgm l i) = i) (ho : ObsLe (sgm l) obs ((0, .row t s n get) :: O)) (hb2 : ∀ g', obsB (nx + 1) (obs2 g') = true)
    (ho2 : ∀ g', ObsLe (sgm l) ((0, .row t s n g') :: O) (obs2 g')) (hK : ∀ g', Q g' → K (.tup []) (obs2 g') (nx + 1)) : NCall P f args' obs (nx + 1) K := by
  subst ha
  refine ⟨h.b, fun B ρ w xs hC hxs => ?_⟩
  have c := hC.head ho (hT.bz t s n get) hi
  refine (h.h B _ w xs c (Svs.ren_ hab hxs)).mono ?_
  rintro e' w' ⟨v, o, m, ρ', x, hK', hx, he, hv, hC', hb, hoth⟩
  obtain ⟨rfl, rfl, g', rfl, hQ⟩ := hK'.h
  have c2 := hC'.head (ho2 g') (hb2 g') hi
  refine ⟨_, _, _, _, x, hK g' hQ, fun i y hy => ?_, he, ?_, c2, hb, hoth⟩
  · have hi' : i < nx + 1 := by
      rcases Nat.lt_or_ge i (nx + 1) with q | q
      · exact q
      · rw [hC.new i q] at hy; cases hy
    obtain ⟨q1, q2⟩ := hinv i hi'
    rw [cut_lt hi']
    refine hx _ _ ?_
    rw [cut_lt q1]
    unfold via
    rw [q2]
    exact hy
  · exact hv
end Go.Proofs.Yteblbhbfdfifpaa.V

/- Plain facts on sorting that keeps the order of equals: blocks that are exchanged, rotations, what two sorted runs become. -/
namespace Go.Proofs.Yteblbhbfdfifpaa
open Go Go.Sort
set_option linter.unusedVariables false
set_option linter.unusedSectionVars false
namespace St
variable {α : Type} [Inhabited α]
/-- n places from a on, and n from b on, are exchanged -/
def Sw (a b n : Nat) (d d' : Array α) : Prop :=
  d'.size = d.size ∧ (∀ k, (k < a ∨ a + n ≤ k) → (k < b ∨ b + n ≤ k) → d'[k]! = d[k]!) ∧ (∀ i, i < n → d'[a + i]! = d[b + i]! ∧ d'[b + i]! = d[a + i]!)
theorem Sw.zero (a b : Nat) (d : Array α) : Sw a b 0 d d := ⟨rfl, fun _ _ _ => rfl, fun i h => absurd h (by omega)⟩
theorem Sw.succ {a b n : Nat} {d d' : Array α} (h : Sw a b n d d') (h1 : a + n + 1 ≤ b) (h2 : b + n < d.size) : Sw a b (n + 1) d (swp d' (a + n) (b + n)) := by
  obtain ⟨s, o, e⟩ := h
  refine ⟨by rw [size_swp, s], fun k k1 k2 => ?_, fun i hi => ?_⟩
  · rw [swp_other _ _ _ _ (by omega) (by omega)]
    exact o k (by omega) (by omega)
  · by_cases z : i = n
    · subst z
      rw [swp_left _ _ _ (by omega) (by omega), swp_right _ _ _ (by omega)]
      exact ⟨o _ (by omega) (by omega), o _ (by omega) (by omega)⟩
    · rw [swp_other _ _ _ _ (by omega) (by omega), swp_other _ _ _ _ (by omega) (by omega)]
      exact e i (by omega)
/-- the places a .. m - 1 go behind the places m .. b - 1 -/
def Rot (a m b : Nat) (d d' : Array α) : Prop :=
  d'.size = d.size ∧ (∀ k, k < a ∨ b ≤ k → d'[k]! = d[k]!) ∧ (∀ k, a ≤ k → k < a + (b - m) → d'[k]! = d[k + (m - a)]!) ∧ (∀ k, a + (b - m) ≤ k → k < b → d'[k]! = d[k - (b - m)]!)
theorem at_eq {d : Array α} {i j : Nat} (h : i = j) : d[i]! = d[j]! := by rw [h]
theorem Sw.left {a b n k : Nat} {d d' : Array α} (h : Sw a b n d d') (h1 : a ≤ k) (h2 : k < a + n) : d'[k]! = d[b + (k - a)]! := by
  have := (h.2.2 (k - a) (by omega)).1
  rwa [show a + (k - a) = k by omega] at this
theorem Sw.right {a b n k : Nat} {d d' : Array α} (h : Sw a b n d d') (h1 : b ≤ k) (h2 : k < b + n) : d'[k]! = d[a + (k - b)]! := by
  have := (h.2.2 (k - b) (by omega)).2
  rwa [show b + (k - b) = k by omega] at this
theorem rot_end {m i : Nat} {d d' : Array α} (hi : i ≤ m) (h : Sw (m - i) m i d d') : Rot (m - i) m (m + i) d d' := by
  refine ⟨h.1, fun k hk => h.2.1 k (by omega) (by omega), fun k h1 h2 => ?_, fun k h1 h2 => ?_⟩
  · rw [h.left h1 (by omega)]
    all_goals exact at_eq (by omega)
  · rw [h.right (by omega) (by omega)]
    all_goals exact at_eq (by omega)
theorem rot_left {m i j : Nat} {d d1 d' : Array α} (hi : i ≤ m) (hj : 0 < j) (hij : j < i) (h : Sw (m - i) m j d d1) (r : Rot (m - (i - j)) m (m + j) d1 d') : Rot (m - i) m (m + j) d d' := by
  obtain ⟨r1, r2, r3, r4⟩ := r
  refine ⟨by rw [r1, h.1], fun k hk => ?_, fun k h1 h2 => ?_, fun k h1 h2 => ?_⟩
  · rw [r2 k (by omega), h.2.1 k (by omega) (by omega)]
  · rw [r2 k (by omega), h.left h1 (by omega)]
    all_goals exact at_eq (by omega)
  · by_cases z : k < m - (i - j) + (m + j - m)
    · rw [r3 k (by omega) z, h.right (by omega) (by omega)]
      all_goals exact at_eq (by omega)
    · rw [r4 k (by omega) (by omega), h.2.1 _ (by omega) (by omega)]
      all_goals exact at_eq (by omega)
theorem rot_right {m i j : Nat} {d d1 d' : Array α} (hi : i ≤ m) (hi0 : 0 < i) (hij : i < j) (h : Sw (m - i) (m + j - i) i d d1) (r : Rot (m - i) m (m + (j - i)) d1 d') : Rot (m - i) m (m + j) d d' := by
  obtain ⟨r1, r2, r3, r4⟩ := r
  refine ⟨by rw [r1, h.1], fun k hk => ?_, fun k h1 h2 => ?_, fun k h1 h2 => ?_⟩
  · rw [r2 k (by omega), h.2.1 k (by omega) (by omega)]
  · by_cases z : k < m - i + (m + (j - i) - m)
    · rw [r3 k h1 z]
      by_cases y : k + (m - (m - i)) < m + j - i
      · rw [h.2.1 _ (by omega) (by omega)]
      · rw [h.right (by omega) (by omega)]; omega
    · rw [r4 k (by omega) (by omega), h.left (by omega) (by omega)]
      all_goals exact at_eq (by omega)
  · rw [r2 k (by omega), h.right (by omega) (by omega)]
    all_goals exact at_eq (by omega)
theorem map_shift (f : Nat → α) (s a n : Nat) : (List.range' a n).map (fun k => f (k + s)) = (List.range' (a + s) n).map f := by
  apply List.ext_getElem
  · simp
  · intro i h1 h2
    simp only [List.getElem_map, List.getElem_range']
    congr 1
    omega
theorem Rot.perm {a m b : Nat} {d d' : Array α} (h : Rot a m b d d') (h1 : a ≤ m) (h2 : m ≤ b) (hb : b ≤ d.size) : PermIn a b d d' := by
  obtain ⟨r1, r2, r3, r4⟩ := h
  refine ⟨r1, r2, ?_⟩
  rw [extract_toList d' a b (by omega), extract_toList d a b hb]
  have e1 : List.range' a (b - a) = List.range' a (b - m) ++ List.range' (a + (b - m)) (m - a) := by
    rw [List.range'_append_1]; congr 1; omega
  have e2 : List.range' a (b - a) = List.range' a (m - a) ++ List.range' m (b - m) := by
    have := List.range'_append_1 (s := a) (m := m - a) (n := b - m)
    rw [show a + (m - a) = m by omega, show m - a + (b - m) = b - a by omega] at this
    exact this.symm
  conv => lhs; rw [e1, List.map_append]
  conv => rhs; rw [e2, List.map_append]
  have f1 : (List.range' a (b - m)).map (fun i => d'[i]!) = (List.range' m (b - m)).map (fun i => d[i]!) := by
    have q := map_shift (fun i => d[i]!) (m - a) a (b - m)
    rw [show a + (m - a) = m by omega] at q
    rw [← q]
    exact List.map_congr_left fun k hk => by
      rw [List.mem_range'_1] at hk
      exact r3 k hk.1 hk.2
  have f2 : (List.range' (a + (b - m)) (m - a)).map (fun i => d'[i]!) = (List.range' a (m - a)).map (fun i => d[i]!) := by
    have q := map_shift (fun i => d'[i]!) (b - m) a (m - a)
    rw [← q]
    exact List.map_congr_left fun k hk => by
      rw [List.mem_range'_1] at hk
      rw [r4 (k + (b - m)) (by omega) (by omega)]
      exact at_eq (by omega)
  rw [f1, f2]
  exact List.perm_append_comm
theorem Rot.refl_l {m b : Nat} {d : Array α} : Rot m m b d d := ⟨rfl, fun _ _ => rfl, fun k h1 h2 => at_eq (by omega), fun k h1 h2 => absurd h1 (by omega)⟩
theorem Rot.refl_r {a m : Nat} {d : Array α} : Rot a m m d d := ⟨rfl, fun _ _ => rfl, fun k h1 h2 => absurd h1 (by omega), fun k h1 h2 => at_eq (by omega)⟩
/-- the first one goes up, step by step -/
theorem Rot.up {a k : Nat} {d d' : Array α} (h : Rot a (a + 1) (k + 1) d d') (h1 : a ≤ k) (h2 : k + 1 < d.size) : Rot a (a + 1) (k + 2) d (swp d' k (k + 1)) := by
  obtain ⟨r1, r2, r3, r4⟩ := h
  refine ⟨by rw [size_swp, r1], fun q hq => ?_, fun q q1 q2 => ?_, fun q q1 q2 => ?_⟩
  · rw [swp_other _ _ _ _ (by omega) (by omega)]
    exact r2 q (by omega)
  · by_cases z : q = k
    · subst z
      rw [swp_left _ _ _ (by omega) (by omega), r2 _ (by omega)]
      exact at_eq (by omega)
    · rw [swp_other _ _ _ _ (by omega) (by omega)]
      exact r3 q q1 (by omega)
  · obtain rfl : q = k + 1 := by omega
    rw [swp_right _ _ _ (by omega)]
    by_cases z : a < k
    · rw [r4 k (by omega) (by omega)]
      exact at_eq (by omega)
    · rw [r4 k (by omega) (by omega)]
      exact at_eq (by omega)
/-- the last one goes down, step by step -/
theorem Rot.down {i k m : Nat} {d d' : Array α} (h : Rot (k + 1) m (m + 1) d d') (h1 : k < m) (h2 : m < d.size) : Rot k m (m + 1) d (swp d' (k + 1) k) := by
  obtain ⟨r1, r2, r3, r4⟩ := h
  refine ⟨by rw [size_swp, r1], fun q hq => ?_, fun q q1 q2 => ?_, fun q q1 q2 => ?_⟩
  · rw [swp_other _ _ _ _ (by omega) (by omega)]
    exact r2 q (by omega)
  · obtain rfl : q = k := by omega
    rw [swp_right _ _ _ (by omega)]
    by_cases z : q + 1 < m
    · rw [r3 (q + 1) (by omega) (by omega)]
      exact at_eq (by omega)
    · rw [r3 (q + 1) (by omega) (by omega)]
      exact at_eq (by omega)
  · by_cases z : q = k + 1
    · subst z
      rw [swp_left _ _ _ (by omega) (by omega), r2 _ (by omega)]
      exact at_eq (by omega)
    · rw [swp_other _ _ _ _ (by omega) (by omega), r4 q (by omega) (by omega)]
/-! two sorted runs -/
variable {lt : α → α → Bool}
theorem Rot.one {a m b i : Nat} {d d' : Array α} (h : Rot a m b d d') (h1 : a ≤ i) (h2 : i < a + (b - m)) : d'[i]! = d[i + (m - a)]! := h.2.2.1 i h1 h2
theorem Rot.two {a m b i : Nat} {d d' : Array α} (h : Rot a m b d d') (h1 : a + (b - m) ≤ i) (h2 : i < b) : d'[i]! = d[i - (b - m)]! := h.2.2.2 i h1 h2
theorem Rot.off {a m b i : Nat} {d d' : Array α} (h : Rot a m b d d') (h1 : i < a ∨ b ≤ i) : d'[i]! = d[i]! := h.2.1 i h1
theorem sle (S : SWO lt) {d : Array α} {lo hi x y : Nat} (h : SortedIn lt lo hi d) (q1 : lo ≤ x) (q2 : x ≤ y) (q3 : y < hi) : lt d[y]! d[x]! = false := by
  rcases Nat.lt_or_ge x y with z | z
  · exact h _ _ q1 z q3
  · obtain rfl : x = y := by omega
    exact S.irrefl _
/-- what stands in the first half, and in the second one, when the middle parts have changed places -/
theorem cross (S : SWO lt) {a s m e b : Nat} {d d1 : Array α} (r : Rot s m e d d1) (asl : a ≤ s) (sm : s ≤ m) (me : m ≤ e) (eb : e ≤ b) (H1 : SortedIn lt a m d) (H2 : SortedIn lt m b d)
    (C1 : a < s → e < b → lt d[e]! d[s - 1]! = false) (C2 : m < e → s < m → lt d[e - 1]! d[s]! = true) :
    ∀ i j, a ≤ i → i < s + (e - m) → s + (e - m) ≤ j → j < b → lt d1[j]! d1[i]! = false := by
  intro i j i1 i2 j1 j2
  have le : ∀ {lo hi x y : Nat}, SortedIn lt lo hi d → lo ≤ x → x ≤ y → y < hi → lt d[y]! d[x]! = false := fun h q1 q2 q3 => sle S h q1 q2 q3
  by_cases i3 : i < s
  · rw [r.off (i := i) (by omega)]
    by_cases j3 : j < e
    · rw [r.two (i := j) j1 j3]
      exact H1 _ _ i1 (by omega) (by omega)
    · rw [r.off (i := j) (by omega)]
      refine S.ntrans _ _ _ (le H2 (x := e) (by omega) (by omega) j2) (S.ntrans _ _ _ (C1 (by omega) (by omega)) (le H1 i1 (by omega) (by omega)))
  · rw [r.one (i := i) (by omega) i2]
    by_cases j3 : j < e
    · rw [r.two (i := j) j1 j3]
      have c := SWO.asymmA S (C2 (by omega) (by omega))
      exact S.ntrans _ _ _ (le H1 (x := s) asl (by omega) (by omega)) (S.ntrans _ _ _ c (le H2 (y := e - 1) (by omega) (by omega) (by omega)))
    · rw [r.off (i := j) (by omega)]
      exact H2 _ _ (by omega) (by omega) j2
/-- and, each half sorted for itself, all is -/
theorem halves {a c b : Nat} {d1 d2 d3 : Array α} (ac : a ≤ c) (cb : c ≤ b) (hb : b ≤ d1.size) (X : ∀ i j, a ≤ i → i < c → c ≤ j → j < b → lt d1[j]! d1[i]! = false)
    (P2 : PermIn a c d1 d2) (S2 : SortedIn lt a c d2) (P3 : PermIn c b d2 d3) (S3 : SortedIn lt c b d3) : PermIn a b d1 d3 ∧ SortedIn lt a b d3 := by
  have z2 : d2.size = d1.size := P2.1
  refine ⟨permIn_trans _ _ _ _ _ (permIn_mono _ _ _ _ a b (Nat.le_refl _) cb (by omega) P2) (permIn_mono _ _ _ _ a b ac (Nat.le_refl _) (by omega) P3), fun i j i1 ij j2 => ?_⟩
  by_cases jc : j < c
  · rw [P3.2.1 j (by omega), P3.2.1 i (by omega)]
    exact S2 i j i1 ij jc
  by_cases ic : c ≤ i
  · exact S3 i j ic ij j2
  · -- i in the first half, j in the second
    have all2 : ∀ j, c ≤ j → j < b → lt d3[j]! d3[i]! = false := by
      rw [P3.2.1 i (by omega)]
      refine permIn_all d2 d3 c b (fun x => lt x d2[i]! = false) (by omega) P3 fun j q1 q2 => ?_
      rw [P2.2.1 j (by omega)]
      refine permIn_all d1 d2 a c (fun x => lt d1[j]! x = false) (by omega) P2 (fun i p1 p2 => X i j p1 p2 q1 q2) i i1 (by omega)
    exact all2 j (by omega) j2
/-- the first one, laid among those behind it -/
theorem caseA (S : SWO lt) {a i b : Nat} {d d' : Array α} (r : Rot a (a + 1) i d d') (i1 : a + 1 ≤ i) (i2 : i ≤ b) (hb : b ≤ d.size) (H2 : SortedIn lt (a + 1) b d) (C1 : i = a + 1 ∨ lt d[i - 1]! d[a]! = true) (C2 : i = b ∨ lt d[i]! d[a]! = false) : PermIn a b d d' ∧ SortedIn lt a b d' := by
  have X := cross S (a := a) (b := b) r (Nat.le_refl _) (by omega) i1 i2 (fun p q h1 h2 h3 => absurd h3 (by omega)) H2 (fun h _ => absurd h (by omega)) (fun h1 _ => C1.resolve_left (by omega))
  have hv := halves (lt := lt) (a := a) (c := a + (i - (a + 1))) (b := b) (by omega) (by omega) (by rw [r.1]; exact hb) X (permIn_refl d' _ _) (fun p q h1 h2 h3 => ?_) (permIn_refl d' _ _) (fun p q h1 h2 h3 => ?_)
  · exact ⟨permIn_mono _ _ _ _ a b (Nat.le_refl _) i2 hb (r.perm (by omega) i1 (by omega)), hv.2⟩
  · rw [r.one (i := p) h1 (by omega), r.one (i := q) (by omega) (by omega)]
    exact H2 _ _ (by omega) (by omega) (by omega)
  · rw [r.off (i := q) (by omega)]
    by_cases z : p < i
    · rw [r.two (i := p) h1 z, at_eq (d := d) (show p - (i - (a + 1)) = a by omega)]
      exact S.ntrans _ _ _ (sle S H2 (x := i) (by omega) (by omega) h3) (C2.resolve_left (by omega))
    · rw [r.off (i := p) (by omega)]
      exact H2 _ _ (by omega) h2 h3
/-- the last one, laid among those ahead of it -/
theorem caseB (S : SWO lt) {a i m : Nat} {d d' : Array α} (r : Rot i m (m + 1) d d') (i1 : a ≤ i) (i2 : i ≤ m) (hb : m + 1 ≤ d.size) (H1 : SortedIn lt a m d) (C1 : i = a ∨ lt d[m]! d[i - 1]! = false) (C2 : i = m ∨ lt d[m]! d[i]! = true) : PermIn a (m + 1) d d' ∧ SortedIn lt a (m + 1) d' := by
  have X := cross S (a := a) (b := m + 1) r i1 i2 (by omega) (Nat.le_refl _) H1 (fun p q h1 h2 h3 => absurd h3 (by omega)) (fun _ h => absurd h (by omega)) (fun _ h2 => by rw [Nat.add_sub_cancel]; exact C2.resolve_left (by omega))
  have hv := halves (lt := lt) (a := a) (c := i + (m + 1 - m)) (b := m + 1) (by omega) (by omega) (by rw [r.1]; exact hb) X (permIn_refl d' _ _) (fun p q h1 h2 h3 => ?_) (permIn_refl d' _ _) (fun p q h1 h2 h3 => ?_)
  · exact ⟨permIn_mono _ _ _ _ a (m + 1) i1 (Nat.le_refl _) hb (r.perm i2 (by omega) hb), hv.2⟩
  · by_cases z : q < i
    · rw [r.off (i := p) (by omega), r.off (i := q) (by omega)]
      exact H1 _ _ h1 h2 (by omega)
    · rw [r.off (i := p) (by omega), r.one (i := q) (by omega) (by omega), at_eq (d := d) (show q + (m - i) = m by omega)]
      exact S.ntrans _ _ _ (C1.resolve_left (by omega)) (sle S H1 h1 (by omega) (by omega))
  · rw [r.two (i := p) (by omega) (by omega), r.two (i := q) (by omega) h3]
    exact H1 _ _ (by omega) (by omega) (by omega)
/-- what stands in the halves behind the rotation is two sorted runs each -/
theorem runs {a s m e b : Nat} {d d1 : Array α} (r : Rot s m e d d1) (asl : a ≤ s) (sm : s ≤ m) (me : m ≤ e) (eb : e ≤ b) (H1 : SortedIn lt a m d) (H2 : SortedIn lt m b d) :
    SortedIn lt a s d1 ∧ SortedIn lt s (s + (e - m)) d1 ∧ SortedIn lt (s + (e - m)) e d1 ∧ SortedIn lt e b d1 := by
  refine ⟨fun p q h1 h2 h3 => ?_, fun p q h1 h2 h3 => ?_, fun p q h1 h2 h3 => ?_, fun p q h1 h2 h3 => ?_⟩
  · rw [r.off (i := p) (by omega), r.off (i := q) (by omega)]
    exact H1 _ _ h1 h2 (by omega)
  · rw [r.one (i := p) h1 (by omega), r.one (i := q) (by omega) h3]
    exact H2 _ _ (by omega) (by omega) (by omega)
  · rw [r.two (i := p) h1 (by omega), r.two (i := q) (by omega) h3]
    exact H1 _ _ (by omega) (by omega) (by omega)
  · rw [r.off (i := p) (by omega), r.off (i := q) (by omega)]
    exact H2 _ _ (by omega) h2 h3
/-- and of each pair of them the test holds -/
theorem tests {a s m e b : Nat} {d d1 : Array α} {p : α → α → Prop} (r : Rot s m e d d1) (asl : a ≤ s) (sm : s ≤ m) (me : m ≤ e) (eb : e ≤ b) (H : ∀ i j, a ≤ i → i < m → m ≤ j → j < b → p d[j]! d[i]!) :
    (∀ i j, a ≤ i → i < s → s ≤ j → j < s + (e - m) → p d1[j]! d1[i]!) ∧ (∀ i j, s + (e - m) ≤ i → i < e → e ≤ j → j < b → p d1[j]! d1[i]!) := by
  refine ⟨fun i j h1 h2 h3 h4 => ?_, fun i j h1 h2 h3 h4 => ?_⟩
  · rw [r.off (i := i) (by omega), r.one (i := j) h3 h4]
    exact H _ _ h1 (by omega) (by omega) (by omega)
  · rw [r.two (i := i) h1 h2, r.off (i := j) (by omega)]
    exact H _ _ (by omega) (by omega) (by omega) h4
theorem sorted_one {a s c : Nat} {d : Array α} (h1 : SortedIn lt a s d) (h2 : SortedIn lt s c d) (asl : a ≤ s) (sc : s ≤ c) (n : ¬ (a < s ∧ s < c)) : SortedIn lt a c d := by
  by_cases z : a = s
  · subst z; exact h2
  · obtain rfl : s = c := by omega
    exact h1
theorem sorted_perm {lo hi a b : Nat} {d d' : Array α} (h : SortedIn lt lo hi d) (P : PermIn a b d d') (o : hi ≤ a ∨ b ≤ lo) : SortedIn lt lo hi d' := fun i j h1 h2 h3 => by
  rw [P.2.1 i (by omega), P.2.1 j (by omega)]
  exact h i j h1 h2 h3
/-! insertion keeps the order of equals: the test on the elements alone is the test on their places too -/
theorem ins_perm (l : α → α → Bool) (a : Nat) : ∀ (j : Nat) (d : Array α), a ≤ j → j < d.size → PermIn a (j + 1) d (insInner l a j d)
  | 0, d, h1, h2 => permIn_refl _ _ _
  | j + 1, d, h1, h2 => by
    unfold insInner
    split
    · rename_i c
      simp only [Bool.and_eq_true, decide_eq_true_eq] at c
      have i := ins_perm l a j (swp d (j + 1) j) (by omega) (by rw [size_swp]; omega)
      exact permIn_trans _ _ _ _ _ (swp_permIn d a (j + 2) (j + 1) j (by omega) (by omega) (by omega) (by omega) (by omega)) (permIn_mono _ _ _ _ _ _ (Nat.le_refl _) (by omega) (by rw [size_swp]; omega) i)
    · exact permIn_refl _ _ _
theorem ins_inner {l0 l1 : α → α → Bool} (a : Nat) : ∀ (j : Nat) (d : Array α), j < d.size → (∀ k, a ≤ k → k < j → l0 d[j]! d[k]! = l1 d[j]! d[k]!) → insInner l0 a j d = insInner l1 a j d
  | 0, d, _, _ => rfl
  | j + 1, d, h, e => by
    unfold insInner
    by_cases c : a ≤ j
    · rw [e j c (by omega)]
      split
      · refine ins_inner a j _ (by rw [size_swp]; omega) fun k k1 k2 => ?_
        rw [swp_right _ _ _ (by omega), swp_other _ _ _ _ (by omega) (by omega)]
        exact e k k1 (by omega)
      · rfl
    · have n : decide (j + 1 > a) = false := by simp; omega
      rw [n]
      rfl
theorem ins_outer {l0 l1 : α → α → Bool} (a b : Nat) : ∀ (n i : Nat) (d : Array α), b - i ≤ n → a ≤ i → b ≤ d.size → (∀ p q, i ≤ p → p < b → a ≤ q → q < p → l0 d[p]! d[q]! = l1 d[p]! d[q]!) → insOuter l0 a b i d = insOuter l1 a b i d
  | 0, i, d, h1, h2, h3, e => by
    unfold insOuter
    rw [if_neg (by omega), if_neg (by omega)]
  | n + 1, i, d, h1, h2, h3, e => by
    unfold insOuter
    by_cases c : i < b
    · rw [if_pos c, if_pos c, ins_inner (l0 := l0) (l1 := l1) a i d (by omega) (fun k k1 k2 => e i k (Nat.le_refl _) c k1 k2)]
      have P := ins_perm l1 a i d h2 (by omega)
      refine ins_outer a b n (i + 1) _ (by omega) (by omega) (by rw [P.1]; exact h3) fun p q p1 p2 q1 q2 => ?_
      rw [P.2.1 p (by omega)]
      by_cases z : q < i + 1
      · exact permIn_all _ _ a (i + 1) (fun x => l0 d[p]! x = l1 d[p]! x) (by omega) P (fun q s1 s2 => e p q (by omega) p2 s1 (by omega)) q q1 z
      · rw [P.2.1 q (by omega)]
        exact e p q (by omega) p2 q1 q2
    · rw [if_neg c, if_neg c]
theorem ins_eq {l0 l1 : α → α → Bool} {a b : Nat} {d : Array α} (hb : b ≤ d.size) (e : ∀ p q, p < b → a ≤ q → q < p → l0 d[p]! d[q]! = l1 d[p]! d[q]!) : insertionSort l0 d a b = insertionSort l1 d a b :=
  ins_outer a b (b - (a + 1)) (a + 1) d (Nat.le_refl _) (by omega) hb fun p q p1 p2 q1 q2 => e p q p2 q1 q2
theorem inner_go {l : α → α → Bool} {a j : Nat} {d : Array α} (hj : a < j) (hl : l d[j]! d[j - 1]! = true) : insInner l a j d = insInner l a (j - 1) (swp d j (j - 1)) := by
  obtain ⟨k, rfl⟩ : ∃ k, j = k + 1 := ⟨j - 1, by omega⟩
  rw [insInner]
  simp only [Nat.add_sub_cancel] at hl ⊢
  simp [hj, hl]
theorem inner_stop {l : α → α → Bool} {a j : Nat} {d : Array α} (h : j ≤ a ∨ l d[j]! d[j - 1]! = false) : insInner l a j d = d := by
  cases j with
  | zero => rw [insInner]
  | succ k =>
    rw [insInner]
    rcases h with h | h
    · rw [if_neg (by simp; omega)]
    · simp only [Nat.add_sub_cancel] at h
      rw [if_neg (by simp [h])]
theorem outer_go {l : α → α → Bool} {a b i : Nat} {d : Array α} (h : i < b) : insOuter l a b i d = insOuter l a b (i + 1) (insInner l a i d) := by rw [insOuter, if_pos h]
theorem outer_stop {l : α → α → Bool} {a b i : Nat} {d : Array α} (h : ¬ i < b) : insOuter l a b i d = d := by rw [insOuter, if_neg h]
/-! runs: each with its own elements, and sorted -/
variable (tg : α → Nat) (lt : α → α → Bool)
structure Good (lo hi : Nat) (d : Array α) : Prop where
  t : ∀ i, lo ≤ i → i < hi → lo ≤ tg d[i]! ∧ tg d[i]! < hi
  s : SortedIn lt lo hi d
/-- runs of bs each, up to e -/
def To (bs e : Nat) (d : Array α) : Prop := ∀ k, k * bs < e → Good tg lt (k * bs) (min (k * bs + bs) e) d
/-- .. and from a on, up to n -/
def Fr (bs a n : Nat) (d : Array α) : Prop := ∀ k, a + k * bs < n → Good tg lt (a + k * bs) (min (a + k * bs + bs) n) d
variable {tg lt}
theorem Good.same {lo hi : Nat} {d d' : Array α} (h : Good tg lt lo hi d) (e : ∀ i, lo ≤ i → i < hi → d'[i]! = d[i]!) : Good tg lt lo hi d' :=
  ⟨fun i h1 h2 => by rw [e i h1 h2]; exact h.t i h1 h2, fun i j h1 h2 h3 => by rw [e i h1 (by omega), e j (by omega) h3]; exact h.s i j h1 h2 h3⟩
theorem Good.of_perm {lo hi : Nat} {d d' : Array α} (hb : hi ≤ d.size) (t : ∀ i, lo ≤ i → i < hi → lo ≤ tg d[i]! ∧ tg d[i]! < hi) (P : PermIn lo hi d d') (s : SortedIn lt lo hi d') : Good tg lt lo hi d' :=
  ⟨permIn_all d d' lo hi (fun x => lo ≤ tg x ∧ tg x < hi) hb P t, s⟩
theorem To.zero (bs : Nat) (d : Array α) : To tg lt bs 0 d := fun k h => absurd h (by omega)
theorem To.same {bs e : Nat} {d d' : Array α} (h : To tg lt bs e d) (q : ∀ i, i < e → d'[i]! = d[i]!) : To tg lt bs e d' := fun k hk => (h k hk).same fun i h1 h2 => q i (by omega)
theorem Fr.same {bs a n : Nat} {d d' : Array α} (h : Fr tg lt bs a n d) (q : ∀ i, a ≤ i → d'[i]! = d[i]!) : Fr tg lt bs a n d' := fun k hk => (h k hk).same fun i h1 h2 => q i (by omega)
theorem To.snoc {bs e n K : Nat} {d : Array α} (h : To tg lt bs e d) (he : e = K * bs) (hb : 0 < bs) (g : Good tg lt e (min (e + bs) n) d) (hn : e < n) : To tg lt bs (min (e + bs) n) d := fun k hk => by
  rcases Nat.lt_trichotomy k K with z | z | z
  · have : k * bs + bs ≤ K * bs := by
      have := Nat.mul_le_mul_right bs (show k + 1 ≤ K by omega)
      rwa [Nat.succ_mul] at this
    have q := h k (by omega)
    rwa [show min (k * bs + bs) (min (e + bs) n) = min (k * bs + bs) e by omega]
  · subst z
    rw [← he]
    rwa [show min (e + bs) (min (e + bs) n) = min (e + bs) n by omega]
  · have := Nat.mul_le_mul_right bs (show K + 1 ≤ k by omega)
    rw [Nat.succ_mul] at this
    omega
theorem Fr.head {bs a n : Nat} {d : Array α} (h : Fr tg lt bs a n d) (hn : a < n) : Good tg lt a (min (a + bs) n) d := by
  have := h 0 (by rw [Nat.zero_mul]; omega)
  rwa [Nat.zero_mul, Nat.add_zero] at this
theorem Fr.tail {bs a n : Nat} {d : Array α} (h : Fr tg lt bs a n d) : Fr tg lt bs (a + bs) n d := fun k hk => by
  have e : a + (k + 1) * bs = a + bs + k * bs := by rw [Nat.succ_mul]; omega
  have := h (k + 1) (by omega)
  rwa [e] at this
theorem Fr.of_to {bs n : Nat} {d : Array α} (h : To tg lt bs n d) : Fr tg lt bs 0 n d := fun k hk => by
  rw [Nat.zero_add] at hk ⊢
  exact h k hk
theorem To.all {bs n : Nat} {d : Array α} (h : To tg lt bs n d) (hn : n ≤ bs) : SortedIn lt 0 n d := by
  rcases Nat.eq_zero_or_pos n with z | z
  · subst z
    exact fun i j h1 h2 h3 => absurd h3 (by omega)
  · have := (h 0 (by rw [Nat.zero_mul]; exact z)).s
    rwa [Nat.zero_mul, show min (0 + bs) n = n by omega] at this
theorem To.push {bs e K : Nat} {d : Array α} (h : To tg lt bs e d) (he : e = K * bs) (hb : 0 < bs) (g : Good tg lt e (e + bs) d) : To tg lt bs (e + bs) d := by
  have := h.snoc (n := e + bs) he hb (by rwa [Nat.min_self]) (by omega)
  rwa [Nat.min_self] at this
theorem To.last {bs e n K : Nat} {d : Array α} (h : To tg lt bs e d) (he : e = K * bs) (hb : 0 < bs) (g : Good tg lt e n d) (h1 : e < n) (h2 : n ≤ e + bs) : To tg lt bs n d := by
  have := h.snoc (n := n) he hb (by rwa [show min (e + bs) n = n by omega]) h1
  rwa [show min (e + bs) n = n by omega] at this
theorem Good.merge {a m b : Nat} {d d' : Array α} (am : a ≤ m) (mb : m ≤ b) (hb : b ≤ d.size) (G1 : Good tg lt a m d) (G2 : Good tg lt m b d) (P : PermIn a b d d') (s : SortedIn lt a b d') : Good tg lt a b d' :=
  Good.of_perm hb (fun i h1 h2 => by
    by_cases z : i < m
    · have := G1.t i h1 z; omega
    · have := G2.t i (by omega) h2; omega) P s
end St
end Go.Proofs.Yteblbhbfdfifpaa

/- Sorting that keeps the order of equals, of quotas: the walks. -/
namespace Go.Proofs.Yteblbhbfdfifpaa
open Go Go.Sort Go.RowKit V
set_option maxRecDepth 100000
set_option linter.unusedVariables false
set_option linter.unusedSimpArgs false
set_option maxHeartbeats 4000000
structure Qu where
  pl : Int
  le : Int
instance : Inhabited Qu := ⟨⟨0, 0⟩⟩
/-- a quota, and at which place it stood -/
structure Qt where
  q : Qu
  tg : Nat
instance : Inhabited Qt := ⟨⟨default, 0⟩⟩
def encT (x : Qt) : List Go.Value := [.int .i64 x.q.pl, .int .i64 x.q.le]
theorem arr_get {d : Array Qt} {k : Nat} : d.toList.getD k default = d[k]! := by
  rw [List.getD_eq_getElem?_getD, Array.getElem?_toList]
  by_cases h : k < d.size
  · rw [getElem!_pos d k h, Array.getElem?_eq_getElem h]; rfl
  · rw [getElem!_neg d k h, Array.getElem?_eq_none (by omega)]; rfl
theorem swp_list (d : Array Qt) (i j : Nat) : (swp d i j).toList = (d.toList.set i d[j]!).set j d[i]! := by simp [swp]
/-- what is told of cmp -/
def Cmp (g : FuncId) (cf : Qt → Qt → Int) : Prop := ∀ x y : Qt, V.Fn Try.prog g [] [.agg [.val (.int .i64 x.q.pl), .val (.int .i64 x.q.le)], .agg [.val (.int .i64 y.q.pl), .val (.int .i64 y.q.le)]] (.int .i64 (cf x y))
def less (cf : Qt → Qt → Int) (x y : Qt) : Bool := decide (cf x y < 0)
end Go.Proofs.Yteblbhbfdfifpaa

/- Sorting that keeps the order of equals, of quotas: insertion. -/
namespace Go.Proofs.Yteblbhbfdfifpaa
open Go Go.Sort Go.RowKit V
set_option maxRecDepth 100000
set_option linter.unusedVariables false
set_option linter.unusedSimpArgs false
set_option maxHeartbeats 4000000
end Go.Proofs.Yteblbhbfdfifpaa

/- Sorting that keeps the order of equals, of quotas: what two sorted runs become. -/
namespace Go.Proofs.Yteblbhbfdfifpaa
open Go Go.Sort Go.RowKit V
set_option maxRecDepth 100000
set_option linter.unusedVariables false
set_option linter.unusedSimpArgs false
set_option maxHeartbeats 4000000
theorem _root_.Go.Proofs.Yteblbhbfdfifpaa.V.NShr.mid {i j : Nat} {K : Int → Prop} (hK : K (((i + j) / 2 : Nat) : Int)) : V.NShr .u64 ((i : Int) + j) 1 K := by
  refine ⟨by decide, ?_⟩
  have e : ((i : Int) + j).fdiv (2 ^ (min (1 : Int).toNat IntKind.u64.bits)) = (((i + j) / 2 : Nat) : Int) := by
    rw [show (2 : Int) ^ (min (1 : Int).toNat IntKind.u64.bits) = 2 from by decide, Int.fdiv_eq_ediv_of_nonneg _ (by decide)]
    omega
  rw [e]
  exact hK
end Go.Proofs.Yteblbhbfdfifpaa

/- Sorting that keeps the order of equals, of quotas: what two sorted runs become, the general case. -/
namespace Go.Proofs.Yteblbhbfdfifpaa
open Go Go.Sort Go.RowKit V
set_option maxRecDepth 100000
set_option linter.unusedVariables false
set_option linter.unusedSimpArgs false
set_option maxHeartbeats 4000000
end Go.Proofs.Yteblbhbfdfifpaa

/- Sorting that keeps the order of equals, of quotas: what two sorted runs become, the general case. -/
namespace Go.Proofs.Yteblbhbfdfifpaa
open Go Go.Sort Go.RowKit V
set_option maxRecDepth 100000
set_option linter.unusedVariables false
set_option linter.unusedSimpArgs false
set_option maxHeartbeats 4000000
end Go.Proofs.Yteblbhbfdfifpaa

/- Sorting that keeps the order of equals, of quotas: the whole. -/
namespace Go.Proofs.Yteblbhbfdfifpaa
open Go Go.Sort Go.RowKit V
set_option maxRecDepth 100000
set_option linter.unusedVariables false
set_option linter.unusedSimpArgs false
set_option maxHeartbeats 4000000
end Go.Proofs.Yteblbhbfdfifpaa

/- slices.SortStableFunc, of quotas, that stand each at its place: by what is left, the most first; of as much in the order of their places. -/
namespace Go.Proofs.Yteblbhbfdfifpaa
open Go Go.Sort Go.RowKit V
set_option maxRecDepth 100000
set_option linter.unusedVariables false
set_option linter.unusedSimpArgs false
set_option maxHeartbeats 4000000
def cmpI (u v : Int) : Int := if u < v then -1 else if v < u then 1 else 0
theorem v_isNaN (x : Int) : V.Fn Try.prog 89 [] [.one (.val (.int .i64 x))] (.bool false) := by
  refine V.Fn.mk_ V.Tok V.mixed Try.func89 rfl Try.ntmps89 (by kernel_rfl) rfl rfl ?_
  repeat' ((conv => whnf); first | refine V.NCond.mk ?_ | refine V.NIf.not_ ?_ | refine V.NIf.dec_ ?_ | refine V.NIf.no (by omega) ?_ | refine V.NIf.yes (by omega) ?_ | refine V.NIf.mk (fun _ => ?_) (fun _ => ?_) | refine V.NWrap.ok (by omega) (by omega) ?_ | refine V.NWrap.u64 (by omega) (by omega) ?_ | refine V.NLt.mk (by omega) ?_ | refine V.NBoth.mk ?_ ?_ | refine V.NTF.yes (by omega) ?_ | refine V.NTF.no (by omega) ?_ | refine V.NTF.dec ?_ | refine V.NDraw.q (by exact rfl) (by kernel_rfl) ?_ | refine V.NApp.one (by first | omega | (simp; omega)) (by first | omega | (simp; omega)) ?_ | (refine V.NDraw.any (by kernel_rfl) ?_) | fail)
  all_goals (conv => whnf)
  all_goals first
    | rfl
    | exact ⟨false, rfl, iff_of_false (by omega) (by decide)⟩
    | trace_state
theorem v_compare (u v : Int) : V.Fn Try.prog 83 [] [.one (.val (.int .i64 u)), .one (.val (.int .i64 v))] (.int .i64 (cmpI u v)) := by
  have c1 : u < v → cmpI u v = -1 := fun h => if_pos h
  have c2 : ¬ u < v → v < u → cmpI u v = 1 := fun h k => (if_neg h).trans (if_pos k)
  have c3 : ¬ u < v → ¬ v < u → cmpI u v = 0 := fun h k => (if_neg h).trans (if_neg k)
  refine V.Fn.mk_ V.Tok V.mixed Try.func83 rfl Try.ntmps83 (by kernel_rfl) rfl rfl ?_
  repeat' ((conv => whnf); first | (refine V.NIf.yes ?_ ?_; · (decide; done)) | (refine V.NIf.no ?_ ?_; · (decide; done)) | refine V.NCond.mk ?_ | refine V.NIf.not_ ?_ | refine V.NIf.dec_ ?_ | refine V.NIf.no (by omega) ?_ | refine V.NIf.yes (by omega) ?_ | refine V.NIf.mk (fun _ => ?_) (fun _ => ?_) | refine V.NWrap.ok (by omega) (by omega) ?_ | refine V.NWrap.u64 (by omega) (by omega) ?_ | refine V.NLt.mk (by omega) ?_ | refine V.NBoth.mk ?_ ?_ | refine V.NTF.yes (by omega) ?_ | refine V.NTF.no (by omega) ?_ | refine V.NTF.dec ?_ | refine V.NDraw.q (by exact rfl) (by kernel_rfl) ?_ | refine V.NApp.one (by first | omega | (simp; omega)) (by first | omega | (simp; omega)) ?_ | (first | refine V.Fn.k0 (v_isNaN _) rfl ?_ | refine V.Fn.q0 (v_isNaN _) rfl ?_ | refine V.Fn.a0 (v_isNaN _) rfl ?_) | (refine V.NDraw.any (by kernel_rfl) ?_) | fail)
  all_goals (conv => whnf)
  · rw [c1 (by assumption)]
  · rw [c2 (by assumption) (by assumption)]
  · rw [c3 (by assumption) (by assumption)]
def encQ (x : Qu) : List Go.Value := [.int .i64 x.pl, .int .i64 x.le]
def bf (x y : Qu) : Bool := decide (y.le < x.le ∨ (y.le = x.le ∧ x.pl ≤ y.pl))
def srtQ (l : List Qu) : List Qu := l.mergeSort bf
def tagQ (q : Qu) : Qt := ⟨q, q.pl.toNat⟩
theorem tag_ga (l : List Qu) : ga encT ((l.map tagQ).toArray).toList = ga encQ l := by
  funext k
  unfold ga
  simp only
  have : (l.map tagQ).getD k default = tagQ (l.getD k default) := by
    rw [List.getD_eq_getElem?_getD, List.getD_eq_getElem?_getD, List.getElem?_map]
    cases l[k]? <;> rfl
  rw [this]
  rfl
def ltQ (x y : Qt) : Bool := decide (y.q.le < x.q.le ∨ (y.q.le = x.q.le ∧ x.tg < y.tg))
theorem swoQ : SWO ltQ where
  irrefl x := by unfold ltQ; simp
  trans x y z := by unfold ltQ; simp only [decide_eq_true_eq]; omega
  ntrans x y z := by unfold ltQ; simp only [decide_eq_false_iff_not]; omega
theorem bf_trans : ∀ (a b c : Qu), bf a b = true → bf b c = true → bf a c = true := by
  intro a b c; unfold bf; simp only [decide_eq_true_eq]; omega
theorem bf_total : ∀ (a b : Qu), (bf a b || bf b a) = true := by
  intro a b; unfold bf; simp only [Bool.or_eq_true, decide_eq_true_eq]; omega
theorem srtQ_uniq {l l' : List Qu} (p : l'.Perm l) (s : l'.Pairwise (fun x y => bf x y = true)) : l' = srtQ l := by
  have s2 : (srtQ l).Pairwise (fun x y => bf x y = true) := List.pairwise_mergeSort bf_trans bf_total l
  refine List.Perm.eq_of_pairwise (le := fun x y => bf x y = true) (fun a b _ _ h1 h2 => ?_) s s2 (p.trans (List.mergeSort_perm l bf).symm)
  unfold bf at h1 h2
  simp only [decide_eq_true_eq] at h1 h2
  cases a; cases b
  simp only [Qu.mk.injEq] at *
  omega
end Go.Proofs.Yteblbhbfdfifpaa

/- What cmp.Or answers, of two. -/
namespace Go.Proofs.Yteblbhbfdfifpaa
open Go Go.Sort Go.RowKit V
set_option maxRecDepth 100000
set_option linter.unusedVariables false
set_option linter.unusedSimpArgs false
set_option maxHeartbeats 4000000
def orI (u v : Int) : Int := if u = 0 then v else u
theorem v_or (u v : Int) : V.Fn Try.prog 82 [.arr 1 2 (ga e1 [u, v])] [.one (.ref 0)] (.int .i64 (orI u v)) := by
  have o1 : ¬ u = 0 → orI u v = u := fun h => if_neg h
  have o2 : u = 0 → orI u v = v := fun h => if_pos h
  refine V.Fn.mk_ V.Tok V.mixed Try.func82 rfl Try.ntmps82 (by kernel_rfl) rfl rfl ?_
  repeat' ((conv => whnf); first | refine V.NCond.mk ?_ | refine V.NIf.not_ ?_ | refine V.NIf.dec_ ?_ | refine V.NIf.no (by omega) ?_ | refine V.NIf.yes (by omega) ?_ | refine V.NIf.mk (fun _ => ?_) (fun _ => ?_) | refine V.NWrap.ok (by omega) (by omega) ?_ | refine V.NWrap.u64 (by omega) (by omega) ?_ | refine V.NLt.mk (by omega) ?_ | refine V.NBoth.mk ?_ ?_ | refine V.NTF.yes (by omega) ?_ | refine V.NTF.no (by omega) ?_ | refine V.NTF.dec ?_ | refine V.NDraw.q (by exact rfl) (by kernel_rfl) ?_ | refine V.NApp.one (by first | omega | (simp; omega)) (by first | omega | (simp; omega)) ?_ | (refine V.NDraw.any (by kernel_rfl) ?_) | fail)
  all_goals (conv => whnf)
  refine V.NLoop.auto (fun (k : Nat) => [(8, .one (.val (.int .i64 k)))]) (fun (k : Nat) => []) [] [] (fun (k : Nat) => 2 - k) (fun (k : Nat) => k ≤ 2 ∧ (0 < k → u = 0) ∧ (1 < k → v = 0)) 0 ⟨Nat.zero_le _, fun h => absurd h (by decide), fun h => absurd h (by decide)⟩ (by repeat' (first | exact rfl | exact Iff.rfl | exact trivial | exact (fun _ _ => rfl) | exact (fun _ h => absurd h (Nat.not_lt_zero _)) | refine ⟨?_, ?_⟩ | exact Iff.rfl | exact congrArg (fun z => V.SV.one (V.At.val (Value.int .i64 z))) (by omega))) (by repeat' (first | exact rfl | exact Iff.rfl | exact trivial | exact (fun _ _ => rfl) | exact (fun _ h => absurd h (Nat.not_lt_zero _)) | refine ⟨?_, ?_⟩ | exact Iff.rfl | exact congrArg (fun z => V.SV.one (V.At.val (Value.int .i64 z))) (by omega))) (fun _ => ⟨rfl, rfl⟩) ?_; (conv => whnf); refine ⟨⟨rfl, rfl⟩, ?_⟩
  rintro k ⟨hk, h1, h2⟩
  match k, hk with
  | 0, _ =>
    repeat' ((conv => whnf); first | refine V.NCond.mk ?_ | refine V.NIf.not_ ?_ | refine V.NIf.dec_ ?_ | refine V.NIf.no (by omega) ?_ | refine V.NIf.yes (by omega) ?_ | refine V.NIf.mk (fun _ => ?_) (fun _ => ?_) | refine V.NWrap.ok (by omega) (by omega) ?_ | refine V.NWrap.u64 (by omega) (by omega) ?_ | refine V.NLt.mk (by omega) ?_ | refine V.NBoth.mk ?_ ?_ | refine V.NTF.yes (by omega) ?_ | refine V.NTF.no (by omega) ?_ | refine V.NTF.dec ?_ | refine V.NDraw.q (by exact rfl) (by kernel_rfl) ?_ | refine V.NApp.one (by first | omega | (simp; omega)) (by first | omega | (simp; omega)) ?_ | (refine NIdx.mk ⟨0, rfl, by omega, ?_⟩) | (refine V.NDraw.any (by kernel_rfl) ?_) | fail)
    all_goals (conv => whnf)
    all_goals first
      | exact V.fin1 (o1 (by assumption))
      | (rename_i q; exact V.NBack.at_ 1 [] ⟨by omega, fun _ => q, fun h => absurd h (by decide)⟩ (by omega) (by repeat' (first | exact rfl | exact Iff.rfl | exact trivial | exact (fun _ _ => rfl) | exact (fun _ h => absurd h (Nat.not_lt_zero _)) | refine ⟨?_, ?_⟩ | exact Iff.rfl | exact congrArg (fun z => V.SV.one (V.At.val (Value.int .i64 z))) (by omega))) rfl (by repeat' (first | exact rfl | exact Iff.rfl | exact trivial | exact (fun _ _ => rfl) | exact (fun _ h => absurd h (Nat.not_lt_zero _)) | refine ⟨?_, ?_⟩ | exact Iff.rfl | exact congrArg (fun z => V.SV.one (V.At.val (Value.int .i64 z))) (by omega))) (by repeat' (first | exact rfl | exact Iff.rfl | exact trivial | exact (fun _ _ => rfl) | exact (fun _ h => absurd h (Nat.not_lt_zero _)) | refine ⟨?_, ?_⟩ | exact Iff.rfl | exact congrArg (fun z => V.SV.one (V.At.val (Value.int .i64 z))) (by omega))) (by repeat' (first | exact rfl | exact Iff.rfl | exact trivial | exact (fun _ _ => rfl) | exact (fun _ h => absurd h (Nat.not_lt_zero _)) | refine ⟨?_, ?_⟩ | exact Iff.rfl | exact congrArg (fun z => V.SV.one (V.At.val (Value.int .i64 z))) (by omega))))
  | 1, _ =>
    have := h1 (by decide)
    repeat' ((conv => whnf); first | refine V.NCond.mk ?_ | refine V.NIf.not_ ?_ | refine V.NIf.dec_ ?_ | refine V.NIf.no (by omega) ?_ | refine V.NIf.yes (by omega) ?_ | refine V.NIf.mk (fun _ => ?_) (fun _ => ?_) | refine V.NWrap.ok (by omega) (by omega) ?_ | refine V.NWrap.u64 (by omega) (by omega) ?_ | refine V.NLt.mk (by omega) ?_ | refine V.NBoth.mk ?_ ?_ | refine V.NTF.yes (by omega) ?_ | refine V.NTF.no (by omega) ?_ | refine V.NTF.dec ?_ | refine V.NDraw.q (by exact rfl) (by kernel_rfl) ?_ | refine V.NApp.one (by first | omega | (simp; omega)) (by first | omega | (simp; omega)) ?_ | (refine NIdx.mk ⟨1, rfl, by omega, ?_⟩) | (refine V.NDraw.any (by kernel_rfl) ?_) | fail)
    all_goals (conv => whnf)
    all_goals first
      | exact V.fin1 (o2 this)
      | (rename_i q; exact V.NBack.at_ 2 [] ⟨by omega, fun _ => this, fun _ => q⟩ (by omega) (by repeat' (first | exact rfl | exact Iff.rfl | exact trivial | exact (fun _ _ => rfl) | exact (fun _ h => absurd h (Nat.not_lt_zero _)) | refine ⟨?_, ?_⟩ | exact Iff.rfl | exact congrArg (fun z => V.SV.one (V.At.val (Value.int .i64 z))) (by omega))) rfl (by repeat' (first | exact rfl | exact Iff.rfl | exact trivial | exact (fun _ _ => rfl) | exact (fun _ h => absurd h (Nat.not_lt_zero _)) | refine ⟨?_, ?_⟩ | exact Iff.rfl | exact congrArg (fun z => V.SV.one (V.At.val (Value.int .i64 z))) (by omega))) (by repeat' (first | exact rfl | exact Iff.rfl | exact trivial | exact (fun _ _ => rfl) | exact (fun _ h => absurd h (Nat.not_lt_zero _)) | refine ⟨?_, ?_⟩ | exact Iff.rfl | exact congrArg (fun z => V.SV.one (V.At.val (Value.int .i64 z))) (by omega))) (by repeat' (first | exact rfl | exact Iff.rfl | exact trivial | exact (fun _ _ => rfl) | exact (fun _ h => absurd h (Nat.not_lt_zero _)) | refine ⟨?_, ?_⟩ | exact Iff.rfl | exact congrArg (fun z => V.SV.one (V.At.val (Value.int .i64 z))) (by omega))))
  | 2, _ =>
    have a := h1 (by decide)
    have b := h2 (by decide)
    repeat' ((conv => whnf); first | refine V.NCond.mk ?_ | refine V.NIf.not_ ?_ | refine V.NIf.dec_ ?_ | refine V.NIf.no (by omega) ?_ | refine V.NIf.yes (by omega) ?_ | refine V.NIf.mk (fun _ => ?_) (fun _ => ?_) | refine V.NWrap.ok (by omega) (by omega) ?_ | refine V.NWrap.u64 (by omega) (by omega) ?_ | refine V.NLt.mk (by omega) ?_ | refine V.NBoth.mk ?_ ?_ | refine V.NTF.yes (by omega) ?_ | refine V.NTF.no (by omega) ?_ | refine V.NTF.dec ?_ | refine V.NDraw.q (by exact rfl) (by kernel_rfl) ?_ | refine V.NApp.one (by first | omega | (simp; omega)) (by first | omega | (simp; omega)) ?_ | (refine V.NDraw.any (by kernel_rfl) ?_) | fail)
    all_goals (conv => whnf)
    exact V.fin1 ((o2 a).trans b)
theorem cmpI_lt' (u v : Int) : decide (cmpI u v < 0) = decide (u < v) := by
  unfold cmpI
  by_cases q : u < v
  · rw [if_pos q]; simp [q]
  · rw [if_neg q]
    by_cases q2 : v < u
    · rw [if_pos q2]; simp; omega
    · rw [if_neg q2]; simp; omega
theorem orI_lt (a b c d : Int) : decide (orI (cmpI a b) (cmpI c d) < 0) = decide (a < b ∨ (a = b ∧ c < d)) := by
  have h1 := cmpI_lt' a b
  have h2 := cmpI_lt' c d
  rw [decide_eq_decide] at h1 h2 ⊢
  have z : cmpI a b = 0 ↔ a = b := by
    unfold cmpI
    by_cases q : a < b
    · rw [if_pos q]; omega
    · rw [if_neg q]
      by_cases q2 : b < a
      · rw [if_pos q2]; omega
      · rw [if_neg q2]; omega
  unfold orI
  by_cases q : cmpI a b = 0
  · rw [if_pos q]
    have := z.1 q
    omega
  · rw [if_neg q]
    have : ¬ a = b := fun e => q (z.2 e)
    omega
end Go.Proofs.Yteblbhbfdfifpaa

/- Sorting that keeps the order of equals, of postings: the walks. -/
namespace Go.Proofs.Yteblbhbfdfifpaa
open Go Go.Sort Go.RowKit V
set_option maxRecDepth 100000
set_option linter.unusedVariables false
set_option linter.unusedSimpArgs false
set_option maxHeartbeats 4000000
/-- a posting, and at which place it stood -/
structure PtT where
  q : Po
  tg : Nat
instance : Inhabited PtT := ⟨⟨default, 0⟩⟩
def encTP (x : PtT) : List Go.Value := [.int .i64 x.q.ac, .int .i64 x.q.ut, .int .i64 x.q.am]
theorem arr_getP {d : Array PtT} {k : Nat} : d.toList.getD k default = d[k]! := by
  rw [List.getD_eq_getElem?_getD, Array.getElem?_toList]
  by_cases h : k < d.size
  · rw [getElem!_pos d k h, Array.getElem?_eq_getElem h]; rfl
  · rw [getElem!_neg d k h, Array.getElem?_eq_none (by omega)]; rfl
theorem swp_listP (d : Array PtT) (i j : Nat) : (swp d i j).toList = (d.toList.set i d[j]!).set j d[i]! := by simp [swp]
theorem v_swapP (nx : Nat) (O : Obs) (hT : Tail (nx + 1) O) (g : FuncId) (d : Array PtT) (a b n : Nat) (h1 : a + n ≤ b) (h2 : b + n ≤ d.size) (h3 : d.size ≤ 4611686018427387904) :
    Fam Try.prog 97 [.one (.ref 0), .one (.val (.int .i64 ((a : Int)))), .one (.val (.int .i64 ((b : Int)))), .one (.val (.int .i64 ((n : Int)))), .one (.clo g [])] 56 3 d.size (ga encTP d.toList) nx O (fun r => ∃ d', St.Sw a b n d d' ∧ r = ga encTP d'.toList) := by
  refine Fam.mk hT ?_
  refine V.NCall.inl (f := 97) V.Tok V.mixed Try.func97 rfl Try.ntmps97 (by kernel_rfl) rfl ?_
  repeat' ((conv => whnf); first | refine V.NCond.mk ?_ | refine V.NIf.not_ ?_ | refine V.NIf.dec_ ?_ | refine V.NIf.no (by omega) ?_ | refine V.NIf.yes (by omega) ?_ | refine V.NIf.mk (fun _ => ?_) (fun _ => ?_) | refine V.NWrap.ok (by omega) (by omega) ?_ | refine V.NWrap.u64 (by omega) (by omega) ?_ | refine V.NLt.mk (by omega) ?_ | refine V.NBoth.mk ?_ ?_ | refine V.NTF.yes (by omega) ?_ | refine V.NTF.no (by omega) ?_ | refine V.NTF.dec ?_ | refine V.NDraw.q (by exact rfl) (by kernel_rfl) ?_ | refine V.NApp.one (by first | omega | (simp; omega)) (by first | omega | (simp; omega)) ?_ | (refine V.NDraw.any (by kernel_rfl) ?_) | fail)
  all_goals (conv => whnf)
  refine NLoop.fam hT (fun (i : Nat × Array PtT) => [(10, .one (.val (.int .i64 i.1)))]) [(0, .one (.ref 0)), (1, .one (.val (.int .i64 a))), (2, .one (.val (.int .i64 b))), (3, .one (.val (.int .i64 n))), (4, .one (.clo g []))] 56 3 d.size (fun i => ga encTP i.2.toList) (fun i => n - i.1) (fun i => i.1 ≤ n ∧ St.Sw a b i.1 d i.2) (0, d) ⟨Nat.zero_le _, St.Sw.zero a b d⟩ [(0, _)] rfl rfl rfl (fun k hk => rfl) (by repeat' (first | exact rfl | exact Iff.rfl | exact trivial | exact (fun _ _ => rfl) | exact (fun _ h => absurd h (Nat.not_lt_zero _)) | refine ⟨?_, ?_⟩ | exact Iff.rfl | exact congrArg (fun z => V.SV.one (V.At.val (Value.int .i64 z))) (by omega))) (fun _ => rfl) rfl ?_
  rintro ⟨i, d1⟩ ⟨hi, hS⟩
  dsimp only at hi hS ⊢
  by_cases hlt : i < n
  · have st := hS.succ (by omega) (by omega)
    have sz := hS.1
    have e1 := arr_getP (d := d1) (k := a + i)
    have e2 := arr_getP (d := d1) (k := b + i)
    have e3 := swp_listP d1 (a + i) (b + i)
    rw [← e1, ← e2] at e3
    repeat' ((conv => whnf); first | refine V.NCond.mk ?_ | refine V.NIf.not_ ?_ | refine V.NIf.dec_ ?_ | refine V.NIf.no (by omega) ?_ | refine V.NIf.yes (by omega) ?_ | refine V.NIf.mk (fun _ => ?_) (fun _ => ?_) | refine V.NWrap.ok (by omega) (by omega) ?_ | refine V.NWrap.u64 (by omega) (by omega) ?_ | refine V.NLt.mk (by omega) ?_ | refine V.NBoth.mk ?_ ?_ | refine V.NTF.yes (by omega) ?_ | refine V.NTF.no (by omega) ?_ | refine V.NTF.dec ?_ | refine V.NDraw.q (by exact rfl) (by kernel_rfl) ?_ | refine V.NApp.one (by first | omega | (simp; omega)) (by first | omega | (simp; omega)) ?_ | (refine NIdx.mk ⟨a + i, by omega, by omega, ?_⟩) | (refine NIdx.mk ⟨b + i, by omega, by omega, ?_⟩) | (refine NPut.is_ (en := encTP) (l := d1.toList) (d1.toList.getD (b + i) default) (d1.toList.set (a + i) (d1.toList.getD (b + i) default)) rfl (by simp [sz]) rfl ?_) | (refine NPut.is_ (en := encTP) (l := d1.toList.set (a + i) (d1.toList.getD (b + i) default)) (d1.toList.getD (a + i) default) (swp d1 (a + i) (b + i)).toList e3.symm (by simp [sz]) rfl ?_) | (refine V.NDraw.any (by kernel_rfl) ?_) | fail)
    all_goals (conv => whnf)
    exact FBack.at_ hT (i + 1, swp d1 (a + i) (b + i)) [(0, _), (0, _), (0, _)] ⟨by dsimp only; omega, st⟩ (by dsimp only; omega) (by repeat' (first | exact rfl | exact Iff.rfl | exact trivial | exact (fun _ _ => rfl) | exact (fun _ h => absurd h (Nat.not_lt_zero _)) | refine ⟨?_, ?_⟩ | exact Iff.rfl | exact congrArg (fun z => V.SV.one (V.At.val (Value.int .i64 z))) (by omega))) rfl rfl rfl (fun k hk => rfl)
  · obtain rfl : i = n := by omega
    repeat' ((conv => whnf); first | refine V.NCond.mk ?_ | refine V.NIf.not_ ?_ | refine V.NIf.dec_ ?_ | refine V.NIf.no (by omega) ?_ | refine V.NIf.yes (by omega) ?_ | refine V.NIf.mk (fun _ => ?_) (fun _ => ?_) | refine V.NWrap.ok (by omega) (by omega) ?_ | refine V.NWrap.u64 (by omega) (by omega) ?_ | refine V.NLt.mk (by omega) ?_ | refine V.NBoth.mk ?_ ?_ | refine V.NTF.yes (by omega) ?_ | refine V.NTF.no (by omega) ?_ | refine V.NTF.dec ?_ | refine V.NDraw.q (by exact rfl) (by kernel_rfl) ?_ | refine V.NApp.one (by first | omega | (simp; omega)) (by first | omega | (simp; omega)) ?_ | (refine V.NDraw.any (by kernel_rfl) ?_) | fail)
    all_goals (conv => whnf)
    exact ⟨rfl, rfl, [(0, _)], _, rfl, rfl, rfl, d1, hS, rfl⟩
/-- a rotation -/
theorem v_rotP (nx : Nat) (O : Obs) (hT : Tail (nx + 1) O) (g : FuncId) (d : Array PtT) (a m b : Nat) (h1 : a ≤ m) (h2 : m ≤ b) (h3 : b ≤ d.size) (h4 : a < m) (h5 : m < b) (h6 : d.size ≤ 4611686018427387904) :
    Fam Try.prog 95 [.one (.ref 0), .one (.val (.int .i64 ((a : Int)))), .one (.val (.int .i64 ((m : Int)))), .one (.val (.int .i64 ((b : Int)))), .one (.clo g [])] 56 3 d.size (ga encTP d.toList) nx O (fun r => ∃ d', St.Rot a m b d d' ∧ r = ga encTP d'.toList) := by
  refine Fam.mk hT ?_
  refine V.NCall.inl (f := 95) V.Tok V.mixed Try.func95 rfl Try.ntmps95 (by kernel_rfl) rfl ?_
  repeat' ((conv => whnf); first | refine V.NCond.mk ?_ | refine V.NIf.not_ ?_ | refine V.NIf.dec_ ?_ | refine V.NIf.no (by omega) ?_ | refine V.NIf.yes (by omega) ?_ | refine V.NIf.mk (fun _ => ?_) (fun _ => ?_) | refine V.NWrap.ok (by omega) (by omega) ?_ | refine V.NWrap.u64 (by omega) (by omega) ?_ | refine V.NLt.mk (by omega) ?_ | refine V.NBoth.mk ?_ ?_ | refine V.NTF.yes (by omega) ?_ | refine V.NTF.no (by omega) ?_ | refine V.NTF.dec ?_ | refine V.NDraw.q (by exact rfl) (by kernel_rfl) ?_ | refine V.NApp.one (by first | omega | (simp; omega)) (by first | omega | (simp; omega)) ?_ | (refine V.NDraw.any (by kernel_rfl) ?_) | fail)
  all_goals (conv => whnf)
  refine NLoop.fam hT (fun (s : Nat × Nat × Array PtT) => [(10, .one (.val (.int .i64 s.1))), (11, .one (.val (.int .i64 s.2.1)))]) [(0, .one (.ref 0)), (1, .one (.val (.int .i64 a))), (2, .one (.val (.int .i64 m))), (3, .one (.val (.int .i64 b))), (4, .one (.clo g []))] 56 3 d.size (fun s => ga encTP s.2.2.toList) (fun s => s.1 + s.2.1) (fun s => 0 < s.1 ∧ 0 < s.2.1 ∧ s.1 ≤ m - a ∧ s.2.1 ≤ b - m ∧ s.2.2.size = d.size ∧ ∀ d', St.Rot (m - s.1) m (m + s.2.1) s.2.2 d' → St.Rot a m b d d') (m - a, b - m, d) ⟨by dsimp only; omega, by dsimp only; omega, Nat.le_refl _, Nat.le_refl _, rfl, fun d' r => by dsimp only at r; rwa [show m - (m - a) = a by omega, show m + (b - m) = b by omega] at r⟩ [(0, _)] rfl rfl rfl (fun k hk => rfl) ?_ (fun _ => rfl) rfl ?_
  · exact ⟨congrArg (fun z : Int => SV.one (At.val (Value.int .i64 z))) (show (m : Int) - a = ((m - a : Nat) : Int) by omega), congrArg (fun z : Int => SV.one (At.val (Value.int .i64 z))) (show (b : Int) - m = ((b - m : Nat) : Int) by omega), rfl, rfl, rfl, rfl, rfl, trivial⟩
  rintro ⟨i, j, d1⟩ ⟨hi0, hj0, hi, hj, sz, hR⟩
  dsimp only at hi0 hj0 hi hj sz hR ⊢
  have k1 : ((m - i : Nat) : Int) = (m : Int) - i := by omega
  by_cases e : i = j
  · subst e
    have c := v_swapP nx O hT g d1 (m - i) m i (by omega) (by omega) (by omega)
    rw [sz, k1] at c
    repeat' ((conv => whnf); first | refine V.NCond.mk ?_ | refine V.NIf.not_ ?_ | refine V.NIf.dec_ ?_ | refine V.NIf.no (by omega) ?_ | refine V.NIf.yes (by omega) ?_ | refine V.NIf.mk (fun _ => ?_) (fun _ => ?_) | refine V.NWrap.ok (by omega) (by omega) ?_ | refine V.NWrap.u64 (by omega) (by omega) ?_ | refine V.NLt.mk (by omega) ?_ | refine V.NBoth.mk ?_ ?_ | refine V.NTF.yes (by omega) ?_ | refine V.NTF.no (by omega) ?_ | refine V.NTF.dec ?_ | refine V.NDraw.q (by exact rfl) (by kernel_rfl) ?_ | refine V.NApp.one (by first | omega | (simp; omega)) (by first | omega | (simp; omega)) ?_ | (refine Fam.use c hT [(0, _)] rfl rfl rfl (fun k hk => rfl) ?_; rintro g' ⟨d2, hS, rfl⟩) | (refine V.NDraw.any (by kernel_rfl) ?_) | fail)
    all_goals (conv => whnf)
    exact ⟨rfl, rfl, [(0, _)], _, rfl, rfl, rfl, d2, hR d2 (St.rot_end (by omega) hS), rfl⟩
  · by_cases lt : j < i
    · have c := v_swapP nx O hT g d1 (m - i) m j (by omega) (by omega) (by omega)
      rw [sz, k1] at c
      repeat' ((conv => whnf); first | refine V.NCond.mk ?_ | refine V.NIf.not_ ?_ | refine V.NIf.dec_ ?_ | refine V.NIf.no (by omega) ?_ | refine V.NIf.yes (by omega) ?_ | refine V.NIf.mk (fun _ => ?_) (fun _ => ?_) | refine V.NWrap.ok (by omega) (by omega) ?_ | refine V.NWrap.u64 (by omega) (by omega) ?_ | refine V.NLt.mk (by omega) ?_ | refine V.NBoth.mk ?_ ?_ | refine V.NTF.yes (by omega) ?_ | refine V.NTF.no (by omega) ?_ | refine V.NTF.dec ?_ | refine V.NDraw.q (by exact rfl) (by kernel_rfl) ?_ | refine V.NApp.one (by first | omega | (simp; omega)) (by first | omega | (simp; omega)) ?_ | (refine Fam.use c hT [(0, _)] rfl rfl rfl (fun k hk => rfl) ?_; rintro g' ⟨d2, hS, rfl⟩) | (refine V.NDraw.any (by kernel_rfl) ?_) | fail)
      all_goals (conv => whnf)
      exact FBack.at_ hT (i - j, j, d2) [(0, _)] ⟨by dsimp only; omega, hj0, by dsimp only; omega, hj, by dsimp only; rw [hS.1, sz], fun d' r => hR d' (St.rot_left (by omega) hj0 lt hS r)⟩ (by dsimp only; omega) ⟨congrArg (fun z : Int => SV.one (At.val (Value.int .i64 z))) (show (i : Int) - j = ((i - j : Nat) : Int) by omega), rfl, rfl, rfl, rfl, rfl, rfl, trivial⟩ rfl rfl rfl (fun k hk => rfl)
    · have c := v_swapP nx O hT g d1 (m - i) (m + j - i) i (by omega) (by omega) (by omega)
      rw [sz, k1, show ((m + j - i : Nat) : Int) = (m : Int) + j - i by omega] at c
      repeat' ((conv => whnf); first | refine V.NCond.mk ?_ | refine V.NIf.not_ ?_ | refine V.NIf.dec_ ?_ | refine V.NIf.no (by omega) ?_ | refine V.NIf.yes (by omega) ?_ | refine V.NIf.mk (fun _ => ?_) (fun _ => ?_) | refine V.NWrap.ok (by omega) (by omega) ?_ | refine V.NWrap.u64 (by omega) (by omega) ?_ | refine V.NLt.mk (by omega) ?_ | refine V.NBoth.mk ?_ ?_ | refine V.NTF.yes (by omega) ?_ | refine V.NTF.no (by omega) ?_ | refine V.NTF.dec ?_ | refine V.NDraw.q (by exact rfl) (by kernel_rfl) ?_ | refine V.NApp.one (by first | omega | (simp; omega)) (by first | omega | (simp; omega)) ?_ | (refine Fam.use c hT [(0, _)] rfl rfl rfl (fun k hk => rfl) ?_; rintro g' ⟨d2, hS, rfl⟩) | (refine V.NDraw.any (by kernel_rfl) ?_) | fail)
      all_goals (conv => whnf)
      exact FBack.at_ hT (i, j - i, d2) [(0, _)] ⟨hi0, by dsimp only; omega, hi, by dsimp only; omega, by dsimp only; rw [hS.1, sz], fun d' r => hR d' (St.rot_right (by omega) hi0 (by omega) hS r)⟩ (by dsimp only; omega) ⟨rfl, congrArg (fun z : Int => SV.one (At.val (Value.int .i64 z))) (show (j : Int) - i = ((j - i : Nat) : Int) by omega), rfl, rfl, rfl, rfl, rfl, trivial⟩ rfl rfl rfl (fun k hk => rfl)
/-- what is told of cmp -/
def CmpP (g : FuncId) (cf : PtT → PtT → Int) : Prop := ∀ x y : PtT, V.Fn Try.prog g [] [.agg [.val (.int .i64 x.q.ac), .val (.int .i64 x.q.ut), .val (.int .i64 x.q.am)], .agg [.val (.int .i64 y.q.ac), .val (.int .i64 y.q.ut), .val (.int .i64 y.q.am)]] (.int .i64 (cf x y))
def lessP (cf : PtT → PtT → Int) (x y : PtT) : Bool := decide (cf x y < 0)
end Go.Proofs.Yteblbhbfdfifpaa

/- Sorting that keeps the order of equals, of postings: insertion. -/
namespace Go.Proofs.Yteblbhbfdfifpaa
open Go Go.Sort Go.RowKit V
set_option maxRecDepth 100000
set_option linter.unusedVariables false
set_option linter.unusedSimpArgs false
set_option maxHeartbeats 4000000
theorem v_insP (nx : Nat) (O : Obs) (hT : Tail (nx + 1) O) (g : FuncId) (cf : PtT → PtT → Int) (hc : CmpP g cf) (d : Array PtT) (a b : Nat) (h1 : a ≤ b) (h2 : b ≤ d.size) (h3 : d.size ≤ 4611686018427387904) :
    Fam Try.prog 91 [.one (.ref 0), .one (.val (.int .i64 ((a : Int)))), .one (.val (.int .i64 ((b : Int)))), .one (.clo g [])] 56 3 d.size (ga encTP d.toList) nx O (fun r => r = ga encTP (insertionSort (lessP cf) d a b).toList) := by
  refine Fam.mk hT ?_
  refine V.NCall.inl (f := 91) V.Tok V.mixed Try.func91 rfl Try.ntmps91 (by kernel_rfl) rfl ?_
  repeat' ((conv => whnf); first | refine V.NCond.mk ?_ | refine V.NIf.not_ ?_ | refine V.NIf.dec_ ?_ | refine V.NIf.no (by omega) ?_ | refine V.NIf.yes (by omega) ?_ | refine V.NIf.mk (fun _ => ?_) (fun _ => ?_) | refine V.NWrap.ok (by omega) (by omega) ?_ | refine V.NWrap.u64 (by omega) (by omega) ?_ | refine V.NLt.mk (by omega) ?_ | refine V.NBoth.mk ?_ ?_ | refine V.NTF.yes (by omega) ?_ | refine V.NTF.no (by omega) ?_ | refine V.NTF.dec ?_ | refine V.NDraw.q (by exact rfl) (by kernel_rfl) ?_ | refine V.NApp.one (by first | omega | (simp; omega)) (by first | omega | (simp; omega)) ?_ | (refine V.NDraw.any (by kernel_rfl) ?_) | fail)
  all_goals (conv => whnf)
  refine NLoop.fam hT (fun (s : Nat × Array PtT) => [(8, .one (.val (.int .i64 s.1)))]) [(0, .one (.ref 0)), (1, .one (.val (.int .i64 a))), (2, .one (.val (.int .i64 b))), (3, .one (.clo g []))] 56 3 d.size (fun s => ga encTP s.2.toList) (fun s => b + 1 - s.1) (fun s => a + 1 ≤ s.1 ∧ s.2.size = d.size ∧ insOuter (lessP cf) a b s.1 s.2 = insertionSort (lessP cf) d a b) (a + 1, d) ⟨Nat.le_refl _, rfl, rfl⟩ [(0, _)] rfl rfl rfl (fun k hk => rfl) (by repeat' (first | exact rfl | exact Iff.rfl | exact trivial | exact (fun _ _ => rfl) | exact (fun _ h => absurd h (Nat.not_lt_zero _)) | refine ⟨?_, ?_⟩ | exact Iff.rfl | exact congrArg (fun z => V.SV.one (V.At.val (Value.int .i64 z))) (by omega))) (fun _ => rfl) rfl ?_
  rintro ⟨i, d1⟩ ⟨hi, sz, hI⟩
  dsimp only at hi sz hI ⊢
  by_cases hlt : i < b
  · rw [St.outer_go hlt] at hI
    repeat' ((conv => whnf); first | refine V.NCond.mk ?_ | refine V.NIf.not_ ?_ | refine V.NIf.dec_ ?_ | refine V.NIf.no (by omega) ?_ | refine V.NIf.yes (by omega) ?_ | refine V.NIf.mk (fun _ => ?_) (fun _ => ?_) | refine V.NWrap.ok (by omega) (by omega) ?_ | refine V.NWrap.u64 (by omega) (by omega) ?_ | refine V.NLt.mk (by omega) ?_ | refine V.NBoth.mk ?_ ?_ | refine V.NTF.yes (by omega) ?_ | refine V.NTF.no (by omega) ?_ | refine V.NTF.dec ?_ | refine V.NDraw.q (by exact rfl) (by kernel_rfl) ?_ | refine V.NApp.one (by first | omega | (simp; omega)) (by first | omega | (simp; omega)) ?_ | (refine V.NDraw.any (by kernel_rfl) ?_) | fail)
    all_goals (conv => whnf)
    refine NLoop.fam hT (fun (s : Nat × Array PtT) => [(9, .one (.val (.int .i64 s.1)))]) [(0, .one (.ref 0)), (1, .one (.val (.int .i64 a))), (2, .one (.val (.int .i64 b))), (3, .one (.clo g [])), (8, .one (.val (.int .i64 i)))] 56 3 d.size (fun s => ga encTP s.2.toList) (fun s => s.1) (fun s => a ≤ s.1 ∧ s.1 ≤ i ∧ s.2.size = d.size ∧ insInner (lessP cf) a s.1 s.2 = insInner (lessP cf) a i d1) (i, d1) ⟨by dsimp only; omega, Nat.le_refl _, sz, rfl⟩ [(0, _)] rfl rfl rfl (fun k hk => rfl) (by repeat' (first | exact rfl | exact Iff.rfl | exact trivial | exact (fun _ _ => rfl) | exact (fun _ h => absurd h (Nat.not_lt_zero _)) | refine ⟨?_, ?_⟩ | exact Iff.rfl | exact congrArg (fun z => V.SV.one (V.At.val (Value.int .i64 z))) (by omega))) (fun _ => rfl) rfl ?_
    rintro ⟨j, d2⟩ ⟨hj, hji, sz2, hI2⟩
    dsimp only at hj hji sz2 hI2 ⊢
    by_cases haj : a < j
    · have e1 := arr_getP (d := d2) (k := j)
      have e2 := arr_getP (d := d2) (k := j - 1)
      have e3 := swp_listP d2 j (j - 1)
      rw [← e1, ← e2] at e3
      have hcc := hc (d2.toList.getD j default) (d2.toList.getD (j - 1) default)
      have g1 := @St.inner_go _ _ (lessP cf) a j d2 haj
      have g2 := @St.inner_stop _ _ (lessP cf) a j d2
      rw [← e1, ← e2] at g1 g2
      unfold lessP at g1 g2
      generalize cf (d2.toList.getD j default) (d2.toList.getD (j - 1) default) = c at *
      repeat' ((conv => whnf); first | refine V.NCond.mk ?_ | refine V.NIf.not_ ?_ | refine V.NIf.dec_ ?_ | refine V.NIf.no (by omega) ?_ | refine V.NIf.yes (by omega) ?_ | refine V.NIf.mk (fun _ => ?_) (fun _ => ?_) | refine V.NWrap.ok (by omega) (by omega) ?_ | refine V.NWrap.u64 (by omega) (by omega) ?_ | refine V.NLt.mk (by omega) ?_ | refine V.NBoth.mk ?_ ?_ | refine V.NTF.yes (by omega) ?_ | refine V.NTF.no (by omega) ?_ | refine V.NTF.dec ?_ | refine V.NDraw.q (by exact rfl) (by kernel_rfl) ?_ | refine V.NApp.one (by first | omega | (simp; omega)) (by first | omega | (simp; omega)) ?_ | (refine NIdx.mk ⟨j, by omega, by omega, ?_⟩) | (refine NIdx.mk ⟨j - 1, by omega, by omega, ?_⟩) | (first | refine V.Fn.k0 (hcc) rfl ?_ | refine V.Fn.q0 (hcc) rfl ?_ | refine V.Fn.a0 (hcc) rfl ?_) | (refine NPut.is_ (en := encTP) (l := d2.toList) (d2.toList.getD (j - 1) default) (d2.toList.set j (d2.toList.getD (j - 1) default)) rfl (by simp [sz2]) rfl ?_) | (refine NPut.is_ (en := encTP) (l := d2.toList.set j (d2.toList.getD (j - 1) default)) (d2.toList.getD j default) (swp d2 j (j - 1)).toList e3.symm (by simp [sz2]) rfl ?_) | (refine V.NDraw.any (by kernel_rfl) ?_) | fail)
      all_goals (conv => whnf)
      · have hl : c < 0 := by assumption
        have hg := g1 (decide_eq_true hl)
        exact FBack.at_ hT (j - 1, swp d2 j (j - 1)) [(0, _), (0, _), (0, _)] ⟨by dsimp only; omega, by dsimp only; omega, by dsimp only; rw [size_swp, sz2], hg.symm.trans hI2⟩ (by dsimp only; omega) ⟨congrArg (fun z : Int => SV.one (At.val (Value.int .i64 z))) (show (j : Int) - 1 = ((j - 1 : Nat) : Int) by omega), rfl, rfl, rfl, rfl, rfl, trivial⟩ rfl rfl rfl (fun k hk => rfl)
      · have hl : ¬ c < 0 := by assumption
        have hs := hI2.symm.trans (g2 (.inr (decide_eq_false hl)))
        rw [hs] at hI
        exact FBack.at_ hT (i + 1, d2) [(0, _)] ⟨by dsimp only; omega, sz2, hI⟩ (by dsimp only; omega) (by repeat' (first | exact rfl | exact Iff.rfl | exact trivial | exact (fun _ _ => rfl) | exact (fun _ h => absurd h (Nat.not_lt_zero _)) | refine ⟨?_, ?_⟩ | exact Iff.rfl | exact congrArg (fun z => V.SV.one (V.At.val (Value.int .i64 z))) (by omega))) rfl rfl rfl (fun k hk => rfl)
    · have hs := hI2.symm.trans (@St.inner_stop _ _ (lessP cf) a j d2 (.inl (by omega)))
      rw [hs] at hI
      repeat' ((conv => whnf); first | refine V.NCond.mk ?_ | refine V.NIf.not_ ?_ | refine V.NIf.dec_ ?_ | refine V.NIf.no (by omega) ?_ | refine V.NIf.yes (by omega) ?_ | refine V.NIf.mk (fun _ => ?_) (fun _ => ?_) | refine V.NWrap.ok (by omega) (by omega) ?_ | refine V.NWrap.u64 (by omega) (by omega) ?_ | refine V.NLt.mk (by omega) ?_ | refine V.NBoth.mk ?_ ?_ | refine V.NTF.yes (by omega) ?_ | refine V.NTF.no (by omega) ?_ | refine V.NTF.dec ?_ | refine V.NDraw.q (by exact rfl) (by kernel_rfl) ?_ | refine V.NApp.one (by first | omega | (simp; omega)) (by first | omega | (simp; omega)) ?_ | (refine V.NDraw.any (by kernel_rfl) ?_) | fail)
      all_goals (conv => whnf)
      exact FBack.at_ hT (i + 1, d2) [(0, _)] ⟨by dsimp only; omega, sz2, hI⟩ (by dsimp only; omega) (by repeat' (first | exact rfl | exact Iff.rfl | exact trivial | exact (fun _ _ => rfl) | exact (fun _ h => absurd h (Nat.not_lt_zero _)) | refine ⟨?_, ?_⟩ | exact Iff.rfl | exact congrArg (fun z => V.SV.one (V.At.val (Value.int .i64 z))) (by omega))) rfl rfl rfl (fun k hk => rfl)
  · rw [St.outer_stop hlt] at hI
    repeat' ((conv => whnf); first | refine V.NCond.mk ?_ | refine V.NIf.not_ ?_ | refine V.NIf.dec_ ?_ | refine V.NIf.no (by omega) ?_ | refine V.NIf.yes (by omega) ?_ | refine V.NIf.mk (fun _ => ?_) (fun _ => ?_) | refine V.NWrap.ok (by omega) (by omega) ?_ | refine V.NWrap.u64 (by omega) (by omega) ?_ | refine V.NLt.mk (by omega) ?_ | refine V.NBoth.mk ?_ ?_ | refine V.NTF.yes (by omega) ?_ | refine V.NTF.no (by omega) ?_ | refine V.NTF.dec ?_ | refine V.NDraw.q (by exact rfl) (by kernel_rfl) ?_ | refine V.NApp.one (by first | omega | (simp; omega)) (by first | omega | (simp; omega)) ?_ | (refine V.NDraw.any (by kernel_rfl) ?_) | fail)
    all_goals (conv => whnf)
    exact ⟨rfl, rfl, [(0, _)], _, rfl, rfl, rfl, by rw [hI]⟩
end Go.Proofs.Yteblbhbfdfifpaa

/- Sorting that keeps the order of equals, of postings: what two sorted runs become. -/
namespace Go.Proofs.Yteblbhbfdfifpaa
open Go Go.Sort Go.RowKit V
set_option maxRecDepth 100000
set_option linter.unusedVariables false
set_option linter.unusedSimpArgs false
set_option maxHeartbeats 4000000
theorem v_symAP (nx : Nat) (O : Obs) (hT : Tail (nx + 1) O) (g : FuncId) (cf : PtT → PtT → Int) (hc : CmpP g cf) (lt : PtT → PtT → Bool) (S : SWO lt) (d : Array PtT) (a b : Nat) (h1 : a + 1 < b) (h2 : b ≤ d.size) (h3 : d.size ≤ 4611686018427387903) (H2 : SortedIn lt (a + 1) b d)
    (HT : ∀ j, a + 1 ≤ j → j < b → lessP cf d[j]! d[a]! = lt d[j]! d[a]!) :
    Fam Try.prog 92 [.one (.ref 0), .one (.val (.int .i64 ((a : Int)))), .one (.val (.int .i64 (((a + 1 : Nat) : Int)))), .one (.val (.int .i64 ((b : Int)))), .one (.clo g [])] 56 3 d.size (ga encTP d.toList) nx O (fun r => ∃ d', PermIn a b d d' ∧ SortedIn lt a b d' ∧ r = ga encTP d'.toList) := by
  refine Fam.mk hT ?_
  refine V.NCall.inl (f := 92) V.Tok V.mixed Try.func92 rfl Try.ntmps92 (by kernel_rfl) rfl ?_
  repeat' ((conv => whnf); first | refine V.NCond.mk ?_ | refine V.NIf.not_ ?_ | refine V.NIf.dec_ ?_ | refine V.NIf.no (by omega) ?_ | refine V.NIf.yes (by omega) ?_ | refine V.NIf.mk (fun _ => ?_) (fun _ => ?_) | refine V.NWrap.ok (by omega) (by omega) ?_ | refine V.NWrap.u64 (by omega) (by omega) ?_ | refine V.NLt.mk (by omega) ?_ | refine V.NBoth.mk ?_ ?_ | refine V.NTF.yes (by omega) ?_ | refine V.NTF.no (by omega) ?_ | refine V.NTF.dec ?_ | refine V.NDraw.q (by exact rfl) (by kernel_rfl) ?_ | refine V.NApp.one (by first | omega | (simp; omega)) (by first | omega | (simp; omega)) ?_ | (refine V.NDraw.any (by kernel_rfl) ?_) | fail)
  all_goals (conv => whnf)
  refine NLoop.fam hT (fun (s : Nat × Nat) => [(10, .one (.val (.int .i64 s.1))), (11, .one (.val (.int .i64 s.2)))]) [(0, .one (.ref 0)), (1, .one (.val (.int .i64 a))), (2, .one (.val (.int .i64 ((a + 1 : Nat) : Int)))), (3, .one (.val (.int .i64 b))), (4, .one (.clo g []))] 56 3 d.size (fun s => ga encTP d.toList) (fun s => s.2 - s.1) (fun s => a + 1 ≤ s.1 ∧ s.1 ≤ s.2 ∧ s.2 ≤ b ∧ (s.1 = a + 1 ∨ lt d[s.1 - 1]! d[a]! = true) ∧ (s.2 = b ∨ lt d[s.2]! d[a]! = false)) (a + 1, b) ⟨Nat.le_refl _, by dsimp only; omega, Nat.le_refl _, .inl rfl, .inl rfl⟩ [(0, _)] rfl rfl rfl (fun k hk => rfl) (by repeat' (first | exact rfl | exact Iff.rfl | exact trivial | exact (fun _ _ => rfl) | exact (fun _ h => absurd h (Nat.not_lt_zero _)) | refine ⟨?_, ?_⟩ | exact Iff.rfl | exact congrArg (fun z => V.SV.one (V.At.val (Value.int .i64 z))) (by omega))) (fun _ => rfl) rfl ?_
  rintro ⟨i, j⟩ ⟨hi, hij, hj, C1, C2⟩
  dsimp only at hi hij hj C1 C2 ⊢
  by_cases hlt : i < j
  · obtain ⟨h, eh⟩ : ∃ h, h = (i + j) / 2 := ⟨_, rfl⟩
    have h5 : i ≤ h ∧ h < j := by omega
    have e1 := arr_getP (d := d) (k := h)
    have e2 := arr_getP (d := d) (k := a)
    have hcc := hc (d.toList.getD h default) (d.toList.getD a default)
    have ht := HT h (by omega) (by omega)
    rw [← e1, ← e2] at ht
    unfold lessP at ht
    rw [e1, e2] at ht
    rw [← e1, ← e2] at ht
    generalize cf (d.toList.getD h default) (d.toList.getD a default) = c at *
    rw [e1, e2] at ht
    repeat' ((conv => whnf); first | refine V.NCond.mk ?_ | refine V.NIf.not_ ?_ | refine V.NIf.dec_ ?_ | refine V.NIf.no (by omega) ?_ | refine V.NIf.yes (by omega) ?_ | refine V.NIf.mk (fun _ => ?_) (fun _ => ?_) | refine V.NWrap.ok (by omega) (by omega) ?_ | refine V.NWrap.u64 (by omega) (by omega) ?_ | refine V.NLt.mk (by omega) ?_ | refine V.NBoth.mk ?_ ?_ | refine V.NTF.yes (by omega) ?_ | refine V.NTF.no (by omega) ?_ | refine V.NTF.dec ?_ | refine V.NDraw.q (by exact rfl) (by kernel_rfl) ?_ | refine V.NApp.one (by first | omega | (simp; omega)) (by first | omega | (simp; omega)) ?_ | (refine NShr.mid ?_; rw [← eh]) | (refine NIdx.mk ⟨h, by omega, by omega, ?_⟩) | (refine NIdx.mk ⟨a, by omega, by omega, ?_⟩) | (first | refine V.Fn.k0 (hcc) rfl ?_ | refine V.Fn.q0 (hcc) rfl ?_ | refine V.Fn.a0 (hcc) rfl ?_) | (refine V.NDraw.any (by kernel_rfl) ?_) | fail)
    all_goals (conv => whnf)
    · have hl : c < 0 := by assumption
      exact FBack.at_ hT (h + 1, j) [(0, _)] ⟨by dsimp only; omega, by dsimp only; omega, hj, .inr (by dsimp only; rw [Nat.add_sub_cancel, ← ht]; exact decide_eq_true hl), C2⟩ (by dsimp only; omega) (by repeat' (first | exact rfl | exact Iff.rfl | exact trivial | exact (fun _ _ => rfl) | exact (fun _ h => absurd h (Nat.not_lt_zero _)) | refine ⟨?_, ?_⟩ | exact Iff.rfl | exact congrArg (fun z => V.SV.one (V.At.val (Value.int .i64 z))) (by omega))) rfl rfl rfl (fun k hk => rfl)
    · have hl : ¬ c < 0 := by assumption
      exact FBack.at_ hT (i, h) [(0, _)] ⟨hi, by dsimp only; omega, by dsimp only; omega, C1, .inr (by dsimp only; rw [← ht]; exact decide_eq_false hl)⟩ (by dsimp only; omega) (by repeat' (first | exact rfl | exact Iff.rfl | exact trivial | exact (fun _ _ => rfl) | exact (fun _ h => absurd h (Nat.not_lt_zero _)) | refine ⟨?_, ?_⟩ | exact Iff.rfl | exact congrArg (fun z => V.SV.one (V.At.val (Value.int .i64 z))) (by omega))) rfl rfl rfl (fun k hk => rfl)
  · obtain rfl : i = j := by omega
    repeat' ((conv => whnf); first | refine V.NCond.mk ?_ | refine V.NIf.not_ ?_ | refine V.NIf.dec_ ?_ | refine V.NIf.no (by omega) ?_ | refine V.NIf.yes (by omega) ?_ | refine V.NIf.mk (fun _ => ?_) (fun _ => ?_) | refine V.NWrap.ok (by omega) (by omega) ?_ | refine V.NWrap.u64 (by omega) (by omega) ?_ | refine V.NLt.mk (by omega) ?_ | refine V.NBoth.mk ?_ ?_ | refine V.NTF.yes (by omega) ?_ | refine V.NTF.no (by omega) ?_ | refine V.NTF.dec ?_ | refine V.NDraw.q (by exact rfl) (by kernel_rfl) ?_ | refine V.NApp.one (by first | omega | (simp; omega)) (by first | omega | (simp; omega)) ?_ | (refine V.NDraw.any (by kernel_rfl) ?_) | fail)
    all_goals (conv => whnf)
    refine NLoop.fam hT (fun (s : Nat × Array PtT) => [(13, .one (.val (.int .i64 s.1)))]) [(0, .one (.ref 0)), (10, .one (.val (.int .i64 i)))] 56 3 d.size (fun s => ga encTP s.2.toList) (fun s => i - s.1) (fun s => a ≤ s.1 ∧ s.1 + 1 ≤ i ∧ St.Rot a (a + 1) (s.1 + 1) d s.2) (a, d) ⟨Nat.le_refl _, hi, St.Rot.refl_r⟩ [(0, _)] rfl rfl rfl (fun k hk => rfl) (by repeat' (first | exact rfl | exact Iff.rfl | exact trivial | exact (fun _ _ => rfl) | exact (fun _ h => absurd h (Nat.not_lt_zero _)) | refine ⟨?_, ?_⟩ | exact Iff.rfl | exact congrArg (fun z => V.SV.one (V.At.val (Value.int .i64 z))) (by omega))) (fun _ => rfl) rfl ?_
    rintro ⟨k, d1⟩ ⟨hk, hki, hR⟩
    dsimp only at hk hki hR ⊢
    have sz := hR.1
    by_cases hlt : k + 1 < i
    · have e1 := arr_getP (d := d1) (k := k)
      have e2 := arr_getP (d := d1) (k := k + 1)
      have e3 := swp_listP d1 k (k + 1)
      rw [← e1, ← e2] at e3
      have up := hR.up hk (by omega)
      repeat' ((conv => whnf); first | refine V.NCond.mk ?_ | refine V.NIf.not_ ?_ | refine V.NIf.dec_ ?_ | refine V.NIf.no (by omega) ?_ | refine V.NIf.yes (by omega) ?_ | refine V.NIf.mk (fun _ => ?_) (fun _ => ?_) | refine V.NWrap.ok (by omega) (by omega) ?_ | refine V.NWrap.u64 (by omega) (by omega) ?_ | refine V.NLt.mk (by omega) ?_ | refine V.NBoth.mk ?_ ?_ | refine V.NTF.yes (by omega) ?_ | refine V.NTF.no (by omega) ?_ | refine V.NTF.dec ?_ | refine V.NDraw.q (by exact rfl) (by kernel_rfl) ?_ | refine V.NApp.one (by first | omega | (simp; omega)) (by first | omega | (simp; omega)) ?_ | (refine NIdx.mk ⟨k, by omega, by omega, ?_⟩) | (refine NIdx.mk ⟨k + 1, by omega, by omega, ?_⟩) | (refine NPut.is_ (en := encTP) (l := d1.toList) (d1.toList.getD (k + 1) default) (d1.toList.set k (d1.toList.getD (k + 1) default)) rfl (by simp [sz]) rfl ?_) | (refine NPut.is_ (en := encTP) (l := d1.toList.set k (d1.toList.getD (k + 1) default)) (d1.toList.getD k default) (swp d1 k (k + 1)).toList e3.symm (by simp [sz]) rfl ?_) | (refine V.NDraw.any (by kernel_rfl) ?_) | fail)
      all_goals (conv => whnf)
      exact FBack.at_ hT (k + 1, swp d1 k (k + 1)) [(0, _), (0, _), (0, _)] ⟨by dsimp only; omega, by dsimp only; omega, up⟩ (by dsimp only; omega) (by repeat' (first | exact rfl | exact Iff.rfl | exact trivial | exact (fun _ _ => rfl) | exact (fun _ h => absurd h (Nat.not_lt_zero _)) | refine ⟨?_, ?_⟩ | exact Iff.rfl | exact congrArg (fun z => V.SV.one (V.At.val (Value.int .i64 z))) (by omega))) rfl rfl rfl (fun k hk => rfl)
    · obtain rfl : k + 1 = i := by omega
      obtain ⟨P, T⟩ := St.caseA S hR hi hj h2 H2 C1 C2
      repeat' ((conv => whnf); first | refine V.NCond.mk ?_ | refine V.NIf.not_ ?_ | refine V.NIf.dec_ ?_ | refine V.NIf.no (by omega) ?_ | refine V.NIf.yes (by omega) ?_ | refine V.NIf.mk (fun _ => ?_) (fun _ => ?_) | refine V.NWrap.ok (by omega) (by omega) ?_ | refine V.NWrap.u64 (by omega) (by omega) ?_ | refine V.NLt.mk (by omega) ?_ | refine V.NBoth.mk ?_ ?_ | refine V.NTF.yes (by omega) ?_ | refine V.NTF.no (by omega) ?_ | refine V.NTF.dec ?_ | refine V.NDraw.q (by exact rfl) (by kernel_rfl) ?_ | refine V.NApp.one (by first | omega | (simp; omega)) (by first | omega | (simp; omega)) ?_ | (refine V.NDraw.any (by kernel_rfl) ?_) | fail)
      all_goals (conv => whnf)
      exact ⟨rfl, rfl, [(0, _)], _, rfl, rfl, rfl, d1, P, T, rfl⟩
theorem v_symBP (nx : Nat) (O : Obs) (hT : Tail (nx + 1) O) (g : FuncId) (cf : PtT → PtT → Int) (hc : CmpP g cf) (lt : PtT → PtT → Bool) (S : SWO lt) (d : Array PtT) (a m : Nat) (h1 : a + 1 < m) (h2 : m + 1 ≤ d.size) (h3 : d.size ≤ 4611686018427387903) (H1 : SortedIn lt a m d)
    (HT : ∀ i, a ≤ i → i < m → lessP cf d[m]! d[i]! = lt d[m]! d[i]!) :
    Fam Try.prog 92 [.one (.ref 0), .one (.val (.int .i64 ((a : Int)))), .one (.val (.int .i64 ((m : Int)))), .one (.val (.int .i64 (((m + 1 : Nat) : Int)))), .one (.clo g [])] 56 3 d.size (ga encTP d.toList) nx O (fun r => ∃ d', PermIn a (m + 1) d d' ∧ SortedIn lt a (m + 1) d' ∧ r = ga encTP d'.toList) := by
  refine Fam.mk hT ?_
  refine V.NCall.inl (f := 92) V.Tok V.mixed Try.func92 rfl Try.ntmps92 (by kernel_rfl) rfl ?_
  repeat' ((conv => whnf); first | refine V.NCond.mk ?_ | refine V.NIf.not_ ?_ | refine V.NIf.dec_ ?_ | refine V.NIf.no (by omega) ?_ | refine V.NIf.yes (by omega) ?_ | refine V.NIf.mk (fun _ => ?_) (fun _ => ?_) | refine V.NWrap.ok (by omega) (by omega) ?_ | refine V.NWrap.u64 (by omega) (by omega) ?_ | refine V.NLt.mk (by omega) ?_ | refine V.NBoth.mk ?_ ?_ | refine V.NTF.yes (by omega) ?_ | refine V.NTF.no (by omega) ?_ | refine V.NTF.dec ?_ | refine V.NDraw.q (by exact rfl) (by kernel_rfl) ?_ | refine V.NApp.one (by first | omega | (simp; omega)) (by first | omega | (simp; omega)) ?_ | (refine V.NDraw.any (by kernel_rfl) ?_) | fail)
  all_goals (conv => whnf)
  refine NLoop.fam hT (fun (s : Nat × Nat) => [(14, .one (.val (.int .i64 s.1))), (15, .one (.val (.int .i64 s.2)))]) [(0, .one (.ref 0)), (1, .one (.val (.int .i64 a))), (2, .one (.val (.int .i64 m))), (3, .one (.val (.int .i64 ((m + 1 : Nat) : Int)))), (4, .one (.clo g []))] 56 3 d.size (fun s => ga encTP d.toList) (fun s => s.2 - s.1) (fun s => a ≤ s.1 ∧ s.1 ≤ s.2 ∧ s.2 ≤ m ∧ (s.1 = a ∨ lt d[m]! d[s.1 - 1]! = false) ∧ (s.2 = m ∨ lt d[m]! d[s.2]! = true)) (a, m) ⟨Nat.le_refl _, by dsimp only; omega, Nat.le_refl _, .inl rfl, .inl rfl⟩ [(0, _)] rfl rfl rfl (fun k hk => rfl) (by repeat' (first | exact rfl | exact Iff.rfl | exact trivial | exact (fun _ _ => rfl) | exact (fun _ h => absurd h (Nat.not_lt_zero _)) | refine ⟨?_, ?_⟩ | exact Iff.rfl | exact congrArg (fun z => V.SV.one (V.At.val (Value.int .i64 z))) (by omega))) (fun _ => rfl) rfl ?_
  rintro ⟨i, j⟩ ⟨hi, hij, hj, C1, C2⟩
  dsimp only at hi hij hj C1 C2 ⊢
  by_cases hlt : i < j
  · obtain ⟨h, eh⟩ : ∃ h, h = (i + j) / 2 := ⟨_, rfl⟩
    have h5 : i ≤ h ∧ h < j := by omega
    have e1 := arr_getP (d := d) (k := m)
    have e2 := arr_getP (d := d) (k := h)
    have hcc := hc (d.toList.getD m default) (d.toList.getD h default)
    have ht := HT h (by omega) (by omega)
    rw [← e1, ← e2] at ht
    unfold lessP at ht
    generalize cf (d.toList.getD m default) (d.toList.getD h default) = c at *
    rw [e1, e2] at ht
    repeat' ((conv => whnf); first | refine V.NCond.mk ?_ | refine V.NIf.not_ ?_ | refine V.NIf.dec_ ?_ | refine V.NIf.no (by omega) ?_ | refine V.NIf.yes (by omega) ?_ | refine V.NIf.mk (fun _ => ?_) (fun _ => ?_) | refine V.NWrap.ok (by omega) (by omega) ?_ | refine V.NWrap.u64 (by omega) (by omega) ?_ | refine V.NLt.mk (by omega) ?_ | refine V.NBoth.mk ?_ ?_ | refine V.NTF.yes (by omega) ?_ | refine V.NTF.no (by omega) ?_ | refine V.NTF.dec ?_ | refine V.NDraw.q (by exact rfl) (by kernel_rfl) ?_ | refine V.NApp.one (by first | omega | (simp; omega)) (by first | omega | (simp; omega)) ?_ | (refine NShr.mid ?_; rw [← eh]) | (refine NIdx.mk ⟨m, by omega, by omega, ?_⟩) | (refine NIdx.mk ⟨h, by omega, by omega, ?_⟩) | (first | refine V.Fn.k0 (hcc) rfl ?_ | refine V.Fn.q0 (hcc) rfl ?_ | refine V.Fn.a0 (hcc) rfl ?_) | (refine V.NDraw.any (by kernel_rfl) ?_) | fail)
    all_goals (conv => whnf)
    · have hl : c < 0 := by assumption
      exact FBack.at_ hT (i, h) [(0, _)] ⟨hi, by dsimp only; omega, by dsimp only; omega, C1, .inr (by dsimp only; rw [← ht]; exact decide_eq_true hl)⟩ (by dsimp only; omega) (by repeat' (first | exact rfl | exact Iff.rfl | exact trivial | exact (fun _ _ => rfl) | exact (fun _ h => absurd h (Nat.not_lt_zero _)) | refine ⟨?_, ?_⟩ | exact Iff.rfl | exact congrArg (fun z => V.SV.one (V.At.val (Value.int .i64 z))) (by omega))) rfl rfl rfl (fun k hk => rfl)
    · have hl : ¬ c < 0 := by assumption
      exact FBack.at_ hT (h + 1, j) [(0, _)] ⟨by dsimp only; omega, by dsimp only; omega, hj, .inr (by dsimp only; rw [Nat.add_sub_cancel, ← ht]; exact decide_eq_false hl), C2⟩ (by dsimp only; omega) (by repeat' (first | exact rfl | exact Iff.rfl | exact trivial | exact (fun _ _ => rfl) | exact (fun _ h => absurd h (Nat.not_lt_zero _)) | refine ⟨?_, ?_⟩ | exact Iff.rfl | exact congrArg (fun z => V.SV.one (V.At.val (Value.int .i64 z))) (by omega))) rfl rfl rfl (fun k hk => rfl)
  · obtain rfl : i = j := by omega
    repeat' ((conv => whnf); first | refine V.NCond.mk ?_ | refine V.NIf.not_ ?_ | refine V.NIf.dec_ ?_ | refine V.NIf.no (by omega) ?_ | refine V.NIf.yes (by omega) ?_ | refine V.NIf.mk (fun _ => ?_) (fun _ => ?_) | refine V.NWrap.ok (by omega) (by omega) ?_ | refine V.NWrap.u64 (by omega) (by omega) ?_ | refine V.NLt.mk (by omega) ?_ | refine V.NBoth.mk ?_ ?_ | refine V.NTF.yes (by omega) ?_ | refine V.NTF.no (by omega) ?_ | refine V.NTF.dec ?_ | refine V.NDraw.q (by exact rfl) (by kernel_rfl) ?_ | refine V.NApp.one (by first | omega | (simp; omega)) (by first | omega | (simp; omega)) ?_ | (refine V.NDraw.any (by kernel_rfl) ?_) | fail)
    all_goals (conv => whnf)
    refine NLoop.fam hT (fun (s : Nat × Array PtT) => [(17, .one (.val (.int .i64 s.1)))]) [(0, .one (.ref 0)), (14, .one (.val (.int .i64 i)))] 56 3 d.size (fun s => ga encTP s.2.toList) (fun s => s.1) (fun s => i ≤ s.1 ∧ s.1 ≤ m ∧ St.Rot s.1 m (m + 1) d s.2) (m, d) ⟨hj, Nat.le_refl _, St.Rot.refl_l⟩ [(0, _)] rfl rfl rfl (fun k hk => rfl) (by repeat' (first | exact rfl | exact Iff.rfl | exact trivial | exact (fun _ _ => rfl) | exact (fun _ h => absurd h (Nat.not_lt_zero _)) | refine ⟨?_, ?_⟩ | exact Iff.rfl | exact congrArg (fun z => V.SV.one (V.At.val (Value.int .i64 z))) (by omega))) (fun _ => rfl) rfl ?_
    rintro ⟨k, d1⟩ ⟨hk, hki, hR⟩
    dsimp only at hk hki hR ⊢
    have sz := hR.1
    by_cases hlt : i < k
    · obtain ⟨q, rfl⟩ : ∃ q, k = q + 1 := ⟨k - 1, by omega⟩
      have e1 := arr_getP (d := d1) (k := q + 1)
      have e2 := arr_getP (d := d1) (k := q)
      have e3 := swp_listP d1 (q + 1) q
      rw [← e1, ← e2] at e3
      have dn := hR.down (i := i) (by omega) (by omega)
      repeat' ((conv => whnf); first | refine V.NCond.mk ?_ | refine V.NIf.not_ ?_ | refine V.NIf.dec_ ?_ | refine V.NIf.no (by omega) ?_ | refine V.NIf.yes (by omega) ?_ | refine V.NIf.mk (fun _ => ?_) (fun _ => ?_) | refine V.NWrap.ok (by omega) (by omega) ?_ | refine V.NWrap.u64 (by omega) (by omega) ?_ | refine V.NLt.mk (by omega) ?_ | refine V.NBoth.mk ?_ ?_ | refine V.NTF.yes (by omega) ?_ | refine V.NTF.no (by omega) ?_ | refine V.NTF.dec ?_ | refine V.NDraw.q (by exact rfl) (by kernel_rfl) ?_ | refine V.NApp.one (by first | omega | (simp; omega)) (by first | omega | (simp; omega)) ?_ | (refine NIdx.mk ⟨q + 1, by omega, by omega, ?_⟩) | (refine NIdx.mk ⟨q, by omega, by omega, ?_⟩) | (refine NPut.is_ (en := encTP) (l := d1.toList) (d1.toList.getD q default) (d1.toList.set (q + 1) (d1.toList.getD q default)) rfl (by simp [sz]) rfl ?_) | (refine NPut.is_ (en := encTP) (l := d1.toList.set (q + 1) (d1.toList.getD q default)) (d1.toList.getD (q + 1) default) (swp d1 (q + 1) q).toList e3.symm (by simp [sz]) rfl ?_) | (refine V.NDraw.any (by kernel_rfl) ?_) | fail)
      all_goals (conv => whnf)
      exact FBack.at_ hT (q, swp d1 (q + 1) q) [(0, _), (0, _), (0, _)] ⟨by dsimp only; omega, by dsimp only; omega, dn⟩ (by dsimp only; omega) ⟨congrArg (fun z : Int => SV.one (At.val (Value.int .i64 z))) (show ((q + 1 : Nat) : Int) - 1 = (q : Int) by omega), rfl, rfl, trivial⟩ rfl rfl rfl (fun k hk => rfl)
    · obtain rfl : k = i := by omega
      obtain ⟨P, T⟩ := St.caseB S hR hi hj h2 H1 C1 C2
      repeat' ((conv => whnf); first | refine V.NCond.mk ?_ | refine V.NIf.not_ ?_ | refine V.NIf.dec_ ?_ | refine V.NIf.no (by omega) ?_ | refine V.NIf.yes (by omega) ?_ | refine V.NIf.mk (fun _ => ?_) (fun _ => ?_) | refine V.NWrap.ok (by omega) (by omega) ?_ | refine V.NWrap.u64 (by omega) (by omega) ?_ | refine V.NLt.mk (by omega) ?_ | refine V.NBoth.mk ?_ ?_ | refine V.NTF.yes (by omega) ?_ | refine V.NTF.no (by omega) ?_ | refine V.NTF.dec ?_ | refine V.NDraw.q (by exact rfl) (by kernel_rfl) ?_ | refine V.NApp.one (by first | omega | (simp; omega)) (by first | omega | (simp; omega)) ?_ | (refine V.NDraw.any (by kernel_rfl) ?_) | fail)
      all_goals (conv => whnf)
      exact ⟨rfl, rfl, [(0, _)], _, rfl, rfl, rfl, d1, P, T, rfl⟩
end Go.Proofs.Yteblbhbfdfifpaa

/- Sorting that keeps the order of equals, of postings: what two sorted runs become, the general case. -/
namespace Go.Proofs.Yteblbhbfdfifpaa
open Go Go.Sort Go.RowKit V
set_option maxRecDepth 100000
set_option linter.unusedVariables false
set_option linter.unusedSimpArgs false
set_option maxHeartbeats 4000000
theorem v_symC1P (nx : Nat) (O : Obs) (hT : Tail (nx + 1) O) (g : FuncId) (cf : PtT → PtT → Int) (hc : CmpP g cf) (lt : PtT → PtT → Bool) (S : SWO lt) (d : Array PtT) (a m b : Nat) (h0 : a + 1 < m) (h1 : m + 1 < b) (h2 : b ≤ d.size) (h3 : d.size ≤ 2305843009213693951) (H1 : SortedIn lt a m d) (H2 : SortedIn lt m b d)
    (HT : ∀ i j, a ≤ i → i < m → m ≤ j → j < b → lessP cf d[j]! d[i]! = lt d[j]! d[i]!) (hm : (a + b) / 2 < m)
    (ih : ∀ (e : Array PtT) (x y z : Nat), z - x < b - a → a ≤ x → x < y → y < z → z ≤ b → e.size = d.size → SortedIn lt x y e → SortedIn lt y z e → (∀ i j, x ≤ i → i < y → y ≤ j → j < z → lessP cf e[j]! e[i]! = lt e[j]! e[i]!) →
      Fam Try.prog 92 [.one (.ref 0), .one (.val (.int .i64 ((x : Int)))), .one (.val (.int .i64 ((y : Int)))), .one (.val (.int .i64 ((z : Int)))), .one (.clo g [])] 56 3 d.size (ga encTP e.toList) nx O (fun r => ∃ d', PermIn x z e d' ∧ SortedIn lt x z d' ∧ r = ga encTP d'.toList)) :
    Fam Try.prog 92 [.one (.ref 0), .one (.val (.int .i64 ((a : Int)))), .one (.val (.int .i64 ((m : Int)))), .one (.val (.int .i64 ((b : Int)))), .one (.clo g [])] 56 3 d.size (ga encTP d.toList) nx O (fun r => ∃ d', PermIn a b d d' ∧ SortedIn lt a b d' ∧ r = ga encTP d'.toList) := by
  refine Fam.mk hT ?_
  refine V.NCall.inl (f := 92) V.Tok V.mixed Try.func92 rfl Try.ntmps92 (by kernel_rfl) rfl ?_
  obtain ⟨mid, em⟩ : ∃ mid, mid = (a + b) / 2 := ⟨_, rfl⟩
  have bm : a < mid ∧ mid < b := by omega
  have bm2 : 2 * mid ≤ a + b ∧ a + b ≤ 2 * mid + 1 := by omega
  repeat' ((conv => whnf); first | refine V.NCond.mk ?_ | refine V.NIf.not_ ?_ | refine V.NIf.dec_ ?_ | refine V.NIf.no (by omega) ?_ | refine V.NIf.yes (by omega) ?_ | refine V.NIf.mk (fun _ => ?_) (fun _ => ?_) | refine V.NWrap.ok (by omega) (by omega) ?_ | refine V.NWrap.u64 (by omega) (by omega) ?_ | refine V.NLt.mk (by omega) ?_ | refine V.NBoth.mk ?_ ?_ | refine V.NTF.yes (by omega) ?_ | refine V.NTF.no (by omega) ?_ | refine V.NTF.dec ?_ | refine V.NDraw.q (by exact rfl) (by kernel_rfl) ?_ | refine V.NApp.one (by first | omega | (simp; omega)) (by first | omega | (simp; omega)) ?_ | (refine NShr.mid ?_; rw [← em]) | (refine V.NDraw.any (by kernel_rfl) ?_) | fail)
  all_goals (conv => whnf)
  refine NLoop.fam hT (fun (s : Nat × Nat) => [(20, .one (.val (.int .i64 s.1))), (21, .one (.val (.int .i64 s.2)))]) [(0, .one (.ref 0)), (1, .one (.val (.int .i64 a))), (2, .one (.val (.int .i64 m))), (3, .one (.val (.int .i64 b))), (4, .one (.clo g [])), (18, .one (.val (.int .i64 mid))), (19, .one (.val (.int .i64 ((mid : Int) + m)))), (22, .one (.val (.int .i64 ((mid : Int) + m - 1))))] 56 3 d.size (fun s => ga encTP d.toList) (fun s => s.2 - s.1) (fun s => (mid + m - b) ≤ s.1 ∧ s.1 ≤ s.2 ∧ s.2 ≤ mid ∧ (s.1 = (mid + m - b) ∨ lt d[mid + m - s.1]! d[s.1 - 1]! = false) ∧ (s.2 = mid ∨ lt d[mid + m - 1 - s.2]! d[s.2]! = true)) ((mid + m - b), mid) ⟨Nat.le_refl _, by dsimp only; omega, Nat.le_refl _, .inl rfl, .inl rfl⟩ [(0, _)] rfl rfl rfl (fun k hk => rfl) ⟨congrArg (fun z : Int => SV.one (At.val (Value.int .i64 z))) (show (mid : Int) + m - b = ((mid + m - b : Nat) : Int) by omega), rfl, rfl, rfl, rfl, rfl, rfl, rfl, rfl, rfl, trivial⟩ (fun _ => rfl) rfl ?_
  rintro ⟨i, j⟩ ⟨hi, hij, hj, C1, C2⟩
  dsimp only at hi hij hj C1 C2 ⊢
  by_cases hlt : i < j
  · obtain ⟨h, eh⟩ : ∃ h, h = (i + j) / 2 := ⟨_, rfl⟩
    have h5 : i ≤ h ∧ h < j := by omega
    obtain ⟨k, ek⟩ : ∃ k, k = mid + m - 1 - h := ⟨_, rfl⟩
    have h6 : m ≤ k ∧ k < b := by omega
    have h7 : a ≤ h ∧ h < m := by omega
    have e1 := arr_getP (d := d) (k := k)
    have e2 := arr_getP (d := d) (k := h)
    have hcc := hc (d.toList.getD k default) (d.toList.getD h default)
    have ht := HT h k h7.1 h7.2 h6.1 h6.2
    rw [← e1, ← e2] at ht
    unfold lessP at ht
    generalize cf (d.toList.getD k default) (d.toList.getD h default) = c at *
    rw [e1, e2] at ht
    repeat' ((conv => whnf); first | refine V.NCond.mk ?_ | refine V.NIf.not_ ?_ | refine V.NIf.dec_ ?_ | refine V.NIf.no (by omega) ?_ | refine V.NIf.yes (by omega) ?_ | refine V.NIf.mk (fun _ => ?_) (fun _ => ?_) | refine V.NWrap.ok (by omega) (by omega) ?_ | refine V.NWrap.u64 (by omega) (by omega) ?_ | refine V.NLt.mk (by omega) ?_ | refine V.NBoth.mk ?_ ?_ | refine V.NTF.yes (by omega) ?_ | refine V.NTF.no (by omega) ?_ | refine V.NTF.dec ?_ | refine V.NDraw.q (by exact rfl) (by kernel_rfl) ?_ | refine V.NApp.one (by first | omega | (simp; omega)) (by first | omega | (simp; omega)) ?_ | (refine NShr.mid ?_; rw [← eh]) | (refine NIdx.mk ⟨k, by omega, by omega, ?_⟩) | (refine NIdx.mk ⟨h, by omega, by omega, ?_⟩) | (first | refine V.Fn.k0 (hcc) rfl ?_ | refine V.Fn.q0 (hcc) rfl ?_ | refine V.Fn.a0 (hcc) rfl ?_) | (refine V.NDraw.any (by kernel_rfl) ?_) | fail)
    all_goals (conv => whnf)
    · have hl : c < 0 := by assumption
      exact FBack.at_ hT (i, h) [(0, _)] ⟨hi, by dsimp only; omega, by dsimp only; omega, C1, .inr (by dsimp only; rw [← ek, ← ht]; exact decide_eq_true hl)⟩ (by dsimp only; omega) (by repeat' (first | exact rfl | exact Iff.rfl | exact trivial | exact (fun _ _ => rfl) | exact (fun _ h => absurd h (Nat.not_lt_zero _)) | refine ⟨?_, ?_⟩ | exact Iff.rfl | exact congrArg (fun z => V.SV.one (V.At.val (Value.int .i64 z))) (by omega))) rfl rfl rfl (fun k hk => rfl)
    · have hl : ¬ c < 0 := by assumption
      exact FBack.at_ hT (h + 1, j) [(0, _)] ⟨by dsimp only; omega, by dsimp only; omega, hj, .inr (by dsimp only; rw [Nat.add_sub_cancel, show mid + m - (h + 1) = k by omega, ← ht]; exact decide_eq_false hl), C2⟩ (by dsimp only; omega) (by repeat' (first | exact rfl | exact Iff.rfl | exact trivial | exact (fun _ _ => rfl) | exact (fun _ h => absurd h (Nat.not_lt_zero _)) | refine ⟨?_, ?_⟩ | exact Iff.rfl | exact congrArg (fun z => V.SV.one (V.At.val (Value.int .i64 z))) (by omega))) rfl rfl rfl (fun k hk => rfl)
  · obtain rfl : i = j := by omega
    clear hlt hij
    obtain ⟨e, ee⟩ : ∃ e, e = mid + m - i := ⟨_, rfl⟩
    have hai : a ≤ i := by omega
    have sm : i ≤ m := by omega
    have me : m ≤ e := by omega
    have eb : e ≤ b := by omega
    have ec : i + (e - m) = mid := by omega
    have ei : (mid : Int) + m - i = (e : Int) := by omega
    have D1 : a < i → e < b → lt d[e]! d[i - 1]! = false := fun q1 q2 => by
      rcases C1 with z | z
      · omega
      · rwa [← ee] at z
    have D2 : m < e → i < m → lt d[e - 1]! d[i]! = true := fun q1 q2 => by
      rcases C2 with z | z
      · omega
      · rwa [show mid + m - 1 - i = e - 1 by omega] at z
    clear C1 C2 hi hj
    have fin : ∀ d1 d2 d3 : Array PtT, St.Rot i m e d d1 → PermIn a mid d1 d2 → SortedIn lt a mid d2 → PermIn mid b d2 d3 → SortedIn lt mid b d3 → PermIn a b d d3 ∧ SortedIn lt a b d3 := fun d1 d2 d3 r P2 S2 P3 S3 => by
      have X := St.cross S r hai sm me eb H1 H2 D1 D2
      rw [ec] at X
      have hv := St.halves (lt := lt) (by omega) (by omega) (by rw [r.1]; exact h2) X P2 S2 P3 S3
      exact ⟨permIn_trans _ _ _ _ _ (permIn_mono _ _ _ _ a b hai eb h2 (r.perm sm me (by omega))) hv.1, hv.2⟩
    have parts : ∀ d1 : Array PtT, St.Rot i m e d d1 → (SortedIn lt a i d1 ∧ SortedIn lt i mid d1 ∧ SortedIn lt mid e d1 ∧ SortedIn lt e b d1) ∧ (∀ p q, a ≤ p → p < i → i ≤ q → q < mid → lessP cf d1[q]! d1[p]! = lt d1[q]! d1[p]!) ∧ (∀ p q, mid ≤ p → p < e → e ≤ q → q < b → lessP cf d1[q]! d1[p]! = lt d1[q]! d1[p]!) := fun d1 r => by
      have A := St.runs r hai sm me eb H1 H2
      have B := St.tests (p := fun x y => lessP cf x y = lt x y) r hai sm me eb HT
      rw [ec] at A B
      exact ⟨A, B⟩
    clear D1 D2
    -- the rotation, if there is one
    by_cases q1 : i < m ∧ m < e
    · have c1 := v_rotP nx O hT g d i m e sm me (by omega) q1.1 q1.2 (by omega)
      rw [← ei] at c1
      by_cases q2 : a < i ∧ i < mid
      · by_cases q3 : mid < e ∧ e < b
        · first
            | (exfalso; omega)
            | (repeat' ((conv => whnf); first | (refine V.NIf.yes ?_ ?_; · (decide; done)) | (refine V.NIf.no ?_ ?_; · (decide; done)) | refine V.NCond.mk ?_ | refine V.NIf.not_ ?_ | refine V.NIf.dec_ ?_ | refine V.NIf.no (by omega) ?_ | refine V.NIf.yes (by omega) ?_ | refine V.NIf.mk (fun _ => ?_) (fun _ => ?_) | refine V.NWrap.ok (by omega) (by omega) ?_ | refine V.NWrap.u64 (by omega) (by omega) ?_ | refine V.NLt.mk (by omega) ?_ | refine V.NBoth.mk ?_ ?_ | refine V.NTF.yes (by omega) ?_ | refine V.NTF.no (by omega) ?_ | refine V.NTF.dec ?_ | refine V.NDraw.q (by exact rfl) (by kernel_rfl) ?_ | refine V.NApp.one (by first | omega | (simp; omega)) (by first | omega | (simp; omega)) ?_ | (refine Fam.use c1 hT [(0, _)] rfl rfl rfl (fun k hk => rfl) ?_; rintro g1 ⟨d1, r0, rfl⟩; obtain ⟨⟨A1, A2, A3, A4⟩, B1, B2⟩ := parts d1 r0; have z1 : d1.size = d.size := r0.1) | (have c2 := ih d1 a i mid (by omega) (Nat.le_refl _) q2.1 q2.2 (by omega) z1 A1 A2 B1; refine Fam.use c2 hT [(0, _)] rfl rfl rfl (fun k hk => rfl) ?_; rintro g2 ⟨d2, P2, S2, rfl⟩; have A3' := St.sorted_perm A3 P2 (.inr (Nat.le_refl _)); have A4' := St.sorted_perm A4 P2 (.inr (by omega)); have z2 : d2.size = d.size := P2.1.trans z1; have B2' : ∀ p q, mid ≤ p → p < e → e ≤ q → q < b → lessP cf d2[q]! d2[p]! = lt d2[q]! d2[p]! := fun p q h1 h2 h3 h4 => (by rw [P2.2.1 p (by omega), P2.2.1 q (by omega)]; exact B2 p q h1 h2 h3 h4)) | (have c3 := ih d2 mid e b (by omega) (by omega) q3.1 q3.2 (Nat.le_refl _) z2 A3' A4' B2'; rw [← ei] at c3; refine Fam.use c3 hT [(0, _)] rfl rfl rfl (fun k hk => rfl) ?_; rintro g3 ⟨d3, P3, S3, rfl⟩) | (refine V.NDraw.any (by kernel_rfl) ?_) | fail)
               all_goals (conv => whnf)
               have F := fin d1 d2 d3 r0 P2 S2 P3 S3
               exact ⟨rfl, rfl, [(0, _)], _, rfl, rfl, rfl, d3, F.1, F.2, rfl⟩)
        · first
            | (exfalso; omega)
            | (repeat' ((conv => whnf); first | (refine V.NIf.yes ?_ ?_; · (decide; done)) | (refine V.NIf.no ?_ ?_; · (decide; done)) | refine V.NCond.mk ?_ | refine V.NIf.not_ ?_ | refine V.NIf.dec_ ?_ | refine V.NIf.no (by omega) ?_ | refine V.NIf.yes (by omega) ?_ | refine V.NIf.mk (fun _ => ?_) (fun _ => ?_) | refine V.NWrap.ok (by omega) (by omega) ?_ | refine V.NWrap.u64 (by omega) (by omega) ?_ | refine V.NLt.mk (by omega) ?_ | refine V.NBoth.mk ?_ ?_ | refine V.NTF.yes (by omega) ?_ | refine V.NTF.no (by omega) ?_ | refine V.NTF.dec ?_ | refine V.NDraw.q (by exact rfl) (by kernel_rfl) ?_ | refine V.NApp.one (by first | omega | (simp; omega)) (by first | omega | (simp; omega)) ?_ | (refine Fam.use c1 hT [(0, _)] rfl rfl rfl (fun k hk => rfl) ?_; rintro g1 ⟨d1, r0, rfl⟩; obtain ⟨⟨A1, A2, A3, A4⟩, B1, B2⟩ := parts d1 r0; have z1 : d1.size = d.size := r0.1) | (have c2 := ih d1 a i mid (by omega) (Nat.le_refl _) q2.1 q2.2 (by omega) z1 A1 A2 B1; refine Fam.use c2 hT [(0, _)] rfl rfl rfl (fun k hk => rfl) ?_; rintro g2 ⟨d2, P2, S2, rfl⟩; have A3' := St.sorted_perm A3 P2 (.inr (Nat.le_refl _)); have A4' := St.sorted_perm A4 P2 (.inr (by omega)); have z2 : d2.size = d.size := P2.1.trans z1; have B2' : ∀ p q, mid ≤ p → p < e → e ≤ q → q < b → lessP cf d2[q]! d2[p]! = lt d2[q]! d2[p]! := fun p q h1 h2 h3 h4 => (by rw [P2.2.1 p (by omega), P2.2.1 q (by omega)]; exact B2 p q h1 h2 h3 h4)) | (refine V.NDraw.any (by kernel_rfl) ?_) | fail)
               all_goals (conv => whnf)
               have F := fin d1 d2 d2 r0 P2 S2 (permIn_refl _ _ _) (St.sorted_one A3' A4' (by omega) eb q3)
               exact ⟨rfl, rfl, [(0, _)], _, rfl, rfl, rfl, d2, F.1, F.2, rfl⟩)
      · by_cases q3 : mid < e ∧ e < b
        · first
            | (exfalso; omega)
            | (repeat' ((conv => whnf); first | (refine V.NIf.yes ?_ ?_; · (decide; done)) | (refine V.NIf.no ?_ ?_; · (decide; done)) | refine V.NCond.mk ?_ | refine V.NIf.not_ ?_ | refine V.NIf.dec_ ?_ | refine V.NIf.no (by omega) ?_ | refine V.NIf.yes (by omega) ?_ | refine V.NIf.mk (fun _ => ?_) (fun _ => ?_) | refine V.NWrap.ok (by omega) (by omega) ?_ | refine V.NWrap.u64 (by omega) (by omega) ?_ | refine V.NLt.mk (by omega) ?_ | refine V.NBoth.mk ?_ ?_ | refine V.NTF.yes (by omega) ?_ | refine V.NTF.no (by omega) ?_ | refine V.NTF.dec ?_ | refine V.NDraw.q (by exact rfl) (by kernel_rfl) ?_ | refine V.NApp.one (by first | omega | (simp; omega)) (by first | omega | (simp; omega)) ?_ | (refine Fam.use c1 hT [(0, _)] rfl rfl rfl (fun k hk => rfl) ?_; rintro g1 ⟨d1, r0, rfl⟩; obtain ⟨⟨A1, A2, A3, A4⟩, B1, B2⟩ := parts d1 r0; have z1 : d1.size = d.size := r0.1) | (have c3 := ih d1 mid e b (by omega) (by omega) q3.1 q3.2 (Nat.le_refl _) z1 A3 A4 B2; rw [← ei] at c3; refine Fam.use c3 hT [(0, _)] rfl rfl rfl (fun k hk => rfl) ?_; rintro g3 ⟨d3, P3, S3, rfl⟩) | (refine V.NDraw.any (by kernel_rfl) ?_) | fail)
               all_goals (conv => whnf)
               have F := fin d1 d1 d3 r0 (permIn_refl _ _ _) (St.sorted_one A1 A2 hai (by omega) q2) P3 S3
               exact ⟨rfl, rfl, [(0, _)], _, rfl, rfl, rfl, d3, F.1, F.2, rfl⟩)
        · first
            | (exfalso; omega)
            | (repeat' ((conv => whnf); first | (refine V.NIf.yes ?_ ?_; · (decide; done)) | (refine V.NIf.no ?_ ?_; · (decide; done)) | refine V.NCond.mk ?_ | refine V.NIf.not_ ?_ | refine V.NIf.dec_ ?_ | refine V.NIf.no (by omega) ?_ | refine V.NIf.yes (by omega) ?_ | refine V.NIf.mk (fun _ => ?_) (fun _ => ?_) | refine V.NWrap.ok (by omega) (by omega) ?_ | refine V.NWrap.u64 (by omega) (by omega) ?_ | refine V.NLt.mk (by omega) ?_ | refine V.NBoth.mk ?_ ?_ | refine V.NTF.yes (by omega) ?_ | refine V.NTF.no (by omega) ?_ | refine V.NTF.dec ?_ | refine V.NDraw.q (by exact rfl) (by kernel_rfl) ?_ | refine V.NApp.one (by first | omega | (simp; omega)) (by first | omega | (simp; omega)) ?_ | (refine Fam.use c1 hT [(0, _)] rfl rfl rfl (fun k hk => rfl) ?_; rintro g1 ⟨d1, r0, rfl⟩; obtain ⟨⟨A1, A2, A3, A4⟩, B1, B2⟩ := parts d1 r0; have z1 : d1.size = d.size := r0.1) | (refine V.NDraw.any (by kernel_rfl) ?_) | fail)
               all_goals (conv => whnf)
               have F := fin d1 d1 d1 r0 (permIn_refl _ _ _) (St.sorted_one A1 A2 hai (by omega) q2) (permIn_refl _ _ _) (St.sorted_one A3 A4 (by omega) eb q3)
               exact ⟨rfl, rfl, [(0, _)], _, rfl, rfl, rfl, d1, F.1, F.2, rfl⟩)
    · have r0 : St.Rot i m e d d := by
        by_cases z : i = m
        · subst z; exact St.Rot.refl_l
        · obtain rfl : m = e := by omega
          exact St.Rot.refl_r
      by_cases q2 : a < i ∧ i < mid
      · by_cases q3 : mid < e ∧ e < b
        · first
            | (exfalso; omega)
            | (obtain ⟨⟨A1, A2, A3, A4⟩, B1, B2⟩ := parts d r0
               have z1 : d.size = d.size := rfl
               repeat' ((conv => whnf); first | (refine V.NIf.yes ?_ ?_; · (decide; done)) | (refine V.NIf.no ?_ ?_; · (decide; done)) | refine V.NCond.mk ?_ | refine V.NIf.not_ ?_ | refine V.NIf.dec_ ?_ | refine V.NIf.no (by omega) ?_ | refine V.NIf.yes (by omega) ?_ | refine V.NIf.mk (fun _ => ?_) (fun _ => ?_) | refine V.NWrap.ok (by omega) (by omega) ?_ | refine V.NWrap.u64 (by omega) (by omega) ?_ | refine V.NLt.mk (by omega) ?_ | refine V.NBoth.mk ?_ ?_ | refine V.NTF.yes (by omega) ?_ | refine V.NTF.no (by omega) ?_ | refine V.NTF.dec ?_ | refine V.NDraw.q (by exact rfl) (by kernel_rfl) ?_ | refine V.NApp.one (by first | omega | (simp; omega)) (by first | omega | (simp; omega)) ?_ | (have c2 := ih d a i mid (by omega) (Nat.le_refl _) q2.1 q2.2 (by omega) z1 A1 A2 B1; refine Fam.use c2 hT [(0, _)] rfl rfl rfl (fun k hk => rfl) ?_; rintro g2 ⟨d2, P2, S2, rfl⟩; have A3' := St.sorted_perm A3 P2 (.inr (Nat.le_refl _)); have A4' := St.sorted_perm A4 P2 (.inr (by omega)); have z2 : d2.size = d.size := P2.1.trans z1; have B2' : ∀ p q, mid ≤ p → p < e → e ≤ q → q < b → lessP cf d2[q]! d2[p]! = lt d2[q]! d2[p]! := fun p q h1 h2 h3 h4 => (by rw [P2.2.1 p (by omega), P2.2.1 q (by omega)]; exact B2 p q h1 h2 h3 h4)) | (have c3 := ih d2 mid e b (by omega) (by omega) q3.1 q3.2 (Nat.le_refl _) z2 A3' A4' B2'; rw [← ei] at c3; refine Fam.use c3 hT [(0, _)] rfl rfl rfl (fun k hk => rfl) ?_; rintro g3 ⟨d3, P3, S3, rfl⟩) | (refine V.NDraw.any (by kernel_rfl) ?_) | fail)
               all_goals (conv => whnf)
               have F := fin d d2 d3 r0 P2 S2 P3 S3
               exact ⟨rfl, rfl, [(0, _)], _, rfl, rfl, rfl, d3, F.1, F.2, rfl⟩)
        · first
            | (exfalso; omega)
            | (obtain ⟨⟨A1, A2, A3, A4⟩, B1, B2⟩ := parts d r0
               have z1 : d.size = d.size := rfl
               repeat' ((conv => whnf); first | (refine V.NIf.yes ?_ ?_; · (decide; done)) | (refine V.NIf.no ?_ ?_; · (decide; done)) | refine V.NCond.mk ?_ | refine V.NIf.not_ ?_ | refine V.NIf.dec_ ?_ | refine V.NIf.no (by omega) ?_ | refine V.NIf.yes (by omega) ?_ | refine V.NIf.mk (fun _ => ?_) (fun _ => ?_) | refine V.NWrap.ok (by omega) (by omega) ?_ | refine V.NWrap.u64 (by omega) (by omega) ?_ | refine V.NLt.mk (by omega) ?_ | refine V.NBoth.mk ?_ ?_ | refine V.NTF.yes (by omega) ?_ | refine V.NTF.no (by omega) ?_ | refine V.NTF.dec ?_ | refine V.NDraw.q (by exact rfl) (by kernel_rfl) ?_ | refine V.NApp.one (by first | omega | (simp; omega)) (by first | omega | (simp; omega)) ?_ | (have c2 := ih d a i mid (by omega) (Nat.le_refl _) q2.1 q2.2 (by omega) z1 A1 A2 B1; refine Fam.use c2 hT [(0, _)] rfl rfl rfl (fun k hk => rfl) ?_; rintro g2 ⟨d2, P2, S2, rfl⟩; have A3' := St.sorted_perm A3 P2 (.inr (Nat.le_refl _)); have A4' := St.sorted_perm A4 P2 (.inr (by omega)); have z2 : d2.size = d.size := P2.1.trans z1; have B2' : ∀ p q, mid ≤ p → p < e → e ≤ q → q < b → lessP cf d2[q]! d2[p]! = lt d2[q]! d2[p]! := fun p q h1 h2 h3 h4 => (by rw [P2.2.1 p (by omega), P2.2.1 q (by omega)]; exact B2 p q h1 h2 h3 h4)) | (refine V.NDraw.any (by kernel_rfl) ?_) | fail)
               all_goals (conv => whnf)
               have F := fin d d2 d2 r0 P2 S2 (permIn_refl _ _ _) (St.sorted_one A3' A4' (by omega) eb q3)
               exact ⟨rfl, rfl, [(0, _)], _, rfl, rfl, rfl, d2, F.1, F.2, rfl⟩)
      · by_cases q3 : mid < e ∧ e < b
        · first
            | (exfalso; omega)
            | (obtain ⟨⟨A1, A2, A3, A4⟩, B1, B2⟩ := parts d r0
               have z1 : d.size = d.size := rfl
               repeat' ((conv => whnf); first | (refine V.NIf.yes ?_ ?_; · (decide; done)) | (refine V.NIf.no ?_ ?_; · (decide; done)) | refine V.NCond.mk ?_ | refine V.NIf.not_ ?_ | refine V.NIf.dec_ ?_ | refine V.NIf.no (by omega) ?_ | refine V.NIf.yes (by omega) ?_ | refine V.NIf.mk (fun _ => ?_) (fun _ => ?_) | refine V.NWrap.ok (by omega) (by omega) ?_ | refine V.NWrap.u64 (by omega) (by omega) ?_ | refine V.NLt.mk (by omega) ?_ | refine V.NBoth.mk ?_ ?_ | refine V.NTF.yes (by omega) ?_ | refine V.NTF.no (by omega) ?_ | refine V.NTF.dec ?_ | refine V.NDraw.q (by exact rfl) (by kernel_rfl) ?_ | refine V.NApp.one (by first | omega | (simp; omega)) (by first | omega | (simp; omega)) ?_ | (have c3 := ih d mid e b (by omega) (by omega) q3.1 q3.2 (Nat.le_refl _) z1 A3 A4 B2; rw [← ei] at c3; refine Fam.use c3 hT [(0, _)] rfl rfl rfl (fun k hk => rfl) ?_; rintro g3 ⟨d3, P3, S3, rfl⟩) | (refine V.NDraw.any (by kernel_rfl) ?_) | fail)
               all_goals (conv => whnf)
               have F := fin d d d3 r0 (permIn_refl _ _ _) (St.sorted_one A1 A2 hai (by omega) q2) P3 S3
               exact ⟨rfl, rfl, [(0, _)], _, rfl, rfl, rfl, d3, F.1, F.2, rfl⟩)
        · first
            | (exfalso; omega)
            | (obtain ⟨⟨A1, A2, A3, A4⟩, B1, B2⟩ := parts d r0
               have z1 : d.size = d.size := rfl
               repeat' ((conv => whnf); first | (refine V.NIf.yes ?_ ?_; · (decide; done)) | (refine V.NIf.no ?_ ?_; · (decide; done)) | refine V.NCond.mk ?_ | refine V.NIf.not_ ?_ | refine V.NIf.dec_ ?_ | refine V.NIf.no (by omega) ?_ | refine V.NIf.yes (by omega) ?_ | refine V.NIf.mk (fun _ => ?_) (fun _ => ?_) | refine V.NWrap.ok (by omega) (by omega) ?_ | refine V.NWrap.u64 (by omega) (by omega) ?_ | refine V.NLt.mk (by omega) ?_ | refine V.NBoth.mk ?_ ?_ | refine V.NTF.yes (by omega) ?_ | refine V.NTF.no (by omega) ?_ | refine V.NTF.dec ?_ | refine V.NDraw.q (by exact rfl) (by kernel_rfl) ?_ | refine V.NApp.one (by first | omega | (simp; omega)) (by first | omega | (simp; omega)) ?_ | (refine V.NDraw.any (by kernel_rfl) ?_) | fail)
               all_goals (conv => whnf)
               have F := fin d d d r0 (permIn_refl _ _ _) (St.sorted_one A1 A2 hai (by omega) q2) (permIn_refl _ _ _) (St.sorted_one A3 A4 (by omega) eb q3)
               exact ⟨rfl, rfl, [(0, _)], _, rfl, rfl, rfl, d, F.1, F.2, rfl⟩)
end Go.Proofs.Yteblbhbfdfifpaa
