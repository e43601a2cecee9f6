/- The walk by verification conditions: what an operation that leaves the world alone answers. -/
import Derived.Test.YteblbhbfdfifpaaVDef
namespace Go.Proofs.Yteblbhbfdfifpaa.V
open Go Go.RowKit
set_option linter.unusedVariables false
set_option linter.unusedSimpArgs false

theorem fndK_spec {α : Type} {K : α → Prop} {t : Nat} : ∀ {l : List (Nat × α)}, fndK l t K → ∃ v, fnd l t = some v ∧ K v
  | [], h => h.elim
  | (u, v) :: r, h => by
    unfold fndK at h
    unfold fnd
    cases hb : Nat.beq u t
    · rw [hb] at h; exact fndK_spec h
    · rw [hb] at h; exact ⟨v, rfl, h⟩
theorem nthK_spec {α : Type} {K : α → Prop} : ∀ {l : List α} {n : Nat}, nthK l n K → ∃ v, l[n]? = some v ∧ K v
  | [], _, h => by cases h
  | x :: _, 0, h => ⟨x, rfl, h⟩
  | _ :: r, n + 1, h => by
    obtain ⟨v, e, hv⟩ := nthK_spec (l := r) (n := n) h
    exact ⟨v, by simpa using e, hv⟩
theorem cutK_spec {α : Type} : ∀ {l : List α} {j s : Nat} {K : List α → Prop}, cutK l j s K → (l.drop j).take s = (l.drop j).take s ∧ ((l.drop j).take s).length = s ∧ K ((l.drop j).take s)
  | [], 0, 0, K, h => ⟨rfl, rfl, h⟩
  | _ :: _, 0, 0, K, h => ⟨rfl, rfl, h⟩
  | [], 0, _ + 1, _, h => by cases h
  | [], _ + 1, _, _, h => by cases h
  | x :: r, 0, s + 1, K, h => by
    obtain ⟨_, h2, h3⟩ := cutK_spec (l := r) (j := 0) (s := s) (K := fun l => K (x :: l)) h
    refine ⟨rfl, ?_, ?_⟩
    · simp only [List.drop_zero, List.take_succ_cons, List.length_cons] at h2 ⊢; omega
    · simpa using h3
  | x :: r, j + 1, s, K, h => by
    obtain ⟨_, h2, h3⟩ := cutK_spec (l := r) (j := j) (s := s) (K := K) (by unfold cutK at h; exact h)
    exact ⟨rfl, by simpa using h2, by simpa using h3⟩

/-! values -/
theorem CapsAre.fun_ {ρ : Rho} : ∀ {l : List Nat} {x y : List Value}, CapsAre ρ l x → CapsAre ρ l y → x = y
  | [], _, _, h, k => h.trans k.symm
  | _ :: _, _, _, ⟨a, r, e, hx, hr⟩, ⟨a', r', e', hy, hr'⟩ => by
    rw [e] at e'; injection e' with e'; subst e'
    rw [hx, hy, CapsAre.fun_ hr hr']
theorem At.is_fun {ρ : Rho} {a : At} {x y : Value} (h : a.is ρ x) (k : a.is ρ y) : x = y := by
  cases a with
  | val v => exact Eq.trans h (Eq.symm k)
  | tf b => exact Eq.trans h (Eq.symm k)
  | prop p =>
    obtain ⟨b, rfl, hb⟩ := h
    obtain ⟨c, rfl, hc⟩ := k
    congr 1
    rw [Bool.eq_iff_iff, hb, hc]
  | ptr i k' j s =>
    obtain ⟨a, e, rfl⟩ := h
    obtain ⟨a', e', rfl⟩ := k
    rw [e] at e'; injection e' with e'; rw [e']
  | ref i => have := Eq.symm h.1 |>.trans k.1; injection this
  | clo f l =>
    obtain ⟨c, e, rfl⟩ := h
    obtain ⟨c', e', rfl⟩ := k
    rw [CapsAre.fun_ e e']
theorem Ats.fun_ {ρ : Rho} : ∀ {l : List At} {x y : List Value}, Ats ρ l x → Ats ρ l y → x = y
  | [], _, _, h, k => h.trans k.symm
  | _ :: _, _, _, ⟨a, r, hx, ha, hr⟩, ⟨a', r', hy, ha', hr'⟩ => by rw [hx, hy, At.is_fun ha ha', Ats.fun_ hr hr']
theorem SV.is1_fun {ρ : Rho} {v : SV} {x y : Value} (h : v.is1 ρ x) (k : v.is1 ρ y) : x = y := by
  cases v with
  | one a => exact At.is_fun (a := a) h k
  | agg l => obtain ⟨c, e, rfl⟩ := h; obtain ⟨c', e', rfl⟩ := k; rw [Ats.fun_ e e']
  | tup l => exact h.elim
theorem Svs.fun_ {ρ : Rho} : ∀ {l : List SV} {x y : List Value}, Svs ρ l x → Svs ρ l y → x = y
  | [], _, _, h, k => h.trans k.symm
  | _ :: _, _, _, ⟨a, r, hx, ha, hr⟩, ⟨a', r', hy, ha', hr'⟩ => by rw [hx, hy, SV.is1_fun ha ha', Svs.fun_ hr hr']
theorem SV.is_fun {ρ : Rho} {v : SV} {x y : Value} (h : v.is ρ x) (k : v.is ρ y) : x = y := by
  cases v with
  | one a => exact At.is_fun (a := a) h k
  | agg l => obtain ⟨c, e, rfl⟩ := h; obtain ⟨c', e', rfl⟩ := k; rw [Ats.fun_ e e']
  | tup l => obtain ⟨c, e, rfl⟩ := h; obtain ⟨c', e', rfl⟩ := k; rw [Svs.fun_ e e']
theorem SV.is_of1 {ρ : Rho} {v : SV} {x : Value} (h : v.is1 ρ x) : v.is ρ x := by
  cases v with
  | one a => exact h
  | agg l => exact h
  | tup l => exact h.elim

def Ext (ρ ρ' : Rho) : Prop := ∀ i y, ρ i = some y → ρ' i = some y
theorem base_ext {ρ ρ' : Rho} (h : Ext ρ ρ') {i : Nat} {a : Addr} (hb : base ρ i = some a) : base ρ' i = some a := by
  unfold base at hb ⊢
  cases hi : ρ i with
  | none => rw [hi] at hb; cases hb
  | some y => rw [h i y hi]; rw [hi] at hb; exact hb
theorem CapsAre.ext {ρ ρ' : Rho} (h : Ext ρ ρ') : ∀ {l : List Nat} {x : List Value}, CapsAre ρ l x → CapsAre ρ' l x
  | [], _, hx => hx
  | _ :: _, _, ⟨a, r, e, hx, hr⟩ => ⟨a, r, base_ext h e, hx, CapsAre.ext h hr⟩
theorem At.is_ext {ρ ρ' : Rho} (h : Ext ρ ρ') {a : At} {x : Value} (ha : a.is ρ x) : a.is ρ' x := by
  cases a with
  | val v => exact ha
  | tf b => exact ha
  | prop p => exact ha
  | ptr i k j s => obtain ⟨a, e, hx⟩ := ha; exact ⟨a, base_ext h e, hx⟩
  | ref i => exact ⟨h _ _ ha.1, ha.2⟩
  | clo f l => obtain ⟨c, e, hx⟩ := ha; exact ⟨c, e.ext h, hx⟩
theorem Ats.ext {ρ ρ' : Rho} (h : Ext ρ ρ') : ∀ {l : List At} {x : List Value}, Ats ρ l x → Ats ρ' l x
  | [], _, hx => hx
  | _ :: _, _, ⟨a, r, hx, ha, hr⟩ => ⟨a, r, hx, At.is_ext h ha, Ats.ext h hr⟩
theorem SV.is1_ext {ρ ρ' : Rho} (h : Ext ρ ρ') {v : SV} {x : Value} (hv : v.is1 ρ x) : v.is1 ρ' x := by
  cases v with
  | one a => exact At.is_ext h (a := a) hv
  | agg l => obtain ⟨c, e, hx⟩ := hv; exact ⟨c, e.ext h, hx⟩
  | tup l => exact hv.elim
theorem Svs.ext {ρ ρ' : Rho} (h : Ext ρ ρ') : ∀ {l : List SV} {x : List Value}, Svs ρ l x → Svs ρ' l x
  | [], _, hx => hx
  | _ :: _, _, ⟨a, r, hx, ha, hr⟩ => ⟨a, r, hx, SV.is1_ext h ha, Svs.ext h hr⟩
theorem SV.is_ext {ρ ρ' : Rho} (h : Ext ρ ρ') {v : SV} {x : Value} (hv : v.is ρ x) : v.is ρ' x := by
  cases v with
  | one a => exact At.is_ext h (a := a) hv
  | agg l => obtain ⟨c, e, hx⟩ := hv; exact ⟨c, e.ext h, hx⟩
  | tup l => obtain ⟨c, e, hx⟩ := hv; exact ⟨c, e.ext h, hx⟩
theorem Ats.length {ρ : Rho} : ∀ {l : List At} {x : List Value}, Ats ρ l x → x.length = l.length
  | [], _, h => by rw [h]; rfl
  | _ :: _, _, ⟨a, r, hx, ha, hr⟩ => by rw [hx, List.length_cons, List.length_cons, Ats.length hr]
theorem Ats.nth {ρ : Rho} : ∀ {l : List At} {x : List Value} {j : Nat} {a : At}, Ats ρ l x → l[j]? = some a → ∃ u, x[j]? = some u ∧ a.is ρ u
  | [], _, _, _, _, h => by simp at h
  | b :: _, _, 0, a, ⟨u, r, hx, ha, hr⟩, h => by
    have e : b = a := by simpa using h
    subst e
    exact ⟨u, by rw [hx]; rfl, ha⟩
  | b :: l, _, j + 1, a, ⟨u, r, hx, ha, hr⟩, h => by
    obtain ⟨v, e, hv⟩ := Ats.nth (j := j) hr (by simpa using h)
    exact ⟨v, by rw [hx]; simpa using e, hv⟩
theorem Ats.drop {ρ : Rho} : ∀ {l : List At} {x : List Value} (j : Nat), Ats ρ l x → Ats ρ (l.drop j) (x.drop j)
  | _, _, 0, h => h
  | [], _, j + 1, h => by rw [h]; exact (by simp [Ats])
  | _ :: _, _, j + 1, ⟨a, r, hx, ha, hr⟩ => by rw [hx]; simpa using Ats.drop j hr
theorem Ats.take {ρ : Rho} : ∀ {l : List At} {x : List Value} (j : Nat), Ats ρ l x → Ats ρ (l.take j) (x.take j)
  | _, _, 0, _ => by simp [Ats]
  | [], _, j + 1, h => by rw [h]; exact (by simp [Ats])
  | _ :: _, _, j + 1, ⟨a, r, hx, ha, hr⟩ => by rw [hx]; exact ⟨a, r.take j, by simp, ha, Ats.take j hr⟩
theorem Ats.append {ρ : Rho} : ∀ {l m : List At} {x y : List Value}, Ats ρ l x → Ats ρ m y → Ats ρ (l ++ m) (x ++ y)
  | [], _, _, _, h, k => by rw [h]; exact k
  | _ :: _, _, _, _, ⟨a, r, hx, ha, hr⟩, k => by rw [hx]; exact ⟨a, r ++ _, rfl, ha, Ats.append hr k⟩
theorem Ats.vals (ρ : Rho) : ∀ (l : List Value), Ats ρ (vals l) l
  | [] => rfl
  | v :: l => ⟨v, l, rfl, rfl, Ats.vals ρ l⟩
theorem Ats.mem {ρ : Rho} {l : List At} {x : List Value} (h : Ats ρ l x) {u : Value} (hu : u ∈ x) : ∃ a ∈ l, a.is ρ u := by
  induction l generalizing x with
  | nil => rw [h] at hu; simp at hu
  | cons b l ih =>
    obtain ⟨a, r, hx, ha, hr⟩ := h
    rw [hx] at hu
    rcases List.mem_cons.1 hu with e | e
    · exact ⟨b, by simp, e ▸ ha⟩
    · obtain ⟨c, hc, hi⟩ := ih hr e
      exact ⟨c, by simp [hc], hi⟩
theorem one_of_cellB {ρ : Rho} {a : At} {u : Value} (h : cellB a = true) (hu : a.is ρ u) : u.oneCell' = true := by
  cases a with
  | val v => have e : u = v := hu; rw [e]; exact h
  | tf b => have e : u = .bool b := hu; rw [e]; rfl
  | prop p => obtain ⟨b, rfl, _⟩ := hu; rfl
  | ptr i k j s => obtain ⟨a, _, rfl⟩ := hu; rfl
  | ref i => exact hu.2
  | clo f l => obtain ⟨c, _, rfl⟩ := hu; rfl

theorem evK_spec {sz : Nat} {ρ : Rho} {env : Env} {a : Act} (hE : EnvR sz ρ env a) {x : Operand} {K : SV → Prop} (h : evK env x K) : ∃ v, v.is ρ (a.eval x) ∧ K v := by
  cases x with
  | tmp t =>
    obtain ⟨v, e, hv⟩ := fndK_spec h
    obtain ⟨u, e2, hu⟩ := hE.env t v e
    refine ⟨v, ?_, hv⟩
    have : a.eval (.tmp t) = u := by simp [Act.eval, Array.getD_eq_getD_getElem?, e2]
    rw [this]; exact hu
  | const v =>
    cases v <;> first | exact ⟨.one (.tf _), rfl, h⟩ | exact ⟨.one (.val _), rfl, h⟩
  | global g => exact h.elim
  | func f => exact ⟨.one (.clo f []), ⟨[], rfl, rfl⟩, h⟩
theorem evsK_spec {sz : Nat} {ρ : Rho} {env : Env} {a : Act} (hE : EnvR sz ρ env a) : ∀ {l : List Operand} {K : List SV → Prop}, evsK env l K → ∃ vs, K vs ∧ Svs ρ vs (l.map a.eval)
  | [], K, h => ⟨[], h, rfl⟩
  | x :: r, K, h => by
    obtain ⟨v, hv, hk⟩ := evK_spec hE h
    cases v with
    | one b =>
      obtain ⟨vs, hK, hs⟩ := evsK_spec hE hk
      exact ⟨_, hK, _, _, rfl, hv, hs⟩
    | agg c =>
      obtain ⟨vs, hK, hs⟩ := evsK_spec hE hk
      exact ⟨_, hK, _, _, rfl, hv, hs⟩
    | tup c => exact hk.elim

theorem cellsK_spec {ρ : Rho} {v : SV} {x : Value} {K : List At → Prop} (hv : v.is ρ x) (h : cellsK v K) : ∃ l, K l ∧ Ats ρ l x.cells.toList ∧ ∀ u ∈ x.cells.toList, u.oneCell' = true := by
  cases v with
  | one a =>
    simp only [cellsK] at h
    cases hb : cellB a <;> simp only [hb] at h
    · have ho := one_of_cellB hb hv
      have e : x.cells = #[x] := by cases x <;> first | rfl | cases ho
      rw [e]
      exact ⟨[a], h, ⟨x, [], rfl, hv, rfl⟩, by simpa using ho⟩
  | agg l =>
    simp only [cellsK] at h
    cases hb : l.all cellB <;> simp only [hb] at h
    · obtain ⟨cs, hc, rfl⟩ := hv
      refine ⟨l, h, by simpa [Value.cells] using hc, fun u hu => ?_⟩
      obtain ⟨b, hb', hi⟩ := Ats.mem hc (by simpa [Value.cells] using hu)
      exact one_of_cellB (List.all_eq_true.1 hb b hb') hi
  | tup l => exact h.elim

/-! types -/
theorem TTok.get {P : Program} {t : Nat} {ty : Ty} : ∀ {T : TT}, TTok P T → fnd T t = some ty → tyOf P t = some ty
  | [], _, h => by cases h
  | (u, v) :: r, hT, h => by
    unfold fnd at h
    cases hb : Nat.beq u t <;> rw [hb] at h
    · exact TTok.get hT.2 h
    · have e : u = t := Nat.eq_of_beq_eq_true hb
      injection h with h
      rw [← e, ← h]; exact hT.1
theorem tyOf_spec {P : Program} {t : Nat} {ty : Ty} (h : tyOf P t = some ty) : ∃ i d z, P.info? t = some i ∧ P.underlying t = some d ∧ i.zero = some z ∧ ty = ⟨shOf P d, i.size, i.bytes, z.cells.toList, eqOf P t⟩ := by
  unfold tyOf at h
  cases hi : P.info? t with
  | none => rw [hi] at h; cases h
  | some i =>
    cases hd : P.underlying t with
    | none => rw [hi, hd] at h; cases h
    | some d =>
      cases hz : i.zero with
      | none => simp [hi, hd, hz] at h
      | some z => simp [hi, hd, hz] at h; exact ⟨i, d, z, rfl, rfl, hz, h.symm⟩
theorem sh_st {P : Program} {d : TypeDesc} {fs : List (Nat × Nat × Nat)} (h : shOf P d = .st fs) : ∃ fields, d = .struct fields ∧ (fields.toList.all fun f => (P.info? f.type).isSome) = true ∧ fs = fields.toList.map fun f => (f.offset, sizeT P f.type, aggT P f.type) := by
  cases d <;> simp only [shOf] at h <;> try (cases h; done)
  rename_i fields
  cases ha : fields.toList.all (fun f => (P.info? f.type).isSome) <;> simp only [ha] at h
  · cases h
  · injection h with h
    exact ⟨_, rfl, ha, h.symm⟩
theorem sh_sl {P : Program} {d : TypeDesc} {e : Nat} (h : shOf P d = .sl e) : d = .slice e := by
  cases d <;> simp only [shOf] at h <;> try (cases h; done)
  · injection h with h; rw [h]
  · split at h <;> cases h
theorem sh_int {P : Program} {d : TypeDesc} {k : IntKind} (h : shOf P d = .int k) : d = .int k := by
  cases d <;> simp only [shOf] at h <;> try (cases h; done)
  · injection h with h; rw [h]
  · split at h <;> cases h
theorem sh_bool {P : Program} {d : TypeDesc} (h : shOf P d = .bool) : d = .bool := by
  cases d <;> simp only [shOf] at h <;> try (cases h; done)
  · rfl
  · split at h <;> cases h
theorem boolP_spec {ρ : Rho} {a : At} {p : Prop} {x : Value} (h : boolP a = some p) (hv : a.is ρ x) : ∃ b, x = .bool b ∧ (b = true ↔ p) := by
  cases a with
  | tf b => injection h with h; subst h; exact ⟨b, hv, Iff.rfl⟩
  | prop q => injection h with h; subst h; exact hv
  | val v => cases v <;> try (cases h; done)
             rename_i b; injection h with h; subst h; exact ⟨b, hv, Iff.rfl⟩
  | _ => cases h
theorem sh_str {P : Program} {d : TypeDesc} (h : shOf P d = .str) : d = .string := by
  cases d <;> simp only [shOf] at h <;> try (cases h; done)
  · rfl
  · split at h <;> cases h
theorem sh_row {P : Program} {d : TypeDesc} : (isRow (shOf P d) = 2 → d.isRow = true) ∧ (isRow (shOf P d) = 1 → d.isRow = false) := by
  cases d <;> first | exact ⟨fun _ => rfl, fun h => (by cases h)⟩ | exact ⟨fun h => (by cases h), fun _ => rfl⟩ | skip
  rename_i fs
  simp only [shOf]
  split
  · exact ⟨fun _ => trivial, fun h => (by cases h)⟩
  · exact ⟨fun _ => trivial, fun h => (by cases h)⟩
theorem run_isAgg {P : Program} {t : Nat} {d : TypeDesc} (hu : P.underlying t = some d) (w : World) : (isAgg t).run P w = .ok d.isRow w := by
  unfold isAgg
  rw [Sem.run_bind, run_underlying hu w]
  cases d <;> rfl
theorem run_size {P : Program} {t : Nat} {i : TypeInfo} (hi : P.info? t = some i) (w : World) : (sizeOf t).run P w = .ok i.size w := by
  simp [sizeOf, typeInfo, hi]

/-- the cells cs lie from a on -/
def Lies (w : World) (a : Addr) (cs : List Value) : Prop := ∀ j u, cs[j]? = some u → w.cell? (a.add j) = some u
theorem Lies.cut {w : World} {a : Addr} {cs : List Value} (h : Lies w a cs) (j s : Nat) : Lies w (a.add j) ((cs.drop j).take s) := by
  intro i u hu
  rw [add_of_add]
  rw [List.getElem?_take] at hu
  split at hu
  · rw [List.getElem?_drop] at hu; exact h _ _ hu
  · cases hu
theorem loadK_spec {P : Program} {ρ : Rho} {t : Nat} {ty : Ty} (ht : tyOf P t = some ty) {l : List At} {cs : List Value} (hl : Ats ρ l cs) {j : Nat} {K : SV → Prop} (h : loadK ty l j K) :
    ∃ v x, v.is ρ x ∧ K v ∧ ∀ w a, Lies w a cs → (loadVar t (a.add j)).run P w = .ok x w := by
  obtain ⟨i, d, z, hi, hd, _, rfl⟩ := tyOf_spec ht
  unfold loadK at h
  split at h
  rotate_left
  · rename_i hr
    obtain ⟨b, e, hK⟩ := nthK_spec h
    obtain ⟨u, eu, hu⟩ := hl.nth e
    refine ⟨.one b, u, hu, hK, fun w a hw => ?_⟩
    unfold loadVar
    rw [Sem.run_bind, run_isAgg hd w, sh_row.2 hr]
    simp [hw j u eu]
  · exact h.elim
  · rename_i hr
    obtain ⟨_, h2, hK⟩ := cutK_spec h
    refine ⟨.agg ((l.drop j).take i.size), .agg ((cs.drop j).take i.size).toArray, ⟨_, (hl.drop j).take i.size, rfl⟩, hK, fun w a hw => ?_⟩
    have hlen : ((cs.drop j).take i.size).length = i.size := by
      rw [Ats.length ((hl.drop j).take i.size)]; exact h2
    have := run_loadCells_list (P := P) w (a.add j) ((cs.drop j).take i.size) (hw.cut j i.size)
    rw [hlen] at this
    unfold loadVar
    rw [Sem.run_bind, run_isAgg hd w, sh_row.1 hr]
    simp [run_size hi w, this]

/-- an object's element, where it lies -/
theorem base_ptr {ρ : Rho} {i : Nat} {a : Addr} (h : ρ i = some (.pointer (some a))) : base ρ i = some a := by unfold base; rw [h]
theorem base_sl {ρ : Rho} {i n c : Nat} {a : Addr} (h : ρ i = some (.slice (some a) n c)) : base ρ i = some a := by unfold base; rw [h]
theorem flat_get {get : Nat → List Value} {s : Nat} : ∀ {n k j : Nat} {u : Value}, (∀ k, k < n → (get k).length = s) → k < n → (get k)[j]? = some u → (flat get n)[k * s + j]? = some u := by
  intro n
  induction n with
  | zero => intro k j u _ h; omega
  | succ n ih =>
    intro k j u hs hk hu
    have hlen : ∀ m, m ≤ n + 1 → (flat get m).length = m * s := by
      intro m
      induction m with
      | zero => intro _; simp [flat]
      | succ m ihm =>
        intro hm
        have e : flat get (m + 1) = flat get m ++ get m := by unfold flat; rw [List.range_succ, List.flatMap_append]; simp
        rw [e, List.length_append, ihm (by omega), hs m (by omega), Nat.add_mul, Nat.one_mul]
    have e : flat get (n + 1) = flat get n ++ get n := by unfold flat; rw [List.range_succ, List.flatMap_append]; simp
    have hj : j < s := by
      have := (List.getElem?_eq_some_iff.1 hu).1
      rw [hs k hk] at this; exact this
    rw [e]
    by_cases hkn : k < n
    · rw [List.getElem?_append_left (by
        rw [hlen n (by omega)]
        have : (k + 1) * s ≤ n * s := Nat.mul_le_mul_right _ (by omega)
        rw [Nat.add_mul] at this; omega)]
      exact ih (fun k hk => hs k (by omega)) hkn hu
    · have : k = n := by omega
      subst this
      rw [List.getElem?_append_right (by rw [hlen k (by omega)]; omega), hlen k (by omega)]
      rw [show k * s + j - k * s = j by omega]; exact hu
theorem sat_box {B : Nat} {ρ : Rho} {w : World} {i : Nat} {t : TypeId} {l : List At} (h : Sat B ρ w i (.box t l)) : ∃ a cs, base ρ i = some a ∧ Ats ρ l cs ∧ Lies w a cs := by
  obtain ⟨b, cs, e, _, hl, hh⟩ := h
  refine ⟨⟨b, 0, none⟩, cs, base_ptr e, hl, fun j u hu => ?_⟩
  rw [show (⟨b, 0, none⟩ : Addr).add j = ⟨b, j, none⟩ by unfold Addr.add; split <;> simp_all, cell_of_row w b j cs.toArray t (0, 0) hh]
  simpa using hu
theorem sat_cel {B : Nat} {ρ : Rho} {w : World} {i : Nat} {l : List Value} (h : Sat B ρ w i (.cel l)) : ∃ a, base ρ i = some a ∧ Lies w a l := by
  obtain ⟨v, e, a, rfl, _, hh⟩ := h
  exact ⟨a, base_ptr e, hh⟩
theorem sat_arr {B : Nat} {ρ : Rho} {w : World} {i s n k : Nat} {get : Nat → List Value} (h : Sat B ρ w i (.arr s n get)) (hk : k < n) : ∃ a, base ρ i = some a ∧ Lies w (a.add (k * s)) (get k) := by
  obtain ⟨v, e, A, c, rfl, _, _, hh⟩ := h
  obtain ⟨a, rfl, _, _, hc⟩ := hh k hk
  refine ⟨a, base_sl e, fun j u hu => ?_⟩
  rw [add_of_add]; exact hc j u hu
theorem RowIs.lies {B : Nat} {w : World} {v : Value} {t s n k : Nat} {get : Nat → List Value} (h : RowIs B w v t s n get) (hk : k < n) : ∃ g c, v = .slice (some ⟨g, 0, none⟩) n c ∧ g < w.heap.size ∧ B ≤ g ∧ Lies w ((⟨g, 0, none⟩ : Addr).add (k * s)) (get k) := by
  obtain ⟨A, c, rfl, _, hs, hh⟩ := h
  rcases hh with ⟨h0, _⟩ | ⟨g, cur, rfl, hB, hg, hnc, _, _, hcs, htake⟩
  · omega
  · refine ⟨g, c, rfl, (Array.getElem?_eq_some_iff.1 hg).1, hB, fun j u hu => ?_⟩
    rw [add_of_add, show (⟨g, 0, none⟩ : Addr).add (k * s + j) = ⟨g, k * s + j, none⟩ by unfold Addr.add; split <;> simp_all, cell_of_row w g _ cur t (0, 0) hg]
    have := flat_get hs hk hu
    rw [← htake, List.getElem?_take] at this
    split at this
    · simpa using this
    · cases this
theorem sat_row {B : Nat} {ρ : Rho} {w : World} {i t s n k : Nat} {get : Nat → List Value} (h : Sat B ρ w i (.row t s n get)) (hk : k < n) : ∃ a, base ρ i = some a ∧ Lies w (a.add (k * s)) (get k) := by
  obtain ⟨v, e, hr⟩ := h
  obtain ⟨g, c, rfl, _, _, hl⟩ := hr.lies hk
  exact ⟨_, base_sl e, hl⟩
theorem lit_at {s : Nat} : ∀ {rows : List (List At)} {ρ : Rho} {cs : List Value} {k : Nat} {r : List At}, (∀ r ∈ rows, r.length = s) → Ats ρ rows.flatten cs → rows[k]? = some r → Ats ρ r ((cs.drop (k * s)).take s)
  | [], _, _, _, _, _, _, h => by simp at h
  | q :: rows, ρ, cs, 0, r, hs, hl, h => by
    have e : q = r := by simpa using h
    subst e
    have h1 := hl.take s
    have e2 : (List.flatten (q :: rows)).take s = q := by rw [List.flatten_cons, ← hs q (by simp)]; exact List.take_left
    rw [e2] at h1
    simpa using h1
  | q :: rows, ρ, cs, k + 1, r, hs, hl, h => by
    have h1 := hl.drop s
    have e2 : (List.flatten (q :: rows)).drop s = rows.flatten := by rw [List.flatten_cons, ← hs q (by simp)]; exact List.drop_left
    rw [e2] at h1
    have := lit_at (k := k) (r := r) (fun r hr => hs r (by simp [hr])) h1 (by simpa using h)
    rw [List.drop_drop] at this
    rw [show (k + 1) * s = s + k * s by rw [Nat.add_mul]; omega]
    exact this
theorem sat_lit {B : Nat} {ρ : Rho} {w : World} {i t s k : Nat} {rows : List (List At)} {r : List At} (h : Sat B ρ w i (.lit t s rows)) (hk : rows[k]? = some r) : ∃ a cs, base ρ i = some a ∧ Ats ρ r cs ∧ Lies w (a.add (k * s)) cs := by
  obtain ⟨b, cs, e, _, hs, _, hl, hh⟩ := h
  refine ⟨⟨b, 0, none⟩, _, base_sl e, lit_at hs hl hk, ?_⟩
  have : Lies w ⟨b, 0, none⟩ cs := fun j u hu => by
    rw [show (⟨b, 0, none⟩ : Addr).add j = ⟨b, j, none⟩ by unfold Addr.add; split <;> simp_all, cell_of_row w b j cs.toArray t (0, 0) hh]
    simpa using hu
  exact this.cut _ _
theorem sat_len {B : Nat} {ρ : Rho} {w : World} {i s n : Nat} {get : Nat → List Value} {x : Value} (h : Sat B ρ w i (.arr s n get)) (hx : ρ i = some x) : ∃ A c, x = .slice A n c := by
  obtain ⟨v, e, A, c, rfl, _⟩ := h
  rw [hx] at e; injection e with e
  exact ⟨A, c, e⟩
theorem sat_len_row {B : Nat} {ρ : Rho} {w : World} {i t s n : Nat} {get : Nat → List Value} {x : Value} (h : Sat B ρ w i (.row t s n get)) (hx : ρ i = some x) : ∃ A c, x = .slice A n c := by
  obtain ⟨v, e, A, c, rfl, _⟩ := h
  rw [hx] at e; injection e with e
  exact ⟨A, c, e⟩
theorem sat_len_lit {B : Nat} {ρ : Rho} {w : World} {i t s : Nat} {rows : List (List At)} {x : Value} (h : Sat B ρ w i (.lit t s rows)) (hx : ρ i = some x) : ∃ A c, x = .slice A rows.length c := by
  obtain ⟨b, cs, e, _⟩ := h
  rw [hx] at e; injection e with e
  exact ⟨_, _, e⟩
end Go.Proofs.Yteblbhbfdfifpaa.V
