/- The walk by verification conditions is sound: slices that are built, made, cut, appended to. -/
import Derived.Test.YteblbhbfdfifpaaVSound
import Derived.Maps.AppendAt
import Derived.Great.BuildSlice
import Derived.Laws.MakeOwn
namespace Go.Proofs.Yteblbhbfdfifpaa.V
open Go Go.RowKit
set_option linter.unusedVariables false
set_option linter.unusedSimpArgs false
set_option linter.unusedSectionVars false

theorem rowsK_spec {sz : Nat} {ρ : Rho} {env : Env} {a : Act} (hE : EnvR sz ρ env a) {s : Nat} : ∀ {parts : List (Nat × Operand)} {i : Nat} {K : List (List At) → Prop}, rowsK env s i parts K →
    ∃ rows cs, K rows ∧ (∀ r ∈ rows, r.length = s) ∧ rows.length = parts.length ∧ Ats ρ rows.flatten cs ∧
      ∀ (cells : List Value), cells.length = (i + parts.length) * s → Instr.fill (fun i => some (i * s, s)) cells.toArray (parts.map fun p => (p.1, a.eval p.2)) = some (cells.take (i * s) ++ cs).toArray
  | [], i, K, h => ⟨[], [], h, by simp, rfl, rfl, fun cells hc => by
      have : cells.take (i * s) = cells := List.take_of_length_le (by rw [hc]; simp)
      simp [Instr.fill, this]⟩
  | (j, x) :: r, i, K, h => by
    unfold rowsK at h
    cases hb : Nat.beq i j <;> simp only [hb] at h
    have e : i = j := Nat.eq_of_beq_eq_true hb
    subst e
    obtain ⟨v, hv, h⟩ := evK_spec hE h
    obtain ⟨c, h, hc, hone⟩ := cellsK_spec hv h
    cases hb2 : Nat.beq c.length s <;> simp only [hb2] at h
    have hlen : c.length = s := Nat.eq_of_beq_eq_true hb2
    obtain ⟨rows, cs, hK, hs, hl, hat, hf⟩ := rowsK_spec hE h
    refine ⟨c :: rows, (a.eval x).cells.toList ++ cs, hK, ?_, by simp [hl], by simpa using hc.append hat, fun cells hcl => ?_⟩
    · intro q hq
      rcases List.mem_cons.1 hq with rfl | hq
      · exact hlen
      · exact hs q hq
    · have hsz : (a.eval x).cells.size = s := by have := hc.length; rw [hlen] at this; simpa using this
      have hle : i * s + s ≤ cells.length := by
        rw [hcl]
        have : (i + 1) * s ≤ (i + (((i, x) :: r).length)) * s := Nat.mul_le_mul_right _ (by simp)
        rwa [Nat.add_mul, Nat.one_mul] at this
      rw [List.map_cons, Instr.fill]
      simp only
      rw [if_neg (by simp [hsz]; omega)]
      have e : (a.eval x).cells.zipIdx.foldl (fun (cs : Array Value) (p : Value × Nat) => cs.setIfInBounds (i * s + p.2) p.1) cells.toArray = (laid cells (i * s) (a.eval x).cells.toList).toArray := by
        rw [← Array.foldl_toList, Array.toList_zipIdx]
        have := foldl_laid (i * s) (a.eval x).cells.toList 0 cells.toArray (by simp; omega)
        simpa using this
      have e2 : (a.eval x).cells.zipIdx.foldl (fun (cs : Array Value) (x : Value × Nat) => match x with | (c, j) => cs.setIfInBounds (i * s + j) c) cells.toArray = (laid cells (i * s) (a.eval x).cells.toList).toArray := e
      rw [e2, hf _ (by rw [laid_length (by simp [hsz]; omega), hcl]; simp; congr 1; omega)]
      congr 2
      rw [← List.append_assoc]
      congr 1
      have el : (i + 1) * s = i * s + (a.eval x).cells.toList.length := by rw [Nat.add_mul]; simp [hsz]
      rw [el]
      unfold laid
      rw [List.take_append_of_le_length (by simp; omega)]
      rw [List.take_of_length_le (by simp; omega)]
theorem closesK_spec {ρ : Rho} : ∀ {rows : List (List At)} {K : List (List Value) → Prop}, closesK rows K → ∃ ll, K ll ∧ ll.length = rows.length ∧ Ats ρ rows.flatten ll.flatten ∧ (∀ l ∈ ll, ∀ v ∈ l, v.oneCell' = true) ∧ ∀ (k : Nat) r, rows[k]? = some r → ∃ l, ll[k]? = some l ∧ l.length = r.length
  | [], K, h => ⟨[], h, rfl, rfl, by simp, by simp⟩
  | x :: r, K, h => by
    unfold closesK at h
    obtain ⟨y, h, hy, h1⟩ := closeK_spec (ρ := ρ) h
    obtain ⟨ll, hK, hl, hat, h2, h3⟩ := closesK_spec (ρ := ρ) h
    refine ⟨y :: ll, hK, by simp [hl], by simpa using hy.append hat, ?_, fun k q hq => ?_⟩
    · intro l hl'
      rcases List.mem_cons.1 hl' with rfl | hl'
      · exact h1
      · exact h2 l hl'
    · cases k with
      | zero => exact ⟨y, rfl, by have e : x = q := by simpa using hq
                                  rw [← e]; exact hy.length⟩
      | succ k => simpa using h3 k q (by simpa using hq)
theorem flat_listG : ∀ (ll : List (List Value)), flat (listG ll) ll.length = ll.flatten := by
  intro ll
  suffices h : ∀ n, n ≤ ll.length → flat (listG ll) n = (ll.take n).flatten by
    have := h ll.length (Nat.le_refl _)
    rwa [List.take_length] at this
  intro n
  induction n with
  | zero => intro _; simp [flat]
  | succ n ih =>
    intro hn
    have e : flat (listG ll) (n + 1) = flat (listG ll) n ++ listG ll n := by unfold flat; rw [List.range_succ, List.flatMap_append]; simp
    rw [e, ih (by omega), List.take_succ_eq_append_getElem (by omega), List.flatten_append]
    congr 1
    simp [listG, List.getD, List.getElem?_eq_getElem (by omega : n < ll.length)]

theorem run_val' {P : Program} {w w' : World} {s : Sem Value} {x : Value} (h : s.run P w = .ok x w') : (do pure (Next.value (← s)) : Sem Next).run P w = .ok (.value x) w' := by
  rw [Sem.run_bind, h]; rfl
section
variable {P : Program} {T : TT} {sz : Nat} {ρ : Rho} {env : Env} {a : Act} {B nx : Nat} {obs : Obs} {w0 : St} {w : World} (hT : TTok P T) (hE : EnvR sz ρ env a) (hC : Cls B ρ obs nx w) (hW : Wy B w0 ρ a.defers w) {K : Env → Obs → Nat → Prop} {Q : Exit → Act → World → Prop}
include hE hC hW
/-- a new object behind a slice -/
theorem new_ref {v : Value} {o : Ob} {dst : Option Tmp} {w' : World} (hone : v.oneCell' = true) (hb : Below w.heap.size w w') (hs : Sat B (upd ρ nx v) w' nx o) (hf : ∀ b, foot (upd ρ nx v) nx o = some b → w.heap.size ≤ b)
    (h : putK sz dst (.one (.ref nx)) env fun env' => K env' ((nx, o) :: obs) (nx + 1)) : NxA B w0 sz K w (a.put dst v) w' := by
  have hx : Ext ρ (upd ρ nx v) := ext_upd (hC.new nx (Nat.le_refl _))
  obtain ⟨env', hK, hE'⟩ := putK_spec (hE.ext hx) (v := .one (.ref nx)) (x := v) ⟨upd_same _ _ _, hone⟩ h
  exact ⟨_, env', _, _, hK, hE', hC.more hb hs hf, ((below_of hW hC.le hb).ext hx).put, hb⟩
include hT
theorem op_buildSlice {o : Oper} {t : TypeId} {len : Nat} {parts : Array (Nat × Operand)} (ho : o.op = .buildSlice t len parts) (h : opK P T sz false o env obs nx K) : o.wp P a w (NxA B w0 sz K w) Q := by
  simp only [opK, ho] at h
  obtain ⟨ty, i, d, z, ht, hi, hd, hz, rfl, h⟩ := fnd_ty hT h
  simp only at h
  split at h
  rotate_left
  · exact h.elim
  rename_i e hs
  have e0 := sh_sl hs
  subst e0
  obtain ⟨te, i2, d2, z2, ht2, hi2, hd2, hz2, rfl, h⟩ := fnd_ty hT h
  simp only at h
  obtain ⟨rows, cs, h, hrs, hrl, hat, hfill⟩ := rowsK_spec hE h
  split at h
  rotate_left
  · exact h.elim
  rename_i b1 b2 b3
  have e1 : rows.length = len := Nat.eq_of_beq_eq_true b1
  have e2 : len * i2.size ≤ 16777216 := Nat.le_of_ble_eq_true b2
  have e3 : i2.size ≠ 0 := Nat.ne_of_beq_eq_false b3
  have hplen : parts.toList.length = len := by rw [← hrl]; exact e1
  have hcl := hfill ((List.range (len * i2.size)).map (z2.cells[· % z2.cells.size]!)) (by simp only [List.length_map, List.length_range]; congr 1; omega)
  have er : (Instr.buildSlice t len (parts.map fun p => match p with | (i, x) => (i, a.eval x))).run P w = .ok (.slice (some ⟨w.heap.size, 0, none⟩) len len) (w.alloc (.cells cs.toArray e)) := by
    by_cases h0 : len = 0
    · subst h0
      have hp : parts = #[] := by cases parts; simpa using hplen
      subst hp
      have hr0 : rows = [] := List.eq_nil_of_length_eq_zero e1
      subst hr0
      have hcs : cs = [] := hat
      subst hcs
      simp [Instr.buildSlice, run_underlying hd, run_size hi2, newRow, Instr.fill, Sem.run_bind]
      congr 2
      apply Array.ext'
      simp
    · refine run_buildSlice w t e len _ cs.toArray i2 z2 hd hi2 hz2 (by omega) (by rw [Nat.mul_eq_zero]; omega) ?_
      have ea : (parts.map fun p => match p with | (i, x) => (i, a.eval x)).toList = parts.toList.map fun p => (p.1, a.eval p.2) := by simp
      rw [ea]
      have eb : (Array.range (len * i2.size)).map (z2.cells[· % z2.cells.size]!) = ((List.range (len * i2.size)).map (z2.cells[· % z2.cells.size]!)).toArray := by
        apply Array.ext'
        simp
      rw [eb, hcl]
      simp
  unfold Oper.wp
  simp only [execOp, ho]
  rw [show (do pure (Next.value (← Instr.buildSlice t len (parts.map fun p => match p with | (i, x) => (i, a.eval x)))) : Sem Next).run P w = .ok (.value (.slice (some ⟨w.heap.size, 0, none⟩) len len)) (w.alloc (.cells cs.toArray e)) from run_val' er]
  have hfin := h
  split at hfin
  · simp at e1
    subst e1
    exact new_ref (o := .row e i2.size 0 fun _ => []) hE hC hW rfl ((Below.refl _ _).alloc (Nat.le_refl _) _) ⟨_, upd_same _ _ _, _, 0, rfl, by omega, fun k hk => by omega, .inl ⟨rfl, rfl⟩⟩ (fun b hf => by rw [foot_row (upd_same _ _ _)] at hf; simp at hf) hfin
  refine new_ref (o := .lit e i2.size rows) hE hC hW rfl ((Below.refl _ _).alloc (Nat.le_refl _) _) ⟨w.heap.size, cs, by rw [upd_same, e1], hC.le, hrs, ?_, hat.ext (ext_upd (hC.new nx (Nat.le_refl _))), by simpa using heap_alloc_new w _⟩ (fun b hf => ?_) hfin
  · have : len ≤ len * i2.size := Nat.le_mul_of_pos_right _ (by omega)
    omega
  · simp only [foot, base_sl (upd_same _ _ _), Option.map_some] at hf
    injection hf with hf; omega
theorem op_nil {o : Oper} (ho : o.op = .assign (.const (.slice none 0 0))) (h : opK P T sz false o env obs nx K) : o.wp P a w (NxA B w0 sz K w) Q := by
  simp only [opK, ho] at h
  have plain : (putK sz o.dst (.one (.val (.slice none 0 0))) env fun env' => K env' obs nx) → NxA B w0 sz K w (a.put o.dst (.slice none 0 0)) w := fun h => by
    obtain ⟨env', hK, hE'⟩ := putK_spec hE (v := .one (.val (.slice none 0 0))) rfl h
    exact ⟨ρ, env', obs, nx, hK, hE', hC, hW.put, Below.refl _ _⟩
  obtain ⟨ty, i, d, z, ht, hi, hd, hz, rfl, h⟩ := fnd_ty hT h
  simp only at h
  unfold Oper.wp
  simp only [execOp, ho]
  show NxA B w0 sz K w (a.put o.dst (.slice none 0 0)) w
  split at h
  · obtain ⟨te, h⟩ := fndK_spec h
    exact new_ref (o := .row _ te.size 0 fun _ => []) hE hC hW rfl (Below.refl _ _) ⟨_, upd_same _ _ _, none, 0, rfl, by omega, fun k hk => by omega, .inl ⟨rfl, rfl⟩⟩ (fun b hf => by rw [foot_row (upd_same _ _ _)] at hf; simp at hf) h.2
  · exact plain h
theorem op_makeSlice {o : Oper} {t : TypeId} {x y : Operand} (ho : o.op = .makeSlice t x y) (h : opK P T sz false o env obs nx K) : o.wp P a w (NxA B w0 sz K w) Q := by
  simp only [opK, ho] at h
  obtain ⟨ty, i, d, z, ht, hi, hd, hz, rfl, h⟩ := fnd_ty hT h
  simp only at h
  split at h
  rotate_left
  · exact h.elim
  rename_i e hs
  have e0 := sh_sl hs
  subst e0
  obtain ⟨te, i2, d2, z2, ht2, hi2, hd2, hz2, rfl, h⟩ := fnd_ty hT h
  simp only at h
  obtain ⟨v, hv, h⟩ := evK_spec hE h
  obtain ⟨u, hu, h⟩ := evK_spec hE h
  split at h
  rotate_left
  · exact h.elim
  rename_i kl l kc c _
  have ex : a.eval x = .int kl l := hv
  have ey : a.eval y = .int kc c := hu
  split at h
  rotate_left
  · exact h.elim
  rename_i b1 b2
  have e1 : i2.size ≠ 0 := Nat.ne_of_beq_eq_false b1
  have e2 : z2.cells.size = i2.size := by have := Nat.eq_of_beq_eq_true b2; simpa using this
  obtain ⟨n, m, rfl, rfl, hnm, hm, hby, h⟩ := h.h
  have hby' : (i2.bytes : Int) * (m : Int) ≤ 281474976710656 := by
    have h1 : ((i2.bytes * m : Nat) : Int) ≤ 281474976710656 := by omega
    rwa [Int.natCast_mul] at h1
  have er := run_make (P := P) (w := w) t e i2 z2 hd hi2 hz2 kl kc n m (by omega) (by omega) hby' (by omega)
  unfold Oper.wp
  simp only [execOp, ho, ex, ey]
  rw [show (do pure (Next.value (← Instr.makeSlice t (.int kl n) (.int kc m))) : Sem Next).run P w = .ok (.value (.slice (some ⟨w.heap.size, 0, none⟩) n m)) (w.alloc (.cells (madeCells z2.cells (m * i2.size)) e)) from run_val' er]
  refine new_ref (o := .row e i2.size n fun _ => z2.cells.toList) hE hC hW rfl ((Below.refl _ _).alloc (Nat.le_refl _) _) ⟨_, upd_same _ _ _, _, m, rfl, by omega, fun k hk => by simp [e2], ?_⟩ (fun b hf => ?_) h
  · by_cases hm0 : m = 0
    · exact .inl ⟨by omega, hm0⟩
    · refine .inr ⟨w.heap.size, _, rfl, hC.le, heap_alloc_new w _, hnm, by omega, by unfold maxLen; omega, by simp [madeCells], ?_⟩
      have hz2' : ∀ k, k < n → ((fun _ => z2.cells.toList : Nat → List Value) k).length = i2.size := fun k _ => by simp [e2]
      have hfl := flat_length hz2'
      have hns : n * i2.size ≤ m * i2.size := Nat.mul_le_mul_right _ hnm
      apply List.ext_getElem?
      intro p
      by_cases hp : p < n * i2.size
      · obtain ⟨q, r, hr, rfl⟩ : ∃ q r, r < i2.size ∧ p = q * i2.size + r := ⟨p / i2.size, p % i2.size, Nat.mod_lt _ (by omega), by rw [Nat.mul_comm]; exact (Nat.div_add_mod p _).symm⟩
        have hq : q < n := by
          rcases Nat.lt_or_ge q n with c | c
          · exact c
          · have : n * i2.size ≤ q * i2.size := Nat.mul_le_mul_right _ c
            omega
        have e3 : (z2.cells.toList)[r]? = some (z2.cells.toList[r]'(by simp [e2]; exact hr)) := List.getElem?_eq_getElem _
        rw [flat_get (get := fun _ => z2.cells.toList) hz2' hq e3, List.getElem?_take_of_lt hp]
        have hmod : (q * i2.size + r) % z2.cells.size = r := by rw [e2, Nat.add_comm, Nat.add_mul_mod_self_right, Nat.mod_eq_of_lt hr]
        simp [madeCells, hmod, (by omega : q * i2.size + r < m * i2.size), (by omega : r < z2.cells.size)]
      · rw [List.getElem?_take, if_neg hp, List.getElem?_eq_none (by rw [hfl]; omega)]
  · rw [foot_row (upd_same _ _ _)] at hf
    split at hf
    · cases hf
    · injection hf with hf
      exact Nat.le_of_eq hf
end
end Go.Proofs.Yteblbhbfdfifpaa.V
