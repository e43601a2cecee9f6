/- The walk by verification conditions: each operation that leaves the world alone. -/
import Derived.Test.YteblbhbfdfifpaaVPure
namespace Go.Proofs.Yteblbhbfdfifpaa.V
open Go Go.RowKit
set_option linter.unusedVariables false
set_option linter.unusedSimpArgs false

def laid {α : Type} (l : List α) (j : Nat) (ys : List α) : List α := l.take j ++ ys ++ l.drop (j + ys.length)
theorem layK_spec {α : Type} : ∀ {l : List α} {j : Nat} {ys : List α} {K : List α → Prop}, layK l j ys K → j + ys.length ≤ l.length ∧ K (laid l j ys)
  | l, 0, [], K, h => by
    refine ⟨by simp, ?_⟩
    have e : laid l 0 [] = l := by simp [laid]
    rw [e]; unfold layK at h; exact h
  | [], 0, _ :: _, _, h => by cases h
  | [], _ + 1, _, _, h => by cases h
  | x :: r, 0, y :: ys, K, h => by
    obtain ⟨h1, h2⟩ := layK_spec (l := r) (j := 0) (ys := ys) (K := fun l => K (y :: l)) h
    refine ⟨by simp at h1 ⊢; omega, ?_⟩
    simpa [laid, Nat.add_comm] using h2
  | x :: r, j + 1, ys, K, h => by
    obtain ⟨h1, h2⟩ := layK_spec (l := r) (j := j) (ys := ys) (K := fun l => K (x :: l)) (by unfold layK at h; exact h)
    refine ⟨by simp; omega, ?_⟩
    have e : j + 1 + ys.length = (j + ys.length) + 1 := by omega
    simpa [laid, e] using h2
theorem Ats.laid {ρ : Rho} {l m : List At} {x y : List Value} (h : Ats ρ l x) (k : Ats ρ m y) (j : Nat) : Ats ρ (laid l j m) (laid x j y) := by
  unfold V.laid
  rw [k.length]
  exact ((h.take j).append k).append (h.drop _)
theorem laid_cons {α : Type} {l : List α} {j : Nat} {y : α} {ys : List α} (h : j < l.length) : laid l j (y :: ys) = laid (l.set j y) (j + 1) ys := by
  unfold laid
  have e1 : (l.set j y).take (j + 1) = l.take j ++ [y] := by
    rw [List.take_set, List.take_succ_eq_append_getElem h, List.set_append_right _ _ (by simp; omega)]
    simp [List.length_take, Nat.min_eq_left (Nat.le_of_lt h)]
  have e2 : (l.set j y).drop (j + 1 + ys.length) = l.drop (j + (ys.length + 1)) := by
    rw [List.drop_set_of_lt (by omega)]; congr 1; omega
  rw [e1, e2]
  simp
theorem foldl_laid (off : Nat) : ∀ (ys : List Value) (k : Nat) (cs : Array Value), off + k + ys.length ≤ cs.size →
    (ys.zipIdx k).foldl (fun (cs : Array Value) (p : Value × Nat) => cs.setIfInBounds (off + p.2) p.1) cs = (laid cs.toList (off + k) ys).toArray
  | [], k, cs, h => by simp [laid]
  | y :: ys, k, cs, h => by
    simp only [List.length_cons] at h
    rw [List.zipIdx_cons, List.foldl_cons, foldl_laid off ys (k + 1) _ (by simp; omega), laid_cons (by simp; omega)]
    simp [Nat.add_assoc]

theorem kEq_eq {k k' : IntKind} (h : kEq k k' = true) : k = k' := by cases k <;> cases k' <;> first | rfl | cases h
theorem intK_spec {P : Program} {ρ : Rho} {op : BinOp} {k : IntKind} {x y : Int} {K : SV → Prop} (hs : op ≠ .shl ∧ op ≠ .shr) (h : intK op k x y K) :
    ∃ r z, r.is ρ z ∧ K r ∧ ∀ t w, (binOp op t (.int k x) (.int k y)).run P w = .ok z w := by
  cases op <;> simp only [intK] at h
  case add => exact ⟨.one (.val _), _, rfl, h.h, fun t w => by simp [binOp, Op.intArith]⟩
  case sub => exact ⟨.one (.val _), _, rfl, h.h, fun t w => by simp [binOp, Op.intArith]⟩
  case mul => exact ⟨.one (.val _), _, rfl, h.h, fun t w => by simp [binOp, Op.intArith]⟩
  case quo => exact ⟨.one (.val _), _, rfl, h.h, fun t w => by simp [binOp, Op.intDiv, h.ne]⟩
  case rem => exact ⟨.one (.val _), _, rfl, h.h, fun t w => by simp [binOp, Op.intDiv, h.ne]⟩
  case and => exact ⟨.one (.val _), _, rfl, h.h _ (fun P w => rfl), fun t w => by simp only [binOp]; rw [if_neg (by simp)]; rfl⟩
  case or => exact ⟨.one (.val _), _, rfl, h.h _ (fun P w => rfl), fun t w => by simp only [binOp]; rw [if_neg (by simp)]; rfl⟩
  case xor => exact ⟨.one (.val _), _, rfl, h.h _ (fun P w => rfl), fun t w => by simp only [binOp]; rw [if_neg (by simp)]; rfl⟩
  case andNot => exact ⟨.one (.val _), _, rfl, h.h _ (fun P w => rfl), fun t w => by simp only [binOp]; rw [if_neg (by simp)]; rfl⟩
  case eql => exact ⟨.one (.prop _), _, ⟨x == y, rfl, by simp⟩, h, fun t w => by simp [binOp, Op.intCmp]⟩
  case neq => exact ⟨.one (.prop _), _, ⟨x != y, rfl, by simp⟩, h, fun t w => by simp [binOp, Op.intCmp]⟩
  case lss => exact ⟨.one (.prop _), _, ⟨decide (x < y), rfl, by simp⟩, h, fun t w => by simp [binOp, Op.intCmp]⟩
  case leq => exact ⟨.one (.prop _), _, ⟨decide (x ≤ y), rfl, by simp⟩, h, fun t w => by simp [binOp, Op.intCmp]⟩
  case gtr => exact ⟨.one (.prop _), _, ⟨decide (x > y), rfl, by simp⟩, h, fun t w => by simp [binOp, Op.intCmp]⟩
  case geq => exact ⟨.one (.prop _), _, ⟨decide (x ≥ y), rfl, by simp⟩, h, fun t w => by simp [binOp, Op.intCmp]⟩
theorem guard_int {P : Program} {op : BinOp} {t : TypeId} {x y : Operand} {k k' : IntKind} {a b : Int} {w : World} : (eqGuard op t x y (.int k a) (.int k' b)).run P w = .ok () w := by
  unfold eqGuard; split <;> rfl
theorem guard_str {P : Program} {op : BinOp} {t : TypeId} {x y : Operand} {a b : ByteArray} {w : World} : (eqGuard op t x y (.string a) (.string b)).run P w = .ok () w := by
  unfold eqGuard; split <;> rfl
theorem binK_spec {P : Program} {ρ : Rho} {op : BinOp} {v u : SV} {x y : Value} {K : SV → Prop} (hv : v.is ρ x) (hu : u.is ρ y) (h : binK op v u K) :
    ∃ r z, r.is ρ z ∧ K r ∧ ∀ t (ox oy : Operand) w, (eqGuard op t ox oy x y).run P w = .ok () w ∧ (binOp op t x y).run P w = .ok z w := by
  unfold binK at h
  split at h
  · rename_i K' k a k' b
    have e1 : x = .int k a := hv
    have e2 : y = .int k' b := hu
    subst e1 e2
    split at h
    · exact ⟨.one (.val _), _, rfl, h.h, fun t ox oy w => ⟨guard_int, by have := h.ge; simp [binOp, Op.shift]; omega⟩⟩
    · exact ⟨.one (.val _), _, rfl, h.h, fun t ox oy w => ⟨guard_int, by have := h.ge; simp [binOp, Op.shift]; omega⟩⟩
    · rename_i ne1 ne2
      cases hk : kEq k k' <;> simp only [hk] at h
      have := kEq_eq hk
      subst this
      obtain ⟨r, z, h1, h2, h3⟩ := intK_spec (P := P) (ρ := ρ) ⟨fun e => ne1 e, fun e => ne2 e⟩ h
      exact ⟨r, z, h1, h2, fun t ox oy w => ⟨guard_int, h3 t w⟩⟩
  · rename_i K' a b
    have e1 : x = .string a := hv
    have e2 : y = .string b := hu
    subst e1 e2
    split at h
    · exact ⟨.one (.prop _), _, ⟨a.toList == b.toList, rfl, by simp⟩, h, fun t ox oy w => ⟨guard_str, by simp [binOp, Op.stringOp]⟩⟩
    · exact ⟨.one (.prop _), _, ⟨a.toList != b.toList, rfl, by simp⟩, h, fun t ox oy w => ⟨guard_str, by simp [binOp, Op.stringOp, bne]⟩⟩
    · exact ⟨.one (.val _), _, rfl, h.h, fun t ox oy w => ⟨guard_str, by have := h.le; simp [binOp, Op.stringOp]; omega⟩⟩
    · exact h.elim
  · exact h.elim
theorem unK_spec {P : Program} {ρ : Rho} {op : UnOp} {v : SV} {x : Value} {K : SV → Prop} (hv : v.is ρ x) (h : unK op v K) : ∃ r z, r.is ρ z ∧ K r ∧ ∀ w, (Op.unary op x).run P w = .ok z w := by
  unfold unK at h
  split at h
  · rename_i b
    have e : x = .bool b := hv
    subst e
    split at h
    · exact ⟨.one (.tf _), _, rfl, h, fun w => by simp [Op.unary]⟩
    · exact h.elim
  · rename_i p
    obtain ⟨b, rfl, hb⟩ := hv
    split at h
    · exact ⟨.one (.prop _), _, ⟨!b, rfl, by rw [← hb]; simp⟩, h, fun w => by simp [Op.unary]⟩
    · exact h.elim
  · rename_i b
    have e : x = .bool b := hv
    subst e
    split at h
    · exact ⟨.one (.prop _), _, ⟨!b, rfl, by simp⟩, h, fun w => by simp [Op.unary]⟩
    · exact h.elim
  · rename_i k a
    have e : x = .int k a := hv
    subst e
    split at h
    · exact ⟨.one (.val _), _, rfl, h.h, fun w => by simp [Op.unary, Op.intArith]⟩
    · exact ⟨.one (.val _), _, rfl, h.h _ (fun P w => rfl), fun w => rfl⟩
    · exact h.elim
  · exact h.elim

theorem run_val {P : Program} {w : World} {s : Sem Value} {x : Value} (h : s.run P w = .ok x w) : (do pure (Next.value (← s)) : Sem Next).run P w = .ok (.value x) w := by
  simp [Sem.run_bind, h]

theorem fillK_spec {P : Program} {sz : Nat} {ρ : Rho} {env : Env} {a : Act} (hE : EnvR sz ρ env a) {fields : List Field} : ∀ {parts : List (Nat × Operand)} {l : List At} {cs : List Value} {K : List At → Prop},
    Ats ρ l cs → fillK env (fields.map fun f => (f.offset, sizeT P f.type, aggT P f.type)) parts l K →
    ∃ l' cs', K l' ∧ Ats ρ l' cs' ∧ Instr.fill (fun i => (fields[i]?).map fun f => (f.offset, sizeT P f.type)) cs.toArray (parts.map fun p => (p.1, a.eval p.2)) = some cs'.toArray
  | [], l, cs, K, hl, h => ⟨l, cs, h, hl, rfl⟩
  | (i, x) :: r, l, cs, K, hl, h => by
    unfold fillK at h
    obtain ⟨f, ef, h⟩ := nthK_spec h
    obtain ⟨v, hv, h⟩ := evK_spec hE h
    obtain ⟨c, h, hc, hone⟩ := cellsK_spec hv h
    cases hb : Nat.beq c.length f.2.1 <;> simp only [hb] at h
    have hlen : c.length = f.2.1 := Nat.eq_of_beq_eq_true hb
    obtain ⟨hle, h⟩ := layK_spec h
    obtain ⟨l', cs', hK, hl', hf⟩ := fillK_spec hE (hl.laid hc f.1) h
    refine ⟨l', cs', hK, hl', ?_⟩
    rw [List.getElem?_map] at ef
    obtain ⟨fd, efd, rfl⟩ := Option.map_eq_some_iff.1 ef
    have hsz : (a.eval x).cells.size = sizeT P fd.type := by
      have := hc.length
      rw [hlen] at this
      simpa using this
    have hle' : fd.offset + (a.eval x).cells.size ≤ cs.length := by
      have h1 := hc.length
      have h2 := hl.length
      simp only [Array.length_toList] at h1
      simp only at hle
      omega
    rw [List.map_cons, Instr.fill]
    simp only [efd, Option.map_some]
    rw [if_neg (by simp [hsz]; omega)]
    have e : (a.eval x).cells.zipIdx.foldl (fun (cs : Array Value) (p : Value × Nat) => cs.setIfInBounds (fd.offset + p.2) p.1) cs.toArray = (laid cs fd.offset (a.eval x).cells.toList).toArray := by
      rw [← Array.foldl_toList, Array.toList_zipIdx]
      have := foldl_laid fd.offset (a.eval x).cells.toList 0 cs.toArray (by simp; omega)
      simpa using this
    have e2 : (a.eval x).cells.zipIdx.foldl (fun (cs : Array Value) (x : Value × Nat) => match x with | (c, j) => cs.setIfInBounds (fd.offset + j) c) cs.toArray = (laid cs fd.offset (a.eval x).cells.toList).toArray := e
    rw [e2]
    exact hf
theorem capsK_spec {sz : Nat} {ρ : Rho} {env : Env} {a : Act} (hE : EnvR sz ρ env a) : ∀ {l : List Operand} {K : List Nat → Prop}, capsK env l K → ∃ is_, K is_ ∧ CapsAre ρ is_ (l.map a.eval)
  | [], K, h => ⟨[], h, rfl⟩
  | x :: r, K, h => by
    unfold capsK at h
    obtain ⟨v, hv, h⟩ := evK_spec hE h
    split at h
    · rename_i v i
      obtain ⟨is_, hK, hr⟩ := capsK_spec hE h
      obtain ⟨b, hb, e⟩ := hv
      refine ⟨i :: is_, hK, b, _, hb, ?_, hr⟩
      rw [List.map_cons, e]
      simp [Addr.add]
    · exact h.elim
end Go.Proofs.Yteblbhbfdfifpaa.V
