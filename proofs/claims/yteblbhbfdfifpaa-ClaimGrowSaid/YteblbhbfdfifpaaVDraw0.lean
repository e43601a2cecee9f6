/- Regions that draw their order: a walk that takes what is still first, and each order of what makes memory. -/
import Derived.Test.YteblbhbfdfifpaaWords
import Derived.Deep.Quiet
namespace Go.Proofs.Yteblbhbfdfifpaa.V
open Go Go.RowKit
set_option linter.unusedVariables false
set_option linter.unusedSimpArgs false
set_option linter.unusedSectionVars false

section
variable {P : Program} {ops : Array Oper} {md : Region.Mode}
/-- k comes up ahead of j, in every order -/
inductive Anc (md : Region.Mode) (ops : Array Oper) : Nat → Nat → Prop
  | one {j : Nat} {oj : Oper} {e : Edge} : ops[j]? = some oj → e ∈ oj.after → Region.binds md e = true → Anc md ops e.on j
  | more {k j : Nat} {oj : Oper} {e : Edge} : ops[j]? = some oj → e ∈ oj.after → Region.binds md e = true → Anc md ops k e.on → Anc md ops k j
def Down (md : Region.Mode) (ops : Array Oper) (listed : Array Bool) : Prop :=
  ∀ j oj, ops[j]? = some oj → listed.getD j false = true → ∀ e ∈ oj.after, Region.binds md e = true → listed.getD e.on false = true
theorem Anc.listed {k j : Nat} {listed : Array Bool} (hd : Down md ops listed) (h : Anc md ops k j) : (∃ oj, ops[j]? = some oj ∧ ∀ e ∈ oj.after, Region.binds md e = true → listed.getD e.on false = true) → listed.getD k false = true := by
  induction h with
  | one hj he hb =>
    rintro ⟨oj, h1, h2⟩
    rw [hj] at h1; injection h1 with h1; subst h1
    exact h2 _ he hb
  | more hj he hb hk ih =>
    rintro ⟨oj, h1, h2⟩
    rw [hj] at h1; injection h1 with h1; subst h1
    have hl := h2 _ he hb
    refine ih ?_
    cases hk with
    | one ho _ _ => exact ⟨_, ho, fun e' he' hb' => hd _ _ ho hl e' he' hb'⟩
    | more ho _ _ _ => exact ⟨_, ho, fun e' he' hb' => hd _ _ ho hl e' he' hb'⟩
theorem Down.set {listed : Array Bool} {i : Nat} (hd : Down md ops listed) (hi : i ∈ Region.ready md ops listed) : Down md ops (listed.setIfInBounds i true) := by
  intro j oj hj hl e he hb
  refine getD_set_true ?_
  by_cases hji : i = j
  · subst hji
    obtain ⟨_, o, ho, h⟩ := mem_ready.1 hi
    rw [hj] at ho; injection ho with ho; subst ho
    exact h e he hb
  · rw [getD_set_ne false hji] at hl
    exact hd j oj hj hl e he hb

/-- nothing dies, nothing is let out -/
def noQ : Exit → Act → World → Prop := fun _ _ _ => False
def opG (P : Program) (ops : Array Oper) (i : Nat) (K : Act → World → Prop) (a : Act) (w : World) : Prop := match ops[i]? with
  | none => False
  | some o => if Region.wanted o (yielded ops a.tmps) then o.wp P a w K noQ else K (a.put o.dst undef) w
theorem opG_mono {i : Nat} {K K' : Act → World → Prop} {a : Act} {w : World} (h : ∀ a w, K a w → K' a w) (hh : opG P ops i K a w) : opG P ops i K' a w := by
  unfold opG at *
  split
  · rename_i hn; simp only [hn] at hh
  · rename_i o ho
    simp only [ho] at hh
    split
    · rename_i hw; simp only [hw, if_true] at hh; exact Oper.wp_mono h hh
    · rename_i hw; simp only [hw] at hh; exact h _ _ hh
theorem wp_noQ {o : Oper} {a : Act} {w : World} {K : Act → World → Prop} {Q : Exit → Act → World → Prop} (h : o.wp P a w K noQ) : o.wp P a w K Q := by
  unfold Oper.wp at *
  generalize (execOp a.eval o).run P w = r at *
  cases r with
  | ok n w' =>
    cases n <;> simp only [Oper.upon] at h ⊢ <;> first
      | exact h
      | exact Calls.mono h (fun e w'' he => by cases e <;> first | exact he | exact (show False from he).elim | exact (let ⟨_, _, q⟩ := (show LetsOut noQ from he); (show False from q).elim))
  | halt x w' => cases x <;> simp only [Oper.upon] at h ⊢ <;> exact (show False from h).elim
theorem opG.to {i : Nat} {K : Act → World → Prop} {Q : Exit → Act → World → Prop} {a : Act} {w : World} (h : opG P ops i K a w) : wpOp P ops Q i K a w := by
  unfold opG at h
  unfold wpOp
  split at h
  · exact h.elim
  · rename_i o ho
    split at h
    · rename_i hw; simp only [ho, hw, if_true]; exact .inl (wp_noQ h)
    · rename_i hw; simp only [ho, hw]; exact h
/-- all orders; C: what is sure of the world as long as nothing is written -/
def wpX (P : Program) (md : Region.Mode) (ops : Array Oper) (S : Nat → Prop) (R : Act → World → Prop) : Nat → Array Bool → Act → World → (World → Prop) → Prop
  | 0, listed, a, w, C => C w ∧ Region.ready md ops listed = [] ∧ R a w
  | f + 1, listed, a, w, C => C w ∧ (Region.ready md ops listed = [] → R a w) ∧ ∀ i ∈ Region.ready md ops listed,
      opG P ops i (fun a' w' => ∃ C' : World → Prop, (∀ v, C' v → C v) ∧ wpX P md ops S R f (listed.setIfInBounds i true) a' w' C') a w ∨
      ((∀ k, S k → listed.getD k false = true → Anc md ops k i) ∧ opG P ops i (fun a' w' => ∃ C' : World → Prop, wpX P md ops S R f (listed.setIfInBounds i true) a' w' C') a w)
theorem wpX.any {S : Nat → Prop} {R : Act → World → Prop} {Q : Exit → Act → World → Prop} (hR : ∀ a w, R a w → Q .normal a w) : ∀ (f : Nat) (listed : Array Bool) (a : Act) (w : World) (C : World → Prop), wpX P md ops S R f listed a w C → wpAny P md ops Q f listed a w
  | 0, _, _, _, _, h => ⟨h.2.1, hR _ _ h.2.2⟩
  | f + 1, _, _, _, _, h => ⟨fun q => hR _ _ (h.2.1 q), fun i hi => by
    rcases h.2.2 i hi with q | ⟨_, q⟩
    · exact (opG_mono (fun a' w' ⟨C', _, q⟩ => wpX.any hR f _ a' w' C' q) q).to
    · exact (opG_mono (fun a' w' ⟨C', q⟩ => wpX.any hR f _ a' w' C' q) q).to⟩
/-- in every world of the class the operation yields v, and leaves the world -/
def YS (P : Program) (ops : Array Oper) (C : World → Prop) (o : Oper) (v : Value) (a : Act) : Prop :=
  if Region.wanted o (yielded ops a.tmps) then ∀ w, C w → (execOp a.eval o).run P w = .ok (.value v) w else v = undef
theorem YS.less {C C' : World → Prop} {o : Oper} {v : Value} {a : Act} (h : YS P ops C o v a) (hc : ∀ w, C' w → C w) : YS P ops C' o v a := by
  unfold YS at *
  split
  · rename_i hw; rw [if_pos hw] at h; exact fun w hw' => h w (hc w hw')
  · rename_i hw; rw [if_neg hw] at h; exact h
theorem YS.go {C : World → Prop} {i : Nat} {o : Oper} {v : Value} {a : Act} {w : World} {K : Act → World → Prop} (hi : ops[i]? = some o) (h : YS P ops C o v a) (hC : C w) (hK : K (a.put o.dst v) w) : opG P ops i K a w := by
  unfold opG YS at *
  simp only [hi]
  split
  · rename_i hw
    rw [if_pos hw] at h
    unfold Oper.wp
    rw [h w hC]; exact hK
  · rename_i hw
    rw [if_neg hw] at h
    subst h; exact hK
theorem put_defers (a : Act) (d : Option Tmp) (v : Value) (l : List Deferred) : ({ a with defers := l } : Act).put d v = { (a.put d v) with defers := l } := by
  cases d <;> rfl
theorem defers_put (a : Act) (d : Option Tmp) (v : Value) : (a.put d v).defers = a.defers := by cases d <;> rfl
theorem eval_defers (a : Act) (l : List Deferred) : ({ a with defers := l } : Act).eval = a.eval := by
  funext x; cases x <;> rfl
/-- two operations apart from each other, the first of which is still, change places -/
theorem opG_put {j : Nat} {oi oj : Oper} {v : Value} {C : World → Prop} (hj : ops[j]? = some oj) (hap : oi.apart ops oj = true) (hsi : ∀ cs b, oi.op ≠ .select cs b) (hsj : ∀ cs b, oj.op ≠ .select cs b)
    {K : Act → World → Prop} {a : Act} {w : World} (hy : YS P ops C oi v a) (h : opG P ops j K (a.put oi.dst v) w) : opG P ops j (fun a' w' => YS P ops C oi v a' ∧ K (a'.put oi.dst v) w') a w := by
  obtain ⟨h1, h2, h3⟩ := Oper.apart_spec hap
  have keep : ∀ u, YS P ops C oi v (a.put oj.dst u) := fun u => by
    unfold YS at *
    rw [wanted_put oi a oj.dst u h3, execOp_put oi hsi a oj.dst u h3]; exact hy
  have comm : ∀ u, (a.put oj.dst u).put oi.dst v = (a.put oi.dst v).put oj.dst u := fun u => (Act.put_comm a v u h2).symm
  unfold opG at *
  simp only [hj] at *
  rw [wanted_put oj a oi.dst v h1] at h
  split
  · rename_i hw
    rw [if_pos hw] at h
    unfold Oper.wp at *
    rw [execOp_put oj hsj a oi.dst v h1] at h
    generalize (execOp a.eval oj).run P w = r at *
    cases r with
    | ok n w' =>
      cases n <;> simp only [Oper.upon] at h ⊢ <;> first
        | exact ⟨keep _, by rw [comm]; exact h⟩
        | (refine Calls.mono h (fun e w'' he => ?_)
           cases e <;> first | exact ⟨keep _, by rw [comm]; exact he⟩ | exact (show False from he).elim | exact he)
        | skip
      · rename_i d
        refine ⟨?_, ?_⟩
        · have := keep undef
          unfold YS at this ⊢
          rw [put_defers]
          exact this
        · rw [← Act.put_comm { a with defers := d :: a.defers } v undef h2, put_defers a oi.dst v]
          rw [defers_put] at h
          exact h
      · exact Rows.mono h (fun u w'' he => ⟨keep _, by rw [comm]; exact he⟩)
    | halt x w' => cases x <;> simp only [Oper.upon] at h ⊢ <;> exact (show False from h).elim
  · rename_i hw
    rw [if_neg hw] at h
    exact ⟨keep _, by rw [comm]; exact h⟩
theorem wpX_first {S : Nat → Prop} {R : Act → World → Prop} {i : Nat} {oi : Oper} {v : Value} (hS : S i) (hi : ops[i]? = some oi) (hsel : ∀ (j : Nat) (o : Oper) cs b, ops[j]? = some o → o.op ≠ .select cs b)
    (hfree : ∀ j oj, ops[j]? = some oj → j ≠ i → Anc md ops i j ∨ Anc md ops j i ∨ oi.apart ops oj = true) :
    ∀ (f : Nat) (listed : Array Bool) (a : Act) (w : World) (C : World → Prop), Down md ops listed → i ∈ Region.ready md ops listed → YS P ops C oi v a → C w →
      wpX P md ops S R f (listed.setIfInBounds i true) (a.put oi.dst v) w C → wpX P md ops S R (f + 1) listed a w C := by
  intro f
  induction f with
  | zero =>
    intro listed a w C hd hr hy hC H
    refine ⟨hC, fun q => (by rw [q] at hr; cases hr), fun j hj => ?_⟩
    by_cases hji : j = i
    · subst hji; exact .inl (hy.go hi hC ⟨C, fun _ h => h, H⟩)
    · have := ready_mono hj hji
      rw [H.2.1] at this; cases this
  | succ f ih =>
    intro listed a w C hd hr hy hC H
    refine ⟨hC, fun q => (by rw [q] at hr; cases hr), fun j hj => ?_⟩
    by_cases hji : j = i
    · subst hji; exact .inl (hy.go hi hC ⟨C, fun _ h => h, H⟩)
    obtain ⟨hjun, oj, hoj, hall⟩ := mem_ready.1 hj
    have hiun : listed.getD i false = false := by
      have h0 := (mem_ready.1 hr).1
      rcases Nat.lt_or_ge i listed.size with h' | h'
      · simpa [h'] using h0
      · simp [Array.getElem?_eq_none h']
    have no : ¬ Anc md ops i j := fun q => by
      have := q.listed hd ⟨oj, hoj, hall⟩
      rw [hiun] at this; cases this
    rcases H.2.2 j (ready_mono hj hji) with q | ⟨q, _⟩
    · have hap : oi.apart ops oj = true := by
        rcases hfree j oj hoj hji with q | q | q
        · exact absurd q no
        · obtain ⟨_, o, ho, h⟩ := mem_ready.1 hr
          have := q.listed hd ⟨o, ho, h⟩
          rcases Nat.lt_or_ge j listed.size with h' | h'
          · simp [h'] at hjun this; rw [hjun] at this; cases this
          · simp [Array.getElem?_eq_none h'] at this
        · exact q
      refine .inl (opG_mono ?_ (opG_put hoj hap (fun cs b => hsel i oi cs b hi) (fun cs b => hsel j oj cs b hoj) hy q))
      rintro a' w' ⟨hy', C', hc, h⟩
      refine ⟨C', hc, ih (listed.setIfInBounds j true) a' w' C' (hd.set hj) (ready_mono hr (Ne.symm hji)) (hy'.less hc) ?_ ?_⟩
      · cases f with
        | zero => exact h.1
        | succ f => exact h.1
      · rw [Array.setIfInBounds_comm _ _ hji]; exact h
    · have hi' : (listed.setIfInBounds i true).getD i false = true := by
        have h0 := (mem_ready.1 hr).1
        have hlt : i < listed.size := by
          rcases Nat.lt_or_ge i listed.size with h' | h'
          · exact h'
          · simp [Array.getElem?_eq_none h'] at h0
        simp [hlt]
      exact absurd (q i hS hi') no
theorem down_start (n : Nat) : Down md ops (Array.replicate n false) := fun j oj _ hl => by
  rcases Nat.lt_or_ge j n with h | h
  · simp [h] at hl
  · simp [Array.getElem?_eq_none, h] at hl
end
end Go.Proofs.Yteblbhbfdfifpaa.V
