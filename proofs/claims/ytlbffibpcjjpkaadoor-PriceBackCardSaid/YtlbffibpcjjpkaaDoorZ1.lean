/- Shared texts, one behind the other: Base, Words, VDrawn, VDef, VPure, VPure2, VPure3, VPure4 -/
import Derived.Test.YtlbffibpcjjpkaaDoorProg
import Derived.WalkKit
import Derived.Outline
import Derived.Below
import Derived.Laws.OwnMore
import Derived.Deep.AppendLies
import Derived.Deep.Draws
import Derived.Laws.Rows
import Derived.Carry
import Derived.ChangeSame
import Derived.Deep.Quiet
import Derived.Deep.LoopGhost
import Derived.Deep.MidRow
import Derived.RangeFuncRecord
import Derived.RangeFuncCalls
import Derived.Sort.LoopGhostIn
import Derived.Laws.BytesArg
import Derived.Lib.ConvBytes
set_option linter.unusedVariables false
set_option linter.unusedSimpArgs false
set_option linter.unusedSectionVars false
set_option maxRecDepth 100000

namespace Go.Proofs.YtlbffibpcjjpkaaDoor
open Go.RowKit
theorem hid {p : Prop} (h : p) : Hid p := h
end Go.Proofs.YtlbffibpcjjpkaaDoor

namespace Go.Proofs.YtlbffibpcjjpkaaDoor
open Go.RowKit Go.WideShapes Go.ChangeShapes
theorem block_of_add (a : Addr) (n : Nat) : (a.add n).block = a.block := by unfold Addr.add; split <;> rfl
theorem add_of_add (a : Addr) (i j : Nat) : (a.add i).add j = a.add (i + j) := by
  unfold Addr.add
  by_cases hi : i = 0 <;> by_cases hj : j = 0 <;> simp [hi, hj, Nat.add_assoc]
def Reads (w : World) (B size : Nat) (A : Option Addr) (n : Nat) (xs : List Value) : Prop :=
  xs.length = n * size ∧ (0 < n → ∃ ad, A = some ad ∧ ad.block < B ∧ ∀ j u, xs[j]? = some u → w.cell? (ad.add j) = some u)
section
variable {w w' : World} {B B' size n : Nat} {A : Option Addr} {xs : List Value}
theorem Reads.none_ : Reads w B size A 0 [] := ⟨by simp, fun h => absurd h (by omega)⟩
theorem Reads.at_ {k : Nat} (h : Reads w B 1 A n xs) (hk : k < n) : ∃ ad u, A = some ad ∧ ad.block < B ∧ xs[k]? = some u ∧ w.cell? (ad.add k) = some u := by
  obtain ⟨ad, e, hb, hc⟩ := h.2 (by omega)
  have hl : k < xs.length := by have := h.1; omega
  exact ⟨ad, xs[k], e, hb, List.getElem?_eq_getElem hl, hc k _ (List.getElem?_eq_getElem hl)⟩
theorem Reads.keep (h : Reads w B size A n xs) (hk : ∀ p : Addr, p.block < B → w'.cell? p = w.cell? p) : Reads w' B size A n xs :=
  ⟨h.1, fun hn => by
    obtain ⟨ad, e, hb, hc⟩ := h.2 hn
    exact ⟨ad, e, hb, fun j u hu => (hk _ (by rw [block_of_add]; exact hb)).trans (hc j u hu)⟩⟩
theorem Reads.more (h : Reads w B size A n xs) (hB : B ≤ B') : Reads w B' size A n xs :=
  ⟨h.1, fun hn => by
    obtain ⟨ad, e, hb, hc⟩ := h.2 hn
    exact ⟨ad, e, by omega, hc⟩⟩
theorem Reads.below (h : Reads w B size A n xs) (hb : Below B w w') : Reads w' B size A n xs := h.keep fun _ hp => hb.cell hp
theorem Reads.drewN (h : Reads w B size A n xs) (k : Nat) : Reads (w.drewN k) B size A n xs := h
theorem Reads.alloc (h : Reads w B size A n xs) (hB : B ≤ w.heap.size) (o : Obj) : Reads (w.alloc o) B size A n xs := h.keep fun p hp => World.cell?_alloc_lt w o p (by omega)
theorem Reads.setCell (h : Reads w B size A n xs) {p : Addr} (hB : B ≤ p.block) (u : Value) : Reads (w.setCell p u) B size A n xs :=
  h.keep fun q hq => World.cell?_setCell_other w p q u (fun e => by subst e; omega)
theorem Reads.cut (h : Reads w B size A n xs) {k cap : Nat} (hk : k ≤ n) (hc : n ≤ cap) :
    Reads w B size (if cap = k then A else A.map (·.add (k * size))) (n - k) (xs.drop (k * size)) := by
  refine ⟨by rw [List.length_drop, h.1, Nat.sub_mul], fun hn => ?_⟩
  obtain ⟨ad, rfl, hb, hcell⟩ := h.2 (by omega)
  rw [if_neg (by omega)]
  refine ⟨ad.add (k * size), rfl, by rw [block_of_add]; exact hb, fun j u hu => ?_⟩
  rw [add_of_add]
  exact hcell _ u (by rw [← hu, List.getElem?_drop])
end
def Blk (w : World) (g : Nat) (t : TypeId) (cs : Array Value) : Prop := w.heap[g]? = some (.cells cs t (0, 0))
section
variable {w w' : World} {g : Nat} {t : TypeId} {cs : Array Value}
theorem Blk.lt (h : Blk w g t cs) : g < w.heap.size := by
  rcases Nat.lt_or_ge g w.heap.size with hlt | hge
  · exact hlt
  · unfold Blk at h; rw [Array.getElem?_eq_none hge] at h; cases h
theorem Blk.cell (h : Blk w g t cs) (i : Nat) : w.cell? ⟨g, i, none⟩ = cs[i]? := cell_of_row w g i cs t (0, 0) h
theorem Blk.frozen (h : Blk w g t cs) (i : Nat) : w.frozen? ⟨g, i, none⟩ = false := by
  unfold Blk at h
  simp [World.frozen?, h]
theorem Blk.new (w : World) (t : TypeId) (cs : Array Value) : Blk (w.alloc (.cells cs t)) w.heap.size t cs := heap_alloc_new w _
theorem Blk.drewN (h : Blk w g t cs) (n : Nat) : Blk (w.drewN n) g t cs := h
theorem Blk.alloc (h : Blk w g t cs) (o : Obj) : Blk (w.alloc o) g t cs := (Below.heap_alloc w o g h.lt).trans h
theorem Blk.below {B : Nat} (h : Blk w g t cs) (hb : Below B w w') (hg : g < B) : Blk w' g t cs := (hb.block g hg).trans h
end
theorem below_drewN {B : Nat} {a w : World} (h : Below B a w) (n : Nat) : Below B a (w.drewN n) := ⟨h.os, h.tape, h.output, h.size, h.block⟩
section
variable {H : Type} {enc : TypeId × Value → H} {P : Program}
section
variable {H : Type} {enc : TypeId × Value → H} {P : Program}
theorem post_of_below {f : Func} {s : ChangeSpec} {apart fresh handsOn again : Bool} {W W' : World} {args : Array Value} {v : Value} {ds gs : List (DataW H)} {before pa pv : List MemPlace}
    (hW : DataW.Whole enc P f.params.toList s.vars apart W args.toList ds gs before)
    (hres : ∀ (b : Nat) (sp : Nat → Bool) (hd : Bool), DataW.TrodAll enc P W' b sp hd f.resultTypes.toList (v.resultList f.resultTypes.size) (s.fn H (ds ++ gs)).results [])
    (hargs : ∀ sp : Nat → Bool, (∀ p ∈ before, sp p.block = true) → DataW.TrodAll enc P W' 0 sp true f.params.toList args.toList (s.fn H (ds ++ gs)).args pa)
    (hvars : ∀ sp : Nat → Bool, (∀ p ∈ before, sp p.block = true) → DataW.TrodVars enc P W' sp s.vars (s.fn H (ds ++ gs)).vars pv)
    (hps : before = pa ++ pv) (hb : Below W.heap.size W W')
    (hok : ∀ (j : Nat) (t : TypeId) (r : Value), f.resultTypes[j]? = some t → (v.resultList f.resultTypes.size)[j]? = some r → Value.okWide P W' .any 0 t r) :
    s.post enc P f apart fresh handsOn again W args v W' := by
  have hlt : ∀ p ∈ before, p.block < W.heap.size := fun p hp => hW.lt p hp
  have hold : ∀ p ∈ before, (fun b => decide (b < W.heap.size)) p.block = true := fun p hp => by simpa using hlt p hp
  refine ⟨ds, gs, before, [], pa, pv, hW, hres _ _ _, hargs _ hold, hvars _ hold, World.keptBut_mono (fun p hp => ⟨hp, ?_⟩) (hb.frame (· ∈ before)), fun _ => ?_⟩
  · rw [hps, List.mem_append] at hp
    exact Or.inr hp
  · obtain ⟨_, _, _, _, _, hz, hn⟩ := hW
    refine ⟨hok, _, _, ([] ++ pa) ++ pv, ⟨[] ++ pa, pv, trodAll_append (hargs _ (fun _ _ => rfl)) (hres _ _ _), hvars _ (fun _ _ => rfl), rfl, ?_, ?_⟩, ?_⟩
    · intro b off hp
      have hin : MemPlace.cell b off ∈ before := by rw [hps]; simpa using hp
      rw [hb.frozen (hlt _ hin)]
      exact hz b off hin
    · intro ha
      have := hn ha
      rw [hps] at this
      simpa using this
    · intro p hp _
      rw [hps]
      simpa using hp
end
theorem all_stays (hl : laidOutB P = true) {W W' : World} {sp : Nat → Bool} : ∀ {ts : List TypeId} {vs : List Value} {ds : List (DataW H)} {ps : List MemPlace}, (ts.all fun t => P.readableRec t && decide (t < P.types.size)) = true →
    DataW.TrodAll enc P W 0 (fun _ => true) true ts vs ds ps → (∀ x ∈ ps, W.sameAt W' x) → (∀ x ∈ ps, sp x.block = true) → DataW.TrodAll enc P W' 0 sp true ts vs ds ps
  | [], [], [], _, _, h, _, _ => h
  | t :: ts, v :: vs, d :: ds, _, ht, ⟨p, q, h1, h2, e⟩, hs, hp => by
    subst e
    simp only [List.all_cons, Bool.and_eq_true, decide_eq_true_eq] at ht
    exact ⟨p, q, WideElems.Trod_stays hl ht.1.1 ht.1.2 h1 (fun x hx => hs x (by simp [hx])) (fun x hx => hp x (by simp [hx])), all_stays hl ht.2 h2 (fun x hx => hs x (by simp [hx])) (fun x hx => hp x (by simp [hx])), rfl⟩
  | [], [], _ :: _, _, _, h, _, _ => h.elim
  | [], _ :: _, _, _, _, h, _, _ => h.elim
  | _ :: _, [], _, _, _, h, _, _ => h.elim
  | _ :: _, _ :: _, [], _, _, h, _, _ => h.elim
end
theorem laidOut : laidOutB Tryd.prog = true := by kernel_rfl
end Go.Proofs.YtlbffibpcjjpkaaDoor

namespace Go.Proofs.YtlbffibpcjjpkaaDoor.V
open Go Go.RowKit
theorem ask_drawn {α : Type} : ∀ (k : Ask α) (w : World), w.drawn ≤ (w.ask k).2.drawn
  | .done a, w => Nat.le_refl _
  | .ask what range k, w => by
    unfold World.ask
    simp only
    split
    · exact ask_drawn (k 0) w
    · exact Nat.le_trans (Nat.le_succ w.drawn) (ask_drawn (k _) { w with drawn := w.drawn + 1 })
theorem sys_drawn (w : World) (c : Sys) : w.drawn ≤ (w.sys c).2.drawn := by
  have h := ask_drawn (Kernel.perform c w.os) w
  unfold World.sys
  split
  · exact Nat.le_refl _
  · rename_i e
    rw [e] at h
    exact h
theorem far_drawn {p : Program} {w w' : World} {a : Addr} {v : Value} {b : Bool} {l : List Addr} (h : w.farStore p a v b = .ok (w', l)) : w'.drawn = w.drawn := by
  unfold World.farStore at h
  split at h
  · split at h
    · rename_i r e
      injection h with h
      subst h
      unfold World.viewStore at e
      simp only [bind, Except.bind, pure, Except.pure, throw, throwThe, MonadExceptOf.throw] at e
      repeat' (split at e)
      all_goals first
        | (cases e; done)
        | (injection e with e; injection e with e _; rw [← e])
    · cases h
  · cases h
theorem run_drawn {α : Type} (p : Program) : ∀ (m : Sem α) (w w' : World) (a : α), m.run p w = .ok a w' → w.drawn ≤ w'.drawn := by
  intro m
  induction m with
  | pure a => intro w w' b h; simp only [Sem.run] at h; injection h with _ h; rw [h]; exact Nat.le_refl _
  | load m a k ih =>
    intro w w' b h
    simp only [Sem.run] at h
    split at h
    · exact ih _ w w' b h
    · split at h
      · exact ih _ w w' b h
      · cases h
  | store m a v k ih =>
    intro w w' b h
    cases v <;> simp only [Sem.run] at h <;> (try (cases h; done))
    all_goals (
      split at h
      · split at h
        · cases h
        · exact ih (w.setCell a _) w' b h
      · split at h
        · rename_i e
          have := far_drawn e
          have := ih _ w' b h
          omega
        · cases h)
  | new o k ih => intro w w' b h; simp only [Sem.run] at h; exact ih _ { w with heap := w.heap.push o } w' b h
  | shape r k ih => intro w w' b h; simp only [Sem.run] at h; exact ih _ w w' b h
  | freeze a n k ih =>
    intro w w' b h
    simp only [Sem.run] at h
    have := ih _ w' b h
    have e : (w.freeze a n).drawn = w.drawn := by unfold World.freeze; split <;> rfl
    omega
  | frozen a k ih => intro w w' b h; simp only [Sem.run] at h; exact ih _ w w' b h
  | getObj r k ih =>
    intro w w' b h
    simp only [Sem.run] at h
    split at h
    · cases h
    · exact ih _ w w' b h
    · cases h
  | setObj r o k ih =>
    intro w w' b h
    simp only [Sem.run] at h
    split at h
    · cases h
    · exact ih { w with heap := w.heap.setIfInBounds r o } w' b h
    · cases h
  | choose q k ih =>
    intro w w' b h
    simp only [Sem.run] at h
    split at h
    · exact ih _ w w' b h
    · exact Nat.le_trans (Nat.le_succ _) (ih _ { w with drawn := w.drawn + 1 } w' b h)
  | sys c k ih =>
    intro w w' b h
    simp only [Sem.run] at h
    exact Nat.le_trans (sys_drawn w c) (ih _ (w.sys c).2 w' b h)
  | program k ih => intro w w' b h; simp only [Sem.run] at h; exact ih _ w w' b h
  | mark m k ih => intro w w' b h; simp only [Sem.run] at h; exact ih w w' b h
  | halt h => intro w w' b h; simp only [Sem.run] at h; cases h
end Go.Proofs.YtlbffibpcjjpkaaDoor.V

namespace Go.Proofs.YtlbffibpcjjpkaaDoor.V
open Go Go.RowKit
inductive At where
  | val (v : Value)
  | tf (b : Bool)
  | prop (p : Prop)
  | ptr (i k j s : Nat)
  | ref (i : Nat)
  | clo (f : FuncId) (caps : List Nat)
inductive SV where
  | one (a : At)
  | agg (l : List At)
  | tup (l : List SV)
abbrev Env := List (Nat × SV)
structure Lc where
  sz : Nat
  ps : List Nat
  assign : Code
  body : Code
inductive Lst where
  | ready
  | busy
  | done (c : Code)
inductive Ob where
  | box (t : TypeId) (l : List At)
  | lit (t : TypeId) (s : Nat) (rows : List (List At))
  | arr (s n : Nat) (get : Nat → List Value)
  | cel (l : List At)
  | row (t : TypeId) (s n : Nat) (get : Nat → List Value)
  | lp (L : Lc) (env : List (Nat × SV)) (st : Lst)
  | tab (g : Nat) (l : List Value)
  | rov (v : Value) (t s n : Nat) (get : Nat → List Value)
  | rws (t e s N : Nat) (vs : Nat → Value) (xs : Nat → Option (Nat × (Nat → List Value)))
  | vw (r a s : Nat)
  | dee (s n : Nat) (vs : Nat → List Value) (xs : Nat → List (Option (Nat × Nat × (Nat → List Value))))
  | eqv (i : Nat) (v : Value)
  | vh (r b : Nat)
  | gone
abbrev Obs := List (Nat × Ob)
abbrev Rho := Nat → Option Value
def fnd {α : Type} : List (Nat × α) → Nat → Option α
  | [], _ => none
  | (u, v) :: r, t => match Nat.beq u t with | true => some v | false => fnd r t
def fndK {α : Type} : List (Nat × α) → Nat → (α → Prop) → Prop
  | [], _, _ => False
  | (u, v) :: r, t, K => match Nat.beq u t with | true => K v | false => fndK r t K
def nthK {α : Type} : List α → Nat → (α → Prop) → Prop
  | [], _, _ => False
  | x :: _, 0, K => K x
  | _ :: r, n + 1, K => nthK r n K
structure NIf (p A B : Prop) : Prop where
  t : p → A
  f : ¬ p → B
structure NWrap (k : IntKind) (e : Int) (K : Int → Prop) : Prop where
  h : K (k.wrap e)
structure NLt (k n : Nat) (K : Prop) : Prop where
  lt : k < n
  h : K
structure NLe (n : Nat) (K : Prop) : Prop where
  le : n ≤ 9223372036854775807
  h : K
structure NIdx (q : Int) (n : Nat) (K : Nat → Prop) : Prop where
  h : ∃ k : Nat, q = (k : Int) ∧ k < n ∧ K k
structure NQuo (k : IntKind) (x y : Int) (K : Int → Prop) : Prop where
  ne : y ≠ 0
  h : K (k.wrap (x.tdiv y))
structure NRem (x y : Int) (K : Int → Prop) : Prop where
  ne : y ≠ 0
  h : K (x.tmod y)
structure NShl (k : IntKind) (x y : Int) (K : Int → Prop) : Prop where
  ge : 0 ≤ y
  h : K (k.wrap (x * 2 ^ (min y.toNat k.bits)))
structure NShr (k : IntKind) (x y : Int) (K : Int → Prop) : Prop where
  ge : 0 ≤ y
  h : K (x.fdiv (2 ^ (min y.toNat k.bits)))
structure NBit (op : BinOp) (k : IntKind) (x y : Int) (K : Int → Prop) : Prop where
  h : ∀ z, (∀ P w, (Op.intBits op k x y).run P w = .ok (.int k z) w) → K z
structure NEnd (A : Prop) : Prop where
  h : A
inductive Sh where
  | int (k : IntKind)
  | bool
  | str
  | ptr (e : Nat)
  | sl (e : Nat)
  | st (fs : List (Nat × Nat × Nat))
  | arr (n e : Nat)
  | cl
  | fn
  | oth
structure Ty where
  sh : Sh
  size : Nat
  bytes : Nat
  zero : List Value
  eq : Bool := false
abbrev TT := List (Nat × Ty)
def sizeT (P : Program) (t : TypeId) : Nat := match P.info? t with | some i => i.size | none => 0
def aggT (P : Program) (t : TypeId) : Nat := match P.underlying t with | some (.struct _) | some (.array _ _) => 2 | some _ => 1 | none => 0
def shOf (P : Program) : TypeDesc → Sh
  | .int k => .int k
  | .bool => .bool
  | .string => .str
  | .pointer e => .ptr e
  | .slice e => .sl e
  | .struct fs => match fs.toList.all fun f => (P.info? f.type).isSome with
    | true => .st (fs.toList.map fun f => (f.offset, sizeT P f.type, aggT P f.type))
    | false => .oth
  | .array n e => .arr n e
  | .func _ _ _ => .fn
  | _ => .cl
def intT (P : Program) (t : TypeId) : Bool := match P.underlying t with | some (.int _) => true | _ => false
def okF (P : Program) (p : Field × Nat) : Bool := (p.1.name != "_") && (p.1.offset == p.2) && intT P p.1.type
def eqOf (P : Program) (t : TypeId) : Bool := match P.underlying t with
  | some (.struct fs) => !P.stoodInHeld t && !P.eqGuardType P.depth t && fs.toList.zipIdx.all (okF P)
  | _ => false
def tyOf (P : Program) (t : TypeId) : Option Ty :=
  match P.info? t, P.underlying t with
  | some i, some d => match i.zero with
    | some z => some ⟨shOf P d, i.size, i.bytes, z.cells.toList, eqOf P t⟩
    | none => none
  | _, _ => none
def TTok (P : Program) : TT → Prop
  | [] => True
  | (t, ty) :: r => tyOf P t = some ty ∧ TTok P r
def base (ρ : Rho) (i : Nat) : Option Addr := match ρ i with
  | some (.pointer (some a)) => some a
  | some (.slice (some a) _ _) => some a
  | _ => none
def CapsAre (ρ : Rho) : List Nat → List Value → Prop
  | [], xs => xs = []
  | i :: l, xs => ∃ a r, base ρ i = some a ∧ xs = .pointer (some a) :: r ∧ CapsAre ρ l r
def At.is (ρ : Rho) : At → Value → Prop
  | .val v, x => x = v
  | .tf b, x => x = .bool b
  | .prop p, x => ∃ b, x = .bool b ∧ (b = true ↔ p)
  | .ptr i k j s, x => ∃ a, base ρ i = some a ∧ x = .pointer (some (a.add (k * s + j)))
  | .ref i, x => ρ i = some x ∧ x.oneCell' = true
  | .clo f caps, x => ∃ cs, CapsAre ρ caps cs ∧ x = .func (.func f) #[] cs.toArray
def Ats (ρ : Rho) : List At → List Value → Prop
  | [], xs => xs = []
  | a :: l, xs => ∃ x r, xs = x :: r ∧ a.is ρ x ∧ Ats ρ l r
def SV.is1 (ρ : Rho) : SV → Value → Prop
  | .one a, x => a.is ρ x
  | .agg l, x => ∃ cs, Ats ρ l cs ∧ x = .agg cs.toArray
  | .tup _, _ => False
def Svs (ρ : Rho) : List SV → List Value → Prop
  | [], xs => xs = []
  | a :: l, xs => ∃ x r, xs = x :: r ∧ a.is1 ρ x ∧ Svs ρ l r
def SV.is (ρ : Rho) : SV → Value → Prop
  | .one a, x => a.is ρ x
  | .agg l, x => ∃ cs, Ats ρ l cs ∧ x = .agg cs.toArray
  | .tup l, x => ∃ cs, Svs ρ l cs ∧ x = .tuple cs.toArray
def cellB : At → Bool
  | .val v => v.oneCell'
  | _ => true
def ArrIs (w : World) (v : Value) (s n : Nat) (get : Nat → List Value) : Prop :=
  ∃ A c, v = .slice A n c ∧ n ≤ 9223372036854775807 ∧ n ≤ c ∧ ∀ k, k < n → ∃ a, A = some a ∧ a.block < w.heap.size ∧ (get k).length = s ∧ ∀ j u, (get k)[j]? = some u → w.cell? (a.add (k * s + j)) = some u
def TabIs (w : World) (g : Nat) (l : List Value) : Prop := g < w.heap.size ∧ (∀ j u, l[j]? = some u → w.cell? ⟨g, j, none⟩ = some u) ∧ ∃ cs t fr, w.heap[g]? = some (.cells cs t fr) ∧ cs.size = l.length
def CelIs (w : World) (v : Value) (l : List Value) : Prop :=
  ∃ a, v = .pointer (some a) ∧ a.block < w.heap.size ∧ ∀ j u, l[j]? = some u → w.cell? (a.add j) = some u
def ArrB (B : Nat) (w : World) (v : Value) (s n : Nat) (get : Nat → List Value) : Prop :=
  ∃ A c, v = .slice A n c ∧ n ≤ 9223372036854775807 ∧ n ≤ c ∧ ∀ k, k < n → ∃ a, A = some a ∧ a.block < B ∧ (get k).length = s ∧ ∀ j u, (get k)[j]? = some u → w.cell? (a.add (k * s + j)) = some u
def DeeIs (B : Nat) (w : World) (v : Value) (s n : Nat) (vs : Nat → List Value) (xs : Nat → List (Option (Nat × Nat × (Nat → List Value)))) : Prop :=
  ArrB B w v s n vs ∧ ∀ (k j : Nat) (u : Value) (s' m : Nat) (g : Nat → List Value), k < n → (vs k)[j]? = some u → (xs k)[j]? = some (some (s', m, g)) → ArrB B w u s' m g
def flat (get : Nat → List Value) (n : Nat) : List Value := (List.range n).flatMap get
def RowIs (B : Nat) (w : World) (v : Value) (t s n : Nat) (get : Nat → List Value) : Prop :=
  ∃ A c, v = .slice A n c ∧ n ≤ 9223372036854775807 ∧ (∀ k, k < n → (get k).length = s) ∧
    ((n = 0 ∧ c = 0) ∨ ∃ g cur, A = some ⟨g, 0, none⟩ ∧ B ≤ g ∧ w.heap[g]? = some (.cells cur t (0, 0)) ∧ n ≤ c ∧ 0 < c ∧ c ≤ maxLen ∧ cur.size = c * s ∧ cur.toList.take (n * s) = flat get n)
def footV : Value → Option Nat
  | .slice A _ c => if c = 0 then none else A.map (·.block)
  | _ => none
structure EnvR (sz : Nat) (ρ : Rho) (env : Env) (a : Act) : Prop where
  size : a.tmps.size = sz
  env : ∀ t v, fnd env t = some v → ∃ x, a.tmps[t]? = some x ∧ v.is ρ x
def Lst.state : Lst → LoopState
  | .ready => .ready
  | .busy => .busy
  | .done _ => .done
def Lst.pend : Lst → Option Code
  | .done c => some c
  | _ => none
def Sat (B : Nat) (ρ : Rho) (w : World) (i : Nat) : Ob → Prop
  | .lp L env st => ∃ l fn tmps D, ρ i = some (.func (.yield l) #[] #[]) ∧ B ≤ l ∧ w.heap[l]? = some (.loop { state := st.state, pending := st.pend, fn := fn, tmps := tmps, params := L.ps.toArray, assign := L.assign, body := L.body, defers := D }) ∧ EnvR L.sz ρ env { tmps := tmps, defers := [] }
  | .box t l => ∃ b cs, ρ i = some (.pointer (some ⟨b, 0, none⟩)) ∧ B ≤ b ∧ Ats ρ l cs ∧ w.heap[b]? = some (.cells cs.toArray t (0, 0))
  | .arr s n get => ∃ v, ρ i = some v ∧ ArrIs w v s n get
  | .tab g l => ρ i = some (.pointer (some ⟨g, 0, none⟩)) ∧ TabIs w g l
  | .cel l => ∃ v cs, ρ i = some v ∧ Ats ρ l cs ∧ CelIs w v cs
  | .lit t s rows => ∃ b cs, ρ i = some (.slice (some ⟨b, 0, none⟩) rows.length rows.length) ∧ B ≤ b ∧ (∀ r ∈ rows, r.length = s) ∧ rows.length ≤ 9223372036854775807 ∧ Ats ρ rows.flatten cs ∧ w.heap[b]? = some (.cells cs.toArray t (0, 0))
  | .row t s n get => ∃ v, ρ i = some v ∧ RowIs B w v t s n get
  | .rov v t s n get => ρ i = some v ∧ RowIs B w v t s n get
  | .rws t e s N vs xs => (∃ v, ρ i = some v ∧ RowIs B w v t 1 N fun k => [vs k]) ∧ (∀ k n g, k < N → xs k = some (n, g) → RowIs B w (vs k) e s n g) ∧ ∀ j k x y b, j < N → k < N → j ≠ k → xs j = some x → xs k = some y → footV (vs j) = some b → footV (vs k) ≠ some b
  | .vw r a s => ∃ A n c, ρ r = some (.slice (some A) n c) ∧ a < n ∧ ρ i = some (.slice (some (A.add (a * s))) (n - a) (c - a))
  | .dee s n vs xs => ∃ v, ρ i = some v ∧ DeeIs B w v s n vs xs
  | .eqv j v => ρ j = some v ∧ ρ i = some v ∧ v.oneCell' = true
  | .vh r b => ∃ A n c, ρ r = some (.slice A n c) ∧ b ≤ n ∧ ρ i = some (.slice A b c)
  | .gone => True
def Ob.mut : Ob → Bool
  | .box _ _ | .lit _ _ _ | .row _ _ _ _ | .lp _ _ _ | .rov _ _ _ _ _ | .rws _ _ _ _ _ _ => true
  | _ => false
def foot (ρ : Rho) (i : Nat) : Ob → Option Nat
  | .box _ _ | .lit _ _ _ | .cel _ | .tab _ _ => (base ρ i).map (·.block)
  | .row _ _ _ _ => match ρ i with
    | some (.slice _ _ 0) => none
    | _ => (base ρ i).map (·.block)
  | .rov _ _ _ _ _ => match ρ i with
    | some (.slice _ _ 0) => none
    | _ => (base ρ i).map (·.block)
  | .rws _ _ _ _ _ _ => match ρ i with
    | some (.slice _ _ 0) => none
    | _ => (base ρ i).map (·.block)
  | .arr _ n _ => match n with | 0 => none | _ => (base ρ i).map (·.block)
  | .lp _ _ _ => match ρ i with
    | some (.func (.yield l) _ _) => some l
    | _ => none
  | .vw _ _ _ => none
  | .dee _ _ _ _ => none
  | .eqv _ _ => none
  | .vh _ _ => none
  | .gone => none
def sub : Ob → Nat → Prop
  | .rws _ _ _ N vs xs, b => ∃ k x, k < N ∧ xs k = some x ∧ footV (vs k) = some b
  | _, _ => False
structure Cls (B : Nat) (ρ : Rho) (obs : Obs) (nx : Nat) (w : World) : Prop where
  le : B ≤ w.heap.size
  sat : ∀ i o, fnd obs i = some o → Sat B ρ w i o
  apart : ∀ i j o o' b, fnd obs i = some o → fnd obs j = some o' → i ≠ j → o.mut = true → foot ρ i o = some b → foot ρ j o' ≠ some b
  new : ∀ i, nx ≤ i → ρ i = none
  apx : ∀ i j o o' b, fnd obs i = some o → fnd obs j = some o' → sub o b → foot ρ j o' ≠ some b ∧ (i ≠ j → ¬ sub o' b)
def Oth (w w' : World) : Prop := ∀ (k : Nat) (D : Option (List Deferred)), w.heap[k]? = some (Obj.deferred D) → w'.heap[k]? = some (Obj.deferred D)
def evK (env : Env) : Operand → (SV → Prop) → Prop
  | .tmp t, K => fndK env t K
  | .const (.bool b), K => K (.one (.tf b))
  | .const v, K => K (.one (.val v))
  | .func f, K => K (.one (.clo f []))
  | .global _, _ => False
def putK (sz : Nat) (dst : Option Tmp) (v : SV) (env : Env) (K : Env → Prop) : Prop :=
  match dst with
  | none => K env
  | some d => match Nat.blt d sz with
    | true => K ((d, v) :: env)
    | false => False
def cellsK : SV → (List At → Prop) → Prop
  | .one a, K => match cellB a with | true => K [a] | false => False
  | .agg l, K => match l.all cellB with | true => K l | false => False
  | .tup _, _ => False
def cutK {α : Type} : List α → Nat → Nat → (List α → Prop) → Prop
  | _, 0, 0, K => K []
  | [], _, _, _ => False
  | x :: r, 0, s + 1, K => cutK r 0 s fun l => K (x :: l)
  | _ :: r, j + 1, s, K => cutK r j s K
def layK {α : Type} : List α → Nat → List α → (List α → Prop) → Prop
  | l, 0, [], K => K l
  | [], _, _, _ => False
  | _ :: r, 0, y :: ys, K => layK r 0 ys fun l => K (y :: l)
  | x :: r, j + 1, ys, K => layK r j ys fun l => K (x :: l)
def isRow : Sh → Nat
  | .st _ | .arr _ _ => 2
  | .oth => 0
  | _ => 1
def loadK (ty : Ty) (l : List At) (j : Nat) (K : SV → Prop) : Prop :=
  match isRow ty.sh with
  | 2 => cutK l j ty.size fun c => K (.agg c)
  | 1 => nthK l j fun a => K (.one a)
  | _ => False
def vals : List Value → List At := List.map At.val
def valsTo (vs : Nat → Value) : Nat → Nat → List At
  | _, 0 => []
  | k, n + 1 => .val (vs k) :: valsTo vs (k + 1) n
structure NSrc (obs : Obs) (v : Value) (K : SV → Prop) : Prop where
  h : K (.one (.val v)) ∨ (∃ i t s n g, fnd obs i = some (.rov v t s n g) ∧ K (.one (.ref i))) ∨ ∃ j i, fnd obs j = some (.eqv i v) ∧ K (.one (.ref i))
def elemK (obs : Obs) (ty : Ty) (k j s : Nat) (K : SV → Prop) : Ob → Prop
  | .box _ l => match k with | 0 => loadK ty l j K | _ + 1 => False
  | .cel l => match k with | 0 => loadK ty l j K | _ + 1 => False
  | .lit _ s' rows => match Nat.beq s s' with | true => nthK rows k fun r => loadK ty r j K | false => False
  | .arr s' n get => match Nat.beq s s' with | true => NLt k n (loadK ty (vals (get k)) j K) | false => False
  | .row _ s' n get => match Nat.beq s s' with
    | true => NLt k n (loadK ty (vals (get k)) j K)
    | false => match ty.sh with
      | .arr m _ => match k, j, Nat.beq s 0, Nat.beq s' 1, Nat.beq n m, Nat.beq ty.size m with
        | 0, 0, true, true, true, true => K (.one (.val (.agg (flat get m).toArray)))
        | _, _, _, _, _, _ => False
      | _ => False
  | .rov _ _ _ _ _ => False
  | .rws _ _ _ n vs _ => match ty.sh with
    | .sl _ => match Nat.beq s 1, Nat.beq j 0, Nat.beq ty.size 1 with
      | true, true, true => NLt k n (NSrc obs (vs k) K)
      | _, _, _ => False
    | .arr m _ => match k, j, Nat.beq n m, Nat.beq ty.size m, Nat.beq s 0 with
      | 0, 0, true, true, true => K (.agg (valsTo vs 0 m))
      | _, _, _, _, _ => False
    | _ => False
  | .dee s' n vs _ => match Nat.beq s s' with
    | true => NLt k n (match isRow ty.sh with
      | 2 => cutK (vals (vs k)) j ty.size fun c => K (.agg c)
      | 1 => nthK (vs k) j fun v => NSrc obs v K
      | _ => False)
    | false => False
  | .lp _ _ _ => False
  | .tab _ _ => False
  | .vw _ _ _ => False
  | .eqv _ _ => False
  | .vh _ _ => False
  | .gone => False
def intK (op : BinOp) (k : IntKind) (x y : Int) (K : SV → Prop) : Prop :=
  match op with
  | .add => NWrap k (x + y) fun z => K (.one (.val (.int k z)))
  | .sub => NWrap k (x - y) fun z => K (.one (.val (.int k z)))
  | .mul => NWrap k (x * y) fun z => K (.one (.val (.int k z)))
  | .quo => NQuo k x y fun z => K (.one (.val (.int k z)))
  | .rem => NRem x y fun z => K (.one (.val (.int k z)))
  | .and | .or | .xor | .andNot => NBit op k x y fun z => K (.one (.val (.int k z)))
  | .eql => K (.one (.prop (x = y)))
  | .neq => K (.one (.prop (¬ x = y)))
  | .lss => K (.one (.prop (x < y)))
  | .leq => K (.one (.prop (x ≤ y)))
  | .gtr => K (.one (.prop (y < x)))
  | .geq => K (.one (.prop (y ≤ x)))
  | _ => False
def kEq : IntKind → IntKind → Bool
  | .i8, .i8 | .i16, .i16 | .i32, .i32 | .i64, .i64 | .u8, .u8 | .u16, .u16 | .u32, .u32 | .u64, .u64 => true
  | _, _ => false
def boolP : At → Option Prop
  | .prop p => some p
  | .tf b => some (b = true)
  | .val (.bool b) => some (b = true)
  | _ => none
def binK (op : BinOp) : SV → SV → (SV → Prop) → Prop
  | .one (.val (.int k x)), .one (.val (.int k' y)), K =>
    match op with
    | .shl => NShl k x y fun z => K (.one (.val (.int k z)))
    | .shr => NShr k x y fun z => K (.one (.val (.int k z)))
    | op => match kEq k k' with | true => intK op k x y K | false => False
  | .one (.val (.string a)), .one (.val (.string b)), K =>
    match op with
    | .eql => K (.one (.prop (a.toList = b.toList)))
    | .neq => K (.one (.prop (¬ a.toList = b.toList)))
    | .add => NLe (a.size + b.size) (K (.one (.val (.string (a ++ b)))))
    | _ => False
  | _, _, _ => False
def eqK : List At → List At → (Prop → Prop) → Prop
  | [], [], K => K True
  | .val (.int k a) :: l, .val (.int k' b) :: m, K => match kEq k k' with
    | true => eqK l m fun p => K (a = b ∧ p)
    | false => False
  | _, _, _ => False
def unK (op : UnOp) : SV → (SV → Prop) → Prop
  | .one (.tf b), K => match op with | .not => K (.one (.tf (!b))) | _ => False
  | .one (.prop p), K => match op with | .not => K (.one (.prop (¬ p))) | _ => False
  | .one (.val (.bool b)), K => match op with | .not => K (.one (.prop (¬ b = true))) | _ => False
  | .one (.val (.int k x)), K => match op with
    | .neg => NWrap k (0 - x) fun z => K (.one (.val (.int k z)))
    | .xor => NBit .xor k (if k.signed then -1 else k.max) x fun z => K (.one (.val (.int k z)))
    | _ => False
  | _, _ => False
def evsK (env : Env) : List Operand → (List SV → Prop) → Prop
  | [], K => K []
  | x :: r, K => evK env x fun v => match v with
    | .one a => evsK env r fun l => K (.one a :: l)
    | .agg c => evsK env r fun l => K (.agg c :: l)
    | .tup _ => False
def capN : List Nat → (List SV → Prop) → Prop
  | [], K => K []
  | i :: r, K => capN r fun l => K (.one (.ptr i 0 0 0) :: l)
def capE : List SV → List Nat → (List SV → Prop) → Prop
  | [], c, K => capN c K
  | x :: l, c, K => capE l c fun r => K (x :: r)
def fillK (env : Env) (fs : List (Nat × Nat × Nat)) : List (Nat × Operand) → List At → (List At → Prop) → Prop
  | [], l, K => K l
  | (i, x) :: r, l, K => nthK fs i fun f => evK env x fun v => cellsK v fun c => match Nat.beq c.length f.2.1 with
    | true => layK l f.1 c fun l' => fillK env fs r l' K
    | false => False
def capsK (env : Env) : List Operand → (List Nat → Prop) → Prop
  | [], K => K []
  | x :: r, K => evK env x fun v => match v with
    | .one (.ptr i 0 0 0) => capsK env r fun l => K (i :: l)
    | _ => False
structure NPick (A B : Prop) : Prop where
  h : A ∨ B
structure NVw (a b n : Nat) (K : Prop) : Prop where
  lt : a < n
  e : b = n
  h : K
structure NZero (n : Nat) (K : Prop) : Prop where
  e : n = 0
  h : K
def loIs (l : Option Int) (a : Nat) : Prop := match l with | none => a = 0 | some q => q = (a : Int)
def hiIs (l : Option Int) (n b : Nat) : Prop := match l with | none => b = n | some q => q = (b : Int)
structure NSel (l : List At) (q : Int) (K : At → Prop) : Prop where
  h : ∃ (k : Nat) (a : At), q = (k : Int) ∧ l[k]? = some a ∧ K a
structure NCut (lo hi : Option Int) (n : Nat) (K : Nat → Nat → Prop) : Prop where
  h : ∃ a b : Nat, loIs lo a ∧ hiIs hi n b ∧ a ≤ b ∧ b ≤ n ∧ K a b
def optK (env : Env) : Option Operand → (Option Int → Prop) → Prop
  | none, K => K none
  | some x, K => evK env x fun v => match v with
    | .one (.val (.int _ q)) => K (some q)
    | _ => False
structure NNil (n : Nat) (K : Prop → Prop) : Prop where
  h : ∀ p : Prop, (p → n = 0) → K p
def nilP (op : BinOp) (p : Prop) (K : SV → Prop) : Prop := match op with
  | .eql => K (.one (.prop p))
  | .neq => K (.one (.prop (¬ p)))
  | _ => False
def nilK (obs : Obs) (i : Nat) (op : BinOp) (K : SV → Prop) : Prop := fndK obs i fun o => match o with
  | .arr _ n _ => NNil n fun p => nilP op p K
  | .row _ _ n _ => NNil n fun p => nilP op p K
  | .dee _ n _ _ => NNil n fun p => nilP op p K
  | _ => False
structure NStr (n : Nat) (get : Nat → List Value) (K : ByteArray → Prop) : Prop where
  h : ∃ xs : List Int, xs.length = n ∧ (∀ k, k < n → get k = [.int .u8 (xs.getD k 0)]) ∧ K (strOfNums xs)
def bytesG (s : ByteArray) (k : Nat) : List Value := [.int .u8 (s.data.toList.getD k 0).toNat]
def pureK (T : TT) (env : Env) (obs : Obs) : Op → (SV → Prop) → Prop
  | .move x, K | .assign x, K => evK env x K
  | .pick c a b, K => evK env c fun v => match v with
    | .one (.tf true) => evK env a K
    | .one (.tf false) => evK env b K
    | .one (.prop p) => NIf p (evK env a K) (evK env b K)
    | .one (.val (.bool q)) => NIf (q = true) (evK env a K) (evK env b K)
    | _ => False
  | .load t x, K => fndK T t fun ty => evK env x fun v => match v with
    | .one (.ptr i k j s) => fndK obs i fun o => elemK obs ty k j s K o
    | _ => False
  | .fieldAddr t x f, K => fndK T t fun ty => match ty.sh with
    | .st fs => nthK fs f fun q => match q.2.1 with
      | 0 => False
      | _ => evK env x fun v => match v with
        | .one (.ptr i k j s) => K (.one (.ptr i k (j + q.1) s))
        | _ => False
    | _ => False
  | .field t x f, K => fndK T t fun ty => match ty.sh with
    | .st fs => nthK fs f fun q => evK env x fun v => match v with
      | .agg l => match q.2.2 with
        | 2 => cutK l q.1 q.2.1 fun c => K (.agg c)
        | 1 => nthK l q.1 fun a => K (.one a)
        | _ => False
      | _ => False
    | _ => False
  | .indexAddr t x y, K => fndK T t fun ty => match ty.sh with
    | .sl e => fndK T e fun te => evK env x fun v => match v with
      | .one (.ref i) => evK env y fun u => match u with
        | .one (.val (.int _ q)) => fndK obs i fun o => match o with
          | .arr s n _ => match Nat.beq s te.size with | true => NIdx q n fun k => K (.one (.ptr i k 0 s)) | false => False
          | .row _ s n _ => match Nat.beq s te.size with | true => NIdx q n fun k => K (.one (.ptr i k 0 s)) | false => False
          | .lit _ s rows => match Nat.beq s te.size with | true => NIdx q rows.length fun k => K (.one (.ptr i k 0 s)) | false => False
          | .rws _ _ _ n _ _ => match Nat.beq 1 te.size with | true => NIdx q n fun k => K (.one (.ptr i k 0 1)) | false => False
          | .dee s n _ _ => match Nat.beq s te.size with | true => NIdx q n fun k => K (.one (.ptr i k 0 s)) | false => False
          | _ => False
        | _ => False
      | _ => False
    | .arr m e => fndK T e fun te => evK env x fun v => match v with
      | .one (.ptr i 0 0 _) => evK env y fun u => match u with
        | .one (.val (.int _ q)) => fndK obs i fun o => match o with
          | .row _ s n _ => match Nat.beq s te.size, Nat.beq n m with
            | true, true => NIdx q n fun k => K (.one (.ptr i k 0 s))
            | _, _ => False
          | .rws _ _ _ n _ _ => match Nat.beq 1 te.size, Nat.beq n m with
            | true, true => NIdx q n fun k => K (.one (.ptr i k 0 1))
            | _, _ => False
          | _ => False
        | _ => False
      | _ => False
    | _ => False
  | .binOp op t x y _, K => evK env x fun v => evK env y fun u => match v, u with
    | .agg l, .agg m => fndK T t fun ty => match ty.sh with
      | .st fs => match ty.eq, Nat.beq l.length fs.length with
        | true, true => match op with
          | .eql => eqK l m fun p => K (.one (.prop p))
          | .neq => eqK l m fun p => K (.one (.prop (¬ p)))
          | _ => False
        | _, _ => False
      | _ => False
    | .one a, .one b => match boolP a, boolP b with
      | some p, some q => fndK T t fun ty => match ty.sh with
        | .bool => match op with
          | .eql => K (.one (.prop (p ↔ q)))
          | .neq => K (.one (.prop (¬ (p ↔ q))))
          | _ => False
        | _ => False
      | _, _ => match a, b with
        | .ref i, .val (.slice none 0 0) => fndK T t fun ty => match ty.sh with
          | .sl _ => nilK obs i op K
          | _ => False
        | .clo _ _, .val .nilFunc => fndK T t fun ty => match ty.sh with
          | .fn => match op with
            | .eql => K (.one (.val (.bool false)))
            | .neq => K (.one (.val (.bool true)))
            | _ => False
          | _ => False
        | .val .nilFunc, .val .nilFunc => fndK T t fun ty => match ty.sh with
          | .fn => match op with
            | .eql => K (.one (.val (.bool true)))
            | .neq => K (.one (.val (.bool false)))
            | _ => False
          | _ => False
        | a, b => binK op (.one a) (.one b) K
    | _, _ => binK op v u K
  | .unOp op _ x, K => evK env x fun v => unK op v K
  | .convert s t x, K => fndK T s fun ts => fndK T t fun ty => match ty.sh with
    | .int k => evK env x fun v => match v with
      | .one (.val (.int _ n)) => NWrap k n fun z => K (.one (.val (.int k z)))
      | _ => False
    | .str => match ts.sh with
      | .sl e => fndK T e fun te => match te.sh with
        | .int .u8 => evK env x fun v => match v with
          | .one (.ref i) => fndK obs i fun o => match o with
            | .arr s' n get => match Nat.beq s' 1 with
              | true => NStr n get fun b => K (.one (.val (.string b)))
              | false => False
            | .row _ s' n get => match Nat.beq s' 1 with
              | true => NStr n get fun b => K (.one (.val (.string b)))
              | false => False
            | _ => False
          | _ => False
        | _ => False
      | _ => False
    | _ => False
  | .nilCheck x, K => evK env x fun v => match v with
    | .one (.ptr i k j s) => K (.one (.ptr i k j s))
    | _ => False
  | .extract x i, K => evK env x fun v => match v with
    | .tup l => nthK l i K
    | _ => False
  | .build t parts, K => fndK T t fun ty => match ty.sh with
    | .st fs => fillK env fs parts.toList (vals ty.zero) fun l => K (.agg l)
    | _ => False
  | .index t x y, K => fndK T t fun ty => match ty.sh with
    | .str => evK env x fun v => match v with
      | .one (.val (.string s)) => evK env y fun u => match u with
        | .one (.val (.int _ q)) => NIdx q s.size fun k => K (.one (.val (.int .u8 (s.data.getD k 0).toNat)))
        | _ => False
      | _ => False
    | .arr m e => fndK T e fun te => match isRow te.sh, Nat.beq te.size 1 with
      | 1, true => evK env x fun v => match v with
        | .agg l => evK env y fun u => match u with
          | .one (.val (.int _ q)) => match Nat.beq l.length m with
            | true => NSel l q fun a => K (.one a)
            | false => False
          | _ => False
        | _ => False
      | _, _ => False
    | _ => False
  | .slice t x lo hi mx, K => match mx with
    | none => fndK T t fun ty => match ty.sh with
      | .str => evK env x fun v => match v with
        | .one (.val (.string s)) => optK env lo fun l => optK env hi fun h => NCut l h s.size fun a b => K (.one (.val (.string (s.extract a b))))
        | _ => False
      | _ => False
    | some _ => False
  | .makeFunc fn first caps, K => match fn, first with
    | .func f, ⟨[]⟩ => capsK env caps.toList fun l => K (.one (.clo f l))
    | _, _ => False
  | .call c, K => match c with
    | ⟨.builtin .len, ⟨[x]⟩, ⟨[t]⟩⟩ => fndK T t fun ty => match ty.sh with
      | .sl _ => evK env x fun v => match v with
        | .one (.ref i) => fndK obs i fun o => match o with
          | .arr _ n _ => K (.one (.val (.int .i64 n)))
          | .row _ _ n _ => K (.one (.val (.int .i64 n)))
          | .lit _ _ rows => K (.one (.val (.int .i64 rows.length)))
          | .rws _ _ _ n _ _ => K (.one (.val (.int .i64 n)))
          | .dee _ n _ _ => K (.one (.val (.int .i64 n)))
          | .vh _ b => K (.one (.val (.int .i64 b)))
          | _ => False
        | .one (.val (.slice _ n _)) => K (.one (.val (.int .i64 n)))
        | _ => False
      | .str => evK env x fun v => match v with
        | .one (.val (.string s)) => K (.one (.val (.int .i64 s.size)))
        | _ => False
      | _ => False
    | ⟨.builtin .min, ⟨[x, y]⟩, _⟩ => evK env x fun v => evK env y fun u => match v, u with
      | .one (.val (.int k a)), .one (.val (.int _ b)) => K (.one (.val (.int k (if b < a then b else a))))
      | _, _ => False
    | ⟨.builtin .min, ⟨[x, y, z]⟩, _⟩ => evK env x fun v => evK env y fun u => evK env z fun t => match v, u, t with
      | .one (.val (.int k a)), .one (.val (.int _ b)), .one (.val (.int _ c)) => K (.one (.val (.int k (if c < (if b < a then b else a) then c else (if b < a then b else a)))))
      | _, _, _ => False
    | ⟨.builtin .max, ⟨[x, y]⟩, _⟩ => evK env x fun v => evK env y fun u => match v, u with
      | .one (.val (.int k a)), .one (.val (.int _ b)) => K (.one (.val (.int k (if a < b then b else a))))
      | _, _ => False
    | _ => False
  | _, _ => False
class Dr where
  d : Prop
instance noDr : Dr := ⟨False⟩
variable [Dr]
structure Belw (B : Nat) (w w' : World) : Prop extends Go.RowKit.Below B w w' where
  drawn : Dr.d → w.drawn ≤ w'.drawn
theorem Belw.of {B : Nat} {w w' : World} (h1 : w'.os = w.os) (h2 : w'.tape = w.tape) (h3 : w'.output = w.output) (h4 : w.heap.size ≤ w'.heap.size) (h5 : ∀ k, k < B → w'.heap[k]? = w.heap[k]?) (h6 : w'.drawn = w.drawn) : Belw B w w' := ⟨⟨h1, h2, h3, h4, h5⟩, fun _ => Nat.le_of_eq h6.symm⟩
theorem Belw.refl (B : Nat) (w : World) : Belw B w w := ⟨.refl B w, fun _ => Nat.le_refl _⟩
theorem Belw.trans {B : Nat} {a b c : World} (h : Belw B a b) (k : Belw B b c) : Belw B a c := ⟨h.toBelow.trans k.toBelow, fun d => Nat.le_trans (h.drawn d) (k.drawn d)⟩
theorem Belw.mono {B B' : Nat} {w w' : World} (h : Belw B w w') (hB : B' ≤ B) : Belw B' w w' := ⟨h.toBelow.mono hB, h.drawn⟩
theorem Belw.alloc {B : Nat} {a w : World} (h : Belw B a w) (hB : B ≤ w.heap.size) (o : Obj) : Belw B a (w.alloc o) := ⟨h.toBelow.alloc hB o, h.drawn⟩
theorem Belw.setCell {B : Nat} {a w : World} (h : Belw B a w) {p : Addr} (hp : B ≤ p.block) (u : Value) : Belw B a (w.setCell p u) := ⟨h.toBelow.setCell hp u, h.drawn⟩
omit [Dr] in
theorem Belw.low {B : Nat} {w w' : World} (h : Go.RowKit.Below B w w') : @Belw noDr B w w' := @Belw.mk noDr _ _ _ h fun d => False.elim d
omit [Dr] in
theorem drawn_setCells : ∀ (w : World) (b o : Nat) (vs : List Value), (w.setCells b o vs).drawn = w.drawn
  | _, _, _, [] => rfl
  | w, b, o, v :: r => drawn_setCells (w.setCell ⟨b, o, none⟩ v) b (o + 1) r
def hasBody (P : Program) (f : FuncId) : Bool := match P.funcs[f]? with
  | some fn => fn.body.isSome && !(fn.name == "runtime.NumGoroutine")
  | none => false
structure NCall (P : Program) (f : FuncId) (args : List SV) (obs : Obs) (nx : Nat) (K : SV → Obs → Nat → Prop) : Prop where
  b : hasBody P f = true
  h : ∀ B ρ w xs, Cls B ρ obs nx w → Svs ρ args xs → Calls P f xs.toArray w fun e w' => ∃ v obs' nx' ρ' x, K v obs' nx' ∧ (∀ i y, ρ i = some y → ρ' i = some y) ∧ e = .returned x ∧ v.is ρ' x ∧ Cls B ρ' obs' nx' w' ∧ Belw B w w' ∧ Oth w w'
structure NCallA (P : Program) (f : FuncId) (args : List SV) (obs : Obs) (nx : Nat) (K : SV → Obs → Nat → Prop) : Prop where
  b : hasBody P f = true
  h : ∀ B ρ w xs, Cls B ρ obs nx w → Svs ρ args xs → Calls P f xs.toArray w fun e w' => ∃ v obs' nx' ρ' x, K v obs' nx' ∧ (∀ i y, ρ i = some y → ρ' i = some y) ∧ e = .returned x ∧ v.is ρ' x ∧ Cls B ρ' obs' nx' w' ∧ Belw w.heap.size w w'
structure NCallQ (P : Program) (f : FuncId) (args : List SV) (obs : Obs) (nx : Nat) (K : SV → Prop) : Prop where
  b : hasBody P f = true
  h : ∃ v, K v ∧ ∀ B ρ w xs, Cls B ρ obs nx w → Svs ρ args xs → Calls P f xs.toArray w fun e w' => ∃ x, e = .returned x ∧ v.is ρ x ∧ Belw w.heap.size w w'
structure NYield (P : Program) (i : Nat) (args : List SV) (obs : Obs) (nx : Nat) (K : SV → Obs → Nat → Prop) : Prop where
  h : ∀ B ρ w xs l n, Cls B ρ obs nx w → Svs ρ args xs → ρ i = some (.func (.yield l) #[] #[]) → YieldAt Fence.wide n P l xs.toArray w fun e w' => ∃ v obs' nx' ρ' x, K v obs' nx' ∧ (∀ i y, ρ i = some y → ρ' i = some y) ∧ e = .returned x ∧ v.is ρ' x ∧ Cls B ρ' obs' nx' w' ∧ Belw B w w' ∧ Oth w w'
structure NApp (n m : Nat) (get news : Nat → List Value) (bytes : Nat) (K : Nat → (Nat → List Value) → Prop) : Prop where
  h : ∃ n' g, n' = n + m ∧ n' ≤ 9223372036854775807 ∧ n' * bytes ≤ 140737488355328 ∧ (∀ k, k < n → g k = get k) ∧ (∀ k, k < m → g (n + k) = news k) ∧ K n' g
structure NPut (n k : Nat) (get : Nat → List Value) (r : List Value) (K : (Nat → List Value) → Prop) : Prop where
  h : ∃ g, (∀ k', k' < n → g k' = if k' = k then r else get k') ∧ K g
structure NArr (n : Nat) (v : Value) (K : (Nat → List Value) → Prop) : Prop where
  h : ∃ g : Nat → List Value, v = .agg (flat g n).toArray ∧ (∀ k, k < n → (g k).length = 1 ∧ ∀ u ∈ g k, u.oneCell' = true) ∧ K g
structure NGrow (n bytes : Nat) (K : Prop) : Prop where
  len : n ≤ 9223372036854775807
  room : n * bytes ≤ 140737488355328
  h : K
structure NMake (l c : Int) (bytes : Nat) (K : Nat → Prop) : Prop where
  h : ∃ n m : Nat, l = (n : Int) ∧ c = (m : Int) ∧ n ≤ m ∧ m ≤ 9223372036854775807 ∧ bytes * m ≤ 281474976710656 ∧ K n
structure NOne (m : Nat) (get : Nat → List Value) (K : Prop) : Prop where
  one : ∀ k, k < m → (get k).all Value.oneCell' = true
  h : K
structure NTF (p : Prop) (K : Bool → Prop) : Prop where
  h : ∀ b : Bool, (b = true ↔ p) → K b
def closeK : List At → (List Value → Prop) → Prop
  | [], K => K []
  | .val v :: r, K => match v.oneCell' with | true => closeK r fun l => K (v :: l) | false => False
  | .tf b :: r, K => closeK r fun l => K (.bool b :: l)
  | .prop p :: r, K => NTF p fun b => closeK r fun l => K (.bool b :: l)
  | _ :: _, _ => False
def closesK : List (List At) → (List (List Value) → Prop) → Prop
  | [], K => K []
  | x :: r, K => closeK x fun y => closesK r fun l => K (y :: l)
def rowsK (env : Env) (s : Nat) : Nat → List (Nat × Operand) → (List (List At) → Prop) → Prop
  | _, [], K => K []
  | i, (j, x) :: r, K => match Nat.beq i j with
    | true => evK env x fun v => cellsK v fun c => match Nat.beq c.length s with
      | true => rowsK env s (i + 1) r fun l => K (c :: l)
      | false => False
    | false => False
def listG (l : List (List Value)) : Nat → List Value := fun k => l.getD k []
def newsK (obs : Obs) (s : Nat) (j : Nat) (K : Nat → (Nat → List Value) → Prop) : Prop :=
  fndK obs j fun o => match o with
    | .lit _ s' rows => match Nat.beq s s' with
      | true => closesK rows fun ll => K ll.length (listG ll)
      | false => False
    | .arr s' m get => match Nat.beq s s' with | true => NOne m get (K m get) | false => False
    | .row _ s' m get => match Nat.beq s s' with | true => NOne m get (K m get) | false => False
    | _ => False
def putX {α : Type} (f : Nat → α) (k : Nat) (x : α) : Nat → α := fun j => if j = k then x else f j
structure NAny (K : Value → Prop) : Prop where
  h : ∀ v, K v
def appK_ (sz : Nat) (dst : Option Tmp) (env : Env) (obs : Obs) (nx : Nat) (e s bytes : Nat) (K : Env → Obs → Nat → Prop) (x y : SV) : Prop :=
  match x, y with
  | .one (.ref i), .one (.ref j) => fndK obs i fun o => match o with
    | .row t' s' n get => match Nat.beq t' e, Nat.beq s s', Nat.beq i j with
      | true, true, false => newsK obs s j fun m news => NApp n m get news bytes fun n' g => putK sz dst (.one (.ref nx)) env fun env' => K env' ((nx, .row e s n' g) :: (i, .gone) :: obs) (nx + 1)
      | _, _, _ => False
    | .rov _ t' s' n get => match Nat.beq t' e, Nat.beq s s', Nat.beq i j with
      | true, true, false => newsK obs s j fun m news => NApp n m get news bytes fun n' g => putK sz dst (.one (.ref nx)) env fun env' => K env' ((nx, .row e s n' g) :: (i, .gone) :: obs) (nx + 1)
      | _, _, _ => False
    | .rws t' e' s' n vs xs => match Nat.beq t' e, Nat.beq s 1 with
      | true, true => fndK obs j fun oj => match oj with
        | .lit _ s1 [[.ref r]] => match Nat.beq s1 1 with
          | true => fndK obs r fun ro => match ro with
            | .row t2 s2 m g => match Nat.beq t2 e', Nat.beq s2 s', Nat.beq r i with
              | true, true, false => NGrow (n + 1) bytes (NAny fun v => putK sz dst (.one (.ref nx)) env fun env' => K env' ((nx, .rws t' e' s' (n + 1) (putX vs n v) (putX xs n (some (m, g)))) :: (r, .gone) :: (i, .gone) :: obs) (nx + 1))
              | _, _, _ => False
            | _ => False
          | false => False
        | _ => False
      | _, _ => False
    | .lit t' s' [] => match Nat.beq t' e, Nat.beq s s' with
      | true, true => newsK obs s j fun m news => NApp 0 m (fun _ => []) news bytes fun n' g => putK sz dst (.one (.ref nx)) env fun env' => K env' ((nx, .row e s n' g) :: obs) (nx + 1)
      | _, _ => False
    | .lit t' s' (r0 :: rs) => closesK (r0 :: rs) fun ll => match Nat.beq t' e, Nat.beq s s', Nat.beq i j with
      | true, true, false => newsK obs s j fun m news => NApp ll.length m (listG ll) news bytes fun n' g => putK sz dst (.one (.ref nx)) env fun env' => K env' ((nx, .row e s n' g) :: (i, .gone) :: obs) (nx + 1)
      | _, _, _ => False
    | _ => False
  | .one (.val (.slice none 0 0)), .one (.ref j) => newsK obs s j fun m news => NApp 0 m (fun _ => []) news bytes fun n' g => putK sz dst (.one (.ref nx)) env fun env' => K env' ((nx, .row e s n' g) :: obs) (nx + 1)
  | _, _ => False
def opK (P : Program) (T : TT) (sz : Nat) (q : Bool) (o : Oper) (env : Env) (obs : Obs) (nx : Nat) (K : Env → Obs → Nat → Prop) : Prop :=
  match o.op with
  | .box t x => match q with
    | true => False
    | false => evK env x fun v => cellsK v fun l => putK sz o.dst (.one (.ptr nx 0 0 0)) env fun env' => K env' ((nx, .box t l) :: obs) (nx + 1)
  | .alloc t => match q with
    | true => False
    | false => fndK T t fun ty => match ty.sh, ty.zero with
      | .sl e, [.slice none 0 0] => fndK T e fun te => putK sz o.dst (.one (.ptr (nx + 1) 0 0 0)) env fun env' => K env' ((nx + 1, .box t [.ref nx]) :: (nx, .row e te.size 0 fun _ => []) :: obs) (nx + 1 + 1)
      | .arr n e, _ => fndK T e fun te => match Nat.beq n 0, Nat.ble n 16777216, Nat.beq ty.zero.length (n * te.size) with
        | false, true, true => putK sz o.dst (.one (.ptr nx 0 0 0)) env fun env' => K env' ((nx, .row t te.size n fun k => (ty.zero.drop (k * te.size)).take te.size) :: obs) (nx + 1)
        | _, _, _ => False
      | _, _ => match ty.zero.all Value.oneCell' with
        | true => putK sz o.dst (.one (.ptr nx 0 0 0)) env fun env' => K env' ((nx, .box t (vals ty.zero)) :: obs) (nx + 1)
        | false => False
  | .store t x y => match q with
    | true => False
    | false => fndK T t fun ty => evK env x fun v => match v with
      | .one (.ptr i k j s) => fndK obs i fun ob => match ob with
        | .box t' l => match k, s with
          | 0, 0 => evK env y fun u => cellsK u fun c => match Nat.beq c.length ty.size with
            | true => layK l j c fun l' => putK sz o.dst (.tup []) env fun env' => K env' ((i, .box t' l') :: obs) nx
            | false => False
          | _, _ => False
        | .row t' s' n get => match Nat.beq s s' with
          | true => NLt k n (evK env y fun u => cellsK u fun c => closeK c fun vs => match Nat.beq vs.length ty.size with
            | true => layK (get k) j vs fun r => NPut n k get r fun g => putK sz o.dst (.tup []) env fun env' => K env' ((i, .row t' s' n g) :: obs) nx
            | false => False)
          | false => match ty.sh with
            | .arr m _ => match Nat.beq k 0, Nat.beq j 0, Nat.beq s' 1, Nat.beq n m, Nat.beq ty.size m, Nat.beq n 0 with
              | true, true, true, true, true, false => evK env y fun u => match u with
                | .one (.val v) => NArr n v fun g => putK sz o.dst (.tup []) env fun env' => K env' ((i, .row t' s' n g) :: obs) nx
                | _ => False
              | _, _, _, _, _, _ => False
            | _ => False
        | .rws t' e s' n vs xs => match Nat.beq j 0, Nat.beq s 1, Nat.beq ty.size 1 with
          | true, true, true => NLt k n (evK env y fun u => match u with
            | .one (.ref r) => fndK obs r fun ro => match ro with
              | .row t2 s2 m g => match Nat.beq t2 e, Nat.beq s2 s', Nat.beq r i with
                | true, true, false => NAny fun v => putK sz o.dst (.tup []) env fun env' => K env' ((i, .rws t' e s' n (putX vs k v) (putX xs k (some (m, g)))) :: (r, .gone) :: obs) nx
                | _, _, _ => False
              | _ => False
            | _ => False)
          | _, _, _ => False
        | _ => False
      | _ => False
  | .buildSlice t len parts => match q with
    | true => False
    | false => fndK T t fun ty => match ty.sh with
      | .sl e => fndK T e fun te => rowsK env te.size 0 parts.toList fun rows => match Nat.beq rows.length len, Nat.ble (len * te.size) 16777216, Nat.beq te.size 0 with
        | true, true, false => putK sz o.dst (.one (.ref nx)) env fun env' => K env' ((nx, match rows with | [] => .row e te.size 0 fun _ => [] | r => .lit e te.size r) :: obs) (nx + 1)
        | _, _, _ => False
      | _ => False
  | .makeSlice t x y => match q with
    | true => False
    | false => fndK T t fun ty => match ty.sh with
      | .sl e => fndK T e fun te => evK env x fun v => evK env y fun u => match v, u with
        | .one (.val (.int _ l)), .one (.val (.int _ c)) => match Nat.beq te.size 0, Nat.beq te.zero.length te.size with
          | false, true => NMake l c te.bytes fun n => putK sz o.dst (.one (.ref nx)) env fun env' => K env' ((nx, .row e te.size n fun _ => te.zero) :: obs) (nx + 1)
          | _, _ => False
        | _, _ => False
      | _ => False
  | .slice t x lo hi none => fndK T t fun ty => match ty.sh with
    | .sl e => match q with
      | true => False
      | false => fndK T e fun te => evK env x fun v => match v with
        | .one (.ref i) => fndK obs i fun ob => match ob with
          | .arr s n get => match Nat.beq s te.size with
            | true => optK env lo fun l => optK env hi fun h => NCut l h n fun a b => putK sz o.dst (.one (.ref nx)) env fun env' => K env' ((nx, .arr s (b - a) fun k => get (a + k)) :: obs) (nx + 1)
            | false => False
          | .row t' s n get => match Nat.beq s te.size with
            | true => NPick (optK env lo fun l => optK env hi fun h => NCut l h n fun a b => putK sz o.dst (.one (.ref nx)) env fun env' => K env' ((nx, .arr s (b - a) fun k => get (a + k)) :: (i, .arr s n get) :: obs) (nx + 1))
              (NPick (optK env lo fun l => optK env hi fun h => NCut l h n fun a b => NVw a b n (putK sz o.dst (.one (.ref nx)) env fun env' => K env' ((nx, .vw i a s) :: obs) (nx + 1)))
                (optK env lo fun l => optK env hi fun h => NCut l h n fun a b => NZero a (putK sz o.dst (.one (.ref nx)) env fun env' => K env' ((nx, .row t' s b get) :: (i, .gone) :: obs) (nx + 1))))
            | false => False
          | .rws _ _ _ n _ _ => match Nat.beq 1 te.size with
            | true => optK env lo fun l => optK env hi fun h => NCut l h n fun a b => NZero a (putK sz o.dst (.one (.ref nx)) env fun env' => K env' ((nx, .vh i b) :: obs) (nx + 1))
            | false => False
          | _ => False
        | _ => False
    | _ => pureK T env obs (.slice t x lo hi none) fun v => putK sz o.dst v env fun env' => K env' obs nx
  | .call ⟨.value g, args, _⟩ => evK env g fun v => match v with
    | .one (.clo f caps) => evsK env args.toList fun l => capE l caps fun l => match q with
      | true => NCallQ P f l obs nx fun u => putK sz o.dst u env fun env' => K env' obs nx
      | false => NCall P f l obs nx fun u obs' nx' => putK sz o.dst u env fun env' => K env' obs' nx'
    | .one (.ref i) => match q with
      | true => False
      | false => fndK obs i fun ob => match ob with
        | .lp _ _ .ready => evsK env args.toList fun l => NYield P i l obs nx fun u obs' nx' => putK sz o.dst u env fun env' => K env' obs' nx'
        | _ => False
    | _ => False
  | .call ⟨.builtin .append, ⟨[x, y]⟩, ⟨[t, t']⟩⟩ => match q, Nat.beq t t' with
    | false, true => fndK T t fun ty => match ty.sh with
      | .sl e => fndK T e fun te => match Nat.beq te.size 0, Nat.beq te.zero.length te.size with
        | false, true => evK env x fun v => evK env y fun u => appK_ sz o.dst env obs nx e te.size te.bytes K v u
        | _, _ => False
      | _ => False
    | _, _ => False
  | .call ⟨.builtin .clear, ⟨[x]⟩, ⟨[t]⟩⟩ => match q with
    | true => False
    | false => fndK T t fun ty => match ty.sh with
      | .sl e => fndK T e fun te => evK env x fun v => match v with
        | .one (.ref j) => fndK obs j fun ob => match ob with
          | .arr _ n _ => NZero n (putK sz o.dst (.tup []) env fun env' => K env' obs nx)
          | .vw r a s => fndK obs r fun ro => match ro with
            | .row t' s' n get => match Nat.beq t' e, Nat.beq s s', Nat.beq te.size s, Nat.beq te.zero.length te.size, te.zero.all Value.oneCell' with
              | true, true, true, true, true => putK sz o.dst (.tup []) env fun env' => K env' ((r, .row t' s' n fun k => if k < a then get k else te.zero) :: obs) nx
              | _, _, _, _, _ => False
            | _ => False
          | _ => False
        | _ => False
      | _ => False
  | .convert s t x => fndK T t fun ty => match ty.sh with
    | .sl e => match q with
      | true => False
      | false => fndK T e fun te => match te.sh with
        | .int .u8 => fndK T s fun ts => match ts.sh with
          | .str => evK env x fun v => match v with
            | .one (.val (.string b)) => NLe b.size (putK sz o.dst (.one (.ref nx)) env fun env' => K env' ((nx, .arr 1 b.size (bytesG b)) :: obs) (nx + 1))
            | _ => False
          | .sl _ => match Nat.beq s t with
            | true => evK env x fun v => match v with
              | .one (.ref i) => fndK obs i fun ob => match ob with
                | .lit _ s' (r0 :: rs) => match Nat.beq s' 1 with
                  | true => closesK (r0 :: rs) fun ll => putK sz o.dst (.one (.ref i)) env fun env' => K env' ((i, .arr 1 ll.length (listG ll)) :: obs) nx
                  | false => False
                | _ => False
              | _ => False
            | false => False
          | _ => False
        | _ => False
    | _ => pureK T env obs (.convert s t x) fun v => putK sz o.dst v env fun env' => K env' obs nx
  | .assign (.const (.slice none 0 0)) => match q with
    | true => putK sz o.dst (.one (.val (.slice none 0 0))) env fun env' => K env' obs nx
    | false => fndK T o.type fun ty => match ty.sh with
      | .sl e => fndK T e fun te => putK sz o.dst (.one (.ref nx)) env fun env' => K env' ((nx, .row e te.size 0 fun _ => []) :: obs) (nx + 1)
      | _ => putK sz o.dst (.one (.val (.slice none 0 0))) env fun env' => K env' obs nx
  | op => pureK T env obs op fun v => putK sz o.dst v env fun env' => K env' obs nx
def guardK (all : List Oper) (env : Env) (g : Option (Nat × Bool)) (yes no : Env → Prop) : Prop :=
  match g with
  | none => yes env
  | some (j, want) => nthK all j fun o => match o.dst with
    | none => False
    | some d => fndK env d fun v => match v with
      | .one (.tf b) => match b, want with
        | true, true | false, false => yes env
        | _, _ => no env
      | .one (.prop p) => match want with
        | true => NIf p (yes ((d, .one (.tf true)) :: env)) (no ((d, .one (.tf false)) :: env))
        | false => NIf p (no ((d, .one (.tf true)) :: env)) (yes ((d, .one (.tf false)) :: env))
      | .one (.val (.bool b)) => match want with
        | true => NIf (b = true) (yes ((d, .one (.tf true)) :: env)) (no ((d, .one (.tf false)) :: env))
        | false => NIf (b = true) (no ((d, .one (.tf true)) :: env)) (yes ((d, .one (.tf false)) :: env))
      | .tup _ => no env
      | _ => False
def opsK (P : Program) (T : TT) (sz : Nat) (q : Bool) (all l : List Oper) : Env → Obs → Nat → (Env → Obs → Nat → Prop) → Prop :=
  @List.rec Oper (fun _ => Env → Obs → Nat → (Env → Obs → Nat → Prop) → Prop) (fun env obs nx K => K env obs nx)
    (fun o _ ih env obs nx K => guardK all env o.guard
      (fun env' => opK P T sz q o env' obs nx fun e ob n => ih e ob n K)
      (fun env' => putK sz o.dst (.tup []) env' fun e => ih e obs nx K)) l
theorem opsK_cons {P : Program} {T : TT} {sz : Nat} {q : Bool} {all r : List Oper} {o : Oper} {env : Env} {obs : Obs} {nx : Nat} {K : Env → Obs → Nat → Prop} : opsK P T sz q all (o :: r) env obs nx K = guardK all env o.guard
      (fun env' => opK P T sz q o env' obs nx fun e ob n => opsK P T sz q all r e ob n K)
      (fun env' => putK sz o.dst (.tup []) env' fun e => opsK P T sz q all r e obs nx K) := rfl
inductive Ex where
  | nrm
  | exit (id : Nat)
  | ret
abbrev Kon := Ex → Env → Obs → Nat → Prop
def atB (nx : Nat) : At → Bool
  | .ptr i _ _ _ | .ref i => Nat.blt i nx
  | .clo _ l => l.all fun i => Nat.blt i nx
  | _ => true
def svB (nx : Nat) : SV → Bool
  | .one a => atB nx a
  | .agg l => l.all (atB nx)
  | .tup l => l.isEmpty
def obB (nx : Nat) : Ob → Bool
  | .lp _ env _ => env.all fun p => svB nx p.2
  | .box _ l => l.all (atB nx)
  | .cel l => l.all (atB nx)
  | .lit _ _ rows => rows.flatten.all (atB nx)
  | .vw r _ _ => Nat.blt r nx
  | .eqv i _ => Nat.blt i nx
  | .vh r _ => Nat.blt r nx
  | _ => true
def envB (nx : Nat) (l : Env) : Bool := l.all fun p => svB nx p.2
def obsB (nx : Nat) (l : Obs) : Bool := l.all fun p => Nat.blt p.1 nx && obB nx p.2
def renA (σ : Nat → Nat) : At → At
  | .ptr i k j s => .ptr (σ i) k j s
  | .ref i => .ref (σ i)
  | .clo f l => .clo f (l.map σ)
  | a => a
def renS (σ : Nat → Nat) : SV → SV
  | .one a => .one (renA σ a)
  | .agg l => .agg (l.map (renA σ))
  | v => v
def SameA (σ : Nat → Nat) : At → At → Prop
  | .ptr i k j s, .ptr i' k' j' s' => σ i = i' ∧ k = k' ∧ j = j' ∧ s = s'
  | .ref i, .ref i' => σ i = i'
  | .clo f l, .clo f' l' => f = f' ∧ l.map σ = l'
  | .val v, .val v' => v = v'
  | .val v, .tf b => v = .bool b
  | .val (.bool b), .prop p => b = true ↔ p
  | .tf b, .tf c => b = c
  | .prop p, .prop q => p ↔ q
  | _, _ => False
def SameAs (σ : Nat → Nat) : List At → List At → Prop
  | [], [] => True
  | a :: l, b :: m => SameA σ a b ∧ SameAs σ l m
  | _, _ => False
def SameS (σ : Nat → Nat) : List SV → List SV → Prop
  | [], [] => True
  | .one a :: l, .one b :: m => SameA σ a b ∧ SameS σ l m
  | .agg c :: l, .agg d :: m => SameAs σ c d ∧ SameS σ l m
  | _, _ => False
def sgm (l : List (Nat × Nat)) (i : Nat) : Nat := match fnd l i with
  | some j => j
  | none => i
def renO (σ : Nat → Nat) : Ob → Ob
  | .lp L env st => .lp L (env.map fun p => (p.1, renS σ p.2)) st
  | .box t l => .box t (l.map (renA σ))
  | .cel l => .cel (l.map (renA σ))
  | .lit t s rows => .lit t s (rows.map fun r => r.map (renA σ))
  | .vw r a s => .vw (σ r) a s
  | .eqv i v => .eqv (σ i) v
  | .vh r b => .vh (σ r) b
  | o => o
def SLe : SV → SV → Prop
  | .one (.tf b), .one (.prop p) => b = true ↔ p
  | .one (.prop p), .one (.tf b) => p ↔ b = true
  | .one (.prop p), .one (.prop q) => p ↔ q
  | .one (.tf b), .one (.val v) => v = .bool b
  | .one (.val v), .one (.prop p) => ∃ b, v = .bool b ∧ (b = true ↔ p)
  | .one (.prop p), .one (.val v) => ∃ b, v = .bool b ∧ (b = true ↔ p)
  | .one (.val v), .one (.tf b) => v = .bool b
  | u, v => u = v
def EnvLe (σ : Nat → Nat) (env : Env) : Env → Prop
  | [] => True
  | (t, v) :: r => fndK env t (fun u => SLe u (renS σ v)) ∧ EnvLe σ env r
def ObLe : Ob → Ob → Prop
  | .arr s n get, .arr s' n' get' => s = s' ∧ n = n' ∧ ∀ k, k < n → get k = get' k
  | .row t s n get, .row t' s' n' get' => t = t' ∧ s = s' ∧ n = n' ∧ ∀ k, k < n → get k = get' k
  | .row _ s n get, .arr s' n' get' => s = s' ∧ n = n' ∧ ∀ k, k < n → get k = get' k
  | .rws t e s n vs xs, .rws t' e' s' n' vs' xs' => t = t' ∧ e = e' ∧ s = s' ∧ n = n' ∧ ∀ k, k < n → vs k = vs' k ∧ ∀ m g', xs' k = some (m, g') → ∃ g, xs k = some (m, g) ∧ ∀ j, j < m → g j = g' j
  | .row t s n get, .rws t' _ _ n' vs xs => t = t' ∧ s = 1 ∧ n = n' ∧ ∀ k, k < n → get k = [vs k] ∧ ∀ m g, xs k = some (m, g) → vs k = .slice none 0 0 ∧ m = 0
  | o, o' => o = o'
def ObsLe (σ : Nat → Nat) (obs : Obs) : Obs → Prop
  | [] => True
  | (i, o) :: r => fndK obs (σ i) (fun u => ObLe u (renO σ o)) ∧ ObsLe σ obs r
def iot : Nat → List Nat
  | 0 => []
  | n + 1 => n :: iot n
def memB (x : Nat) : List Nat → Bool
  | [] => false
  | y :: r => match Nat.beq x y with | true => true | false => memB x r
def nodB : List Nat → Bool
  | [] => true
  | x :: r => match memB x r with | true => false | false => nodB r
def injB (σ : Nat → Nat) (nx : Nat) : Bool := nodB ((iot nx).map σ)
def pinB (pin : Nat) (l : List (Nat × Nat)) : Bool := l.all fun p => Nat.ble pin p.1
def opDst (o : Oper) : List Nat := match o.dst with | some d => [d] | none => []
def wr : Code → List Nat
  | .region _ ops _ => ops.toList.flatMap opDst
  | .seq a b => wr a ++ wr b
  | .cond _ a b => wr a ++ wr b
  | .block _ c => wr c
  | .loop c => wr c
  | _ => []
structure NLoop (ws : List Nat) (pin : Nat) (body : Env → Obs → Nat → Kon → Prop) (env : Env) (obs : Obs) (nx : Nat) (K : Kon) : Prop where
  h : ∃ (ι : Type) (S : ι → Env × Obs) (μ : ι → Nat) (J : ι → Prop) (i0 : ι) (m : Nat), pin ≤ m ∧ J i0 ∧ injB (sgm []) m = true ∧ EnvLe (sgm []) env (S i0).1 ∧ ObsLe (sgm []) obs (S i0).2 ∧ (∀ i, envB m (S i).1 = true ∧ obsB m (S i).2 = true) ∧
    ∀ i, J i → body (S i).1 (S i).2 m fun e env1 obs1 nx1 => match e with
      | .nrm => ∃ i' l, J i' ∧ μ i' < μ i ∧ pinB pin l = true ∧ injB (sgm l) m = true ∧ EnvLe (sgm l) env1 (S i').1 ∧ ObsLe (sgm l) obs1 (S i').2
      | e => K e env1 obs1 nx1
def ancB (all : List Oper) : Nat → Nat → Nat → Bool
  | 0, _, _ => false
  | f + 1, k, j => match all[j]? with
    | none => false
    | some o => o.after.toList.any fun e => Region.binds .any e && (Nat.beq e.on k || ancB all f k e.on)
def allB (p : Nat → Bool) : Nat → Bool
  | 0 => true
  | n + 1 => match p n with | true => allB p n | false => false
def freeB (all : List Oper) : Bool := Region.noSelect all.toArray && allB (fun i => allB (fun j => Nat.beq i j || ancB all all.length i j || ancB all all.length j i || match all[i]?, all[j]? with
  | some x, some y => x.apart all.toArray y
  | _, _ => false) all.length) all.length
def depsIn (done : List Nat) : List Edge → Bool
  | [] => true
  | e :: r => match Region.binds .any e with
    | true => match memB e.on done with | true => depsIn done r | false => false
    | false => depsIn done r
def readyL (done : List Nat) : Nat → List Oper → List (Nat × Oper)
  | _, [] => []
  | i, o :: r => match memB i done with
    | true => readyL done (i + 1) r
    | false => match depsIn done o.after.toList with
      | true => (i, o) :: readyL done (i + 1) r
      | false => readyL done (i + 1) r
def kindK (T : TT) : Op → Nat
  | .box _ _ | .alloc _ | .buildSlice _ _ _ | .makeSlice _ _ _ => 1
  | .call ⟨.value _, _, _⟩ => 3
  | .slice t _ _ _ none => match fnd T t with
    | some ty => match ty.sh with | .sl _ => 1 | _ => 0
    | none => 0
  | .convert s t _ => match fnd T t with
    | some ty => match ty.sh with
      | .sl _ => match fnd T s with
        | some ts => match ts.sh with | .sl _ => 2 | _ => 1
        | none => 1
      | _ => 0
    | none => 0
  | .store _ _ _ => 2
  | .call ⟨.builtin .append, _, _⟩ => 2
  | _ => 0
def firmB (rc : Bool) (all : List Oper) (i : Nat) : Bool := rc || all.all fun u => u.after.toList.all fun e => match Nat.beq e.on i with
  | true => Region.binds .any e
  | false => true
structure NBoth (A B : Prop) : Prop where
  l : A
  r : B
def eachK (l : List (Nat × Oper)) : (Nat → Oper → Prop) → Prop :=
  @List.rec (Nat × Oper) (fun _ => (Nat → Oper → Prop) → Prop) (fun _ => True)
    (fun p r ih K => match p with | (i, o) => match r with | [] => K i o | _ => NBoth (K i o) (ih K)) l
def lightB (T : TT) (o : Oper) : Bool := match o.op with
  | .move _ | .assign _ | .pick _ _ _ | .nilCheck _ | .fieldAddr _ _ _ | .extract _ _ | .unOp _ _ _ | .field _ _ _ | .build _ _ => true
  | .binOp _ t _ _ _ => match fnd T t with
    | some ty => match ty.sh with
      | .sl _ => false
      | _ => true
    | none => false
  | .convert _ t _ => match fnd T t with
    | some ty => match ty.sh with
      | .int _ => true
      | _ => false
    | none => false
  | _ => false
def pick0 (g rc : Bool) (T : TT) (all : List Oper) : List (Nat × Oper) → Option (Nat × Oper)
  | [] => none
  | (i, o) :: r => match kindK T o.op with
    | 0 => match lightB T o || (g && firmB rc all i) with
      | true => some (i, o)
      | false => pick0 g rc T all r
    | _ => pick0 g rc T all r
def freshB (env : Env) (obs : Obs) : Operand → Bool
  | .tmp t => match fnd env t with
    | some (.one (.ref i)) => match fnd obs i with
      | some (.lit _ _ []) => true
      | _ => false
    | some (.one (.val (.slice none 0 0))) => true
    | _ => false
  | _ => false
def emptyK (T : TT) (sz : Nat) (dst : Option Tmp) (t : TypeId) (env : Env) (obs : Obs) (nx : Nat) (K : Env → Obs → Nat → Prop) : Prop :=
  fndK T t fun ty => match ty.sh with
    | .sl e => fndK T e fun te => match Nat.beq te.size 0 with
      | false => putK sz dst (.one (.ref nx)) env fun env' => K env' ((nx, .lit e te.size []) :: obs) (nx + 1)
      | true => False
    | _ => False
structure NSame (v u : SV) (K : Prop) : Prop where
  e : v = u
  h : K
def looseL (all : List Oper) (k : Nat) (l : List Tmp) (d : Nat) : List Nat → Bool
  | [] => true
  | m :: r => match Nat.beq m k with
    | true => true
    | false => match all[m]? with
      | some x => match x.dst with
        | none => looseL all k l d r
        | some e => match memB e l, Nat.beq e d with
          | false, false => looseL all k l d r
          | _, _ => false
      | none => looseL all k l d r
def looseB (all : List Oper) (done : List Nat) (k : Nat) (u : Oper) (d : Nat) : Bool := match memB d (u.looksAt all.toArray) with
  | true => false
  | false => looseL all k (u.looksAt all.toArray) d done
def dropB (T : TT) (all : List Oper) (done : List Nat) (k : Nat) : Bool := done.any fun m => match all[m]? with
  | some x => match Nat.beq (kindK T x.op) 2 with
    | true => ancB all all.length k m
    | false => false
  | none => false
def stayK (rc : Bool) (T : TT) (all : List Oper) (done : List Nat) (i : Nat) (env : Env) (obs : Obs) : List Nat → Prop → Prop
  | [], K => K
  | k :: r, K => match all[k]? with
    | some u => match kindK T u.op with
      | 0 => match firmB rc all k, lightB T u with
        | true, false => match ancB all all.length k i, dropB T all done k with
          | false, false => match u.dst with
            | none => False
            | some d => match looseB all (i :: done) k u d with
              | true => pureK T env obs u.op fun v => fndK env d fun v' => NSame v v' (stayK rc T all done i env obs r K)
              | false => False
          | _, _ => stayK rc T all done i env obs r K
        | _, _ => stayK rc T all done i env obs r K
      | _ => stayK rc T all done i env obs r K
    | none => stayK rc T all done i env obs r K
def kidK (g rc : Bool) (P : Program) (T : TT) (sz : Nat) (all : List Oper) (done : List Nat) (i : Nat) (o : Oper) (env : Env) (obs : Obs) (nx : Nat) (K : Env → Obs → Nat → Prop) : Prop :=
  match kindK T o.op with
  | 0 => opK P T sz true o env obs nx K
  | 1 => match o.op with
    | .buildSlice t 0 ⟨[]⟩ => emptyK T sz o.dst t env obs nx K
    | _ => opK P T sz false o env obs nx K
  | 2 => match (match o.op with
      | .call ⟨.builtin .append, ⟨[x, _]⟩, ⟨[_, _]⟩⟩ => freshB env obs x
      | _ => false) || !g || done.all fun k => match all[k]? with
      | some u => match kindK T u.op with
        | 0 => match firmB rc all k, lightB T u with
          | true, false => ancB all all.length k i
          | _, _ => true
        | _ => true
      | none => true with
    | true => opK P T sz false o env obs nx K
    | false => opK P T sz false o env obs nx fun e' o' n' => stayK rc T all done i e' o' done (K e' o' n')
  | 3 => match o.op with
    | .call ⟨.value h, args, _⟩ => evK env h fun v => match v with
      | .one (.clo f caps) => evsK env args.toList fun l => capE l caps fun l => match g with
        | true => NCallA P f l obs nx fun u obs' nx' => putK sz o.dst u env fun env' => K env' obs' nx'
        | false => NCall P f l obs nx fun u obs' nx' => putK sz o.dst u env fun env' => K env' obs' nx'
      | _ => False
    | _ => False
  | _ => False
def explK (g rc : Bool) (P : Program) (T : TT) (sz : Nat) (all : List Oper) (f : Nat) : List Nat → Env → Obs → Nat → (Env → Obs → Nat → Prop) → Prop :=
  @Nat.rec (fun _ => List Nat → Env → Obs → Nat → (Env → Obs → Nat → Prop) → Prop)
    (fun done env obs nx K => match readyL done 0 all with
      | [] => K env obs nx
      | _ => False)
    (fun _ ih done env obs nx K => match readyL done 0 all with
      | [] => K env obs nx
      | r => match pick0 g rc T all r with
        | some (i, o) => guardK all env o.guard (fun e => match lightB T o with
              | true => opK P T sz true o e [] nx fun e' _ _ => ih (i :: done) e' obs nx K
              | false => opK P T sz true o e obs nx fun e' o' n' => ih (i :: done) e' o' n' K)
            (fun e => putK sz o.dst (.tup []) e fun e' => ih (i :: done) e' obs nx K)
        | none => eachK r fun i o => guardK all env o.guard (fun e => kidK g rc P T sz all done i o e obs nx fun e' o' n' => ih (i :: done) e' o' n' K)
            (fun e => putK sz o.dst (.tup []) e fun e' => ih (i :: done) e' obs nx K)) f
theorem explK_zero {g rc : Bool} {P : Program} {T : TT} {sz : Nat} {all : List Oper} {done : List Nat} {env : Env} {obs : Obs} {nx : Nat} {K : Env → Obs → Nat → Prop} : explK g rc P T sz all 0 done env obs nx K = (match readyL done 0 all with
      | [] => K env obs nx
      | _ => False) := rfl
theorem explK_succ {g rc : Bool} {P : Program} {T : TT} {sz : Nat} {all : List Oper} {f : Nat} {done : List Nat} {env : Env} {obs : Obs} {nx : Nat} {K : Env → Obs → Nat → Prop} : explK g rc P T sz all (f + 1) done env obs nx K = (match readyL done 0 all with
      | [] => K env obs nx
      | r => match pick0 g rc T all r with
        | some (i, o) => guardK all env o.guard (fun e => match lightB T o with
              | true => opK P T sz true o e [] nx fun e' _ _ => explK g rc P T sz all f (i :: done) e' obs nx K
              | false => opK P T sz true o e obs nx fun e' o' n' => explK g rc P T sz all f (i :: done) e' o' n' K)
            (fun e => putK sz o.dst (.tup []) e fun e' => explK g rc P T sz all f (i :: done) e' obs nx K)
        | none => eachK r fun i o => guardK all env o.guard (fun e => kidK g rc P T sz all done i o e obs nx fun e' o' n' => explK g rc P T sz all f (i :: done) e' o' n' K)
            (fun e => putK sz o.dst (.tup []) e fun e' => explK g rc P T sz all f (i :: done) e' obs nx K)) := rfl
structure NJoin (pin m : Nat) (E : Env) (O : Obs) (env : Env) (obs : Obs) (n : Nat) : Prop where
  h : ∃ l, pinB pin l = true ∧ injB (sgm l) m = true ∧ EnvLe (sgm l) env E ∧ ObsLe (sgm l) obs O
structure Redo (sz : Nat) (env : Env) (obs : Obs) (nx : Nat) (env' : Env) (obs' : Obs) (nx' : Nat) : Prop where
  h : ∀ B ρ w a, EnvR sz ρ env a → Cls B ρ obs nx w → ∃ ρ', (∀ i y, ρ i = some y → ρ' i = some y) ∧ EnvR sz ρ' env' a ∧ Cls B ρ' obs' nx' w
def lowL (n : Nat) : Nat → List Oper → Bool
  | _, [] => true
  | i, o :: r => (o.after.toList.all fun e => !Region.binds .any e || Nat.blt e.on i) && (match o.guard with | none => true | some (j, _) => Nat.blt j i) && lowL n (i + 1) r
def tailB (all : List Oper) (m : Nat) : Bool := Nat.ble m all.length && lowL 0 0 all && allB (fun i => Nat.blt i m || allB (fun k => Nat.ble i k || ancB all all.length k i) all.length) all.length
inductive NDraw (P : Program) (T : TT) (sz pin : Nat) (all : List Oper) (env : Env) (obs : Obs) (nx : Nat) (K : Env → Obs → Nat → Prop) : Prop
  | mk (lex : Region.lexB .any all.toArray = true) (h : opsK P T sz true all all env obs nx K)
  | pre_ (g rc : Bool) (free : freeB all = true) (env' : Env) (obs' : Obs) (nx' : Nat) (r : Redo sz env obs nx env' obs' nx') (h : explK g rc P T sz all all.length [] env' obs' nx' K)
  | tail_ (g rc : Bool) (m : Nat) (c : (freeB (all.take m) && tailB all m) = true) (h : explK g rc P T sz (all.take m) (all.take m).length [] env obs nx fun e o n => opsK P T sz false all (all.drop m) e o n K)
  | any_ (g rc : Bool) (free : freeB all = true) (h : explK g rc P T sz all all.length [] env obs nx K)
  | join_ (g rc : Bool) (free : freeB all = true) (E : Env) (O : Obs) (m : Nat) (h : explK g rc P T sz all all.length [] env obs nx fun e o n => NJoin pin m E O e o n) (hp : Nat.ble pin m = true) (hb : envB m E = true ∧ obsB m O = true) (k : K E O m)
theorem NDraw.pre {P : Program} {T : TT} {sz pin : Nat} {all : List Oper} {env env' : Env} {obs obs' : Obs} {nx nx' : Nat} {K : Env → Obs → Nat → Prop} (free : freeB all = true) (r : Redo sz env obs nx env' obs' nx') (h : explK true false P T sz all all.length [] env' obs' nx' K) : NDraw P T sz pin all env obs nx K := .pre_ true false free env' obs' nx' r h
theorem NDraw.any {P : Program} {T : TT} {sz pin : Nat} {all : List Oper} {env : Env} {obs : Obs} {nx : Nat} {K : Env → Obs → Nat → Prop} (free : freeB all = true) (h : explK true false P T sz all all.length [] env obs nx K) : NDraw P T sz pin all env obs nx K := .any_ true false free h
theorem NDraw.join {P : Program} {T : TT} {sz pin : Nat} {all : List Oper} {env : Env} {obs : Obs} {nx : Nat} {K : Env → Obs → Nat → Prop} (free : freeB all = true) (E : Env) (O : Obs) (m : Nat) (h : explK true false P T sz all all.length [] env obs nx fun e o n => NJoin pin m E O e o n) (hp : Nat.ble pin m = true) (hb : envB m E = true ∧ obsB m O = true) (k : K E O m) : NDraw P T sz pin all env obs nx K := .join_ true false free E O m h hp hb k
def meetK {ι : Type} (pin m : Nat) (S : ι → Env × Obs) (J : ι → Prop) (K : Kon) : Kon := fun e env obs nx => match e with
  | .nrm => ∃ i l, J i ∧ pinB pin l = true ∧ injB (sgm l) m = true ∧ EnvLe (sgm l) env (S i).1 ∧ ObsLe (sgm l) obs (S i).2
  | e => K e env obs nx
inductive NCond (p : Prop) (ws : List Nat) (pin : Nat) (A B : Kon → Prop) (env : Env) (obs : Obs) (nx : Nat) (K : Kon) : Prop
  | mk (h : NIf p (A K) (B K))
  | join (ι : Type) (S : ι → Env × Obs) (m : Nat) (J : ι → Prop) (hp : pin ≤ m) (hb : ∀ i, envB m (S i).1 = true ∧ obsB m (S i).2 = true) (h : NIf p (A (meetK pin m S J K)) (B (meetK pin m S J K))) (k : ∀ i, J i → K .nrm (S i).1 (S i).2 m)
structure St where
  w : World
  ρ : Rho
  pin : Nat
def Mk (B n : Nat) (ds : List Deferred) (w : World) : Prop :=
  ∃ Ds : List Nat, ds = Ds.map (fun D => { target := .collected D, args := #[] }) ∧ Ds.Nodup ∧ ∀ D ∈ Ds, B ≤ D ∧ n ≤ D ∧ w.heap[D]? = some (.deferred (some []))
structure Wy (B : Nat) (s : St) (ρ : Rho) (ds : List Deferred) (w : World) : Prop where
  b : Belw B s.w w
  o : Oth s.w w
  e : ∀ i y, i < s.pin → s.ρ i = some y → ρ i = some y
  m : Mk B s.w.heap.size ds w
def Nx (B : Nat) (w0 : St) (sz : Nat) (K : Env → Obs → Nat → Prop) (a : Act) (w : World) : Prop :=
  ∃ ρ env obs nx, K env obs nx ∧ EnvR sz ρ env a ∧ Cls B ρ obs nx w ∧ Wy B w0 ρ a.defers w
def NxA (B : Nat) (w0 : St) (sz : Nat) (K : Env → Obs → Nat → Prop) (w1 : World) (a : Act) (w : World) : Prop :=
  ∃ ρ env obs nx, K env obs nx ∧ EnvR sz ρ env a ∧ Cls B ρ obs nx w ∧ Wy B w0 ρ a.defers w ∧ Belw w1.heap.size w1 w
def QK (B : Nat) (w0 : St) (sz : Nat) (K : Kon) : Exit → Act → World → Prop
  | .normal, a, w => Nx B w0 sz (K .nrm) a w
  | .exit i, a, w => Nx B w0 sz (K (.exit i)) a w
  | .ret, a, w => Nx B w0 sz (K .ret) a w
  | _, _, _ => False
structure NRange (P : Program) (sz : Nat) (f : Operand) (ps : Array Tmp) (assign body : Code) (env : Env) (obs : Obs) (nx : Nat) (K : Kon) : Prop where
  h : ∀ B s ρ a w n, EnvR sz ρ env a → Cls B ρ obs nx w → Wy B s ρ a.defers w → (Code.rangeFunc f ps assign body).wpIn Fence.wide n P (QK B s sz K) a w
def calm : Code → Bool
  | .region _ ops _ => ops.toList.all fun o => match o.op with | .defer _ => false | _ => true
  | .seq a b => calm a && calm b
  | .cond _ a b => calm a && calm b
  | .block _ c => calm c
  | .loop c => calm c
  | .rangeFunc _ _ _ _ => false
  | _ => true
def vc (P : Program) (T : TT) (sz pin : Nat) (c : Code) : Env → Obs → Nat → Kon → Prop :=
  @Code.rec (fun _ => Env → Obs → Nat → Kon → Prop)
    (fun env obs nx K => K .nrm env obs nx)
    (fun _ ops draw env obs nx K => match draw with
      | false => opsK P T sz false ops.toList ops.toList env obs nx fun e o n => K .nrm e o n
      | true => NDraw P T sz pin ops.toList env obs nx fun e o n => K .nrm e o n)
    (fun _ _ iha ihb env obs nx K => iha env obs nx fun e env' obs' nx' => match e with
      | .nrm => ihb env' obs' nx' K
      | .exit i => K (.exit i) env' obs' nx'
      | .ret => K .ret env' obs' nx')
    (fun c a b iha ihb env obs nx K => evK env c fun v => match v with
      | .one (.tf true) => iha env obs nx K
      | .one (.tf false) => ihb env obs nx K
      | .one (.prop p) => NCond p (wr a ++ wr b) pin (iha env obs nx) (ihb env obs nx) env obs nx K
      | .one (.val (.bool q)) => NCond (q = true) (wr a ++ wr b) pin (iha env obs nx) (ihb env obs nx) env obs nx K
      | _ => False)
    (fun id _ ih env obs nx K => ih env obs nx fun e env' obs' nx' => match e with
      | .exit i => match Nat.beq i id with
        | true => K .nrm env' obs' nx'
        | false => K (.exit i) env' obs' nx'
      | .nrm => K .nrm env' obs' nx'
      | .ret => K .ret env' obs' nx')
    (fun b ih env obs nx K => NLoop (wr b) pin ih env obs nx K)
    (fun f ps assign body _ _ env obs nx K => NRange P sz f ps assign body env obs nx K)
    (fun id env obs nx K => K (.exit id) env obs nx)
    (fun _ _ _ _ _ _ => False)
    (fun _ env obs nx K => K .nrm env obs nx)
    (fun _ _ _ _ _ => False)
    (fun env obs nx K => K .ret env obs nx)
    (fun _ _ _ _ _ => False) c
end Go.Proofs.YtlbffibpcjjpkaaDoor.V

namespace Go.Proofs.YtlbffibpcjjpkaaDoor.V
open Go Go.RowKit
theorem fndK_spec {α : Type} {K : α → Prop} {t : Nat} : ∀ {l : List (Nat × α)}, fndK l t K → ∃ v, fnd l t = some v ∧ K v
  | [], h => h.elim
  | (u, v) :: r, h => by
    unfold fndK at h
    unfold fnd
    cases hb : Nat.beq u t
    · rw [hb] at h; exact fndK_spec h
    · rw [hb] at h; exact ⟨v, rfl, h⟩
theorem nthK_spec {α : Type} {K : α → Prop} : ∀ {l : List α} {n : Nat}, nthK l n K → ∃ v, l[n]? = some v ∧ K v
  | [], _, h => by cases h
  | x :: _, 0, h => ⟨x, rfl, h⟩
  | _ :: r, n + 1, h => by
    obtain ⟨v, e, hv⟩ := nthK_spec (l := r) (n := n) h
    exact ⟨v, by simpa using e, hv⟩
theorem cutK_spec {α : Type} : ∀ {l : List α} {j s : Nat} {K : List α → Prop}, cutK l j s K → (l.drop j).take s = (l.drop j).take s ∧ ((l.drop j).take s).length = s ∧ K ((l.drop j).take s)
  | [], 0, 0, K, h => ⟨rfl, rfl, h⟩
  | _ :: _, 0, 0, K, h => ⟨rfl, rfl, h⟩
  | [], 0, _ + 1, _, h => by cases h
  | [], _ + 1, _, _, h => by cases h
  | x :: r, 0, s + 1, K, h => by
    obtain ⟨_, h2, h3⟩ := cutK_spec (l := r) (j := 0) (s := s) (K := fun l => K (x :: l)) h
    refine ⟨rfl, ?_, ?_⟩
    · simp only [List.drop_zero, List.take_succ_cons, List.length_cons] at h2 ⊢; omega
    · simpa using h3
  | x :: r, j + 1, s, K, h => by
    obtain ⟨_, h2, h3⟩ := cutK_spec (l := r) (j := j) (s := s) (K := K) (by unfold cutK at h; exact h)
    exact ⟨rfl, by simpa using h2, by simpa using h3⟩
theorem CapsAre.fun_ {ρ : Rho} : ∀ {l : List Nat} {x y : List Value}, CapsAre ρ l x → CapsAre ρ l y → x = y
  | [], _, _, h, k => h.trans k.symm
  | _ :: _, _, _, ⟨a, r, e, hx, hr⟩, ⟨a', r', e', hy, hr'⟩ => by
    rw [e] at e'; injection e' with e'; subst e'
    rw [hx, hy, CapsAre.fun_ hr hr']
theorem At.is_fun {ρ : Rho} {a : At} {x y : Value} (h : a.is ρ x) (k : a.is ρ y) : x = y := by
  cases a with
  | val v => exact Eq.trans h (Eq.symm k)
  | tf b => exact Eq.trans h (Eq.symm k)
  | prop p =>
    obtain ⟨b, rfl, hb⟩ := h
    obtain ⟨c, rfl, hc⟩ := k
    congr 1
    rw [Bool.eq_iff_iff, hb, hc]
  | ptr i k' j s =>
    obtain ⟨a, e, rfl⟩ := h
    obtain ⟨a', e', rfl⟩ := k
    rw [e] at e'; injection e' with e'; rw [e']
  | ref i => have := Eq.symm h.1 |>.trans k.1; injection this
  | clo f l =>
    obtain ⟨c, e, rfl⟩ := h
    obtain ⟨c', e', rfl⟩ := k
    rw [CapsAre.fun_ e e']
theorem Ats.fun_ {ρ : Rho} : ∀ {l : List At} {x y : List Value}, Ats ρ l x → Ats ρ l y → x = y
  | [], _, _, h, k => h.trans k.symm
  | _ :: _, _, _, ⟨a, r, hx, ha, hr⟩, ⟨a', r', hy, ha', hr'⟩ => by rw [hx, hy, At.is_fun ha ha', Ats.fun_ hr hr']
theorem SV.is1_fun {ρ : Rho} {v : SV} {x y : Value} (h : v.is1 ρ x) (k : v.is1 ρ y) : x = y := by
  cases v with
  | one a => exact At.is_fun (a := a) h k
  | agg l => obtain ⟨c, e, rfl⟩ := h; obtain ⟨c', e', rfl⟩ := k; rw [Ats.fun_ e e']
  | tup l => exact h.elim
theorem Svs.fun_ {ρ : Rho} : ∀ {l : List SV} {x y : List Value}, Svs ρ l x → Svs ρ l y → x = y
  | [], _, _, h, k => h.trans k.symm
  | _ :: _, _, _, ⟨a, r, hx, ha, hr⟩, ⟨a', r', hy, ha', hr'⟩ => by rw [hx, hy, SV.is1_fun ha ha', Svs.fun_ hr hr']
theorem SV.is_fun {ρ : Rho} {v : SV} {x y : Value} (h : v.is ρ x) (k : v.is ρ y) : x = y := by
  cases v with
  | one a => exact At.is_fun (a := a) h k
  | agg l => obtain ⟨c, e, rfl⟩ := h; obtain ⟨c', e', rfl⟩ := k; rw [Ats.fun_ e e']
  | tup l => obtain ⟨c, e, rfl⟩ := h; obtain ⟨c', e', rfl⟩ := k; rw [Svs.fun_ e e']
theorem SV.is_of1 {ρ : Rho} {v : SV} {x : Value} (h : v.is1 ρ x) : v.is ρ x := by
  cases v with
  | one a => exact h
  | agg l => exact h
  | tup l => exact h.elim
def Ext (ρ ρ' : Rho) : Prop := ∀ i y, ρ i = some y → ρ' i = some y
theorem base_ext {ρ ρ' : Rho} (h : Ext ρ ρ') {i : Nat} {a : Addr} (hb : base ρ i = some a) : base ρ' i = some a := by
  unfold base at hb ⊢
  cases hi : ρ i with
  | none => rw [hi] at hb; cases hb
  | some y => rw [h i y hi]; rw [hi] at hb; exact hb
theorem CapsAre.ext {ρ ρ' : Rho} (h : Ext ρ ρ') : ∀ {l : List Nat} {x : List Value}, CapsAre ρ l x → CapsAre ρ' l x
  | [], _, hx => hx
  | _ :: _, _, ⟨a, r, e, hx, hr⟩ => ⟨a, r, base_ext h e, hx, CapsAre.ext h hr⟩
theorem At.is_ext {ρ ρ' : Rho} (h : Ext ρ ρ') {a : At} {x : Value} (ha : a.is ρ x) : a.is ρ' x := by
  cases a with
  | val v => exact ha
  | tf b => exact ha
  | prop p => exact ha
  | ptr i k j s => obtain ⟨a, e, hx⟩ := ha; exact ⟨a, base_ext h e, hx⟩
  | ref i => exact ⟨h _ _ ha.1, ha.2⟩
  | clo f l => obtain ⟨c, e, hx⟩ := ha; exact ⟨c, e.ext h, hx⟩
theorem Ats.ext {ρ ρ' : Rho} (h : Ext ρ ρ') : ∀ {l : List At} {x : List Value}, Ats ρ l x → Ats ρ' l x
  | [], _, hx => hx
  | _ :: _, _, ⟨a, r, hx, ha, hr⟩ => ⟨a, r, hx, At.is_ext h ha, Ats.ext h hr⟩
theorem SV.is1_ext {ρ ρ' : Rho} (h : Ext ρ ρ') {v : SV} {x : Value} (hv : v.is1 ρ x) : v.is1 ρ' x := by
  cases v with
  | one a => exact At.is_ext h (a := a) hv
  | agg l => obtain ⟨c, e, hx⟩ := hv; exact ⟨c, e.ext h, hx⟩
  | tup l => exact hv.elim
theorem Svs.ext {ρ ρ' : Rho} (h : Ext ρ ρ') : ∀ {l : List SV} {x : List Value}, Svs ρ l x → Svs ρ' l x
  | [], _, hx => hx
  | _ :: _, _, ⟨a, r, hx, ha, hr⟩ => ⟨a, r, hx, SV.is1_ext h ha, Svs.ext h hr⟩
theorem SV.is_ext {ρ ρ' : Rho} (h : Ext ρ ρ') {v : SV} {x : Value} (hv : v.is ρ x) : v.is ρ' x := by
  cases v with
  | one a => exact At.is_ext h (a := a) hv
  | agg l => obtain ⟨c, e, hx⟩ := hv; exact ⟨c, e.ext h, hx⟩
  | tup l => obtain ⟨c, e, hx⟩ := hv; exact ⟨c, e.ext h, hx⟩
theorem Ats.length {ρ : Rho} : ∀ {l : List At} {x : List Value}, Ats ρ l x → x.length = l.length
  | [], _, h => by rw [h]; rfl
  | _ :: _, _, ⟨a, r, hx, ha, hr⟩ => by rw [hx, List.length_cons, List.length_cons, Ats.length hr]
theorem Ats.nth {ρ : Rho} : ∀ {l : List At} {x : List Value} {j : Nat} {a : At}, Ats ρ l x → l[j]? = some a → ∃ u, x[j]? = some u ∧ a.is ρ u
  | [], _, _, _, _, h => by simp at h
  | b :: _, _, 0, a, ⟨u, r, hx, ha, hr⟩, h => by
    have e : b = a := by simpa using h
    subst e
    exact ⟨u, by rw [hx]; rfl, ha⟩
  | b :: l, _, j + 1, a, ⟨u, r, hx, ha, hr⟩, h => by
    obtain ⟨v, e, hv⟩ := Ats.nth (j := j) hr (by simpa using h)
    exact ⟨v, by rw [hx]; simpa using e, hv⟩
theorem Ats.drop {ρ : Rho} : ∀ {l : List At} {x : List Value} (j : Nat), Ats ρ l x → Ats ρ (l.drop j) (x.drop j)
  | _, _, 0, h => h
  | [], _, j + 1, h => by rw [h]; exact (by simp [Ats])
  | _ :: _, _, j + 1, ⟨a, r, hx, ha, hr⟩ => by rw [hx]; simpa using Ats.drop j hr
theorem Ats.take {ρ : Rho} : ∀ {l : List At} {x : List Value} (j : Nat), Ats ρ l x → Ats ρ (l.take j) (x.take j)
  | _, _, 0, _ => by simp [Ats]
  | [], _, j + 1, h => by rw [h]; exact (by simp [Ats])
  | _ :: _, _, j + 1, ⟨a, r, hx, ha, hr⟩ => by rw [hx]; exact ⟨a, r.take j, by simp, ha, Ats.take j hr⟩
theorem Ats.append {ρ : Rho} : ∀ {l m : List At} {x y : List Value}, Ats ρ l x → Ats ρ m y → Ats ρ (l ++ m) (x ++ y)
  | [], _, _, _, h, k => by rw [h]; exact k
  | _ :: _, _, _, _, ⟨a, r, hx, ha, hr⟩, k => by rw [hx]; exact ⟨a, r ++ _, rfl, ha, Ats.append hr k⟩
theorem Ats.vals (ρ : Rho) : ∀ (l : List Value), Ats ρ (vals l) l
  | [] => rfl
  | v :: l => ⟨v, l, rfl, rfl, Ats.vals ρ l⟩
theorem Ats.mem {ρ : Rho} {l : List At} {x : List Value} (h : Ats ρ l x) {u : Value} (hu : u ∈ x) : ∃ a ∈ l, a.is ρ u := by
  induction l generalizing x with
  | nil => rw [h] at hu; simp at hu
  | cons b l ih =>
    obtain ⟨a, r, hx, ha, hr⟩ := h
    rw [hx] at hu
    rcases List.mem_cons.1 hu with e | e
    · exact ⟨b, by simp, e ▸ ha⟩
    · obtain ⟨c, hc, hi⟩ := ih hr e
      exact ⟨c, by simp [hc], hi⟩
theorem one_of_cellB {ρ : Rho} {a : At} {u : Value} (h : cellB a = true) (hu : a.is ρ u) : u.oneCell' = true := by
  cases a with
  | val v => have e : u = v := hu; rw [e]; exact h
  | tf b => have e : u = .bool b := hu; rw [e]; rfl
  | prop p => obtain ⟨b, rfl, _⟩ := hu; rfl
  | ptr i k j s => obtain ⟨a, _, rfl⟩ := hu; rfl
  | ref i => exact hu.2
  | clo f l => obtain ⟨c, _, rfl⟩ := hu; rfl
theorem evK_spec {sz : Nat} {ρ : Rho} {env : Env} {a : Act} (hE : EnvR sz ρ env a) {x : Operand} {K : SV → Prop} (h : evK env x K) : ∃ v, v.is ρ (a.eval x) ∧ K v := by
  cases x with
  | tmp t =>
    obtain ⟨v, e, hv⟩ := fndK_spec h
    obtain ⟨u, e2, hu⟩ := hE.env t v e
    refine ⟨v, ?_, hv⟩
    have : a.eval (.tmp t) = u := by simp [Act.eval, Array.getD_eq_getD_getElem?, e2]
    rw [this]; exact hu
  | const v =>
    cases v <;> first | exact ⟨.one (.tf _), rfl, h⟩ | exact ⟨.one (.val _), rfl, h⟩
  | global g => exact h.elim
  | func f => exact ⟨.one (.clo f []), ⟨[], rfl, rfl⟩, h⟩
theorem evsK_spec {sz : Nat} {ρ : Rho} {env : Env} {a : Act} (hE : EnvR sz ρ env a) : ∀ {l : List Operand} {K : List SV → Prop}, evsK env l K → ∃ vs, K vs ∧ Svs ρ vs (l.map a.eval)
  | [], K, h => ⟨[], h, rfl⟩
  | x :: r, K, h => by
    obtain ⟨v, hv, hk⟩ := evK_spec hE h
    cases v with
    | one b =>
      obtain ⟨vs, hK, hs⟩ := evsK_spec hE hk
      exact ⟨_, hK, _, _, rfl, hv, hs⟩
    | agg c =>
      obtain ⟨vs, hK, hs⟩ := evsK_spec hE hk
      exact ⟨_, hK, _, _, rfl, hv, hs⟩
    | tup c => exact hk.elim
theorem cellsK_spec {ρ : Rho} {v : SV} {x : Value} {K : List At → Prop} (hv : v.is ρ x) (h : cellsK v K) : ∃ l, K l ∧ Ats ρ l x.cells.toList ∧ ∀ u ∈ x.cells.toList, u.oneCell' = true := by
  cases v with
  | one a =>
    simp only [cellsK] at h
    cases hb : cellB a <;> simp only [hb] at h
    · have ho := one_of_cellB hb hv
      have e : x.cells = #[x] := by cases x <;> first | rfl | cases ho
      rw [e]
      exact ⟨[a], h, ⟨x, [], rfl, hv, rfl⟩, by simpa using ho⟩
  | agg l =>
    simp only [cellsK] at h
    cases hb : l.all cellB <;> simp only [hb] at h
    · obtain ⟨cs, hc, rfl⟩ := hv
      refine ⟨l, h, by simpa [Value.cells] using hc, fun u hu => ?_⟩
      obtain ⟨b, hb', hi⟩ := Ats.mem hc (by simpa [Value.cells] using hu)
      exact one_of_cellB (List.all_eq_true.1 hb b hb') hi
  | tup l => exact h.elim
theorem TTok.get {P : Program} {t : Nat} {ty : Ty} : ∀ {T : TT}, TTok P T → fnd T t = some ty → tyOf P t = some ty
  | [], _, h => by cases h
  | (u, v) :: r, hT, h => by
    unfold fnd at h
    cases hb : Nat.beq u t <;> rw [hb] at h
    · exact TTok.get hT.2 h
    · have e : u = t := Nat.eq_of_beq_eq_true hb
      injection h with h
      rw [← e, ← h]; exact hT.1
theorem tyOf_spec {P : Program} {t : Nat} {ty : Ty} (h : tyOf P t = some ty) : ∃ i d z, P.info? t = some i ∧ P.underlying t = some d ∧ i.zero = some z ∧ ty = ⟨shOf P d, i.size, i.bytes, z.cells.toList, eqOf P t⟩ := by
  unfold tyOf at h
  cases hi : P.info? t with
  | none => rw [hi] at h; cases h
  | some i =>
    cases hd : P.underlying t with
    | none => rw [hi, hd] at h; cases h
    | some d =>
      cases hz : i.zero with
      | none => simp [hi, hd, hz] at h
      | some z => simp [hi, hd, hz] at h; exact ⟨i, d, z, rfl, rfl, hz, h.symm⟩
theorem sh_st {P : Program} {d : TypeDesc} {fs : List (Nat × Nat × Nat)} (h : shOf P d = .st fs) : ∃ fields, d = .struct fields ∧ (fields.toList.all fun f => (P.info? f.type).isSome) = true ∧ fs = fields.toList.map fun f => (f.offset, sizeT P f.type, aggT P f.type) := by
  cases d <;> simp only [shOf] at h <;> try (cases h; done)
  rename_i fields
  cases ha : fields.toList.all (fun f => (P.info? f.type).isSome) <;> simp only [ha] at h
  · cases h
  · injection h with h
    exact ⟨_, rfl, ha, h.symm⟩
theorem sh_sl {P : Program} {d : TypeDesc} {e : Nat} (h : shOf P d = .sl e) : d = .slice e := by
  cases d <;> simp only [shOf] at h <;> try (cases h; done)
  · injection h with h; rw [h]
  · split at h <;> cases h
theorem sh_arr {P : Program} {d : TypeDesc} {n e : Nat} (h : shOf P d = .arr n e) : d = .array n e := by
  cases d <;> simp only [shOf] at h <;> try (cases h; done)
  · injection h with h h'; rw [h, h']
  · split at h <;> cases h
theorem sh_fn {P : Program} {d : TypeDesc} (h : shOf P d = .fn) : ∃ a b c, d = .func a b c := by
  cases d <;> simp only [shOf] at h <;> try (cases h; done)
  all_goals first
    | exact ⟨_, _, _, rfl⟩
    | (split at h <;> cases h)
theorem sh_int {P : Program} {d : TypeDesc} {k : IntKind} (h : shOf P d = .int k) : d = .int k := by
  cases d <;> simp only [shOf] at h <;> try (cases h; done)
  · injection h with h; rw [h]
  · split at h <;> cases h
theorem sh_bool {P : Program} {d : TypeDesc} (h : shOf P d = .bool) : d = .bool := by
  cases d <;> simp only [shOf] at h <;> try (cases h; done)
  · rfl
  · split at h <;> cases h
theorem boolP_spec {ρ : Rho} {a : At} {p : Prop} {x : Value} (h : boolP a = some p) (hv : a.is ρ x) : ∃ b, x = .bool b ∧ (b = true ↔ p) := by
  cases a with
  | tf b => injection h with h; subst h; exact ⟨b, hv, Iff.rfl⟩
  | prop q => injection h with h; subst h; exact hv
  | val v => cases v <;> try (cases h; done)
             rename_i b; injection h with h; subst h; exact ⟨b, hv, Iff.rfl⟩
  | _ => cases h
theorem sh_str {P : Program} {d : TypeDesc} (h : shOf P d = .str) : d = .string := by
  cases d <;> simp only [shOf] at h <;> try (cases h; done)
  · rfl
  · split at h <;> cases h
theorem sh_row {P : Program} {d : TypeDesc} : (isRow (shOf P d) = 2 → d.isRow = true) ∧ (isRow (shOf P d) = 1 → d.isRow = false) := by
  cases d <;> first | exact ⟨fun _ => rfl, fun h => (by cases h)⟩ | exact ⟨fun h => (by cases h), fun _ => rfl⟩ | skip
  rename_i fs
  simp only [shOf]
  split
  · exact ⟨fun _ => trivial, fun h => (by cases h)⟩
  · exact ⟨fun _ => trivial, fun h => (by cases h)⟩
theorem run_isAgg {P : Program} {t : Nat} {d : TypeDesc} (hu : P.underlying t = some d) (w : World) : (isAgg t).run P w = .ok d.isRow w := by
  unfold isAgg
  rw [Sem.run_bind, run_underlying hu w]
  cases d <;> rfl
theorem run_size {P : Program} {t : Nat} {i : TypeInfo} (hi : P.info? t = some i) (w : World) : (sizeOf t).run P w = .ok i.size w := by
  simp [sizeOf, typeInfo, hi]
def Lies (w : World) (a : Addr) (cs : List Value) : Prop := ∀ j u, cs[j]? = some u → w.cell? (a.add j) = some u
theorem Lies.cut {w : World} {a : Addr} {cs : List Value} (h : Lies w a cs) (j s : Nat) : Lies w (a.add j) ((cs.drop j).take s) := by
  intro i u hu
  rw [add_of_add]
  rw [List.getElem?_take] at hu
  split at hu
  · rw [List.getElem?_drop] at hu; exact h _ _ hu
  · cases hu
theorem loadK_spec {P : Program} {ρ : Rho} {t : Nat} {ty : Ty} (ht : tyOf P t = some ty) {l : List At} {cs : List Value} (hl : Ats ρ l cs) {j : Nat} {K : SV → Prop} (h : loadK ty l j K) :
    ∃ v x, v.is ρ x ∧ K v ∧ ∀ w a, Lies w a cs → (loadVar t (a.add j)).run P w = .ok x w := by
  obtain ⟨i, d, z, hi, hd, _, rfl⟩ := tyOf_spec ht
  unfold loadK at h
  split at h
  rotate_left
  · rename_i hr
    obtain ⟨b, e, hK⟩ := nthK_spec h
    obtain ⟨u, eu, hu⟩ := hl.nth e
    refine ⟨.one b, u, hu, hK, fun w a hw => ?_⟩
    unfold loadVar
    rw [Sem.run_bind, run_isAgg hd w, sh_row.2 hr]
    simp [hw j u eu]
  · exact h.elim
  · rename_i hr
    obtain ⟨_, h2, hK⟩ := cutK_spec h
    refine ⟨.agg ((l.drop j).take i.size), .agg ((cs.drop j).take i.size).toArray, ⟨_, (hl.drop j).take i.size, rfl⟩, hK, fun w a hw => ?_⟩
    have hlen : ((cs.drop j).take i.size).length = i.size := by
      rw [Ats.length ((hl.drop j).take i.size)]; exact h2
    have := run_loadCells_list (P := P) w (a.add j) ((cs.drop j).take i.size) (hw.cut j i.size)
    rw [hlen] at this
    unfold loadVar
    rw [Sem.run_bind, run_isAgg hd w, sh_row.1 hr]
    simp [run_size hi w, this]
theorem base_ptr {ρ : Rho} {i : Nat} {a : Addr} (h : ρ i = some (.pointer (some a))) : base ρ i = some a := by unfold base; rw [h]
theorem base_sl {ρ : Rho} {i n c : Nat} {a : Addr} (h : ρ i = some (.slice (some a) n c)) : base ρ i = some a := by unfold base; rw [h]
theorem flat_get {get : Nat → List Value} {s : Nat} : ∀ {n k j : Nat} {u : Value}, (∀ k, k < n → (get k).length = s) → k < n → (get k)[j]? = some u → (flat get n)[k * s + j]? = some u := by
  intro n
  induction n with
  | zero => intro k j u _ h; omega
  | succ n ih =>
    intro k j u hs hk hu
    have hlen : ∀ m, m ≤ n + 1 → (flat get m).length = m * s := by
      intro m
      induction m with
      | zero => intro _; simp [flat]
      | succ m ihm =>
        intro hm
        have e : flat get (m + 1) = flat get m ++ get m := by unfold flat; rw [List.range_succ, List.flatMap_append]; simp
        rw [e, List.length_append, ihm (by omega), hs m (by omega), Nat.add_mul, Nat.one_mul]
    have e : flat get (n + 1) = flat get n ++ get n := by unfold flat; rw [List.range_succ, List.flatMap_append]; simp
    have hj : j < s := by
      have := (List.getElem?_eq_some_iff.1 hu).1
      rw [hs k hk] at this; exact this
    rw [e]
    by_cases hkn : k < n
    · rw [List.getElem?_append_left (by
        rw [hlen n (by omega)]
        have : (k + 1) * s ≤ n * s := Nat.mul_le_mul_right _ (by omega)
        rw [Nat.add_mul] at this; omega)]
      exact ih (fun k hk => hs k (by omega)) hkn hu
    · have : k = n := by omega
      subst this
      rw [List.getElem?_append_right (by rw [hlen k (by omega)]; omega), hlen k (by omega)]
      rw [show k * s + j - k * s = j by omega]; exact hu
theorem sat_box {B : Nat} {ρ : Rho} {w : World} {i : Nat} {t : TypeId} {l : List At} (h : Sat B ρ w i (.box t l)) : ∃ a cs, base ρ i = some a ∧ Ats ρ l cs ∧ Lies w a cs := by
  obtain ⟨b, cs, e, _, hl, hh⟩ := h
  refine ⟨⟨b, 0, none⟩, cs, base_ptr e, hl, fun j u hu => ?_⟩
  rw [show (⟨b, 0, none⟩ : Addr).add j = ⟨b, j, none⟩ by unfold Addr.add; split <;> simp_all, cell_of_row w b j cs.toArray t (0, 0) hh]
  simpa using hu
theorem sat_cel {B : Nat} {ρ : Rho} {w : World} {i : Nat} {l : List At} (h : Sat B ρ w i (.cel l)) : ∃ a cs, base ρ i = some a ∧ Ats ρ l cs ∧ Lies w a cs := by
  obtain ⟨v, cs, e, hl, a, rfl, _, hh⟩ := h
  exact ⟨a, cs, base_ptr e, hl, hh⟩
theorem sat_arr {B : Nat} {ρ : Rho} {w : World} {i s n k : Nat} {get : Nat → List Value} (h : Sat B ρ w i (.arr s n get)) (hk : k < n) : ∃ a, base ρ i = some a ∧ Lies w (a.add (k * s)) (get k) := by
  obtain ⟨v, e, A, c, rfl, _, _, hh⟩ := h
  obtain ⟨a, rfl, _, _, hc⟩ := hh k hk
  refine ⟨a, base_sl e, fun j u hu => ?_⟩
  rw [add_of_add]; exact hc j u hu
theorem ArrB.arr {B : Nat} {w : World} {v : Value} {s n : Nat} {get : Nat → List Value} (h : ArrB B w v s n get) (hB : B ≤ w.heap.size) : ArrIs w v s n get := by
  obtain ⟨A, c, e, h1, h2, hh⟩ := h
  exact ⟨A, c, e, h1, h2, fun k hk => let ⟨a, q1, q2, q3⟩ := hh k hk; ⟨a, q1, Nat.lt_of_lt_of_le q2 hB, q3⟩⟩
theorem sat_dee {B : Nat} {ρ : Rho} {w : World} {i s n : Nat} {vs : Nat → List Value} {xs : Nat → List (Option (Nat × Nat × (Nat → List Value)))} (h : Sat B ρ w i (.dee s n vs xs)) (hB : B ≤ w.heap.size) : Sat B ρ w i (.arr s n vs) := by
  obtain ⟨v, e, q, _⟩ := h
  exact ⟨v, e, q.arr hB⟩
theorem nthK_of {α : Type} : ∀ {l : List α} {j : Nat} {x : α} {K : α → Prop}, l[j]? = some x → K x → nthK l j K
  | [], _, _, _, h, _ => by simp at h
  | y :: _, 0, x, K, h, k => by
    have e : y = x := by simpa using h
    subst e; exact k
  | _ :: l, j + 1, x, K, h, k => nthK_of (l := l) (j := j) (by simpa using h) k
theorem RowIs.lies {B : Nat} {w : World} {v : Value} {t s n k : Nat} {get : Nat → List Value} (h : RowIs B w v t s n get) (hk : k < n) : ∃ g c, v = .slice (some ⟨g, 0, none⟩) n c ∧ g < w.heap.size ∧ B ≤ g ∧ Lies w ((⟨g, 0, none⟩ : Addr).add (k * s)) (get k) := by
  obtain ⟨A, c, rfl, _, hs, hh⟩ := h
  rcases hh with ⟨h0, _⟩ | ⟨g, cur, rfl, hB, hg, hnc, _, _, hcs, htake⟩
  · omega
  · refine ⟨g, c, rfl, (Array.getElem?_eq_some_iff.1 hg).1, hB, fun j u hu => ?_⟩
    rw [add_of_add, show (⟨g, 0, none⟩ : Addr).add (k * s + j) = ⟨g, k * s + j, none⟩ by unfold Addr.add; split <;> simp_all, cell_of_row w g _ cur t (0, 0) hg]
    have := flat_get hs hk hu
    rw [← htake, List.getElem?_take] at this
    split at this
    · simpa using this
    · cases this
theorem RowIs.arr {B : Nat} {w : World} {v : Value} {t s n : Nat} {get : Nat → List Value} (h : RowIs B w v t s n get) : ArrIs w v s n get := by
  have h0 := h
  obtain ⟨A, c, rfl, hn, hs, hh⟩ := h
  refine ⟨A, c, rfl, hn, ?_, fun k hk => ?_⟩
  · rcases hh with ⟨a, b⟩ | ⟨g, cur, _, _, _, hnc, _⟩ <;> omega
  · obtain ⟨g, c', e, hlt, _, hl⟩ := h0.lies hk
    injection e with e1 e2 e3
    subst e1
    refine ⟨_, rfl, hlt, hs k hk, fun j u hu => ?_⟩
    have := hl j u hu
    rwa [add_of_add] at this
theorem sat_row {B : Nat} {ρ : Rho} {w : World} {i t s n k : Nat} {get : Nat → List Value} (h : Sat B ρ w i (.row t s n get)) (hk : k < n) : ∃ a, base ρ i = some a ∧ Lies w (a.add (k * s)) (get k) := by
  obtain ⟨v, e, hr⟩ := h
  obtain ⟨g, c, rfl, _, _, hl⟩ := hr.lies hk
  exact ⟨_, base_sl e, hl⟩
theorem lit_at {s : Nat} : ∀ {rows : List (List At)} {ρ : Rho} {cs : List Value} {k : Nat} {r : List At}, (∀ r ∈ rows, r.length = s) → Ats ρ rows.flatten cs → rows[k]? = some r → Ats ρ r ((cs.drop (k * s)).take s)
  | [], _, _, _, _, _, _, h => by simp at h
  | q :: rows, ρ, cs, 0, r, hs, hl, h => by
    have e : q = r := by simpa using h
    subst e
    have h1 := hl.take s
    have e2 : (List.flatten (q :: rows)).take s = q := by rw [List.flatten_cons, ← hs q (by simp)]; exact List.take_left
    rw [e2] at h1
    simpa using h1
  | q :: rows, ρ, cs, k + 1, r, hs, hl, h => by
    have h1 := hl.drop s
    have e2 : (List.flatten (q :: rows)).drop s = rows.flatten := by rw [List.flatten_cons, ← hs q (by simp)]; exact List.drop_left
    rw [e2] at h1
    have := lit_at (k := k) (r := r) (fun r hr => hs r (by simp [hr])) h1 (by simpa using h)
    rw [List.drop_drop] at this
    rw [show (k + 1) * s = s + k * s by rw [Nat.add_mul]; omega]
    exact this
theorem sat_lit {B : Nat} {ρ : Rho} {w : World} {i t s k : Nat} {rows : List (List At)} {r : List At} (h : Sat B ρ w i (.lit t s rows)) (hk : rows[k]? = some r) : ∃ a cs, base ρ i = some a ∧ Ats ρ r cs ∧ Lies w (a.add (k * s)) cs := by
  obtain ⟨b, cs, e, _, hs, _, hl, hh⟩ := h
  refine ⟨⟨b, 0, none⟩, _, base_sl e, lit_at hs hl hk, ?_⟩
  have : Lies w ⟨b, 0, none⟩ cs := fun j u hu => by
    rw [show (⟨b, 0, none⟩ : Addr).add j = ⟨b, j, none⟩ by unfold Addr.add; split <;> simp_all, cell_of_row w b j cs.toArray t (0, 0) hh]
    simpa using hu
  exact this.cut _ _
theorem sat_len {B : Nat} {ρ : Rho} {w : World} {i s n : Nat} {get : Nat → List Value} {x : Value} (h : Sat B ρ w i (.arr s n get)) (hx : ρ i = some x) : ∃ A c, x = .slice A n c := by
  obtain ⟨v, e, A, c, rfl, _⟩ := h
  rw [hx] at e; injection e with e
  exact ⟨A, c, e⟩
theorem sat_len_row {B : Nat} {ρ : Rho} {w : World} {i t s n : Nat} {get : Nat → List Value} {x : Value} (h : Sat B ρ w i (.row t s n get)) (hx : ρ i = some x) : ∃ A c, x = .slice A n c := by
  obtain ⟨v, e, A, c, rfl, _⟩ := h
  rw [hx] at e; injection e with e
  exact ⟨A, c, e⟩
theorem sat_len_lit {B : Nat} {ρ : Rho} {w : World} {i t s : Nat} {rows : List (List At)} {x : Value} (h : Sat B ρ w i (.lit t s rows)) (hx : ρ i = some x) : ∃ A c, x = .slice A rows.length c := by
  obtain ⟨b, cs, e, _⟩ := h
  rw [hx] at e; injection e with e
  exact ⟨_, _, e⟩
end Go.Proofs.YtlbffibpcjjpkaaDoor.V

namespace Go.Proofs.YtlbffibpcjjpkaaDoor.V
open Go Go.RowKit
def laid {α : Type} (l : List α) (j : Nat) (ys : List α) : List α := l.take j ++ ys ++ l.drop (j + ys.length)
theorem layK_spec {α : Type} : ∀ {l : List α} {j : Nat} {ys : List α} {K : List α → Prop}, layK l j ys K → j + ys.length ≤ l.length ∧ K (laid l j ys)
  | l, 0, [], K, h => by
    refine ⟨by simp, ?_⟩
    have e : laid l 0 [] = l := by simp [laid]
    rw [e]; unfold layK at h; exact h
  | [], 0, _ :: _, _, h => by cases h
  | [], _ + 1, _, _, h => by cases h
  | x :: r, 0, y :: ys, K, h => by
    obtain ⟨h1, h2⟩ := layK_spec (l := r) (j := 0) (ys := ys) (K := fun l => K (y :: l)) h
    refine ⟨by simp at h1 ⊢; omega, ?_⟩
    simpa [laid, Nat.add_comm] using h2
  | x :: r, j + 1, ys, K, h => by
    obtain ⟨h1, h2⟩ := layK_spec (l := r) (j := j) (ys := ys) (K := fun l => K (x :: l)) (by unfold layK at h; exact h)
    refine ⟨by simp; omega, ?_⟩
    have e : j + 1 + ys.length = (j + ys.length) + 1 := by omega
    simpa [laid, e] using h2
theorem Ats.laid {ρ : Rho} {l m : List At} {x y : List Value} (h : Ats ρ l x) (k : Ats ρ m y) (j : Nat) : Ats ρ (laid l j m) (laid x j y) := by
  unfold V.laid
  rw [k.length]
  exact ((h.take j).append k).append (h.drop _)
theorem laid_cons {α : Type} {l : List α} {j : Nat} {y : α} {ys : List α} (h : j < l.length) : laid l j (y :: ys) = laid (l.set j y) (j + 1) ys := by
  unfold laid
  have e1 : (l.set j y).take (j + 1) = l.take j ++ [y] := by
    rw [List.take_set, List.take_succ_eq_append_getElem h, List.set_append_right _ _ (by simp; omega)]
    simp [List.length_take, Nat.min_eq_left (Nat.le_of_lt h)]
  have e2 : (l.set j y).drop (j + 1 + ys.length) = l.drop (j + (ys.length + 1)) := by
    rw [List.drop_set_of_lt (by omega)]; congr 1; omega
  rw [e1, e2]
  simp
theorem foldl_laid (off : Nat) : ∀ (ys : List Value) (k : Nat) (cs : Array Value), off + k + ys.length ≤ cs.size →
    (ys.zipIdx k).foldl (fun (cs : Array Value) (p : Value × Nat) => cs.setIfInBounds (off + p.2) p.1) cs = (laid cs.toList (off + k) ys).toArray
  | [], k, cs, h => by simp [laid]
  | y :: ys, k, cs, h => by
    simp only [List.length_cons] at h
    rw [List.zipIdx_cons, List.foldl_cons, foldl_laid off ys (k + 1) _ (by simp; omega), laid_cons (by simp; omega)]
    simp [Nat.add_assoc]
theorem kEq_eq {k k' : IntKind} (h : kEq k k' = true) : k = k' := by cases k <;> cases k' <;> first | rfl | cases h
theorem intK_spec {P : Program} {ρ : Rho} {op : BinOp} {k : IntKind} {x y : Int} {K : SV → Prop} (hs : op ≠ .shl ∧ op ≠ .shr) (h : intK op k x y K) :
    ∃ r z, r.is ρ z ∧ K r ∧ ∀ t w, (binOp op t (.int k x) (.int k y)).run P w = .ok z w := by
  cases op <;> simp only [intK] at h
  case add => exact ⟨.one (.val _), _, rfl, h.h, fun t w => by simp [binOp, Op.intArith]⟩
  case sub => exact ⟨.one (.val _), _, rfl, h.h, fun t w => by simp [binOp, Op.intArith]⟩
  case mul => exact ⟨.one (.val _), _, rfl, h.h, fun t w => by simp [binOp, Op.intArith]⟩
  case quo => exact ⟨.one (.val _), _, rfl, h.h, fun t w => by simp [binOp, Op.intDiv, h.ne]⟩
  case rem => exact ⟨.one (.val _), _, rfl, h.h, fun t w => by simp [binOp, Op.intDiv, h.ne]⟩
  case and => exact ⟨.one (.val _), _, rfl, h.h _ (fun P w => rfl), fun t w => by simp only [binOp]; rw [if_neg (by simp)]; rfl⟩
  case or => exact ⟨.one (.val _), _, rfl, h.h _ (fun P w => rfl), fun t w => by simp only [binOp]; rw [if_neg (by simp)]; rfl⟩
  case xor => exact ⟨.one (.val _), _, rfl, h.h _ (fun P w => rfl), fun t w => by simp only [binOp]; rw [if_neg (by simp)]; rfl⟩
  case andNot => exact ⟨.one (.val _), _, rfl, h.h _ (fun P w => rfl), fun t w => by simp only [binOp]; rw [if_neg (by simp)]; rfl⟩
  case eql => exact ⟨.one (.prop _), _, ⟨x == y, rfl, by simp⟩, h, fun t w => by simp [binOp, Op.intCmp]⟩
  case neq => exact ⟨.one (.prop _), _, ⟨x != y, rfl, by simp⟩, h, fun t w => by simp [binOp, Op.intCmp]⟩
  case lss => exact ⟨.one (.prop _), _, ⟨decide (x < y), rfl, by simp⟩, h, fun t w => by simp [binOp, Op.intCmp]⟩
  case leq => exact ⟨.one (.prop _), _, ⟨decide (x ≤ y), rfl, by simp⟩, h, fun t w => by simp [binOp, Op.intCmp]⟩
  case gtr => exact ⟨.one (.prop _), _, ⟨decide (x > y), rfl, by simp⟩, h, fun t w => by simp [binOp, Op.intCmp]⟩
  case geq => exact ⟨.one (.prop _), _, ⟨decide (x ≥ y), rfl, by simp⟩, h, fun t w => by simp [binOp, Op.intCmp]⟩
theorem guard_int {P : Program} {op : BinOp} {t : TypeId} {x y : Operand} {k k' : IntKind} {a b : Int} {w : World} : (eqGuard op t x y (.int k a) (.int k' b)).run P w = .ok () w := by
  unfold eqGuard; split <;> rfl
theorem guard_str {P : Program} {op : BinOp} {t : TypeId} {x y : Operand} {a b : ByteArray} {w : World} : (eqGuard op t x y (.string a) (.string b)).run P w = .ok () w := by
  unfold eqGuard; split <;> rfl
theorem binK_spec {P : Program} {ρ : Rho} {op : BinOp} {v u : SV} {x y : Value} {K : SV → Prop} (hv : v.is ρ x) (hu : u.is ρ y) (h : binK op v u K) :
    ∃ r z, r.is ρ z ∧ K r ∧ ∀ t (ox oy : Operand) w, (eqGuard op t ox oy x y).run P w = .ok () w ∧ (binOp op t x y).run P w = .ok z w := by
  unfold binK at h
  split at h
  · rename_i K' k a k' b
    have e1 : x = .int k a := hv
    have e2 : y = .int k' b := hu
    subst e1 e2
    split at h
    · exact ⟨.one (.val _), _, rfl, h.h, fun t ox oy w => ⟨guard_int, by have := h.ge; simp [binOp, Op.shift]; omega⟩⟩
    · exact ⟨.one (.val _), _, rfl, h.h, fun t ox oy w => ⟨guard_int, by have := h.ge; simp [binOp, Op.shift]; omega⟩⟩
    · rename_i ne1 ne2
      cases hk : kEq k k' <;> simp only [hk] at h
      have := kEq_eq hk
      subst this
      obtain ⟨r, z, h1, h2, h3⟩ := intK_spec (P := P) (ρ := ρ) ⟨fun e => ne1 e, fun e => ne2 e⟩ h
      exact ⟨r, z, h1, h2, fun t ox oy w => ⟨guard_int, h3 t w⟩⟩
  · rename_i K' a b
    have e1 : x = .string a := hv
    have e2 : y = .string b := hu
    subst e1 e2
    split at h
    · exact ⟨.one (.prop _), _, ⟨a.toList == b.toList, rfl, by simp⟩, h, fun t ox oy w => ⟨guard_str, by simp [binOp, Op.stringOp]⟩⟩
    · exact ⟨.one (.prop _), _, ⟨a.toList != b.toList, rfl, by simp⟩, h, fun t ox oy w => ⟨guard_str, by simp [binOp, Op.stringOp, bne]⟩⟩
    · exact ⟨.one (.val _), _, rfl, h.h, fun t ox oy w => ⟨guard_str, by have := h.le; simp [binOp, Op.stringOp]; omega⟩⟩
    · exact h.elim
  · exact h.elim
theorem unK_spec {P : Program} {ρ : Rho} {op : UnOp} {v : SV} {x : Value} {K : SV → Prop} (hv : v.is ρ x) (h : unK op v K) : ∃ r z, r.is ρ z ∧ K r ∧ ∀ w, (Op.unary op x).run P w = .ok z w := by
  unfold unK at h
  split at h
  · rename_i b
    have e : x = .bool b := hv
    subst e
    split at h
    · exact ⟨.one (.tf _), _, rfl, h, fun w => by simp [Op.unary]⟩
    · exact h.elim
  · rename_i p
    obtain ⟨b, rfl, hb⟩ := hv
    split at h
    · exact ⟨.one (.prop _), _, ⟨!b, rfl, by rw [← hb]; simp⟩, h, fun w => by simp [Op.unary]⟩
    · exact h.elim
  · rename_i b
    have e : x = .bool b := hv
    subst e
    split at h
    · exact ⟨.one (.prop _), _, ⟨!b, rfl, by simp⟩, h, fun w => by simp [Op.unary]⟩
    · exact h.elim
  · rename_i k a
    have e : x = .int k a := hv
    subst e
    split at h
    · exact ⟨.one (.val _), _, rfl, h.h, fun w => by simp [Op.unary, Op.intArith]⟩
    · exact ⟨.one (.val _), _, rfl, h.h _ (fun P w => rfl), fun w => rfl⟩
    · exact h.elim
  · exact h.elim
theorem run_val {P : Program} {w : World} {s : Sem Value} {x : Value} (h : s.run P w = .ok x w) : (do pure (Next.value (← s)) : Sem Next).run P w = .ok (.value x) w := by
  simp [Sem.run_bind, h]
theorem fillK_spec {P : Program} {sz : Nat} {ρ : Rho} {env : Env} {a : Act} (hE : EnvR sz ρ env a) {fields : List Field} : ∀ {parts : List (Nat × Operand)} {l : List At} {cs : List Value} {K : List At → Prop},
    Ats ρ l cs → fillK env (fields.map fun f => (f.offset, sizeT P f.type, aggT P f.type)) parts l K →
    ∃ l' cs', K l' ∧ Ats ρ l' cs' ∧ Instr.fill (fun i => (fields[i]?).map fun f => (f.offset, sizeT P f.type)) cs.toArray (parts.map fun p => (p.1, a.eval p.2)) = some cs'.toArray
  | [], l, cs, K, hl, h => ⟨l, cs, h, hl, rfl⟩
  | (i, x) :: r, l, cs, K, hl, h => by
    unfold fillK at h
    obtain ⟨f, ef, h⟩ := nthK_spec h
    obtain ⟨v, hv, h⟩ := evK_spec hE h
    obtain ⟨c, h, hc, hone⟩ := cellsK_spec hv h
    cases hb : Nat.beq c.length f.2.1 <;> simp only [hb] at h
    have hlen : c.length = f.2.1 := Nat.eq_of_beq_eq_true hb
    obtain ⟨hle, h⟩ := layK_spec h
    obtain ⟨l', cs', hK, hl', hf⟩ := fillK_spec hE (hl.laid hc f.1) h
    refine ⟨l', cs', hK, hl', ?_⟩
    rw [List.getElem?_map] at ef
    obtain ⟨fd, efd, rfl⟩ := Option.map_eq_some_iff.1 ef
    have hsz : (a.eval x).cells.size = sizeT P fd.type := by
      have := hc.length
      rw [hlen] at this
      simpa using this
    have hle' : fd.offset + (a.eval x).cells.size ≤ cs.length := by
      have h1 := hc.length
      have h2 := hl.length
      simp only [Array.length_toList] at h1
      simp only at hle
      omega
    rw [List.map_cons, Instr.fill]
    simp only [efd, Option.map_some]
    rw [if_neg (by simp [hsz]; omega)]
    have e : (a.eval x).cells.zipIdx.foldl (fun (cs : Array Value) (p : Value × Nat) => cs.setIfInBounds (fd.offset + p.2) p.1) cs.toArray = (laid cs fd.offset (a.eval x).cells.toList).toArray := by
      rw [← Array.foldl_toList, Array.toList_zipIdx]
      have := foldl_laid fd.offset (a.eval x).cells.toList 0 cs.toArray (by simp; omega)
      simpa using this
    have e2 : (a.eval x).cells.zipIdx.foldl (fun (cs : Array Value) (x : Value × Nat) => match x with | (c, j) => cs.setIfInBounds (fd.offset + j) c) cs.toArray = (laid cs fd.offset (a.eval x).cells.toList).toArray := e
    rw [e2]
    exact hf
theorem capsK_spec {sz : Nat} {ρ : Rho} {env : Env} {a : Act} (hE : EnvR sz ρ env a) : ∀ {l : List Operand} {K : List Nat → Prop}, capsK env l K → ∃ is_, K is_ ∧ CapsAre ρ is_ (l.map a.eval)
  | [], K, h => ⟨[], h, rfl⟩
  | x :: r, K, h => by
    unfold capsK at h
    obtain ⟨v, hv, h⟩ := evK_spec hE h
    split at h
    · rename_i v i
      obtain ⟨is_, hK, hr⟩ := capsK_spec hE h
      obtain ⟨b, hb, e⟩ := hv
      refine ⟨i :: is_, hK, b, _, hb, ?_, hr⟩
      rw [List.map_cons, e]
      simp [Addr.add]
    · exact h.elim
end Go.Proofs.YtlbffibpcjjpkaaDoor.V

namespace Go.Proofs.YtlbffibpcjjpkaaDoor.V
open Go Go.RowKit
theorem fnd_ty {P : Program} {T : TT} (hT : TTok P T) {t : Nat} {K : Ty → Prop} (h : fndK T t K) : ∃ ty i d z, tyOf P t = some ty ∧ P.info? t = some i ∧ P.underlying t = some d ∧ i.zero = some z ∧ ty = ⟨shOf P d, i.size, i.bytes, z.cells.toList, eqOf P t⟩ ∧ K ty := by
  obtain ⟨ty, e, hK⟩ := fndK_spec h
  have h1 := hT.get e
  obtain ⟨i, d, z, a, b, c, e2⟩ := tyOf_spec h1
  exact ⟨ty, i, d, z, h1, a, b, c, e2, hK⟩
theorem run_fieldAt {P : Program} {t : Nat} {fields : Array Field} {fd : Field} {f : Nat} (hu : P.underlying t = some (.struct fields)) (hf : fields[f]? = some fd) (hz : sizeT P fd.type ≠ 0) (a : Addr) (w : World) :
    (Instr.fieldAt t (.pointer (some a)) f).run P w = .ok (.pointer (some (a.add fd.offset))) w := by
  unfold sizeT at hz
  cases hi : P.info? fd.type with
  | none => rw [hi] at hz; exact absurd rfl hz
  | some i =>
    rw [hi] at hz
    simp only at hz
    simp [Instr.fieldAt, run_underlying hu, hf, Instr.sureAddr, fieldPlace, run_size hi, hz]
theorem run_part {P : Program} {t : Nat} {w : World} {cs : Array Value} {off : Nat} :
    (aggT P t = 2 → (part t cs off).run P w = .ok (.agg (cs.extract off (off + sizeT P t))) w) ∧ (aggT P t = 1 → ∀ v, cs[off]? = some v → (part t cs off).run P w = .ok v w) := by
  constructor
  · intro h
    unfold aggT at h
    split at h <;> first | cases h | skip
    all_goals
      rename_i hu
      unfold sizeT
      cases hi : P.info? t with
      | none => unfold Program.underlying at hu; rw [hi] at hu; cases hu
      | some i => simp [part, run_isAgg hu, TypeDesc.isRow, run_size hi]
  · intro h v hv
    unfold aggT at h
    split at h <;> first | cases h | skip
    rename_i d h1 h2 hd
    have hr : d.isRow = false := by
      cases d <;> first | rfl | exact absurd rfl (h1 _) | exact absurd rfl (h2 _ _)
    simp [part, run_isAgg hd, hr, hv]
theorem mapM_places {P : Program} : ∀ {fs : List Field}, (fs.all fun f => (P.info? f.type).isSome) = true → fs.mapM (fun f => (P.info? f.type).map fun i => (f.offset, i.size)) = some (fs.map fun f => (f.offset, sizeT P f.type))
  | [], _ => rfl
  | f :: r, h => by
    simp only [List.all_cons, Bool.and_eq_true] at h
    obtain ⟨i, hi⟩ := Option.isSome_iff_exists.1 h.1
    simp [List.mapM_cons, hi, mapM_places h.2, sizeT]
theorem valsTo_ats (ρ : Rho) (vs : Nat → Value) : ∀ k n, Ats ρ (valsTo vs k n) ((List.range n).map fun q => vs (k + q))
  | _, 0 => rfl
  | k, n + 1 => by
    rw [List.range_succ_eq_map, List.map_cons, List.map_map]
    refine ⟨vs (k + 0), _, rfl, rfl, ?_⟩
    have := valsTo_ats ρ vs (k + 1) n
    have e : (List.range n).map (fun q => vs (k + 1 + q)) = (List.range n).map ((fun q => vs (k + q)) ∘ Nat.succ) := by
      refine List.map_congr_left fun q _ => ?_
      show vs (k + 1 + q) = vs (k + (q + 1))
      rw [show k + 1 + q = k + (q + 1) by omega]
    rw [e] at this
    exact this
theorem valsTo_cut {vs : Nat → Value} {K : SV → Prop} : ∀ {k n : Nat} {K' : List At → Prop}, K' (valsTo vs k n) → cutK (valsTo vs k n) 0 n K'
  | _, 0, _, h => h
  | k, n + 1, K', h => by
    unfold valsTo cutK
    exact valsTo_cut (K := K) (K' := fun l => K' (.val (vs k) :: l)) h
theorem cut_all {α : Type} : ∀ {l : List α} {n : Nat} {K : List α → Prop}, l.length = n → K l → cutK l 0 n K
  | [], 0, _, _, h => h
  | [], _ + 1, _, e, _ => by simp at e
  | _ :: _, 0, _, e, _ => by simp at e
  | x :: r, n + 1, K, e, h => by
    unfold cutK
    exact cut_all (l := r) (K := fun l => K (x :: l)) (by simpa using e) h
theorem flat1_len {get : Nat → List Value} {n : Nat} (h : ∀ k, k < n → (get k).length = 1) : ∀ m, m ≤ n → (flat get m).length = m := fun m => by
  induction m with
  | zero => intro _; rfl
  | succ m ih =>
    intro hm
    have e : flat get (m + 1) = flat get m ++ get m := by unfold flat; rw [List.range_succ, List.flatMap_append]; simp
    rw [e, List.length_append, ih (by omega), h m (by omega)]
theorem flat1_at {get : Nat → List Value} {n : Nat} (h : ∀ k, k < n → (get k).length = 1) : ∀ m, m ≤ n → ∀ q, q < m → (flat get m)[q]? = (get q)[0]? := fun m => by
  induction m with
  | zero => intro _ q hq; omega
  | succ m ih =>
    intro hm q hq
    have e : flat get (m + 1) = flat get m ++ get m := by unfold flat; rw [List.range_succ, List.flatMap_append]; simp
    have l := flat1_len h m (by omega)
    rw [e]
    by_cases c : q < m
    · rw [List.getElem?_append_left (by omega)]; exact ih (by omega) q c
    · obtain rfl : q = m := by omega
      rw [List.getElem?_append_right (by omega), l, Nat.sub_self]
theorem load_spec {P : Program} {ρ : Rho} {B nx : Nat} {obs : Obs} {w0 : World} (hC : Cls B ρ obs nx w0) {i k j s : Nat} {ob : Ob} (ho : fnd obs i = some ob) {t : Nat} {ty : Ty} (ht : tyOf P t = some ty) {K : SV → Prop}
    (h : elemK obs ty k j s K ob) :
    ∃ v x, v.is ρ x ∧ K v ∧ ∀ w, Cls B ρ obs nx w → ∀ a, base ρ i = some a → (loadVar t (a.add (k * s + j))).run P w = .ok x w := by
  have hs0 := hC.sat i ob ho
  cases ob with
  | box t' l =>
    cases k with
    | succ k => exact h.elim
    | zero =>
      obtain ⟨a0, cs, hb, hl, _⟩ := sat_box hs0
      obtain ⟨v, x, h1, h2, h3⟩ := loadK_spec ht hl h
      refine ⟨v, x, h1, h2, fun w hw a ha => ?_⟩
      obtain ⟨a1, cs1, hb1, hl1, hw1⟩ := sat_box (hw.sat i _ ho)
      rw [ha] at hb1; injection hb1 with hb1; subst hb1
      rw [Ats.fun_ hl1 hl] at hw1
      have := h3 w a hw1
      simpa using this
  | cel l =>
    cases k with
    | succ k => exact h.elim
    | zero =>
      obtain ⟨a0, cs, hb, hl, _⟩ := sat_cel hs0
      obtain ⟨v, x, h1, h2, h3⟩ := loadK_spec ht hl h
      refine ⟨v, x, h1, h2, fun w hw a ha => ?_⟩
      obtain ⟨a1, cs1, hb1, hl1, hw1⟩ := sat_cel (hw.sat i _ ho)
      rw [ha] at hb1; injection hb1 with hb1; subst hb1
      rw [Ats.fun_ hl1 hl] at hw1
      have := h3 w a hw1
      simpa using this
  | lit t' s' rows =>
    simp only [elemK] at h
    cases hb : Nat.beq s s' <;> simp only [hb] at h
    have e : s = s' := Nat.eq_of_beq_eq_true hb
    subst e
    obtain ⟨r, hr, h⟩ := nthK_spec h
    obtain ⟨a0, cs, hb0, hl, _⟩ := sat_lit hs0 hr
    obtain ⟨v, x, h1, h2, h3⟩ := loadK_spec ht hl h
    refine ⟨v, x, h1, h2, fun w hw a ha => ?_⟩
    obtain ⟨a1, cs1, hb1, hl1, hw1⟩ := sat_lit (hw.sat i _ ho) hr
    rw [ha] at hb1; injection hb1 with hb1; subst hb1
    rw [Ats.fun_ hl1 hl] at hw1
    rw [← add_of_add]
    exact h3 w _ hw1
  | arr s' n get =>
    simp only [elemK] at h
    cases hb : Nat.beq s s' <;> simp only [hb] at h
    have e : s = s' := Nat.eq_of_beq_eq_true hb
    subst e
    obtain ⟨v, x, h1, h2, h3⟩ := loadK_spec ht (Ats.vals ρ (get k)) h.h
    refine ⟨v, x, h1, h2, fun w hw a ha => ?_⟩
    obtain ⟨a1, hb1, hw1⟩ := sat_arr (hw.sat i _ ho) h.lt
    rw [ha] at hb1; injection hb1 with hb1; subst hb1
    rw [← add_of_add]
    exact h3 w _ hw1
  | row t' s' n get =>
    simp only [elemK] at h
    cases hb : Nat.beq s s' <;> simp only [hb] at h
    · split at h
      · rename_i m e' hsh
        split at h
        · rename_i b0 b1 b2 b3
          have e0 := Nat.eq_of_beq_eq_true b0
          have e1 := Nat.eq_of_beq_eq_true b1
          have e2 := Nat.eq_of_beq_eq_true b2
          have e3 := Nat.eq_of_beq_eq_true b3
          subst e0 e1 e2
          obtain ⟨v0, _, _, _, _, _, hl1, _⟩ := id hs0
          have h2 : loadK ty (vals (flat get n)) 0 (fun u => u = .agg (vals (flat get n))) := by
            unfold loadK
            rw [hsh]
            simp only [isRow]
            rw [e3]
            exact cut_all (by unfold vals; rw [List.length_map]; exact flat1_len hl1 n (Nat.le_refl _)) rfl
          obtain ⟨v, x, h1, rfl, h3⟩ := loadK_spec (ρ := ρ) (cs := flat get n) ht (Ats.vals ρ _) h2
          obtain ⟨cs, hcs, rfl⟩ := h1
          have ec : cs = flat get n := Ats.fun_ hcs (Ats.vals ρ _)
          subst ec
          refine ⟨.one (.val (.agg (flat get n).toArray)), .agg (flat get n).toArray, rfl, h, fun w hw a ha => ?_⟩
          have := h3 w a (fun q u hu => by
            rcases Nat.lt_or_ge q n with hq | hq
            · obtain ⟨a1, hb1, hw1⟩ := sat_row (hw.sat i _ ho) hq
              rw [ha] at hb1; injection hb1 with hb1; subst hb1
              rw [flat1_at hl1 n (Nat.le_refl _) q hq] at hu
              have := hw1 0 u hu
              rw [add_of_add] at this
              simpa using this
            · rw [List.getElem?_eq_none (by rw [flat1_len hl1 n (Nat.le_refl _)]; exact hq)] at hu
              cases hu)
          simpa using this
        · exact h.elim
      · exact h.elim
    have e : s = s' := Nat.eq_of_beq_eq_true hb
    subst e
    obtain ⟨v, x, h1, h2, h3⟩ := loadK_spec ht (Ats.vals ρ (get k)) h.h
    refine ⟨v, x, h1, h2, fun w hw a ha => ?_⟩
    obtain ⟨a1, hb1, hw1⟩ := sat_row (hw.sat i _ ho) h.lt
    rw [ha] at hb1; injection hb1 with hb1; subst hb1
    rw [← add_of_add]
    exact h3 w _ hw1
  | vw _ _ _ => exact h.elim
  | gone => exact h.elim
  | lp _ _ _ => exact h.elim
  | tab _ _ => exact h.elim
  | rov _ _ _ _ _ => exact h.elim
  | eqv _ _ => exact h.elim
  | vh _ _ => exact h.elim
  | dee s' n vs xs =>
    simp only [elemK] at h
    cases hb : Nat.beq s s' <;> simp only [hb] at h
    have e : s = s' := Nat.eq_of_beq_eq_true hb
    subst e
    obtain ⟨hk, h⟩ := h
    have lies : ∀ w, Cls B ρ obs nx w → ∀ a, base ρ i = some a → Lies w (a.add (k * s)) (vs k) := fun w hw a ha => by
      obtain ⟨a1, hb1, hw1⟩ := sat_arr (sat_dee (hw.sat i _ ho) hw.le) hk
      rw [ha] at hb1; injection hb1 with hb1; subst hb1
      exact hw1
    split at h
    · rename_i hr
      obtain ⟨v, x, h1, h2, h3⟩ := loadK_spec (K := K) ht (Ats.vals ρ (vs k)) (by unfold loadK; rw [hr]; exact h)
      refine ⟨v, x, h1, h2, fun w hw a ha => ?_⟩
      rw [← add_of_add]
      exact h3 w _ (lies w hw a ha)
    · rename_i hr
      obtain ⟨u, hu, h⟩ := nthK_spec h
      have h2 : loadK ty (vals (vs k)) j (fun z => z = .one (.val u)) := by
        unfold loadK; rw [hr]
        exact nthK_of (x := .val u) (by unfold vals; rw [List.getElem?_map, hu]; rfl) rfl
      obtain ⟨v, x, h1, rfl, h3⟩ := loadK_spec ht (Ats.vals ρ (vs k)) h2
      have ex : x = u := h1
      subst ex
      have run : ∀ w, Cls B ρ obs nx w → ∀ a, base ρ i = some a → (loadVar t (a.add (k * s + j))).run P w = .ok x w := fun w hw a ha => by
        rw [← add_of_add]
        exact h3 w _ (lies w hw a ha)
      rcases h.h with hK | ⟨i', t2, s2, n2, g2, hf, hK⟩ | ⟨j', i', hf, hK⟩
      · exact ⟨.one (.val x), x, rfl, hK, run⟩
      · obtain ⟨e2, A, c, e3, _⟩ := hC.sat i' _ hf
        exact ⟨.one (.ref i'), x, ⟨e2, by rw [e3]; rfl⟩, hK, run⟩
      · exact ⟨.one (.ref i'), x, ⟨(hC.sat j' _ hf).1, (hC.sat j' _ hf).2.2⟩, hK, run⟩
    · exact h.elim
  | rws t' e s' n vs xs =>
    have cells : ∀ w, Cls B ρ obs nx w → ∀ a, base ρ i = some a → ∀ p, p < n → w.cell? (a.add p) = some (vs p) := fun w hw a ha p hp => by
      obtain ⟨⟨v, e1, hr⟩, _⟩ := hw.sat i _ ho
      have q : Sat B ρ w i (.row t' 1 n fun k => [vs k]) := ⟨v, e1, hr⟩
      obtain ⟨a1, hb1, hw1⟩ := sat_row q hp
      rw [ha] at hb1; injection hb1 with hb1; subst hb1
      have := hw1 0 (vs p) rfl
      rw [add_of_add] at this
      simpa using this
    simp only [elemK] at h
    split at h
    · rename_i e' hsh
      cases b1 : Nat.beq s 1 <;> simp only [b1] at h
      cases b2 : Nat.beq j 0 <;> simp only [b2] at h
      cases b3 : Nat.beq ty.size 1 <;> simp only [b3] at h
      have es := Nat.eq_of_beq_eq_true b1
      have ej := Nat.eq_of_beq_eq_true b2
      subst es ej
      obtain ⟨hk, hn⟩ := h
      have h2 : loadK ty [.val (vs k)] 0 (fun u => u = .one (.val (vs k))) := by
        unfold loadK
        rw [hsh]
        exact rfl
      obtain ⟨v, x, h1, rfl, h3⟩ := loadK_spec (ρ := ρ) (cs := [vs k]) ht (show Ats ρ [.val (vs k)] [vs k] from ⟨_, [], rfl, rfl, rfl⟩) h2
      have ex : x = vs k := h1
      have run : ∀ w, Cls B ρ obs nx w → ∀ a, base ρ i = some a → (loadVar t (a.add (k * 1 + 0))).run P w = .ok (vs k) w := fun w hw a ha => by
        have c := cells w hw a ha k hk
        have := h3 w (a.add k) (fun q u hu => by
          rcases q with _ | q
          · simp at hu; subst hu; rw [add_of_add]; simpa using c
          · simp at hu)
        rw [add_of_add, ex] at this
        simpa using this
      rcases hn.h with hK | ⟨i', t2, s2, n2, g2, hf, hK⟩ | ⟨j', i', hf, hK⟩
      · exact ⟨.one (.val (vs k)), vs k, rfl, hK, run⟩
      · obtain ⟨e2, A, c, e3, _⟩ := hC.sat i' _ hf
        exact ⟨.one (.ref i'), vs k, ⟨e2, by rw [e3]; rfl⟩, hK, run⟩
      · exact ⟨.one (.ref i'), vs k, ⟨(hC.sat j' _ hf).1, (hC.sat j' _ hf).2.2⟩, hK, run⟩
    · rename_i m e' hsh
      split at h
      · rename_i b1 b2 b3
        have en := Nat.eq_of_beq_eq_true b1
        have em := Nat.eq_of_beq_eq_true b2
        have es := Nat.eq_of_beq_eq_true b3
        subst es
        have h2 : loadK ty (valsTo vs 0 m) 0 K := by
          unfold loadK
          rw [hsh]
          simp only [isRow]
          rw [em]
          exact valsTo_cut (K := K) (K' := fun c => K (.agg c)) h
        obtain ⟨v, x, h1, h4, h3⟩ := loadK_spec (ρ := ρ) (cs := (List.range m).map vs) ht (by simpa using valsTo_ats ρ vs 0 m) h2
        refine ⟨v, x, h1, h4, fun w hw a ha => ?_⟩
        have := h3 w a (fun q u hu => by
          rw [List.getElem?_map] at hu
          rcases Nat.lt_or_ge q m with hq | hq
          · rw [List.getElem?_range hq] at hu
            injection hu with hu; subst hu
            exact cells w hw a ha q (by omega)
          · rw [List.getElem?_eq_none (by simpa using hq)] at hu
            cases hu)
        simpa using this
      · exact h.elim
    · exact h.elim
def Pures (P : Program) (ρ : Rho) (a : Act) (B nx : Nat) (obs : Obs) (op : Op) (K : SV → Prop) : Prop :=
  ∃ v x, v.is ρ x ∧ K v ∧ ∀ (o : Oper), o.op = op → ∀ w, Cls B ρ obs nx w → (execOp a.eval o).run P w = .ok (.value x) w
section
variable {P : Program} {T : TT} {sz : Nat} {ρ : Rho} {env : Env} {a : Act} {B nx : Nat} {obs : Obs} {w0 : World} (hT : TTok P T) (hE : EnvR sz ρ env a) (hC : Cls B ρ obs nx w0) {K : SV → Prop}
include hE
theorem pure_ev {x : Operand} {op : Op} (h : evK env x K) (hop : ∀ (o : Oper), o.op = op → execOp a.eval o = pure (.value (a.eval x))) : Pures P ρ a B nx obs op K := by
  obtain ⟨v, hv, hK⟩ := evK_spec hE h
  exact ⟨v, _, hv, hK, fun o ho w _ => by rw [hop o ho]; rfl⟩
theorem pure_pick {c x y : Operand} (h : pureK T env obs (.pick c x y) K) : Pures P ρ a B nx obs (.pick c x y) K := by
  simp only [pureK] at h
  obtain ⟨v, hv, h⟩ := evK_spec hE h
  have run : ∀ b, a.eval c = .bool b → ∀ (o : Oper), o.op = .pick c x y → ∀ w, (execOp a.eval o).run P w = .ok (.value (if b then a.eval x else a.eval y)) w := by
    intro b hb o ho w
    simp [execOp, ho, hb, asBool]
  have done : ∀ b, a.eval c = .bool b → (b = true → evK env x K) → (b = false → evK env y K) → Pures P ρ a B nx obs (.pick c x y) K := by
    intro b hb h1 h2
    cases b with
    | true =>
      obtain ⟨u, hu, hK⟩ := evK_spec hE (h1 rfl)
      exact ⟨u, _, hu, hK, fun o ho w _ => by rw [run true hb o ho w]; rfl⟩
    | false =>
      obtain ⟨u, hu, hK⟩ := evK_spec hE (h2 rfl)
      exact ⟨u, _, hu, hK, fun o ho w _ => by rw [run false hb o ho w]; rfl⟩
  split at h
  · exact done true hv (fun _ => h) (fun e => by cases e)
  · exact done false hv (fun e => by cases e) (fun _ => h)
  · obtain ⟨b, hb, hp⟩ := hv
    exact done b hb (fun e => h.t (hp.1 e)) (fun e => h.f (fun q => by have := hp.2 q; rw [e] at this; cases this))
  · rename_i b
    exact done b hv (fun e => h.t e) (fun e => h.f (by rw [e]; decide))
  · exact h.elim
include hT
theorem pure_fieldAddr {t : TypeId} {x : Operand} {f : Nat} (h : pureK T env obs (.fieldAddr t x f) K) : Pures P ρ a B nx obs (.fieldAddr t x f) K := by
  simp only [pureK] at h
  obtain ⟨ty, i, d, z, ht, hi, hd, hz, rfl, h⟩ := fnd_ty hT h
  simp only at h
  split at h
  · rename_i fs hs
    obtain ⟨fields, rfl, hfs, rfl⟩ := sh_st hs
    obtain ⟨q, hq, h⟩ := nthK_spec h
    rw [List.getElem?_map] at hq
    obtain ⟨fd, hfd, rfl⟩ := Option.map_eq_some_iff.1 hq
    have hfd' : fields[f]? = some fd := by simpa using hfd
    split at h
    · exact h.elim
    · rename_i hne
      have hsz : sizeT P fd.type ≠ 0 := fun e => hne e
      obtain ⟨v, hv, h⟩ := evK_spec hE h
      split at h
      · rename_i io k j s
        obtain ⟨a0, hb, hx⟩ := hv
        refine ⟨.one (.ptr io k (j + fd.offset) s), _, ⟨a0, hb, rfl⟩, h, fun o ho w _ => ?_⟩
        simp only [execOp, ho]
        refine run_val ?_
        rw [hx, run_fieldAt hd hfd' hsz, add_of_add, Nat.add_assoc]
      · exact h.elim
  · exact h.elim
theorem pure_field {t : TypeId} {x : Operand} {f : Nat} (h : pureK T env obs (.field t x f) K) : Pures P ρ a B nx obs (.field t x f) K := by
  simp only [pureK] at h
  obtain ⟨ty, i, d, z, ht, hi, hd, hz, rfl, h⟩ := fnd_ty hT h
  simp only at h
  split at h
  · rename_i fs hs
    obtain ⟨fields, rfl, hfs, rfl⟩ := sh_st hs
    obtain ⟨q, hq, h⟩ := nthK_spec h
    rw [List.getElem?_map] at hq
    obtain ⟨fd, hfd, rfl⟩ := Option.map_eq_some_iff.1 hq
    have hfd' : fields[f]? = some fd := by simpa using hfd
    obtain ⟨v, hv, h⟩ := evK_spec hE h
    split at h
    · rename_i l
      obtain ⟨cs, hcs, hx⟩ := hv
      split at h
      · rename_i hagg
        obtain ⟨_, h2, hK⟩ := cutK_spec h
        refine ⟨.agg _, .agg ((cs.drop fd.offset).take (sizeT P fd.type)).toArray, ⟨_, (hcs.drop _).take _, rfl⟩, hK, fun o ho w _ => ?_⟩
        simp only [execOp, ho]
        refine run_val ?_
        simp only [Instr.field, Sem.run_bind, run_underlying hd, Result.andThen_ok, hfd', hx, asAgg, Sem.run_pure]
        have := (run_part (P := P) (t := fd.type) (w := w) (cs := cs.toArray) (off := fd.offset)).1 hagg
        rw [this]
        congr 2
        simp [List.extract_eq_take_drop]
      · rename_i hagg
        obtain ⟨b, e, hK⟩ := nthK_spec h
        obtain ⟨u, eu, hu⟩ := hcs.nth e
        refine ⟨.one b, u, hu, hK, fun o ho w _ => ?_⟩
        simp only [execOp, ho]
        refine run_val ?_
        simp only [Instr.field, Sem.run_bind, run_underlying hd, Result.andThen_ok, hfd', hx, asAgg, Sem.run_pure]
        exact (run_part (P := P) (t := fd.type) (w := w) (cs := cs.toArray) (off := fd.offset)).2 hagg u (by simpa using eu)
      · exact h.elim
    · exact h.elim
  · exact h.elim
omit hE hT in
theorem arr_str {w : World} {v : Value} {n : Nat} {get : Nat → List Value} {xs : List Int} {s d e : TypeId} (hA : ArrIs w v 1 n get) (hl : xs.length = n) (hg : ∀ k, k < n → get k = [.int .u8 (xs.getD k 0)]) (hs : P.underlying s = some (.slice e)) (he : P.underlying e = some (.int .u8)) (hd : P.underlying d = some .string) :
    (convert s d v).run P w = .ok (.string (strOfNums xs)) w := by
  obtain ⟨A, c, rfl, _, _, hh⟩ := hA
  cases A with
  | none =>
    have n0 : n = 0 := by
      rcases Nat.eq_zero_or_pos n with q | q
      · exact q
      · obtain ⟨_, e, _⟩ := hh 0 q; cases e
    subst n0
    rw [List.eq_nil_of_length_eq_zero hl, run_convert_bytes_string w s d e _ 0 c hs he hd]
    simp only [Conv.bytesToString, Sem.run_pure]
    rfl
  | some ad =>
    have hl2 : (loadCells ad n).run P w = .ok (xs.map (Value.int .u8)).toArray w := by
      have := run_loadCells_list (P := P) w ad (xs.map (Value.int .u8)) (fun j v hj => by
        have hjl : j < xs.length := by
          rcases Nat.lt_or_ge j xs.length with h | h
          · exact h
          · simp [List.getElem?_eq_none (show (xs.map (Value.int .u8)).length ≤ j by simpa using h)] at hj
        obtain ⟨a', ea, _, _, hc⟩ := hh j (by omega)
        injection ea with ea
        subst ea
        have := hc 0 _ (by rw [hg j (by omega)]; rfl)
        simp only [Nat.mul_one, Nat.add_zero] at this
        rw [this]
        simp [List.getElem?_eq_getElem hjl] at hj
        subst hj
        simp [List.getD, List.getElem?_eq_getElem hjl])
      simpa [hl] using this
    rw [run_convert_bytes_string w s d e _ n c hs he hd, run_bytesToString w _ n c xs hl2, foldl_push_bytes]
    simp [strOfNums, ByteArray.empty, ByteArray.emptyWithCapacity]
    rfl
include hC in
theorem pure_convert {t u : TypeId} {x : Operand} (h : pureK T env obs (.convert t u x) K) : Pures P ρ a B nx obs (.convert t u x) K := by
  simp only [pureK] at h
  obtain ⟨ty0, i0, d0, z0, ht0, hi0, hd0, hz0, rfl, h⟩ := fnd_ty hT h
  obtain ⟨ty, i, d, z, ht, hi, hd, hz, rfl, h⟩ := fnd_ty hT h
  simp only at h
  split at h
  · rename_i k hs
    have e := sh_int hs
    subst e
    obtain ⟨v, hv, h⟩ := evK_spec hE h
    split at h
    · rename_i k' n
      have e : a.eval x = .int k' n := hv
      refine ⟨.one (.val _), _, rfl, h.h, fun o ho w _ => ?_⟩
      simp only [execOp, ho]
      refine run_val ?_
      rw [e]
      simp [convert, run_underlying hd0, run_underlying hd, Conv.intToInt]
    · exact h.elim
  · rename_i hs
    have hd' : P.underlying u = some .string := by rw [hd, sh_str hs]
    split at h
    · rename_i e hs0
      have hd0' : P.underlying t = some (.slice e) := by rw [hd0, sh_sl hs0]
      obtain ⟨te, i2, d2, z2, ht2, hi2, hd2, hz2, rfl, h⟩ := fnd_ty hT h
      simp only at h
      split at h
      · rename_i hs2
        have hd2' : P.underlying e = some (.int .u8) := by rw [hd2, sh_int hs2]
        obtain ⟨v, hv, h⟩ := evK_spec hE h
        split at h
        · rename_i io
          obtain ⟨ob, hob, h⟩ := fndK_spec h
          split at h
          · rename_i s' n get
            cases hb : Nat.beq s' 1 <;> simp only [hb] at h
            have es := Nat.eq_of_beq_eq_true hb
            subst es
            obtain ⟨xs, hl, hg, hK⟩ := h.h
            refine ⟨.one (.val (.string (strOfNums xs))), _, rfl, hK, fun o ho w hw => ?_⟩
            obtain ⟨v', ev, hA⟩ := hw.sat io _ hob
            rw [hv.1] at ev; injection ev with ev; subst ev
            simp only [execOp, ho]
            exact run_val (arr_str hA hl hg hd0' hd2' hd')
          · rename_i t' s' n get
            cases hb : Nat.beq s' 1 <;> simp only [hb] at h
            have es := Nat.eq_of_beq_eq_true hb
            subst es
            obtain ⟨xs, hl, hg, hK⟩ := h.h
            refine ⟨.one (.val (.string (strOfNums xs))), _, rfl, hK, fun o ho w hw => ?_⟩
            obtain ⟨v', ev, hA⟩ := hw.sat io _ hob
            rw [hv.1] at ev; injection ev with ev; subst ev
            simp only [execOp, ho]
            exact run_val (arr_str hA.arr hl hg hd0' hd2' hd')
          · exact h.elim
        · exact h.elim
      · exact h.elim
    · exact h.elim
  · exact h.elim
theorem pure_build {t : TypeId} {parts : Array (Nat × Operand)} (h : pureK T env obs (.build t parts) K) : Pures P ρ a B nx obs (.build t parts) K := by
  simp only [pureK] at h
  obtain ⟨ty, i, d, z, ht, hi, hd, hz, rfl, h⟩ := fnd_ty hT h
  simp only at h
  split at h
  · rename_i fs hs
    obtain ⟨fields, rfl, hfs, rfl⟩ := sh_st hs
    obtain ⟨l', cs', hK, hl', hf⟩ := fillK_spec (P := P) hE (Ats.vals ρ z.cells.toList) h
    refine ⟨.agg l', .agg cs'.toArray, ⟨cs', hl', rfl⟩, hK, fun o ho w _ => ?_⟩
    simp only [execOp, ho]
    refine run_val (run_build w t _ _ ?_)
    have hp := mapM_places hfs
    unfold Program.built
    rw [hi, hd]
    simp only [hz, hp]
    have e : (parts.map fun p => match p with | (i, x) => (i, a.eval x)).toList = parts.toList.map fun p => (p.1, a.eval p.2) := by simp
    rw [e, ← hf]
    congr 1
    · funext i
      simp
  · exact h.elim
include hC
theorem pure_load {t : TypeId} {x : Operand} (h : pureK T env obs (.load t x) K) : Pures P ρ a B nx obs (.load t x) K := by
  simp only [pureK] at h
  obtain ⟨ty, i, d, z, ht, hi, hd, hz, e, h⟩ := fnd_ty hT h
  obtain ⟨v, hv, h⟩ := evK_spec hE h
  split at h
  · rename_i io k j s
    obtain ⟨a0, hb, hx⟩ := hv
    obtain ⟨ob, ho, h⟩ := fndK_spec h
    obtain ⟨r, y, h1, h2, h3⟩ := load_spec hC ho ht h
    refine ⟨r, y, h1, h2, fun o ho w hw => ?_⟩
    simp only [execOp, ho]
    refine run_val ?_
    rw [hx]
    simp only [Instr.loadAt, Instr.sureAddr, Sem.run_bind, Sem.run_pure, Result.andThen_ok]
    exact h3 w hw a0 hb
  · exact h.elim
theorem pure_indexAddr {t : TypeId} {x y : Operand} (h : pureK T env obs (.indexAddr t x y) K) : Pures P ρ a B nx obs (.indexAddr t x y) K := by
  simp only [pureK] at h
  obtain ⟨ty, i, d, z, ht, hi, hd, hz, rfl, h⟩ := fnd_ty hT h
  simp only at h
  split at h
  · rename_i e hs
    have e0 := sh_sl hs
    subst e0
    obtain ⟨te, i2, d2, z2, ht2, hi2, hd2, hz2, rfl, h⟩ := fnd_ty hT h
    obtain ⟨v, hv, h⟩ := evK_spec hE h
    split at h
    · rename_i io
      obtain ⟨u, hu, h⟩ := evK_spec hE h
      split at h
      · rename_i kd q
        have eq_ : a.eval y = .int kd q := hu
        obtain ⟨ob, ho, h⟩ := fndK_spec h
        have main : ∀ (s n : Nat) (A : Option Addr) (c : Nat), s = i2.size → a.eval x = .slice A n c → (∀ k, k < n → ∃ a1, A = some a1 ∧ base ρ io = some a1) → NIdx q n (fun k => K (.one (.ptr io k 0 s))) → Pures P ρ a B nx obs (.indexAddr t x y) K := by
          intro s n A c es ex hA hN
          obtain ⟨k, hk, hlt, hK⟩ := hN.h
          obtain ⟨a1, rfl, hb⟩ := hA k hlt
          refine ⟨.one (.ptr io k 0 s), _, ⟨a1, hb, rfl⟩, hK, fun o ho w hw => ?_⟩
          simp only [execOp, ho]
          refine run_val ?_
          rw [ex, eq_]
          simp [Instr.indexAt, asIntOf, run_underlying hd, run_size hi2, hk, hlt, es]
        have hsat := hC.sat io ob ho
        split at h
        · rename_i s n get
          cases hb : Nat.beq s i2.size <;> simp only [hb] at h
          obtain ⟨A, c, ex⟩ := sat_len hsat hv.1
          exact main s n A c (Nat.eq_of_beq_eq_true hb) ex (fun k hk => by
            obtain ⟨a1, hb1, _⟩ := sat_arr hsat hk
            obtain ⟨v, ev, A', c', rfl, _, _, hh⟩ := hsat
            obtain ⟨a2, e2, _⟩ := hh k hk
            rw [hv.1, ex] at ev
            injection ev with ev; injection ev with ev
            subst ev e2
            exact ⟨a2, rfl, by rw [base_sl (by rw [hv.1, ex])]⟩) h
        · rename_i t' s n get
          cases hb : Nat.beq s i2.size <;> simp only [hb] at h
          obtain ⟨A, c, ex⟩ := sat_len_row hsat hv.1
          exact main s n A c (Nat.eq_of_beq_eq_true hb) ex (fun k hk => by
            obtain ⟨a1, hb1, _⟩ := sat_row hsat hk
            cases A with
            | none =>
              unfold base at hb1
              rw [hv.1, ex] at hb1
              cases hb1
            | some a2 => exact ⟨a2, rfl, by rw [base_sl (by rw [hv.1, ex])]⟩) h
        · rename_i t' s rows
          cases hb : Nat.beq s i2.size <;> simp only [hb] at h
          obtain ⟨A, c, ex⟩ := sat_len_lit hsat hv.1
          obtain ⟨b, cs, ev, _⟩ := hsat
          rw [hv.1, ex] at ev
          injection ev with ev; injection ev with ev
          subst ev
          exact main s rows.length _ c (Nat.eq_of_beq_eq_true hb) ex (fun k hk => ⟨_, rfl, by rw [base_sl (by rw [hv.1, ex])]⟩) h
        · rename_i t' e' s' n vs xs
          cases hb : Nat.beq 1 i2.size <;> simp only [hb] at h
          have hsat2 : Sat B ρ w0 io (.row t' 1 n fun k => [vs k]) := hsat.1
          obtain ⟨A, c, ex⟩ := sat_len_row hsat2 hv.1
          exact main 1 n A c (Nat.eq_of_beq_eq_true hb) ex (fun k hk => by
            obtain ⟨a1, hb1, _⟩ := sat_row hsat2 hk
            cases A with
            | none =>
              unfold base at hb1
              rw [hv.1, ex] at hb1
              cases hb1
            | some a2 => exact ⟨a2, rfl, by rw [base_sl (by rw [hv.1, ex])]⟩) h
        · rename_i s n vs xs
          cases hb : Nat.beq s i2.size <;> simp only [hb] at h
          have hsat := sat_dee hsat hC.le
          obtain ⟨A, c, ex⟩ := sat_len hsat hv.1
          exact main s n A c (Nat.eq_of_beq_eq_true hb) ex (fun k hk => by
            obtain ⟨a1, hb1, _⟩ := sat_arr hsat hk
            obtain ⟨v, ev, A', c', rfl, _, _, hh⟩ := hsat
            obtain ⟨a2, e2, _⟩ := hh k hk
            rw [hv.1, ex] at ev
            injection ev with ev; injection ev with ev
            subst ev e2
            exact ⟨a2, rfl, by rw [base_sl (by rw [hv.1, ex])]⟩) h
        · exact h.elim
      · exact h.elim
    · exact h.elim
  · rename_i m e hs
    have e0 := sh_arr hs
    subst e0
    obtain ⟨te, i2, d2, z2, ht2, hi2, hd2, hz2, rfl, h⟩ := fnd_ty hT h
    obtain ⟨v, hv, h⟩ := evK_spec hE h
    split at h
    · rename_i io s0
      obtain ⟨a0, hb0, ex⟩ := hv
      obtain ⟨u, hu, h⟩ := evK_spec hE h
      split at h
      · rename_i kd q
        have eq_ : a.eval y = .int kd q := hu
        obtain ⟨ob, ho, h⟩ := fndK_spec h
        split at h
        · rename_i t' s n get
          simp only at h
          split at h
          · rename_i b1 b2
            have es := Nat.eq_of_beq_eq_true b1
            have en := Nat.eq_of_beq_eq_true b2
            obtain ⟨k, hk, hlt, hK⟩ := h.h
            refine ⟨.one (.ptr io k 0 s), _, ⟨a0, hb0, rfl⟩, hK, fun o ho w hw => ?_⟩
            simp only [execOp, ho]
            refine run_val ?_
            rw [ex, eq_]
            subst en
            simp [Instr.indexAt, Instr.sureAddr, asIntOf, run_underlying hd, run_size hi2, hk, hlt, es, Addr.add]
          · exact h.elim
        · rename_i t' e' s' n vs xs
          simp only at h
          split at h
          · rename_i b1 b2
            have es := Nat.eq_of_beq_eq_true b1
            have en := Nat.eq_of_beq_eq_true b2
            obtain ⟨k, hk, hlt, hK⟩ := h.h
            refine ⟨.one (.ptr io k 0 1), _, ⟨a0, hb0, rfl⟩, hK, fun o ho w hw => ?_⟩
            simp only [execOp, ho]
            refine run_val ?_
            rw [ex, eq_]
            subst en
            simp [Instr.indexAt, Instr.sureAddr, asIntOf, run_underlying hd, run_size hi2, hk, hlt, ← es, Addr.add]
          · exact h.elim
        · exact h.elim
      · exact h.elim
    · exact h.elim
  · exact h.elim
end
end Go.Proofs.YtlbffibpcjjpkaaDoor.V

namespace Go.Proofs.YtlbffibpcjjpkaaDoor.V
open Go Go.RowKit
theorem Svs.nth {ρ : Rho} : ∀ {l : List SV} {x : List Value} {j : Nat} {a : SV}, Svs ρ l x → l[j]? = some a → ∃ u, x[j]? = some u ∧ a.is1 ρ u
  | [], _, _, _, _, h => by simp at h
  | b :: _, _, 0, a, ⟨u, r, hx, ha, hr⟩, h => by
    have e : b = a := by simpa using h
    subst e
    exact ⟨u, by rw [hx]; rfl, ha⟩
  | b :: l, _, j + 1, a, ⟨u, r, hx, ha, hr⟩, h => by
    obtain ⟨v, e, hv⟩ := Svs.nth (j := j) hr (by simpa using h)
    exact ⟨v, by rw [hx]; simpa using e, hv⟩
theorem eq_spec {P : Program} {ρ : Rho} {d : Nat} {xs ys : Array Value} : ∀ (fs : List Field) (j : Nat) {l m : List At} {K : Prop → Prop}, Ats ρ l (xs.toList.drop j) → Ats ρ m (ys.toList.drop j) → (fs.zipIdx j).all (okF P) = true → l.length = fs.length → eqK l m K →
    ∃ p b, K p ∧ (b = true ↔ p) ∧ ∀ w, (Op.eqFields (d + 1) xs ys fs).run P w = .ok b w
  | [], j, l, m, K, _, _, _, hl, h => by
    have : l = [] := List.eq_nil_of_length_eq_zero (by simpa using hl)
    subst this
    cases m with
    | nil => exact ⟨True, true, h, by simp, fun w => rfl⟩
    | cons b m => unfold eqK at h; exact h.elim
  | f :: fs, j, [], _, K, _, _, _, hl, _ => by simp at hl
  | f :: fs, j, a :: l, [], K, _, _, _, _, h => by
    unfold eqK at h
    split at h
    · rename_i e _; cases e
    · rename_i _ e; cases e
    · exact h.elim
  | f :: fs, j, a :: l, b :: m, K, ⟨x, r, hx, ha, hr⟩, ⟨y, s, hy, hb, hs⟩, ho, hl, h => by
    unfold eqK at h
    split at h
    · rename_i e _; cases e
    · rename_i k p l' k' q m' e1 e2
      injection e1 with e1 e1'
      injection e2 with e2 e2'
      subst e1 e1' e2 e2'
      cases hk : kEq k k' <;> simp only [hk] at h
      have := kEq_eq hk
      subst this
      have hx' : x = .int k p := ha
      have hy' : y = .int k q := hb
      subst hx' hy'
      rw [List.zipIdx_cons, List.all_cons, Bool.and_eq_true] at ho
      obtain ⟨ho1, ho2⟩ := ho
      simp only [okF, Bool.and_eq_true, bne_iff_ne, beq_iff_eq] at ho1
      obtain ⟨⟨o1, o2⟩, o3⟩ := ho1
      have dx : xs.toList.drop (j + 1) = r := by rw [← List.drop_drop, hx]; rfl
      have dy : ys.toList.drop (j + 1) = s := by rw [← List.drop_drop, hy]; rfl
      obtain ⟨p', b', h1, h2, h3⟩ := eq_spec (P := P) (xs := xs) (ys := ys) fs (j + 1) (dx ▸ hr) (dy ▸ hs) ho2 (by simpa using hl) h
      have gx : xs[j]? = some (.int k p) := by
        have : xs.toList[j]? = (xs.toList.drop j)[0]? := by simp
        rw [hx] at this
        simpa using this
      have gy : ys[j]? = some (.int k q) := by
        have : ys.toList[j]? = (ys.toList.drop j)[0]? := by simp
        rw [hy] at this
        simpa using this
      unfold intT at o3
      split at o3
      rotate_left
      · cases o3
      rename_i kk hki
      have hag : aggT P f.type = 1 := by unfold aggT; rw [hki]
      refine ⟨p = q ∧ p', (p == q) && b', h1, by simp [h2], fun w => ?_⟩
      have g1 := (run_part (P := P) (t := f.type) (w := w) (cs := xs) (off := f.offset)).2 hag (.int k p) (by rw [o2]; exact gx)
      have g2 := (run_part (P := P) (t := f.type) (w := w) (cs := ys) (off := f.offset)).2 hag (.int k q) (by rw [o2]; exact gy)
      have g3 := run_equalIn_int (P := P) w d f.type k kk p q hki
      unfold Op.eqFields
      rw [if_pos o1]
      simp only [Sem.run_bind, g1, g2, g3, Result.andThen_ok]
      cases hpq : p == q
      · simp
      · simp
        exact h3 w
    · exact h.elim
section
variable {P : Program} {T : TT} {sz : Nat} {ρ : Rho} {env : Env} {a : Act} {B nx : Nat} {obs : Obs} {w0 : World} (hT : TTok P T) (hE : EnvR sz ρ env a) (hC : Cls B ρ obs nx w0) {K : SV → Prop}
include hE
theorem pure_un {op : UnOp} {t : TypeId} {x : Operand} (h : pureK T env obs (.unOp op t x) K) : Pures P ρ a B nx obs (.unOp op t x) K := by
  simp only [pureK] at h
  obtain ⟨v, hv, h⟩ := evK_spec hE h
  obtain ⟨r, z, h1, h2, h3⟩ := unK_spec (P := P) hv h
  refine ⟨r, z, h1, h2, fun o ho w _ => ?_⟩
  simp only [execOp, ho]
  exact run_val (h3 w)
theorem pure_nilCheck {x : Operand} (h : pureK T env obs (.nilCheck x) K) : Pures P ρ a B nx obs (.nilCheck x) K := by
  simp only [pureK] at h
  obtain ⟨v, hv, h⟩ := evK_spec hE h
  split at h
  · rename_i i k j s
    obtain ⟨b, hb, e⟩ := hv
    refine ⟨.one (.ptr i k j s), a.eval x, ⟨b, hb, e⟩, h, fun o ho w _ => ?_⟩
    simp only [execOp, ho, e]
    rfl
  · exact h.elim
theorem pure_extract {x : Operand} {i : Nat} (h : pureK T env obs (.extract x i) K) : Pures P ρ a B nx obs (.extract x i) K := by
  simp only [pureK] at h
  obtain ⟨v, hv, h⟩ := evK_spec hE h
  split at h
  · rename_i l
    obtain ⟨cs, hcs, e⟩ := hv
    obtain ⟨b, eb, hK⟩ := nthK_spec h
    obtain ⟨u, eu, hu⟩ := Svs.nth hcs eb
    refine ⟨b, u, SV.is_of1 hu, hK, fun o ho w _ => ?_⟩
    simp only [execOp, ho]
    refine run_val ?_
    rw [e]
    simp [Instr.extract, eu]
  · exact h.elim
theorem pure_makeFunc {fn : Fn} {first caps : Array Operand} (h : pureK T env obs (.makeFunc fn first caps) K) : Pures P ρ a B nx obs (.makeFunc fn first caps) K := by
  simp only [pureK] at h
  split at h
  · rename_i f
    obtain ⟨is_, hK, hc⟩ := capsK_spec hE h
    refine ⟨.one (.clo f is_), _, ⟨_, hc, rfl⟩, hK, fun o ho w _ => ?_⟩
    simp only [execOp, ho]
    refine run_val ?_
    cases caps
    simp [Instr.makeFunc]
  · exact h.elim
omit hE in
theorem run_bounds {w : World} {s : Bool} {n c : Nat} {l h : Option Int} {lo hi : Option Value} {a b : Nat} (hl : (lo = none ∧ l = none) ∨ ∃ k q, lo = some (.int k q) ∧ l = some q) (hh : (hi = none ∧ h = none) ∨ ∃ k q, hi = some (.int k q) ∧ h = some q)
    (h1 : loIs l a) (h2 : hiIs h n b) (h3 : a ≤ b) (h4 : b ≤ n) (h5 : n ≤ c) : (Instr.sliceBounds s n c lo hi none).run P w = .ok (a, b, c) w := by
  rcases hl with ⟨rfl, rfl⟩ | ⟨k, q, rfl, rfl⟩ <;> rcases hh with ⟨rfl, rfl⟩ | ⟨k2, q2, rfl, rfl⟩ <;> simp only [loIs, hiIs] at h1 h2
  · subst h1 h2
    simp [Instr.sliceBounds, Sem.run_bind]
  · subst h1 h2
    simp [Instr.sliceBounds, Sem.run_bind, run_sliceBound (P := P) (w := w) k2 (b : Int) c _ (by omega) (by omega)]
  · subst h1 h2
    simp [Instr.sliceBounds, Sem.run_bind, run_sliceBound (P := P) (w := w) k (a : Int) b _ (by omega) (by omega)]
  · subst h1 h2
    simp [Instr.sliceBounds, Sem.run_bind, run_sliceBound (P := P) (w := w) k (a : Int) b _ (by omega) (by omega), run_sliceBound (P := P) (w := w) k2 (b : Int) c _ (by omega) (by omega)]
theorem optK_spec {x : Option Operand} {K : Option Int → Prop} (h : optK env x K) :
    ∃ q, K q ∧ ((x.map a.eval = none ∧ q = none) ∨ ∃ k n, x.map a.eval = some (.int k n) ∧ q = some n) := by
  cases x with
  | none => exact ⟨none, h, .inl ⟨rfl, rfl⟩⟩
  | some x =>
    obtain ⟨v, hv, h⟩ := evK_spec hE h
    split at h
    · rename_i k n
      exact ⟨some n, h, .inr ⟨k, n, congrArg some hv, rfl⟩⟩
    · exact h.elim
include hT
theorem pure_slice {t : TypeId} {x : Operand} {lo hi mx : Option Operand} (h : pureK T env obs (.slice t x lo hi mx) K) : Pures P ρ a B nx obs (.slice t x lo hi mx) K := by
  simp only [pureK] at h
  split at h
  rotate_left
  · exact h.elim
  obtain ⟨ty, i, d, z, ht, hi1, hd, hz, rfl, h⟩ := fnd_ty hT h
  simp only at h
  split at h
  · rename_i hs
    have e0 := sh_str hs
    subst e0
    obtain ⟨v, hv, h⟩ := evK_spec hE h
    split at h
    · rename_i s
      have ex : a.eval x = .string s := hv
      obtain ⟨l, h, hl⟩ := optK_spec hE h
      obtain ⟨h', h, hh⟩ := optK_spec hE h
      obtain ⟨p, q, h1, h2, h3, h4, h⟩ := h.h
      refine ⟨.one (.val (.string (s.extract p q))), _, rfl, h, fun o ho w _ => ?_⟩
      have hr := run_bounds (P := P) (w := w) (s := false) (n := s.size) (c := s.size) hl hh h1 h2 h3 h4 (Nat.le_refl _)
      simp only [execOp, ho, Option.map_none]
      refine run_val ?_
      rw [ex]
      simp [Instr.sliceAt, run_underlying hd, Instr.slice, Sem.run_bind, hr]
    · exact h.elim
  · exact h.elim
theorem pure_index {t : TypeId} {x y : Operand} (h : pureK T env obs (.index t x y) K) : Pures P ρ a B nx obs (.index t x y) K := by
  simp only [pureK] at h
  obtain ⟨ty, i, d, z, ht, hi, hd, hz, rfl, h⟩ := fnd_ty hT h
  simp only at h
  split at h
  · rename_i hs
    have e0 := sh_str hs
    subst e0
    obtain ⟨v, hv, h⟩ := evK_spec hE h
    split at h
    · rename_i s
      have ex : a.eval x = .string s := hv
      obtain ⟨u, hu, h⟩ := evK_spec hE h
      split at h
      · rename_i kd q
        have ey : a.eval y = .int kd q := hu
        obtain ⟨k, hq, hlt, hK⟩ := h.h
        refine ⟨.one (.val _), _, rfl, hK, fun o ho w _ => ?_⟩
        simp only [execOp, ho]
        refine run_val ?_
        rw [ex, ey]
        have hg : s[k]? = some (s.data.getD k 0) := by
          rw [getElem?_pos s k hlt]
          congr 1
          show s.data[k]'hlt = _
          rw [Array.getD_eq_getD_getElem?, Array.getElem?_eq_getElem hlt]; rfl
        simp [Instr.index, asIntOf, run_underlying hd, hq, hg]
      · exact h.elim
    · exact h.elim
  · rename_i m e hs
    have e0 := sh_arr hs
    subst e0
    obtain ⟨te, i2, d2, z2, ht2, hi2, hd2, hz2, rfl, h⟩ := fnd_ty hT h
    simp only at h
    split at h
    · rename_i b1 b2
      obtain ⟨v, hv, h⟩ := evK_spec hE h
      split at h
      · rename_i l
        obtain ⟨cs, hcs, hx⟩ := hv
        obtain ⟨u, hu, h⟩ := evK_spec hE h
        split at h
        · rename_i kd q
          have ey : a.eval y = .int kd q := hu
          cases b3 : Nat.beq l.length m <;> simp only [b3] at h
          obtain ⟨k, b, hq, hb, hK⟩ := h.h
          obtain ⟨x', ex', hx'⟩ := hcs.nth hb
          have hlm := Nat.eq_of_beq_eq_true b3
          have hlt : k < m := by
            have := (List.getElem?_eq_some_iff.1 hb).1
            omega
          have hs1 := Nat.eq_of_beq_eq_true b2
          refine ⟨.one b, x', hx', hK, fun o ho w _ => ?_⟩
          simp only [execOp, ho]
          refine run_val ?_
          rw [hx, ey]
          have hr := sh_row.2 b1
          have hp : (part e cs.toArray (k * 1)).run P w = .ok x' w := by
            simp [part, run_isAgg hd2, hr, ex']
          simp [Instr.index, asIntOf, run_underlying hd, hq, hlt, run_size hi2, hs1]
          simpa using hp
        · exact h.elim
      · exact h.elim
    · exact h.elim
  · exact h.elim
include hC
theorem pure_bin {op : BinOp} {t t' : TypeId} {x y : Operand} (h : pureK T env obs (.binOp op t x y t') K) : Pures P ρ a B nx obs (.binOp op t x y t') K := by
  simp only [pureK] at h
  obtain ⟨v, hv, h⟩ := evK_spec hE h
  obtain ⟨u, hu, h⟩ := evK_spec hE h
  split at h
  · rename_i l m _
    obtain ⟨ty, i, d, z, ht, hi, hd, hz, rfl, h⟩ := fnd_ty hT h
    simp only at h
    split at h
    rotate_left
    · exact h.elim
    rename_i fs0 hs
    obtain ⟨fields, rfl, _, rfl⟩ := sh_st hs
    split at h
    rotate_left
    · exact h.elim
    rename_i q1 q2
    have q2 := Nat.eq_of_beq_eq_true q2
    rw [List.length_map] at q2
    obtain ⟨cs, hcs, ex⟩ := hv
    obtain ⟨ds, hds, ey⟩ := hu
    simp only [eqOf, hd] at q1
    simp only [Bool.and_eq_true, Bool.not_eq_true'] at q1
    obtain ⟨⟨c1, c2⟩, c3⟩ := q1
    have hu' : P.underlying t = some (.struct (P.fieldsOf t)) := by unfold Program.fieldsOf; rw [hd]
    have hff : P.fieldsOf t = fields := by unfold Program.fieldsOf; rw [hd]
    have both : ∀ {K' : Prop → Prop}, eqK l m K' → ∃ p b, K' p ∧ (b = true ↔ p) ∧ ∀ w, (Op.equalIn 10000 t (a.eval x) (a.eval y)).run P w = .ok b w := by
      intro K' h
      obtain ⟨p, b, h1, h2, h3⟩ := eq_spec (P := P) (xs := cs.toArray) (ys := ds.toArray) fields.toList 0 (by simpa using hcs) (by simpa using hds) c3 q2 h
      refine ⟨p, b, h1, h2, fun w => ?_⟩
      rw [ex, ey, run_equalIn_agg w 9999 t _ _ hu' c1, hff]
      exact h3 w
    split at h
    · obtain ⟨p, b, h1, h2, h3⟩ := both h
      refine ⟨.one (.prop p), .bool b, ⟨b, rfl, h2⟩, h1, fun o ho w _ => ?_⟩
      simp only [execOp, ho]
      refine run_val ?_
      have h4 := h3 w
      rw [ex, ey] at h4 ⊢
      simp only [Sem.run_bind, run_eqGuard_agg w _ t x y _ _ c2, Result.andThen_ok, run_eql_struct, h4]
    · obtain ⟨p, b, h1, h2, h3⟩ := both h
      refine ⟨.one (.prop (¬ p)), .bool (!b), ⟨!b, rfl, by rw [← h2]; simp⟩, h1, fun o ho w _ => ?_⟩
      simp only [execOp, ho]
      refine run_val ?_
      have h4 := h3 w
      rw [ex, ey] at h4 ⊢
      simp only [Sem.run_bind, run_eqGuard_agg w _ t x y _ _ c2, Result.andThen_ok, run_neq_struct, h4]
    · exact h.elim
  · split at h
    · rename_i p q hp hq
      obtain ⟨ty, i, d, z, ht, hi, hd, hz, rfl, h⟩ := fnd_ty hT h
      simp only at h
      split at h
      rotate_left
      · exact h.elim
      rename_i hs
      obtain ⟨c, ec, hc⟩ := boolP_spec hp hv
      obtain ⟨e, ee, he⟩ := boolP_spec hq hu
      have hu' : P.underlying t = some .bool := by rw [hd, sh_bool hs]
      have heq : ∀ w, (Op.equalIn 10000 t (.bool c) (.bool e)).run P w = .ok (c == e) w := fun w => by
        show (Op.equalIn (9999 + 1) t (.bool c) (.bool e)).run P w = .ok (c == e) w
        unfold Op.equalIn
        rw [Sem.run_bind, run_underlying hu' w]
        rfl
      have hg : ∀ w, (eqGuard op t x y (.bool c) (.bool e)).run P w = .ok () w := fun w => by unfold eqGuard; split <;> rfl
      split at h
      · refine ⟨.one (.prop _), .bool (c == e), ⟨c == e, rfl, by rw [← hc, ← he]; cases c <;> cases e <;> simp⟩, h, fun o ho w _ => ?_⟩
        simp only [execOp, ho]
        refine run_val ?_
        rw [ec, ee]
        simp [Sem.run_bind, hg, binOp, Op.equal, Op.maxDepth, heq]
      · refine ⟨.one (.prop _), .bool (!(c == e)), ⟨!(c == e), rfl, by rw [← hc, ← he]; cases c <;> cases e <;> simp⟩, h, fun o ho w _ => ?_⟩
        simp only [execOp, ho]
        refine run_val ?_
        rw [ec, ee]
        simp [Sem.run_bind, hg, binOp, Op.equal, Op.maxDepth, heq]
      · exact h.elim
    · split at h
      · rename_i io _ _
        obtain ⟨ty, i, d, z, ht, hi, hd, hz, rfl, h⟩ := fnd_ty hT h
        simp only at h
        split at h
        rotate_left
        · exact h.elim
        rename_i e hs
        have hu' : P.underlying t = some (.slice e) := by rw [hd, sh_sl hs]
        obtain ⟨ob, hob, h⟩ := fndK_spec h
        have ev : ρ io = some (a.eval x) := hv.1
        have ey : a.eval y = .slice none 0 0 := hu
        have fin : ∀ n A c, a.eval x = .slice A n c → (A = none → n = 0) → (NNil n fun p => nilP op p K) → Pures P ρ a B nx obs (.binOp op t x y t') K := fun n A c ex hn h => by
          have h := h.h (A = none) hn
          have heq : ∀ w, (Op.equalIn 10000 t (.slice A n c) (.slice none 0 0)).run P w = .ok A.isNone w := fun w => by
            show (Op.equalIn (9999 + 1) t (.slice A n c) (.slice none 0 0)).run P w = .ok A.isNone w
            unfold Op.equalIn
            rw [Sem.run_bind, run_underlying hu' w]
            cases A <;> rfl
          have hg : ∀ w, (eqGuard op t x y (.slice A n c) (.slice none 0 0)).run P w = .ok () w := fun w => by unfold eqGuard; split <;> rfl
          unfold nilP at h
          split at h
          · refine ⟨.one (.prop _), .bool A.isNone, ⟨A.isNone, rfl, by simp⟩, h, fun o ho w _ => ?_⟩
            simp only [execOp, ho]
            refine run_val ?_
            rw [ex, ey]
            simp [Sem.run_bind, hg, binOp, Op.equal, Op.maxDepth, heq]
          · refine ⟨.one (.prop _), .bool (!A.isNone), ⟨!A.isNone, rfl, by cases A <;> simp⟩, h, fun o ho w _ => ?_⟩
            simp only [execOp, ho]
            refine run_val ?_
            rw [ex, ey]
            simp [Sem.run_bind, hg, binOp, Op.equal, Op.maxDepth, heq]
          · exact h.elim
        split at h
        · rename_i s n get
          obtain ⟨v, e, A, c, ev', hn, _, hh⟩ := hC.sat io _ hob
          rw [ev] at e
          injection e with e
          refine fin n A c (e.trans ev') (fun hA => ?_) h
          rcases Nat.eq_zero_or_pos n with q | q
          · exact q
          · obtain ⟨b, hb, _⟩ := hh 0 q; rw [hA] at hb; cases hb
        · rename_i tt s n get
          obtain ⟨v, e, A, c, ev', hn, _, hh⟩ := hC.sat io _ hob
          rw [ev] at e
          injection e with e
          refine fin n A c (e.trans ev') (fun hA => ?_) h
          rcases hh with ⟨q, _⟩ | ⟨g, cur, q, _⟩
          · exact q
          · rw [hA] at q; cases q
        · rename_i s n vs xs
          obtain ⟨v, e, A, c, ev', hn, _, hh⟩ := sat_dee (hC.sat io _ hob) hC.le
          rw [ev] at e
          injection e with e
          refine fin n A c (e.trans ev') (fun hA => ?_) h
          rcases Nat.eq_zero_or_pos n with q | q
          · exact q
          · obtain ⟨b, hb, _⟩ := hh 0 q; rw [hA] at hb; cases hb
        · exact h.elim
      · obtain ⟨ty, i, d, z, ht, hi, hd, hz, rfl, h⟩ := fnd_ty hT h
        simp only at h
        split at h
        rotate_left
        · exact h.elim
        rename_i hs
        obtain ⟨q1, q2, q3, rfl⟩ := sh_fn hs
        have ey : a.eval y = .nilFunc := hu
        obtain ⟨cs, hcs, ex⟩ := hv
        have hg : ∀ w, (eqGuard op t x y (a.eval x) (a.eval y)).run P w = .ok () w := fun w => by rw [ex, ey]; unfold eqGuard; split <;> rfl
        have heq : ∀ w, (Op.equalIn 10000 t (a.eval x) (a.eval y)).run P w = .ok false w := fun w => by
          rw [ex, ey]
          show (Op.equalIn (9999 + 1) t _ _).run P w = .ok false w
          unfold Op.equalIn
          rw [Sem.run_bind, run_underlying hd w]
          rfl
        split at h
        · refine ⟨.one (.val _), .bool false, rfl, h, fun o ho w _ => ?_⟩
          simp only [execOp, ho]
          refine run_val ?_
          rw [ex, ey] at hg heq
          rw [ex, ey]
          simp [Sem.run_bind, hg, binOp, Op.equal, Op.maxDepth, heq]
        · refine ⟨.one (.val _), .bool (!false), rfl, h, fun o ho w _ => ?_⟩
          simp only [execOp, ho]
          refine run_val ?_
          rw [ex, ey] at hg heq
          rw [ex, ey]
          simp [Sem.run_bind, hg, binOp, Op.equal, Op.maxDepth, heq]
        · exact h.elim
      · obtain ⟨ty, i, d, z, ht, hi, hd, hz, rfl, h⟩ := fnd_ty hT h
        simp only at h
        split at h
        rotate_left
        · exact h.elim
        rename_i hs
        obtain ⟨q1, q2, q3, rfl⟩ := sh_fn hs
        have ey : a.eval y = .nilFunc := hu
        have ex : a.eval x = .nilFunc := hv
        have hg : ∀ w, (eqGuard op t x y (a.eval x) (a.eval y)).run P w = .ok () w := fun w => by rw [ex, ey]; unfold eqGuard; split <;> rfl
        have heq : ∀ w, (Op.equalIn 10000 t (a.eval x) (a.eval y)).run P w = .ok true w := fun w => by
          rw [ex, ey]
          show (Op.equalIn (9999 + 1) t _ _).run P w = .ok true w
          unfold Op.equalIn
          rw [Sem.run_bind, run_underlying hd w]
          rfl
        split at h
        · refine ⟨.one (.val _), .bool true, rfl, h, fun o ho w _ => ?_⟩
          simp only [execOp, ho]
          refine run_val ?_
          rw [ex, ey] at hg heq
          rw [ex, ey]
          simp [Sem.run_bind, hg, binOp, Op.equal, Op.maxDepth, heq]
        · refine ⟨.one (.val _), .bool (!true), rfl, h, fun o ho w _ => ?_⟩
          simp only [execOp, ho]
          refine run_val ?_
          rw [ex, ey] at hg heq
          rw [ex, ey]
          simp [Sem.run_bind, hg, binOp, Op.equal, Op.maxDepth, heq]
        · exact h.elim
      · obtain ⟨r, z, h1, h2, h3⟩ := binK_spec (P := P) hv hu h
        refine ⟨r, z, h1, h2, fun o ho w _ => ?_⟩
        obtain ⟨h4, h5⟩ := h3 t x y w
        simp only [execOp, ho]
        refine run_val ?_
        simp [Sem.run_bind, h4, h5]
  · obtain ⟨r, z, h1, h2, h3⟩ := binK_spec (P := P) hv hu h
    refine ⟨r, z, h1, h2, fun o ho w _ => ?_⟩
    obtain ⟨h4, h5⟩ := h3 t x y w
    simp only [execOp, ho]
    refine run_val ?_
    simp [Sem.run_bind, h4, h5]
theorem pure_call {c : Call} (h : pureK T env obs (.call c) K) : Pures P ρ a B nx obs (.call c) K := by
  simp only [pureK] at h
  split at h
  · rename_i x t
    obtain ⟨ty, i, d, z, ht, hi, hd, hz, rfl, h⟩ := fnd_ty hT h
    simp only at h
    split at h
    · rename_i e hs
      have e0 := sh_sl hs
      subst e0
      have main : ∀ (A : Option Addr) (n cap : Nat), a.eval x = .slice A n cap → K (.one (.val (.int .i64 n))) → Pures P ρ a B nx obs (.call ⟨.builtin .len, #[x], #[t]⟩) K := by
        intro A n cap ex hK
        refine ⟨.one (.val _), _, rfl, hK, fun o ho w _ => ?_⟩
        simp [execOp, ho, resolve, invoke, builtin, Builtin.len_, run_underlying hd, ex, goInt, Sem.run_bind]
      obtain ⟨v, hv, h⟩ := evK_spec hE h
      split at h
      · rename_i io
        obtain ⟨ob, ho, h⟩ := fndK_spec h
        have hsat := hC.sat io ob ho
        split at h
        · obtain ⟨A, c, ex⟩ := sat_len hsat hv.1
          exact main A _ c ex h
        · obtain ⟨A, c, ex⟩ := sat_len_row hsat hv.1
          exact main A _ c ex h
        · obtain ⟨A, c, ex⟩ := sat_len_lit hsat hv.1
          exact main A _ c ex h
        · obtain ⟨⟨v, e1, A, c, rfl, _⟩, _⟩ := hsat
          have := hv.1
          rw [e1] at this; injection this with this
          exact main A _ c this.symm h
        · obtain ⟨A, c, ex⟩ := sat_len (sat_dee hsat hC.le) hv.1
          exact main A _ c ex h
        · obtain ⟨A, n, c, _, _, e1⟩ := hsat
          have := hv.1
          rw [e1] at this; injection this with this
          exact main A _ c this.symm h
        · exact h.elim
      · exact main _ _ _ hv h
      · exact h.elim
    · rename_i hs
      have e0 := sh_str hs
      subst e0
      obtain ⟨v, hv, h⟩ := evK_spec hE h
      split at h
      · rename_i s
        have ex : a.eval x = .string s := hv
        refine ⟨.one (.val _), _, rfl, h, fun o ho w _ => ?_⟩
        simp [execOp, ho, resolve, invoke, builtin, Builtin.len_, run_underlying hd, ex, goInt, Sem.run_bind]
      · exact h.elim
    · exact h.elim
  · rename_i x y ts
    obtain ⟨v, hv, h⟩ := evK_spec hE h
    obtain ⟨u, hu, h⟩ := evK_spec hE h
    split at h
    · rename_i k p k' q _
      have ex : a.eval x = .int k p := hv
      have ey : a.eval y = .int k' q := hu
      refine ⟨.one (.val _), _, rfl, h, fun o ho w _ => ?_⟩
      simp [execOp, ho, resolve, invoke, builtin, Builtin.min_, Builtin.min2, ex, ey, Sem.run_bind]
    · exact h.elim
  · rename_i x y z ts
    obtain ⟨v, hv, h⟩ := evK_spec hE h
    obtain ⟨u, hu, h⟩ := evK_spec hE h
    obtain ⟨t, ht, h⟩ := evK_spec hE h
    split at h
    · rename_i k p k' q k'' r _ _
      have ex : a.eval x = .int k p := hv
      have ey : a.eval y = .int k' q := hu
      have ez : a.eval z = .int k'' r := ht
      refine ⟨.one (.val _), _, rfl, h, fun o ho w _ => ?_⟩
      simp [execOp, ho, resolve, invoke, builtin, Builtin.min_, Builtin.min2, ex, ey, ez, Sem.run_bind]
    · exact h.elim
  · rename_i x y ts
    obtain ⟨v, hv, h⟩ := evK_spec hE h
    obtain ⟨u, hu, h⟩ := evK_spec hE h
    split at h
    · rename_i k p k' q _
      have ex : a.eval x = .int k p := hv
      have ey : a.eval y = .int k' q := hu
      refine ⟨.one (.val _), _, rfl, h, fun o ho w _ => ?_⟩
      simp [execOp, ho, resolve, invoke, builtin, Builtin.max_, Builtin.max2, ex, ey, Sem.run_bind]
    · exact h.elim
  · exact h.elim
theorem pure_sound {op : Op} (h : pureK T env obs op K) : Pures P ρ a B nx obs op K := by
  cases op
  case move x => exact pure_ev hE h (fun o ho => by simp [execOp, ho])
  case assign x => exact pure_ev hE h (fun o ho => by simp [execOp, ho])
  case pick c x y => exact pure_pick hE h
  case load t x => exact pure_load hT hE hC h
  case fieldAddr t x f => exact pure_fieldAddr hT hE h
  case field t x f => exact pure_field hT hE h
  case indexAddr t x y => exact pure_indexAddr hT hE hC h
  case slice t x lo hi mx => exact pure_slice hT hE h
  case index t x y => exact pure_index hT hE h
  case binOp op t x y t' => exact pure_bin hT hE hC h
  case unOp op t x => exact pure_un hE h
  case convert s t x => exact pure_convert hT hE hC h
  case extract x i => exact pure_extract hE h
  case nilCheck x => exact pure_nilCheck hE h
  case build t ps => exact pure_build hT hE h
  case makeFunc fn fi ca => exact pure_makeFunc hE h
  case call c => exact pure_call hT hE hC h
  all_goals exact (h : False).elim
end
end Go.Proofs.YtlbffibpcjjpkaaDoor.V
