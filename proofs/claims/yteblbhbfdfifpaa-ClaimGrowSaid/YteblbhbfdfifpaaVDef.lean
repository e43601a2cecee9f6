/- A walk by verification conditions: symbolic values, objects, and what is to be shown of a piece of code. -/
import Derived.Test.YteblbhbfdfifpaaWords
import Derived.Deep.Quiet
import Derived.Deep.LoopGhost
import Derived.Deep.MidRow
import Derived.RangeFuncRecord
import Derived.RangeFuncCalls
import Derived.Sort.LoopGhostIn
namespace Go.Proofs.Yteblbhbfdfifpaa.V
open Go Go.RowKit

/-- what a cell holds: a value that is known; a bool that is known; a bool that says whether p; a pointer into object i (element k of size s, cell j of it); the slice that is object i; a closure over variables -/
inductive At where
  | val (v : Value)
  | tf (b : Bool)
  | prop (p : Prop)
  | ptr (i k j s : Nat)
  | ref (i : Nat)
  | clo (f : FuncId) (caps : List Nat)
inductive SV where
  | one (a : At)
  | agg (l : List At)
  | tup (l : List SV)
abbrev Env := List (Nat × SV)
/-- a range over a function: the slots of its activation, its parameters, its code; where it stands -/
structure Lc where
  sz : Nat
  ps : List Nat
  assign : Code
  body : Code
inductive Lst where
  | ready
  | busy
  | done (c : Code)
/-- an object: a variable of the call's own; cells that are only read: n elements of s cells each, or s cells behind a pointer; a row of the call's own that may be appended to and written -/
inductive Ob where
  | box (t : TypeId) (l : List At)
  | lit (t : TypeId) (s : Nat) (rows : List (List At))
  | arr (s n : Nat) (get : Nat → List Value)
  | cel (l : List Value)
  | row (t : TypeId) (s n : Nat) (get : Nat → List Value)
  | lp (L : Lc) (env : List (Nat × SV)) (st : Lst)
  | gone
abbrev Obs := List (Nat × Ob)
abbrev Rho := Nat → Option Value

def fnd {α : Type} : List (Nat × α) → Nat → Option α
  | [], _ => none
  | (u, v) :: r, t => match Nat.beq u t with | true => some v | false => fnd r t
def fndK {α : Type} : List (Nat × α) → Nat → (α → Prop) → Prop
  | [], _, _ => False
  | (u, v) :: r, t, K => match Nat.beq u t with | true => K v | false => fndK r t K
def nthK {α : Type} : List α → Nat → (α → Prop) → Prop
  | [], _, _ => False
  | x :: _, 0, K => K x
  | _ :: r, n + 1, K => nthK r n K

/-! the questions that the walk leaves -/
structure NIf (p A B : Prop) : Prop where
  t : p → A
  f : ¬ p → B
structure NWrap (k : IntKind) (e : Int) (K : Int → Prop) : Prop where
  h : K (k.wrap e)
structure NLt (k n : Nat) (K : Prop) : Prop where
  lt : k < n
  h : K
structure NLe (n : Nat) (K : Prop) : Prop where
  le : n ≤ 9223372036854775807
  h : K
structure NIdx (q : Int) (n : Nat) (K : Nat → Prop) : Prop where
  h : ∃ k : Nat, q = (k : Int) ∧ k < n ∧ K k
structure NQuo (k : IntKind) (x y : Int) (K : Int → Prop) : Prop where
  ne : y ≠ 0
  h : K (k.wrap (x.tdiv y))
structure NRem (x y : Int) (K : Int → Prop) : Prop where
  ne : y ≠ 0
  h : K (x.tmod y)
structure NShl (k : IntKind) (x y : Int) (K : Int → Prop) : Prop where
  ge : 0 ≤ y
  h : K (k.wrap (x * 2 ^ (min y.toNat k.bits)))
structure NShr (k : IntKind) (x y : Int) (K : Int → Prop) : Prop where
  ge : 0 ≤ y
  h : K (x.fdiv (2 ^ (min y.toNat k.bits)))
structure NBit (op : BinOp) (k : IntKind) (x y : Int) (K : Int → Prop) : Prop where
  h : ∀ z, (∀ P w, (Op.intBits op k x y).run P w = .ok (.int k z) w) → K z
structure NEnd (A : Prop) : Prop where
  h : A

/-! types -/
inductive Sh where
  | int (k : IntKind)
  | bool
  | str
  | ptr (e : Nat)
  | sl (e : Nat)
  | st (fs : List (Nat × Nat × Nat))
  | arr (n e : Nat)
  | cl
  | oth
structure Ty where
  sh : Sh
  size : Nat
  bytes : Nat
  zero : List Value
  eq : Bool := false
abbrev TT := List (Nat × Ty)
def sizeT (P : Program) (t : TypeId) : Nat := match P.info? t with | some i => i.size | none => 0
def aggT (P : Program) (t : TypeId) : Nat := match P.underlying t with | some (.struct _) | some (.array _ _) => 2 | some _ => 1 | none => 0
def shOf (P : Program) : TypeDesc → Sh
  | .int k => .int k
  | .bool => .bool
  | .string => .str
  | .pointer e => .ptr e
  | .slice e => .sl e
  | .struct fs => match fs.toList.all fun f => (P.info? f.type).isSome with
    | true => .st (fs.toList.map fun f => (f.offset, sizeT P f.type, aggT P f.type))
    | false => .oth
  | .array n e => .arr n e
  | _ => .cl
def intT (P : Program) (t : TypeId) : Bool := match P.underlying t with | some (.int _) => true | _ => false
def okF (P : Program) (p : Field × Nat) : Bool := (p.1.name != "_") && (p.1.offset == p.2) && intT P p.1.type
/-- a struct of integers alone, that can be compared -/
def eqOf (P : Program) (t : TypeId) : Bool := match P.underlying t with
  | some (.struct fs) => !P.stoodInHeld t && !P.eqGuardType P.depth t && fs.toList.zipIdx.all (okF P)
  | _ => false
def tyOf (P : Program) (t : TypeId) : Option Ty :=
  match P.info? t, P.underlying t with
  | some i, some d => match i.zero with
    | some z => some ⟨shOf P d, i.size, i.bytes, z.cells.toList, eqOf P t⟩
    | none => none
  | _, _ => none
def TTok (P : Program) : TT → Prop
  | [] => True
  | (t, ty) :: r => tyOf P t = some ty ∧ TTok P r

/-! meaning -/
def base (ρ : Rho) (i : Nat) : Option Addr := match ρ i with
  | some (.pointer (some a)) => some a
  | some (.slice (some a) _ _) => some a
  | _ => none
def CapsAre (ρ : Rho) : List Nat → List Value → Prop
  | [], xs => xs = []
  | i :: l, xs => ∃ a r, base ρ i = some a ∧ xs = .pointer (some a) :: r ∧ CapsAre ρ l r
def At.is (ρ : Rho) : At → Value → Prop
  | .val v, x => x = v
  | .tf b, x => x = .bool b
  | .prop p, x => ∃ b, x = .bool b ∧ (b = true ↔ p)
  | .ptr i k j s, x => ∃ a, base ρ i = some a ∧ x = .pointer (some (a.add (k * s + j)))
  | .ref i, x => ρ i = some x ∧ x.oneCell' = true
  | .clo f caps, x => ∃ cs, CapsAre ρ caps cs ∧ x = .func (.func f) #[] cs.toArray
def Ats (ρ : Rho) : List At → List Value → Prop
  | [], xs => xs = []
  | a :: l, xs => ∃ x r, xs = x :: r ∧ a.is ρ x ∧ Ats ρ l r
def SV.is1 (ρ : Rho) : SV → Value → Prop
  | .one a, x => a.is ρ x
  | .agg l, x => ∃ cs, Ats ρ l cs ∧ x = .agg cs.toArray
  | .tup _, _ => False
def Svs (ρ : Rho) : List SV → List Value → Prop
  | [], xs => xs = []
  | a :: l, xs => ∃ x r, xs = x :: r ∧ a.is1 ρ x ∧ Svs ρ l r
def SV.is (ρ : Rho) : SV → Value → Prop
  | .one a, x => a.is ρ x
  | .agg l, x => ∃ cs, Ats ρ l cs ∧ x = .agg cs.toArray
  | .tup l, x => ∃ cs, Svs ρ l cs ∧ x = .tuple cs.toArray
def cellB : At → Bool
  | .val v => v.oneCell'
  | _ => true

/-- the readable cells of n elements, s cells each, of a slice -/
def ArrIs (w : World) (v : Value) (s n : Nat) (get : Nat → List Value) : Prop :=
  ∃ A c, v = .slice A n c ∧ n ≤ 9223372036854775807 ∧ n ≤ c ∧ ∀ k, k < n → ∃ a, A = some a ∧ a.block < w.heap.size ∧ (get k).length = s ∧ ∀ j u, (get k)[j]? = some u → w.cell? (a.add (k * s + j)) = some u
def CelIs (w : World) (v : Value) (l : List Value) : Prop :=
  ∃ a, v = .pointer (some a) ∧ a.block < w.heap.size ∧ ∀ j u, l[j]? = some u → w.cell? (a.add j) = some u
def flat (get : Nat → List Value) (n : Nat) : List Value := (List.range n).flatMap get
/-- a row of the call's own, of block B on: it may be appended to, and written -/
def RowIs (B : Nat) (w : World) (v : Value) (t s n : Nat) (get : Nat → List Value) : Prop :=
  ∃ A c, v = .slice A n c ∧ n ≤ 9223372036854775807 ∧ (∀ k, k < n → (get k).length = s) ∧
    ((n = 0 ∧ c = 0) ∨ ∃ g cur, A = some ⟨g, 0, none⟩ ∧ B ≤ g ∧ w.heap[g]? = some (.cells cur t (0, 0)) ∧ n ≤ c ∧ 0 < c ∧ c ≤ maxLen ∧ cur.size = c * s ∧ cur.toList.take (n * s) = flat get n)
structure EnvR (sz : Nat) (ρ : Rho) (env : Env) (a : Act) : Prop where
  size : a.tmps.size = sz
  env : ∀ t v, fnd env t = some v → ∃ x, a.tmps[t]? = some x ∧ v.is ρ x
def Lst.state : Lst → LoopState
  | .ready => .ready
  | .busy => .busy
  | .done _ => .done
def Lst.pend : Lst → Option Code
  | .done c => some c
  | _ => none
def Sat (B : Nat) (ρ : Rho) (w : World) (i : Nat) : Ob → Prop
  | .lp L env st => ∃ l fn tmps D, ρ i = some (.func (.yield l) #[] #[]) ∧ B ≤ l ∧ w.heap[l]? = some (.loop { state := st.state, pending := st.pend, fn := fn, tmps := tmps, params := L.ps.toArray, assign := L.assign, body := L.body, defers := D }) ∧ EnvR L.sz ρ env { tmps := tmps, defers := [] }
  | .box t l => ∃ b cs, ρ i = some (.pointer (some ⟨b, 0, none⟩)) ∧ B ≤ b ∧ Ats ρ l cs ∧ w.heap[b]? = some (.cells cs.toArray t (0, 0))
  | .arr s n get => ∃ v, ρ i = some v ∧ ArrIs w v s n get
  | .cel l => ∃ v, ρ i = some v ∧ CelIs w v l
  | .lit t s rows => ∃ b cs, ρ i = some (.slice (some ⟨b, 0, none⟩) rows.length rows.length) ∧ B ≤ b ∧ (∀ r ∈ rows, r.length = s) ∧ rows.length ≤ 9223372036854775807 ∧ Ats ρ rows.flatten cs ∧ w.heap[b]? = some (.cells cs.toArray t (0, 0))
  | .row t s n get => ∃ v, ρ i = some v ∧ RowIs B w v t s n get
  | .gone => True
def Ob.mut : Ob → Bool
  | .box _ _ | .lit _ _ _ | .row _ _ _ _ | .lp _ _ _ => true
  | _ => false
def foot (ρ : Rho) (i : Nat) : Ob → Option Nat
  | .box _ _ | .lit _ _ _ | .cel _ => (base ρ i).map (·.block)
  | .row _ _ _ _ => match ρ i with
    | some (.slice _ _ 0) => none
    | _ => (base ρ i).map (·.block)
  | .arr _ n _ => match n with | 0 => none | _ => (base ρ i).map (·.block)
  | .lp _ _ _ => match ρ i with
    | some (.func (.yield l) _ _) => some l
    | _ => none
  | .gone => none
structure Cls (B : Nat) (ρ : Rho) (obs : Obs) (nx : Nat) (w : World) : Prop where
  le : B ≤ w.heap.size
  sat : ∀ i o, fnd obs i = some o → Sat B ρ w i o
  apart : ∀ i j o o' b, fnd obs i = some o → fnd obs j = some o' → i ≠ j → o.mut = true → foot ρ i o = some b → foot ρ j o' ≠ some b
  new : ∀ i, nx ≤ i → ρ i = none
def Oth (w w' : World) : Prop := ∀ (k : Nat) (D : Option (List Deferred)), w.heap[k]? = some (Obj.deferred D) → w'.heap[k]? = some (Obj.deferred D)

/-! the code -/
def evK (env : Env) : Operand → (SV → Prop) → Prop
  | .tmp t, K => fndK env t K
  | .const (.bool b), K => K (.one (.tf b))
  | .const v, K => K (.one (.val v))
  | .func f, K => K (.one (.clo f []))
  | .global _, _ => False
def putK (sz : Nat) (dst : Option Tmp) (v : SV) (env : Env) (K : Env → Prop) : Prop :=
  match dst with
  | none => K env
  | some d => match Nat.blt d sz with
    | true => K ((d, v) :: env)
    | false => False
def cellsK : SV → (List At → Prop) → Prop
  | .one a, K => match cellB a with | true => K [a] | false => False
  | .agg l, K => match l.all cellB with | true => K l | false => False
  | .tup _, _ => False
/-- part of a list: s from j on -/
def cutK {α : Type} : List α → Nat → Nat → (List α → Prop) → Prop
  | _, 0, 0, K => K []
  | [], _, _, _ => False
  | x :: r, 0, s + 1, K => cutK r 0 s fun l => K (x :: l)
  | _ :: r, j + 1, s, K => cutK r j s K
/-- a list with the cells from j on replaced -/
def layK {α : Type} : List α → Nat → List α → (List α → Prop) → Prop
  | l, 0, [], K => K l
  | [], _, _, _ => False
  | _ :: r, 0, y :: ys, K => layK r 0 ys fun l => K (y :: l)
  | x :: r, j + 1, ys, K => layK r j ys fun l => K (x :: l)
def isRow : Sh → Nat
  | .st _ | .arr _ _ => 2
  | .oth => 0
  | _ => 1
def loadK (ty : Ty) (l : List At) (j : Nat) (K : SV → Prop) : Prop :=
  match isRow ty.sh with
  | 2 => cutK l j ty.size fun c => K (.agg c)
  | 1 => nthK l j fun a => K (.one a)
  | _ => False
def vals : List Value → List At := List.map At.val
/-- the cells that a pointer into an object leads to -/
def elemK (ty : Ty) (k j s : Nat) (K : SV → Prop) : Ob → Prop
  | .box _ l => match k with | 0 => loadK ty l j K | _ + 1 => False
  | .cel l => match k with | 0 => loadK ty (vals l) j K | _ + 1 => False
  | .lit _ s' rows => match Nat.beq s s' with | true => nthK rows k fun r => loadK ty r j K | false => False
  | .arr s' n get => match Nat.beq s s' with | true => NLt k n (loadK ty (vals (get k)) j K) | false => False
  | .row _ s' n get => match Nat.beq s s' with | true => NLt k n (loadK ty (vals (get k)) j K) | false => False
  | .lp _ _ _ => False
  | .gone => False
def intK (op : BinOp) (k : IntKind) (x y : Int) (K : SV → Prop) : Prop :=
  match op with
  | .add => NWrap k (x + y) fun z => K (.one (.val (.int k z)))
  | .sub => NWrap k (x - y) fun z => K (.one (.val (.int k z)))
  | .mul => NWrap k (x * y) fun z => K (.one (.val (.int k z)))
  | .quo => NQuo k x y fun z => K (.one (.val (.int k z)))
  | .rem => NRem x y fun z => K (.one (.val (.int k z)))
  | .and | .or | .xor | .andNot => NBit op k x y fun z => K (.one (.val (.int k z)))
  | .eql => K (.one (.prop (x = y)))
  | .neq => K (.one (.prop (¬ x = y)))
  | .lss => K (.one (.prop (x < y)))
  | .leq => K (.one (.prop (x ≤ y)))
  | .gtr => K (.one (.prop (y < x)))
  | .geq => K (.one (.prop (y ≤ x)))
  | _ => False
def kEq : IntKind → IntKind → Bool
  | .i8, .i8 | .i16, .i16 | .i32, .i32 | .i64, .i64 | .u8, .u8 | .u16, .u16 | .u32, .u32 | .u64, .u64 => true
  | _, _ => false
def boolP : At → Option Prop
  | .prop p => some p
  | .tf b => some (b = true)
  | .val (.bool b) => some (b = true)
  | _ => none
def binK (op : BinOp) : SV → SV → (SV → Prop) → Prop
  | .one (.val (.int k x)), .one (.val (.int k' y)), K =>
    match op with
    | .shl => NShl k x y fun z => K (.one (.val (.int k z)))
    | .shr => NShr k x y fun z => K (.one (.val (.int k z)))
    | op => match kEq k k' with | true => intK op k x y K | false => False
  | .one (.val (.string a)), .one (.val (.string b)), K =>
    match op with
    | .eql => K (.one (.prop (a.toList = b.toList)))
    | .neq => K (.one (.prop (¬ a.toList = b.toList)))
    | .add => NLe (a.size + b.size) (K (.one (.val (.string (a ++ b)))))
    | _ => False
  | _, _, _ => False
def eqK : List At → List At → (Prop → Prop) → Prop
  | [], [], K => K True
  | .val (.int k a) :: l, .val (.int k' b) :: m, K => match kEq k k' with
    | true => eqK l m fun p => K (a = b ∧ p)
    | false => False
  | _, _, _ => False
def unK (op : UnOp) : SV → (SV → Prop) → Prop
  | .one (.tf b), K => match op with | .not => K (.one (.tf (!b))) | _ => False
  | .one (.prop p), K => match op with | .not => K (.one (.prop (¬ p))) | _ => False
  | .one (.val (.bool b)), K => match op with | .not => K (.one (.prop (¬ b = true))) | _ => False
  | .one (.val (.int k x)), K => match op with
    | .neg => NWrap k (0 - x) fun z => K (.one (.val (.int k z)))
    | .xor => NBit .xor k (if k.signed then -1 else k.max) x fun z => K (.one (.val (.int k z)))
    | _ => False
  | _, _ => False
def evsK (env : Env) : List Operand → (List SV → Prop) → Prop
  | [], K => K []
  | x :: r, K => evK env x fun v => match v with
    | .one a => evsK env r fun l => K (.one a :: l)
    | .agg c => evsK env r fun l => K (.agg c :: l)
    | .tup _ => False
def capN : List Nat → (List SV → Prop) → Prop
  | [], K => K []
  | i :: r, K => capN r fun l => K (.one (.ptr i 0 0 0) :: l)
def capE : List SV → List Nat → (List SV → Prop) → Prop
  | [], c, K => capN c K
  | x :: l, c, K => capE l c fun r => K (x :: r)
/-- the cells of a struct that is built: zero cells, with parts laid over them -/
def fillK (env : Env) (fs : List (Nat × Nat × Nat)) : List (Nat × Operand) → List At → (List At → Prop) → Prop
  | [], l, K => K l
  | (i, x) :: r, l, K => nthK fs i fun f => evK env x fun v => cellsK v fun c => match Nat.beq c.length f.2.1 with
    | true => layK l f.1 c fun l' => fillK env fs r l' K
    | false => False
def capsK (env : Env) : List Operand → (List Nat → Prop) → Prop
  | [], K => K []
  | x :: r, K => evK env x fun v => match v with
    | .one (.ptr i 0 0 0) => capsK env r fun l => K (i :: l)
    | _ => False
def loIs (l : Option Int) (a : Nat) : Prop := match l with | none => a = 0 | some q => q = (a : Int)
def hiIs (l : Option Int) (n b : Nat) : Prop := match l with | none => b = n | some q => q = (b : Int)
structure NCut (lo hi : Option Int) (n : Nat) (K : Nat → Nat → Prop) : Prop where
  h : ∃ a b : Nat, loIs lo a ∧ hiIs hi n b ∧ a ≤ b ∧ b ≤ n ∧ K a b
def optK (env : Env) : Option Operand → (Option Int → Prop) → Prop
  | none, K => K none
  | some x, K => evK env x fun v => match v with
    | .one (.val (.int _ q)) => K (some q)
    | _ => False
/-- is a slice nil? It may be, if it is empty -/
structure NNil (n : Nat) (K : Prop → Prop) : Prop where
  h : ∀ p : Prop, (p → n = 0) → K p
def nilP (op : BinOp) (p : Prop) (K : SV → Prop) : Prop := match op with
  | .eql => K (.one (.prop p))
  | .neq => K (.one (.prop (¬ p)))
  | _ => False
def nilK (obs : Obs) (i : Nat) (op : BinOp) (K : SV → Prop) : Prop := fndK obs i fun o => match o with
  | .arr _ n _ => NNil n fun p => nilP op p K
  | .row _ _ n _ => NNil n fun p => nilP op p K
  | _ => False
/-- an operation that leaves the world alone, and its value -/
def pureK (T : TT) (env : Env) (obs : Obs) : Op → (SV → Prop) → Prop
  | .move x, K | .assign x, K => evK env x K
  | .pick c a b, K => evK env c fun v => match v with
    | .one (.tf true) => evK env a K
    | .one (.tf false) => evK env b K
    | .one (.prop p) => NIf p (evK env a K) (evK env b K)
    | .one (.val (.bool q)) => NIf (q = true) (evK env a K) (evK env b K)
    | _ => False
  | .load t x, K => fndK T t fun ty => evK env x fun v => match v with
    | .one (.ptr i k j s) => fndK obs i fun o => elemK ty k j s K o
    | _ => False
  | .fieldAddr t x f, K => fndK T t fun ty => match ty.sh with
    | .st fs => nthK fs f fun q => match q.2.1 with
      | 0 => False
      | _ => evK env x fun v => match v with
        | .one (.ptr i k j s) => K (.one (.ptr i k (j + q.1) s))
        | _ => False
    | _ => False
  | .field t x f, K => fndK T t fun ty => match ty.sh with
    | .st fs => nthK fs f fun q => evK env x fun v => match v with
      | .agg l => match q.2.2 with
        | 2 => cutK l q.1 q.2.1 fun c => K (.agg c)
        | 1 => nthK l q.1 fun a => K (.one a)
        | _ => False
      | _ => False
    | _ => False
  | .indexAddr t x y, K => fndK T t fun ty => match ty.sh with
    | .sl e => fndK T e fun te => evK env x fun v => match v with
      | .one (.ref i) => evK env y fun u => match u with
        | .one (.val (.int _ q)) => fndK obs i fun o => match o with
          | .arr s n _ => match Nat.beq s te.size with | true => NIdx q n fun k => K (.one (.ptr i k 0 s)) | false => False
          | .row _ s n _ => match Nat.beq s te.size with | true => NIdx q n fun k => K (.one (.ptr i k 0 s)) | false => False
          | .lit _ s rows => match Nat.beq s te.size with | true => NIdx q rows.length fun k => K (.one (.ptr i k 0 s)) | false => False
          | _ => False
        | _ => False
      | _ => False
    | _ => False
  | .binOp op t x y _, K => evK env x fun v => evK env y fun u => match v, u with
    | .agg l, .agg m => fndK T t fun ty => match ty.sh with
      | .st fs => match ty.eq, Nat.beq l.length fs.length with
        | true, true => match op with
          | .eql => eqK l m fun p => K (.one (.prop p))
          | .neq => eqK l m fun p => K (.one (.prop (¬ p)))
          | _ => False
        | _, _ => False
      | _ => False
    | .one a, .one b => match boolP a, boolP b with
      | some p, some q => fndK T t fun ty => match ty.sh with
        | .bool => match op with
          | .eql => K (.one (.prop (p ↔ q)))
          | .neq => K (.one (.prop (¬ (p ↔ q))))
          | _ => False
        | _ => False
      | _, _ => match a, b with
        | .ref i, .val (.slice none 0 0) => fndK T t fun ty => match ty.sh with
          | .sl _ => nilK obs i op K
          | _ => False
        | a, b => binK op (.one a) (.one b) K
    | _, _ => binK op v u K
  | .unOp op _ x, K => evK env x fun v => unK op v K
  | .convert s t x, K => fndK T s fun _ => fndK T t fun ty => match ty.sh with
    | .int k => evK env x fun v => match v with
      | .one (.val (.int _ n)) => NWrap k n fun z => K (.one (.val (.int k z)))
      | _ => False
    | _ => False
  | .nilCheck x, K => evK env x fun v => match v with
    | .one (.ptr i k j s) => K (.one (.ptr i k j s))
    | _ => False
  | .extract x i, K => evK env x fun v => match v with
    | .tup l => nthK l i K
    | _ => False
  | .build t parts, K => fndK T t fun ty => match ty.sh with
    | .st fs => fillK env fs parts.toList (vals ty.zero) fun l => K (.agg l)
    | _ => False
  | .index t x y, K => fndK T t fun ty => match ty.sh with
    | .str => evK env x fun v => match v with
      | .one (.val (.string s)) => evK env y fun u => match u with
        | .one (.val (.int _ q)) => NIdx q s.size fun k => K (.one (.val (.int .u8 (s.data.getD k 0).toNat)))
        | _ => False
      | _ => False
    | _ => False
  | .slice t x lo hi mx, K => match mx with
    | none => fndK T t fun ty => match ty.sh with
      | .str => evK env x fun v => match v with
        | .one (.val (.string s)) => optK env lo fun l => optK env hi fun h => NCut l h s.size fun a b => K (.one (.val (.string (s.extract a b))))
        | _ => False
      | _ => False
    | some _ => False
  | .makeFunc fn first caps, K => match fn, first with
    | .func f, ⟨[]⟩ => capsK env caps.toList fun l => K (.one (.clo f l))
    | _, _ => False
  | .call c, K => match c with
    | ⟨.builtin .len, ⟨[x]⟩, ⟨[t]⟩⟩ => fndK T t fun ty => match ty.sh with
      | .sl _ => evK env x fun v => match v with
        | .one (.ref i) => fndK obs i fun o => match o with
          | .arr _ n _ => K (.one (.val (.int .i64 n)))
          | .row _ _ n _ => K (.one (.val (.int .i64 n)))
          | .lit _ _ rows => K (.one (.val (.int .i64 rows.length)))
          | _ => False
        | .one (.val (.slice _ n _)) => K (.one (.val (.int .i64 n)))
        | _ => False
      | .str => evK env x fun v => match v with
        | .one (.val (.string s)) => K (.one (.val (.int .i64 s.size)))
        | _ => False
      | _ => False
    | ⟨.builtin .min, ⟨[x, y]⟩, _⟩ => evK env x fun v => evK env y fun u => match v, u with
      | .one (.val (.int k a)), .one (.val (.int _ b)) => K (.one (.val (.int k (if b < a then b else a))))
      | _, _ => False
    | ⟨.builtin .max, ⟨[x, y]⟩, _⟩ => evK env x fun v => evK env y fun u => match v, u with
      | .one (.val (.int k a)), .one (.val (.int _ b)) => K (.one (.val (.int k (if a < b then b else a))))
      | _, _ => False
    | _ => False
  | _, _ => False
def hasBody (P : Program) (f : FuncId) : Bool := match P.funcs[f]? with
  | some fn => fn.body.isSome && !(fn.name == "runtime.NumGoroutine")
  | none => false
/-- a call of a function of the program: what it answers, and what becomes of the objects -/
structure NCall (P : Program) (f : FuncId) (args : List SV) (obs : Obs) (nx : Nat) (K : SV → Obs → Nat → Prop) : Prop where
  b : hasBody P f = true
  h : ∀ B ρ w xs, Cls B ρ obs nx w → Svs ρ args xs → Calls P f xs.toArray w fun e w' => ∃ v obs' nx' ρ' x, K v obs' nx' ∧ (∀ i y, ρ i = some y → ρ' i = some y) ∧ e = .returned x ∧ v.is ρ' x ∧ Cls B ρ' obs' nx' w' ∧ Below B w w' ∧ Oth w w'
/-- .. that makes memory alone -/
structure NCallA (P : Program) (f : FuncId) (args : List SV) (obs : Obs) (nx : Nat) (K : SV → Obs → Nat → Prop) : Prop where
  b : hasBody P f = true
  h : ∀ B ρ w xs, Cls B ρ obs nx w → Svs ρ args xs → Calls P f xs.toArray w fun e w' => ∃ v obs' nx' ρ' x, K v obs' nx' ∧ (∀ i y, ρ i = some y → ρ' i = some y) ∧ e = .returned x ∧ v.is ρ' x ∧ Cls B ρ' obs' nx' w' ∧ Below w.heap.size w w'
/-- .. that leaves all objects as they are -/
structure NCallQ (P : Program) (f : FuncId) (args : List SV) (obs : Obs) (nx : Nat) (K : SV → Prop) : Prop where
  b : hasBody P f = true
  h : ∃ v, K v ∧ ∀ B ρ w xs, Cls B ρ obs nx w → Svs ρ args xs → Calls P f xs.toArray w fun e w' => ∃ x, e = .returned x ∧ v.is ρ x ∧ Below w.heap.size w w'
/-- a call of yield: a round of the loop that object i is the record of -/
structure NYield (P : Program) (i : Nat) (args : List SV) (obs : Obs) (nx : Nat) (K : SV → Obs → Nat → Prop) : Prop where
  h : ∀ B ρ w xs l n, Cls B ρ obs nx w → Svs ρ args xs → ρ i = some (.func (.yield l) #[] #[]) → YieldAt Fence.wide n P l xs.toArray w fun e w' => ∃ v obs' nx' ρ' x, K v obs' nx' ∧ (∀ i y, ρ i = some y → ρ' i = some y) ∧ e = .returned x ∧ v.is ρ' x ∧ Cls B ρ' obs' nx' w' ∧ Below B w w' ∧ Oth w w'

/-- an append: the row that is there then, in whatever words -/
structure NApp (n m : Nat) (get news : Nat → List Value) (bytes : Nat) (K : Nat → (Nat → List Value) → Prop) : Prop where
  h : ∃ n' g, n' = n + m ∧ n' ≤ 9223372036854775807 ∧ n' * bytes ≤ 140737488355328 ∧ (∀ k, k < n → g k = get k) ∧ (∀ k, k < m → g (n + k) = news k) ∧ K n' g
/-- a store into a row -/
structure NPut (n k : Nat) (get : Nat → List Value) (r : List Value) (K : (Nat → List Value) → Prop) : Prop where
  h : ∃ g, (∀ k', k' < n → g k' = if k' = k then r else get k') ∧ K g
structure NGrow (n bytes : Nat) (K : Prop) : Prop where
  len : n ≤ 9223372036854775807
  room : n * bytes ≤ 140737488355328
  h : K
structure NMake (l c : Int) (bytes : Nat) (K : Nat → Prop) : Prop where
  h : ∃ n m : Nat, l = (n : Int) ∧ c = (m : Int) ∧ n ≤ m ∧ m ≤ 9223372036854775807 ∧ bytes * m ≤ 281474976710656 ∧ K n
structure NOne (m : Nat) (get : Nat → List Value) (K : Prop) : Prop where
  one : ∀ k, k < m → (get k).all Value.oneCell' = true
  h : K
/-- a bool that says whether p, in a cell -/
structure NTF (p : Prop) (K : Bool → Prop) : Prop where
  h : ∀ b : Bool, (b = true ↔ p) → K b
def closeK : List At → (List Value → Prop) → Prop
  | [], K => K []
  | .val v :: r, K => match v.oneCell' with | true => closeK r fun l => K (v :: l) | false => False
  | .tf b :: r, K => closeK r fun l => K (.bool b :: l)
  | .prop p :: r, K => NTF p fun b => closeK r fun l => K (.bool b :: l)
  | _ :: _, _ => False
def closesK : List (List At) → (List (List Value) → Prop) → Prop
  | [], K => K []
  | x :: r, K => closeK x fun y => closesK r fun l => K (y :: l)
/-- the rows of a slice that is built, one by one -/
def rowsK (env : Env) (s : Nat) : Nat → List (Nat × Operand) → (List (List At) → Prop) → Prop
  | _, [], K => K []
  | i, (j, x) :: r, K => match Nat.beq i j with
    | true => evK env x fun v => cellsK v fun c => match Nat.beq c.length s with
      | true => rowsK env s (i + 1) r fun l => K (c :: l)
      | false => False
    | false => False
def tail1 (n : Nat) (get : Nat → List Value) (r : List Value) : Nat → List Value := fun k => if k < n then get k else r
def tailn (n : Nat) (get get' : Nat → List Value) : Nat → List Value := fun k => if k < n then get k else get' (k - n)
def listG (l : List (List Value)) : Nat → List Value := fun k => l.getD k []
/-- what is appended -/
def newsK (obs : Obs) (s : Nat) (j : Nat) (K : Nat → (Nat → List Value) → Prop) : Prop :=
  fndK obs j fun o => match o with
    | .lit _ s' rows => match Nat.beq s s' with
      | true => closesK rows fun ll => K ll.length (listG ll)
      | false => False
    | .arr s' m get => match Nat.beq s s' with | true => NOne m get (K m get) | false => False
    | .row _ s' m get => match Nat.beq s s' with | true => NOne m get (K m get) | false => False
    | _ => False
def appK_ (sz : Nat) (dst : Option Tmp) (env : Env) (obs : Obs) (nx : Nat) (e s bytes : Nat) (K : Env → Obs → Nat → Prop) (x y : SV) : Prop :=
  match x, y with
  | .one (.ref i), .one (.ref j) => fndK obs i fun o => match o with
    | .row t' s' n get => match Nat.beq t' e, Nat.beq s s', Nat.beq i j with
      | true, true, false => newsK obs s j fun m news => NApp n m get news bytes fun n' g => putK sz dst (.one (.ref nx)) env fun env' => K env' ((nx, .row e s n' g) :: (i, .gone) :: obs) (nx + 1)
      | _, _, _ => False
    | _ => False
  | .one (.val (.slice none 0 0)), .one (.ref j) => newsK obs s j fun m news => NApp 0 m (fun _ => []) news bytes fun n' g => putK sz dst (.one (.ref nx)) env fun env' => K env' ((nx, .row e s n' g) :: obs) (nx + 1)
  | _, _ => False
def opK (P : Program) (T : TT) (sz : Nat) (q : Bool) (o : Oper) (env : Env) (obs : Obs) (nx : Nat) (K : Env → Obs → Nat → Prop) : Prop :=
  match o.op with
  | .box t x => match q with
    | true => False
    | false => evK env x fun v => cellsK v fun l => putK sz o.dst (.one (.ptr nx 0 0 0)) env fun env' => K env' ((nx, .box t l) :: obs) (nx + 1)
  | .alloc t => match q with
    | true => False
    | false => fndK T t fun ty => match ty.sh, ty.zero with
      | .sl e, [.slice none 0 0] => fndK T e fun te => putK sz o.dst (.one (.ptr (nx + 1) 0 0 0)) env fun env' => K env' ((nx + 1, .box t [.ref nx]) :: (nx, .row e te.size 0 fun _ => []) :: obs) (nx + 1 + 1)
      | _, _ => match ty.zero.all Value.oneCell' with
        | true => putK sz o.dst (.one (.ptr nx 0 0 0)) env fun env' => K env' ((nx, .box t (vals ty.zero)) :: obs) (nx + 1)
        | false => False
  | .store t x y => match q with
    | true => False
    | false => fndK T t fun ty => evK env x fun v => match v with
      | .one (.ptr i k j s) => fndK obs i fun ob => match ob with
        | .box t' l => match k, s with
          | 0, 0 => evK env y fun u => cellsK u fun c => match Nat.beq c.length ty.size with
            | true => layK l j c fun l' => putK sz o.dst (.tup []) env fun env' => K env' ((i, .box t' l') :: obs) nx
            | false => False
          | _, _ => False
        | .row t' s' n get => match Nat.beq s s' with
          | true => NLt k n (evK env y fun u => cellsK u fun c => closeK c fun vs => match Nat.beq vs.length ty.size with
            | true => layK (get k) j vs fun r => NPut n k get r fun g => putK sz o.dst (.tup []) env fun env' => K env' ((i, .row t' s' n g) :: obs) nx
            | false => False)
          | false => False
        | _ => False
      | _ => False
  | .buildSlice t len parts => match q with
    | true => False
    | false => fndK T t fun ty => match ty.sh with
      | .sl e => fndK T e fun te => rowsK env te.size 0 parts.toList fun rows => match Nat.beq rows.length len, Nat.ble (len * te.size) 16777216, Nat.beq te.size 0 with
        | true, true, false => putK sz o.dst (.one (.ref nx)) env fun env' => K env' ((nx, match rows with | [] => .row e te.size 0 fun _ => [] | r => .lit e te.size r) :: obs) (nx + 1)
        | _, _, _ => False
      | _ => False
  | .makeSlice t x y => match q with
    | true => False
    | false => fndK T t fun ty => match ty.sh with
      | .sl e => fndK T e fun te => evK env x fun v => evK env y fun u => match v, u with
        | .one (.val (.int _ l)), .one (.val (.int _ c)) => match Nat.beq te.size 0, Nat.beq te.zero.length te.size with
          | false, true => NMake l c te.bytes fun n => putK sz o.dst (.one (.ref nx)) env fun env' => K env' ((nx, .row e te.size n fun _ => te.zero) :: obs) (nx + 1)
          | _, _ => False
        | _, _ => False
      | _ => False
  | .slice t x lo hi none => fndK T t fun ty => match ty.sh with
    | .sl e => match q with
      | true => False
      | false => fndK T e fun te => evK env x fun v => match v with
        | .one (.ref i) => fndK obs i fun ob => match ob with
          | .arr s n get => match Nat.beq s te.size with
            | true => optK env lo fun l => optK env hi fun h => NCut l h n fun a b => putK sz o.dst (.one (.ref nx)) env fun env' => K env' ((nx, .arr s (b - a) fun k => get (a + k)) :: obs) (nx + 1)
            | false => False
          | .row _ s n get => match Nat.beq s te.size with
            | true => optK env lo fun l => optK env hi fun h => NCut l h n fun a b => putK sz o.dst (.one (.ref nx)) env fun env' => K env' ((nx, .arr s (b - a) fun k => get (a + k)) :: (i, .arr s n get) :: obs) (nx + 1)
            | false => False
          | _ => False
        | _ => False
    | _ => pureK T env obs (.slice t x lo hi none) fun v => putK sz o.dst v env fun env' => K env' obs nx
  | .call ⟨.value g, args, _⟩ => evK env g fun v => match v with
    | .one (.clo f caps) => evsK env args.toList fun l => capE l caps fun l => match q with
      | true => NCallQ P f l obs nx fun u => putK sz o.dst u env fun env' => K env' obs nx
      | false => NCall P f l obs nx fun u obs' nx' => putK sz o.dst u env fun env' => K env' obs' nx'
    | .one (.ref i) => match q with
      | true => False
      | false => fndK obs i fun ob => match ob with
        | .lp _ _ .ready => evsK env args.toList fun l => NYield P i l obs nx fun u obs' nx' => putK sz o.dst u env fun env' => K env' obs' nx'
        | _ => False
    | _ => False
  | .call ⟨.builtin .append, ⟨[x, y]⟩, ⟨[t, t']⟩⟩ => match q, Nat.beq t t' with
    | false, true => fndK T t fun ty => match ty.sh with
      | .sl e => fndK T e fun te => match Nat.beq te.size 0, Nat.beq te.zero.length te.size with
        | false, true => evK env x fun v => evK env y fun u => appK_ sz o.dst env obs nx e te.size te.bytes K v u
        | _, _ => False
      | _ => False
    | _, _ => False
  | .assign (.const (.slice none 0 0)) => match q with
    | true => putK sz o.dst (.one (.val (.slice none 0 0))) env fun env' => K env' obs nx
    | false => fndK T o.type fun ty => match ty.sh with
      | .sl e => fndK T e fun te => putK sz o.dst (.one (.ref nx)) env fun env' => K env' ((nx, .row e te.size 0 fun _ => []) :: obs) (nx + 1)
      | _ => putK sz o.dst (.one (.val (.slice none 0 0))) env fun env' => K env' obs nx
  | op => pureK T env obs op fun v => putK sz o.dst v env fun env' => K env' obs nx
def guardK (all : List Oper) (env : Env) (g : Option (Nat × Bool)) (yes no : Env → Prop) : Prop :=
  match g with
  | none => yes env
  | some (j, want) => nthK all j fun o => match o.dst with
    | none => False
    | some d => fndK env d fun v => match v with
      | .one (.tf b) => match b, want with
        | true, true | false, false => yes env
        | _, _ => no env
      | .one (.prop p) => match want with
        | true => NIf p (yes ((d, .one (.tf true)) :: env)) (no ((d, .one (.tf false)) :: env))
        | false => NIf p (no ((d, .one (.tf true)) :: env)) (yes ((d, .one (.tf false)) :: env))
      | .one (.val (.bool b)) => match want with
        | true => NIf (b = true) (yes ((d, .one (.tf true)) :: env)) (no ((d, .one (.tf false)) :: env))
        | false => NIf (b = true) (no ((d, .one (.tf true)) :: env)) (yes ((d, .one (.tf false)) :: env))
      | .tup _ => no env
      | _ => False
def opsK (P : Program) (T : TT) (sz : Nat) (q : Bool) (all l : List Oper) : Env → Obs → Nat → (Env → Obs → Nat → Prop) → Prop :=
  @List.rec Oper (fun _ => Env → Obs → Nat → (Env → Obs → Nat → Prop) → Prop) (fun env obs nx K => K env obs nx)
    (fun o _ ih env obs nx K => guardK all env o.guard
      (fun env' => opK P T sz q o env' obs nx fun e ob n => ih e ob n K)
      (fun env' => putK sz o.dst (.tup []) env' fun e => ih e obs nx K)) l
theorem opsK_nil {P : Program} {T : TT} {sz : Nat} {q : Bool} {all : List Oper} {env : Env} {obs : Obs} {nx : Nat} {K : Env → Obs → Nat → Prop} : opsK P T sz q all [] env obs nx K = K env obs nx := rfl
theorem opsK_cons {P : Program} {T : TT} {sz : Nat} {q : Bool} {all r : List Oper} {o : Oper} {env : Env} {obs : Obs} {nx : Nat} {K : Env → Obs → Nat → Prop} : opsK P T sz q all (o :: r) env obs nx K = guardK all env o.guard
      (fun env' => opK P T sz q o env' obs nx fun e ob n => opsK P T sz q all r e ob n K)
      (fun env' => putK sz o.dst (.tup []) env' fun e => opsK P T sz q all r e obs nx K) := rfl
inductive Ex where
  | nrm
  | exit (id : Nat)
  | ret
abbrev Kon := Ex → Env → Obs → Nat → Prop
/-- what is known of a state at a loop's head: these slots, these objects; all over ids below nx -/
def atB (nx : Nat) : At → Bool
  | .ptr i _ _ _ | .ref i => Nat.blt i nx
  | .clo _ l => l.all fun i => Nat.blt i nx
  | _ => true
def svB (nx : Nat) : SV → Bool
  | .one a => atB nx a
  | .agg l => l.all (atB nx)
  | .tup l => l.isEmpty
def obB (nx : Nat) : Ob → Bool
  | .lp _ env _ => env.all fun p => svB nx p.2
  | .box _ l => l.all (atB nx)
  | .lit _ _ rows => rows.flatten.all (atB nx)
  | _ => true
def envB (nx : Nat) (l : Env) : Bool := l.all fun p => svB nx p.2
def obsB (nx : Nat) (l : Obs) : Bool := l.all fun p => Nat.blt p.1 nx && obB nx p.2
def renA (σ : Nat → Nat) : At → At
  | .ptr i k j s => .ptr (σ i) k j s
  | .ref i => .ref (σ i)
  | .clo f l => .clo f (l.map σ)
  | a => a
def renS (σ : Nat → Nat) : SV → SV
  | .one a => .one (renA σ a)
  | .agg l => .agg (l.map (renA σ))
  | v => v
def SameA (σ : Nat → Nat) : At → At → Prop
  | .ptr i k j s, .ptr i' k' j' s' => σ i = i' ∧ k = k' ∧ j = j' ∧ s = s'
  | .ref i, .ref i' => σ i = i'
  | .clo f l, .clo f' l' => f = f' ∧ l.map σ = l'
  | .val v, .val v' => v = v'
  | .val v, .tf b => v = .bool b
  | .val (.bool b), .prop p => b = true ↔ p
  | .tf b, .tf c => b = c
  | .prop p, .prop q => p ↔ q
  | _, _ => False
def SameAs (σ : Nat → Nat) : List At → List At → Prop
  | [], [] => True
  | a :: l, b :: m => SameA σ a b ∧ SameAs σ l m
  | _, _ => False
def SameS (σ : Nat → Nat) : List SV → List SV → Prop
  | [], [] => True
  | .one a :: l, .one b :: m => SameA σ a b ∧ SameS σ l m
  | .agg c :: l, .agg d :: m => SameAs σ c d ∧ SameS σ l m
  | _, _ => False
/-- ids, renamed -/
def sgm (l : List (Nat × Nat)) (i : Nat) : Nat := match fnd l i with
  | some j => j
  | none => i
def renO (σ : Nat → Nat) : Ob → Ob
  | .lp L env st => .lp L (env.map fun p => (p.1, renS σ p.2)) st
  | .box t l => .box t (l.map (renA σ))
  | .lit t s rows => .lit t s (rows.map fun r => r.map (renA σ))
  | o => o
/-- a value, and what is told of it -/
def SLe : SV → SV → Prop
  | .one (.tf b), .one (.prop p) => b = true ↔ p
  | .one (.prop p), .one (.tf b) => p ↔ b = true
  | .one (.prop p), .one (.prop q) => p ↔ q
  | .one (.tf b), .one (.val v) => v = .bool b
  | .one (.val v), .one (.prop p) => ∃ b, v = .bool b ∧ (b = true ↔ p)
  | .one (.prop p), .one (.val v) => ∃ b, v = .bool b ∧ (b = true ↔ p)
  | .one (.val v), .one (.tf b) => v = .bool b
  | u, v => u = v
def EnvLe (σ : Nat → Nat) (env : Env) : Env → Prop
  | [] => True
  | (t, v) :: r => fndK env t (fun u => SLe u (renS σ v)) ∧ EnvLe σ env r
def ObLe : Ob → Ob → Prop
  | .arr s n get, .arr s' n' get' => s = s' ∧ n = n' ∧ ∀ k, k < n → get k = get' k
  | .row t s n get, .row t' s' n' get' => t = t' ∧ s = s' ∧ n = n' ∧ ∀ k, k < n → get k = get' k
  | .row _ s n get, .arr s' n' get' => s = s' ∧ n = n' ∧ ∀ k, k < n → get k = get' k
  | o, o' => o = o'
def ObsLe (σ : Nat → Nat) (obs : Obs) : Obs → Prop
  | [] => True
  | (i, o) :: r => fndK obs (σ i) (fun u => ObLe u (renO σ o)) ∧ ObsLe σ obs r
def iot : Nat → List Nat
  | 0 => []
  | n + 1 => n :: iot n
def memB (x : Nat) : List Nat → Bool
  | [] => false
  | y :: r => match Nat.beq x y with | true => true | false => memB x r
def nodB : List Nat → Bool
  | [] => true
  | x :: r => match memB x r with | true => false | false => nodB r
def injB (σ : Nat → Nat) (nx : Nat) : Bool := nodB ((iot nx).map σ)
def pinB (pin : Nat) (l : List (Nat × Nat)) : Bool := l.all fun p => Nat.ble pin p.1
/-- the slots that a piece of code writes -/
def opDst (o : Oper) : List Nat := match o.dst with | some d => [d] | none => []
def wr : Code → List Nat
  | .region _ ops _ => ops.toList.flatMap opDst
  | .seq a b => wr a ++ wr b
  | .cond _ a b => wr a ++ wr b
  | .block _ c => wr c
  | .loop c => wr c
  | _ => []
structure NLoop (ws : List Nat) (pin : Nat) (body : Env → Obs → Nat → Kon → Prop) (env : Env) (obs : Obs) (nx : Nat) (K : Kon) : Prop where
  h : ∃ (ι : Type) (S : ι → Env × Obs) (μ : ι → Nat) (J : ι → Prop) (i0 : ι) (m : Nat), pin ≤ m ∧ J i0 ∧ injB (sgm []) m = true ∧ EnvLe (sgm []) env (S i0).1 ∧ ObsLe (sgm []) obs (S i0).2 ∧ (∀ i, envB m (S i).1 = true ∧ obsB m (S i).2 = true) ∧
    ∀ i, J i → body (S i).1 (S i).2 m fun e env1 obs1 nx1 => match e with
      | .nrm => ∃ i' l, J i' ∧ μ i' < μ i ∧ pinB pin l = true ∧ injB (sgm l) m = true ∧ EnvLe (sgm l) env1 (S i').1 ∧ ObsLe (sgm l) obs1 (S i').2
      | e => K e env1 obs1 nx1
/-! regions that draw their order -/
def ancB (all : List Oper) : Nat → Nat → Nat → Bool
  | 0, _, _ => false
  | f + 1, k, j => match all[j]? with
    | none => false
    | some o => o.after.toList.any fun e => Region.binds .any e && (Nat.beq e.on k || ancB all f k e.on)
def allB (p : Nat → Bool) : Nat → Bool
  | 0 => true
  | n + 1 => match p n with | true => allB p n | false => false
/-- of two operations the one waits for the other, or they are apart -/
def freeB (all : List Oper) : Bool := Region.noSelect all.toArray && allB (fun i => allB (fun j => Nat.beq i j || ancB all all.length i j || ancB all all.length j i || match all[i]?, all[j]? with
  | some x, some y => x.apart all.toArray y
  | _, _ => false) all.length) all.length
def depsIn (done : List Nat) : List Edge → Bool
  | [] => true
  | e :: r => match Region.binds .any e with
    | true => match memB e.on done with | true => depsIn done r | false => false
    | false => depsIn done r
def readyL (done : List Nat) : Nat → List Oper → List (Nat × Oper)
  | _, [] => []
  | i, o :: r => match memB i done with
    | true => readyL done (i + 1) r
    | false => match depsIn done o.after.toList with
      | true => (i, o) :: readyL done (i + 1) r
      | false => readyL done (i + 1) r
/-- 0: it leaves the world; 1: it makes memory alone; 2: whatever else -/
def kindK (T : TT) : Op → Nat
  | .box _ _ | .alloc _ | .buildSlice _ _ _ | .makeSlice _ _ _ => 1
  | .call ⟨.value _, _, _⟩ => 3
  | .slice t _ _ _ none => match fnd T t with
    | some ty => match ty.sh with | .sl _ => 1 | _ => 0
    | none => 0
  | .store _ _ _ => 2
  | .call ⟨.builtin .append, _, _⟩ => 2
  | _ => 0
/-- no operation has an edge on i that does not bind -/
def firmB (all : List Oper) (i : Nat) : Bool := all.all fun u => u.after.toList.all fun e => match Nat.beq e.on i with
  | true => Region.binds .any e
  | false => true
def pick0 (T : TT) (all : List Oper) : List (Nat × Oper) → Option (Nat × Oper)
  | [] => none
  | (i, o) :: r => match kindK T o.op with
    | 0 => match firmB all i with
      | true => some (i, o)
      | false => pick0 T all r
    | _ => pick0 T all r
structure NBoth (A B : Prop) : Prop where
  l : A
  r : B
def eachK (l : List (Nat × Oper)) : (Nat → Oper → Prop) → Prop :=
  @List.rec (Nat × Oper) (fun _ => (Nat → Oper → Prop) → Prop) (fun _ => True)
    (fun p r ih K => match p with | (i, o) => match r with | [] => K i o | _ => NBoth (K i o) (ih K)) l
def kidK (P : Program) (T : TT) (sz : Nat) (all : List Oper) (done : List Nat) (i : Nat) (o : Oper) (env : Env) (obs : Obs) (nx : Nat) (K : Env → Obs → Nat → Prop) : Prop :=
  match kindK T o.op with
  | 0 => opK P T sz true o env obs nx K
  | 1 => opK P T sz false o env obs nx K
  | 2 => match done.all fun k => match all[k]? with
      | some u => match kindK T u.op with
        | 0 => match firmB all k with
          | true => ancB all all.length k i
          | false => true
        | _ => true
      | none => true with
    | true => opK P T sz false o env obs nx K
    | false => False
  | 3 => match o.op with
    | .call ⟨.value g, args, _⟩ => evK env g fun v => match v with
      | .one (.clo f caps) => evsK env args.toList fun l => capE l caps fun l => NCallA P f l obs nx fun u obs' nx' => putK sz o.dst u env fun env' => K env' obs' nx'
      | _ => False
    | _ => False
  | _ => False
def explK (P : Program) (T : TT) (sz : Nat) (all : List Oper) (f : Nat) : List Nat → Env → Obs → Nat → (Env → Obs → Nat → Prop) → Prop :=
  @Nat.rec (fun _ => List Nat → Env → Obs → Nat → (Env → Obs → Nat → Prop) → Prop)
    (fun done env obs nx K => match readyL done 0 all with
      | [] => K env obs nx
      | _ => False)
    (fun _ ih done env obs nx K => match readyL done 0 all with
      | [] => K env obs nx
      | r => match pick0 T all r with
        | some (i, o) => guardK all env o.guard (fun e => opK P T sz true o e obs nx fun e' o' n' => ih (i :: done) e' o' n' K)
            (fun e => putK sz o.dst (.tup []) e fun e' => ih (i :: done) e' obs nx K)
        | none => eachK r fun i o => guardK all env o.guard (fun e => kidK P T sz all done i o e obs nx fun e' o' n' => ih (i :: done) e' o' n' K)
            (fun e => putK sz o.dst (.tup []) e fun e' => ih (i :: done) e' obs nx K)) f
theorem explK_zero {P : Program} {T : TT} {sz : Nat} {all : List Oper} {done : List Nat} {env : Env} {obs : Obs} {nx : Nat} {K : Env → Obs → Nat → Prop} : explK P T sz all 0 done env obs nx K = (match readyL done 0 all with
      | [] => K env obs nx
      | _ => False) := rfl
theorem explK_succ {P : Program} {T : TT} {sz : Nat} {all : List Oper} {f : Nat} {done : List Nat} {env : Env} {obs : Obs} {nx : Nat} {K : Env → Obs → Nat → Prop} : explK P T sz all (f + 1) done env obs nx K = (match readyL done 0 all with
      | [] => K env obs nx
      | r => match pick0 T all r with
        | some (i, o) => guardK all env o.guard (fun e => opK P T sz true o e obs nx fun e' o' n' => explK P T sz all f (i :: done) e' o' n' K)
            (fun e => putK sz o.dst (.tup []) e fun e' => explK P T sz all f (i :: done) e' obs nx K)
        | none => eachK r fun i o => guardK all env o.guard (fun e => kidK P T sz all done i o e obs nx fun e' o' n' => explK P T sz all f (i :: done) e' o' n' K)
            (fun e => putK sz o.dst (.tup []) e fun e' => explK P T sz all f (i :: done) e' obs nx K)) := rfl
/-- an order's end: but for names it is what all orders end in -/
structure NJoin (pin m : Nat) (E : Env) (O : Obs) (env : Env) (obs : Obs) (n : Nat) : Prop where
  h : ∃ l, pinB pin l = true ∧ injB (sgm l) m = true ∧ EnvLe (sgm l) env E ∧ ObsLe (sgm l) obs O
inductive NDraw (P : Program) (T : TT) (sz pin : Nat) (all : List Oper) (env : Env) (obs : Obs) (nx : Nat) (K : Env → Obs → Nat → Prop) : Prop
  | mk (lex : Region.lexB .any all.toArray = true) (h : opsK P T sz true all all env obs nx K)
  | any (free : freeB all = true) (h : explK P T sz all all.length [] env obs nx K)
  | join (free : freeB all = true) (E : Env) (O : Obs) (m : Nat) (h : explK P T sz all all.length [] env obs nx fun e o n => NJoin pin m E O e o n) (hp : Nat.ble pin m = true) (hb : envB m E = true ∧ obsB m O = true) (k : K E O m)
/-- where two ways meet: one of the states S -/
def meetK {ι : Type} (pin m : Nat) (S : ι → Env × Obs) (J : ι → Prop) (K : Kon) : Kon := fun e env obs nx => match e with
  | .nrm => ∃ i l, J i ∧ pinB pin l = true ∧ injB (sgm l) m = true ∧ EnvLe (sgm l) env (S i).1 ∧ ObsLe (sgm l) obs (S i).2
  | e => K e env obs nx
inductive NCond (p : Prop) (ws : List Nat) (pin : Nat) (A B : Kon → Prop) (env : Env) (obs : Obs) (nx : Nat) (K : Kon) : Prop
  | mk (h : NIf p (A K) (B K))
  | join (ι : Type) (S : ι → Env × Obs) (m : Nat) (J : ι → Prop) (hp : pin ≤ m) (hb : ∀ i, envB m (S i).1 = true ∧ obsB m (S i).2 = true) (h : NIf p (A (meetK pin m S J K)) (B (meetK pin m S J K))) (k : ∀ i, J i → K .nrm (S i).1 (S i).2 m)
/-- where a walk began: the world, what its first objects were, and how many of these keep their names -/
structure St where
  w : World
  ρ : Rho
  pin : Nat
/-- the marks that loops over functions have left, and their blocks -/
def Mk (B n : Nat) (ds : List Deferred) (w : World) : Prop :=
  ∃ Ds : List Nat, ds = Ds.map (fun D => { target := .collected D, args := #[] }) ∧ Ds.Nodup ∧ ∀ D ∈ Ds, B ≤ D ∧ n ≤ D ∧ w.heap[D]? = some (.deferred (some []))
structure Wy (B : Nat) (s : St) (ρ : Rho) (ds : List Deferred) (w : World) : Prop where
  b : Below B s.w w
  o : Oth s.w w
  e : ∀ i y, i < s.pin → s.ρ i = some y → ρ i = some y
  m : Mk B s.w.heap.size ds w
/-- what stands behind -/
def Nx (B : Nat) (w0 : St) (sz : Nat) (K : Env → Obs → Nat → Prop) (a : Act) (w : World) : Prop :=
  ∃ ρ env obs nx, K env obs nx ∧ EnvR sz ρ env a ∧ Cls B ρ obs nx w ∧ Wy B w0 ρ a.defers w
/-- .. and old memory is as it was: an operation that makes memory alone -/
def NxA (B : Nat) (w0 : St) (sz : Nat) (K : Env → Obs → Nat → Prop) (w1 : World) (a : Act) (w : World) : Prop :=
  ∃ ρ env obs nx, K env obs nx ∧ EnvR sz ρ env a ∧ Cls B ρ obs nx w ∧ Wy B w0 ρ a.defers w ∧ Below w1.heap.size w1 w
def QK (B : Nat) (w0 : St) (sz : Nat) (K : Kon) : Exit → Act → World → Prop
  | .normal, a, w => Nx B w0 sz (K .nrm) a w
  | .exit i, a, w => Nx B w0 sz (K (.exit i)) a w
  | .ret, a, w => Nx B w0 sz (K .ret) a w
  | _, _, _ => False
/-- a range over a function -/
structure NRange (P : Program) (sz : Nat) (f : Operand) (ps : Array Tmp) (assign body : Code) (env : Env) (obs : Obs) (nx : Nat) (K : Kon) : Prop where
  h : ∀ B s ρ a w n, EnvR sz ρ env a → Cls B ρ obs nx w → Wy B s ρ a.defers w → (Code.rangeFunc f ps assign body).wpIn Fence.wide n P (QK B s sz K) a w
/-- code without deferred calls, and without ranges over functions -/
def calm : Code → Bool
  | .region _ ops _ => ops.toList.all fun o => match o.op with | .defer _ => false | _ => true
  | .seq a b => calm a && calm b
  | .cond _ a b => calm a && calm b
  | .block _ c => calm c
  | .loop c => calm c
  | .rangeFunc _ _ _ _ => false
  | _ => true
def vc (P : Program) (T : TT) (sz pin : Nat) (c : Code) : Env → Obs → Nat → Kon → Prop :=
  @Code.rec (fun _ => Env → Obs → Nat → Kon → Prop)
    (fun env obs nx K => K .nrm env obs nx)
    (fun _ ops draw env obs nx K => match draw with
      | false => opsK P T sz false ops.toList ops.toList env obs nx fun e o n => K .nrm e o n
      | true => NDraw P T sz pin ops.toList env obs nx fun e o n => K .nrm e o n)
    (fun _ _ iha ihb env obs nx K => iha env obs nx fun e env' obs' nx' => match e with
      | .nrm => ihb env' obs' nx' K
      | .exit i => K (.exit i) env' obs' nx'
      | .ret => K .ret env' obs' nx')
    (fun c a b iha ihb env obs nx K => evK env c fun v => match v with
      | .one (.tf true) => iha env obs nx K
      | .one (.tf false) => ihb env obs nx K
      | .one (.prop p) => NCond p (wr a ++ wr b) pin (iha env obs nx) (ihb env obs nx) env obs nx K
      | .one (.val (.bool q)) => NCond (q = true) (wr a ++ wr b) pin (iha env obs nx) (ihb env obs nx) env obs nx K
      | _ => False)
    (fun id _ ih env obs nx K => ih env obs nx fun e env' obs' nx' => match e with
      | .exit i => match Nat.beq i id with
        | true => K .nrm env' obs' nx'
        | false => K (.exit i) env' obs' nx'
      | .nrm => K .nrm env' obs' nx'
      | .ret => K .ret env' obs' nx')
    (fun b ih env obs nx K => NLoop (wr b) pin ih env obs nx K)
    (fun f ps assign body _ _ env obs nx K => NRange P sz f ps assign body env obs nx K)
    (fun id env obs nx K => K (.exit id) env obs nx)
    (fun _ _ _ _ _ _ => False)
    (fun _ env obs nx K => K .nrm env obs nx)
    (fun _ _ _ _ _ => False)
    (fun env obs nx K => K .ret env obs nx)
    (fun _ _ _ _ _ => False) c
end Go.Proofs.Yteblbhbfdfifpaa.V
