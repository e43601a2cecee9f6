/- How lists are read off the arguments, for the walk by verification conditions. -/
import Derived.Test.YteblbhbfdfifpaaVRet
import Derived.Deep.Slices
import Derived.Deep.Fields
import Derived.OpenShut
import Derived.Lib.SmallJoins
namespace Go.Proofs.Yteblbhbfdfifpaa.V
open Go Go.RowKit Go.ChangeShapes Go.WideShapes Go.Deep
set_option linter.unusedVariables false

/-- the cells of a list's elements -/
def ga {α : Type} [Inhabited α] (en : α → List Value) (l : List α) : Nat → List Value := fun k => en (l.getD k default)
def e1 (x : Int) : List Value := [.int .i64 x]
def eB (b : Bool) : List Value := [.bool b]
def eb (x : UInt8) : List Value := [.int .u8 x.toNat]
theorem ga_at {α : Type} [Inhabited α] {en : α → List Value} {l : List α} {k : Nat} (h : k < l.length) : ga en l k = en l[k] := by
  simp [ga, List.getD, List.getElem?_eq_getElem h]
theorem ga_snoc {α : Type} [Inhabited α] {en : α → List Value} {l : List α} {x : α} {g : Nat → List Value} (h1 : ∀ k, k < l.length → g k = ga en l k) (h2 : g l.length = en x) : ∀ k, k < (l ++ [x]).length → g k = ga en (l ++ [x]) k := by
  intro k hk
  simp at hk
  by_cases hkl : k < l.length
  · rw [h1 k hkl, ga_at hkl, ga_at (by simp; omega), List.getElem_append_left hkl]
  · have e : k = l.length := by omega
    subst e
    rw [h2, ga_at (by simp)]
    simp

/-- append: one element, to a list or to nothing; a whole list -/
theorem _root_.Go.Proofs.Yteblbhbfdfifpaa.V.NApp.one {α : Type} [Inhabited α] {en : α → List Value} {l : List α} {x : α} {bytes : Nat} {K : Nat → (Nat → List Value) → Prop} (h1 : (l.length + 1) * bytes ≤ 140737488355328) (h2 : l.length + 1 ≤ 9223372036854775807) (hK : K (l ++ [x]).length (ga en (l ++ [x]))) :
    NApp l.length 1 (ga en l) (listG [en x]) bytes K :=
  ⟨⟨_, _, by simp, by simpa using h2, by simpa using h1, fun k hk => by rw [ga_at (by simp; omega), ga_at hk, List.getElem_append_left hk], fun k hk => by
    obtain rfl : k = 0 := by omega
    rw [Nat.add_zero, ga_at (by simp)]; simp [listG], hK⟩⟩
theorem _root_.Go.Proofs.Yteblbhbfdfifpaa.V.NApp.first {α : Type} [Inhabited α] {en : α → List Value} {x : α} {get : Nat → List Value} {bytes : Nat} {K : Nat → (Nat → List Value) → Prop} (h1 : bytes ≤ 140737488355328) (hK : K [x].length (ga en [x])) :
    NApp 0 1 get (listG [en x]) bytes K :=
  ⟨⟨_, _, rfl, by simp, by simpa using h1, fun k hk => absurd hk (by omega), fun k hk => by
    obtain rfl : k = 0 := by omega
    rfl, hK⟩⟩
theorem _root_.Go.Proofs.Yteblbhbfdfifpaa.V.NApp.list {α : Type} [Inhabited α] {en : α → List Value} {l m : List α} {bytes : Nat} {K : Nat → (Nat → List Value) → Prop} (h1 : (l.length + m.length) * bytes ≤ 140737488355328) (h2 : l.length + m.length ≤ 9223372036854775807) (hK : K (l ++ m).length (ga en (l ++ m))) :
    NApp l.length m.length (ga en l) (ga en m) bytes K :=
  ⟨⟨_, _, by simp, by simpa using h2, by simpa using h1, fun k hk => by rw [ga_at (by simp; omega), ga_at hk, List.getElem_append_left hk], fun k hk => by
    rw [ga_at (by simp; omega), ga_at hk, List.getElem_append_right (by omega)]; congr 2; omega, hK⟩⟩
theorem _root_.Go.Proofs.Yteblbhbfdfifpaa.V.NApp.all_ {α : Type} [Inhabited α] {en : α → List Value} {m : List α} {get : Nat → List Value} {bytes : Nat} {K : Nat → (Nat → List Value) → Prop} (h1 : m.length * bytes ≤ 140737488355328) (h2 : m.length ≤ 9223372036854775807) (hK : K m.length (ga en m)) :
    NApp 0 m.length get (ga en m) bytes K :=
  ⟨⟨_, _, by simp, h2, h1, fun k hk => absurd hk (by omega), fun k hk => by rw [Nat.zero_add], hK⟩⟩
/-- a store of a whole element -/
theorem _root_.Go.Proofs.Yteblbhbfdfifpaa.V.NPut.at_ {α : Type} [Inhabited α] {en : α → List Value} {l : List α} {k : Nat} (x : α) {r : List Value} {K : (Nat → List Value) → Prop} (hr : r = en x) (hK : K (ga en (l.set k x))) :
    NPut l.length k (ga en l) r K :=
  ⟨⟨_, fun k' hk => by
    rw [ga_at (by simpa using hk), ga_at hk, List.getElem_set, hr]
    by_cases e : k = k'
    · subst e; simp
    · rw [if_neg e, if_neg (fun q => e q.symm)], hK⟩⟩
theorem _root_.Go.Proofs.Yteblbhbfdfifpaa.V.NPut.to {α : Type} [Inhabited α] {en : α → List Value} {l : List α} {n k : Nat} (x : α) {r : List Value} {K : (Nat → List Value) → Prop} (hn : l.length = n) (hr : r = en x) (hK : K (ga en (l.set k x))) :
    NPut n k (ga en l) r K := by
  subst hn
  exact NPut.at_ x hr hK
/-- .. told otherwise; into a row that was made -/
theorem _root_.Go.Proofs.Yteblbhbfdfifpaa.V.NPut.is_ {α : Type} [Inhabited α] {en : α → List Value} {l : List α} {n k : Nat} (x : α) (l' : List α) {r : List Value} {K : (Nat → List Value) → Prop} (e : l.set k x = l') (hn : l.length = n) (hr : r = en x) (hK : K (ga en l')) :
    NPut n k (ga en l) r K := by
  subst e
  exact NPut.to x hn hr hK
theorem _root_.Go.Proofs.Yteblbhbfdfifpaa.V.NPut.rep {α : Type} [Inhabited α] {en : α → List Value} {n k : Nat} (x0 x : α) (l' : List α) {get : Nat → List Value} {r : List Value} {K : (Nat → List Value) → Prop} (hg : ∀ k, get k = en x0) (e : (List.replicate n x0).set k x = l') (hr : r = en x) (hK : K (ga en l')) :
    NPut n k get r K := by
  subst e
  refine ⟨⟨_, fun k' hk => ?_, hK⟩⟩
  rw [ga_at (by simpa using hk), List.getElem_set, hr]
  by_cases e : k = k'
  · subst e; simp
  · rw [if_neg e, if_neg (fun q => e q.symm), hg]; simp
theorem _root_.Go.Proofs.Yteblbhbfdfifpaa.V.ObLe.is_ {α : Type} [Inhabited α] {en : α → List Value} {t s n : Nat} {l l' : List α} (e : l' = l) (hn : n = l'.length) : ObLe (.row t s n (ga en l)) (.row t s l'.length (ga en l')) := by
  subst e hn
  exact ⟨rfl, rfl, rfl, fun k hk => rfl⟩
/-- a list and an error: nothing and the error -/
theorem _root_.Go.Proofs.Yteblbhbfdfifpaa.retE {α : Type} [Inhabited α] {en : α → List Value} {m t s : Nat} {l : List α} {e e' : Int} {obs : Obs} {get : Nat → List Value} (id : Nat) (h1 : e = e') (h2 : l = []) (h3 : fnd obs id = some (.row t s 0 get) := by rfl) : NRet m (.tup [.one (.ref m), .one (.val (.int .i64 e))]) [.row t s l.length (ga en l)] (.tup [.one (.ref id), .one (.val (.int .i64 e'))]) obs := by
  subst h1 h2
  refine NRet.mk_ [some id] rfl ⟨?_, rfl, trivial⟩ ⟨fndK_of h3 ⟨rfl, rfl, rfl, fun k hk => absurd hk (Nat.not_lt_zero _)⟩, trivial⟩
  show (if m < m then _ else _)
  rw [if_neg (Nat.lt_irrefl _)]; simp
/-- a row that was made -/
theorem _root_.Go.Proofs.Yteblbhbfdfifpaa.V.ObLe.rep {α : Type} [Inhabited α] {en : α → List Value} {t s n : Nat} {l : List α} {get : Nat → List Value} (x : α) (e : l = List.replicate n x) (h : ∀ k, get k = en x) : ObLe (.row t s n get) (.row t s l.length (ga en l)) := by
  subst e
  exact ⟨rfl, rfl, by simp, fun k hk => by rw [h, ga_at (by simpa using hk)]; simp⟩
/-- a row that got one element more; a row that is as it was; a row that is read from further on -/
theorem _root_.Go.Proofs.Yteblbhbfdfifpaa.V.ObLe.snoc {α : Type} [Inhabited α] {en : α → List Value} {t s : Nat} {l l' : List α} {x : α} {g : Nat → List Value} (e : l' = l ++ [x]) (h1 : ∀ k, k < l.length → g k = ga en l k) (h2 : ∀ k, k < 1 → g (l.length + k) = listG [en x] k) : ObLe (.row t s (l.length + 1) g) (.row t s l'.length (ga en l')) := by
  subst e
  exact ⟨rfl, rfl, by simp, fun k hk => ga_snoc h1 (h2 0 (by omega)) k (by simp; omega)⟩
theorem _root_.Go.Proofs.Yteblbhbfdfifpaa.V.ObLe.as_ {α : Type} [Inhabited α] {en : α → List Value} {t s : Nat} {l l' : List α} (e : l' = l) : ObLe (.row t s l.length (ga en l)) (.row t s l'.length (ga en l')) := by
  subst e
  exact ⟨rfl, rfl, rfl, fun k hk => rfl⟩
theorem _root_.Go.Proofs.Yteblbhbfdfifpaa.V.ObLe.cut_ {α : Type} [Inhabited α] {en : α → List Value} {s n n' a i i' : Nat} {l : List α} (e : n - a = n') (h : a + i = i') : ObLe (.arr s (n - a) fun k => en (l.getD (a + k + i) default)) (.arr s n' fun k => en (l.getD (k + i') default)) :=
  ⟨rfl, e, fun k _ => congrArg (fun z => en (l.getD z default)) (by omega)⟩

section
variable {H : Type} {enc : TypeId × Value → H} {P : Program} {w : World} {base : Nat} {spare : Nat → Bool} {held : Bool}
theorem ints_all : ∀ (cs : List Value), (∀ j (hj : j < cs.length), ∃ m, cs[j] = .int .i64 m ∧ (Lit.int .i64 m).wf = true) → ∃ ns : List Int, cs = ns.map (Value.int .i64) ∧ ∀ n ∈ ns, (Lit.int .i64 n).wf = true
  | [], _ => ⟨[], rfl, by simp⟩
  | c :: cs, h => by
    obtain ⟨m, e, wf⟩ := h 0 (by simp)
    obtain ⟨ns, e2, wfs⟩ := ints_all cs (fun j hj => h (j + 1) (by simpa using hj))
    refine ⟨m :: ns, by simp at e; simp [e, e2], fun n hn => ?_⟩
    rcases List.mem_cons.1 hn with rfl | hn
    · exact wf
    · exact wfs n hn
/-- a struct of integers alone, by its cells -/
theorem ints_struct {t : TypeId} {fs : Array Field} {fuel : Nat} {cs : List Value} {x : DataW H × List MemPlace} (hs : P.underlying t = some (.struct fs)) (hone : oneCellFields P fs = true) (hC : P.cellsOf t = fs.size)
    (hint : ∀ (j : Nat) (f : Field), fs[j]? = some f → P.underlying f.type = some (.int .i64)) (h : DataW.trod enc P w base spare held fuel t cs = some x) :
    ∃ ns : List Int, cs = ns.map (Value.int .i64) ∧ ns.length = fs.size ∧ ∀ n ∈ ns, (Lit.int .i64 n).wf = true := by
  obtain ⟨xs, n, _, _, hl, hlen, hg⟩ := DataW.trod_struct hs h
  have hC' : cs.length = fs.size := hl.trans hC
  obtain ⟨ns, e, wf⟩ := ints_all cs (fun j hj => by
    have hf : fs[j]? = some fs[j] := Array.getElem?_eq_getElem (by omega)
    obtain ⟨o, k⟩ := hone_of hone j _ hf
    have h1 := hg j _ hf
    rw [o, k] at h1
    have e1 : (cs.drop j).take 1 = [cs[j]] := by rw [List.drop_eq_getElem_cons hj]; rfl
    rw [e1] at h1
    have hx : j < xs.length := by omega
    rw [List.getElem?_eq_getElem hx] at h1
    obtain ⟨m, e2, _, wf⟩ := DataW.trod_int (hint j _ hf) h1
    exact ⟨m, by simpa using e2, wf⟩)
  exact ⟨ns, e, by rw [← hC', e]; simp, wf⟩
theorem list_of {α : Type} {p : Nat → α → Prop} : ∀ (n : Nat), (∀ i, i < n → ∃ f, p i f) → ∃ l : List α, l.length = n ∧ ∀ i (hi : i < l.length), p i l[i]
  | 0, _ => ⟨[], rfl, fun i hi => absurd hi (by simp)⟩
  | n + 1, h => by
    obtain ⟨l, hl, hp⟩ := list_of n (fun i hi => h i (by omega))
    obtain ⟨f, hf⟩ := h n (by omega)
    refine ⟨l ++ [f], by simp [hl], fun i hi => ?_⟩
    by_cases hi' : i < l.length
    · rw [List.getElem_append_left hi']; exact hp i hi'
    · have : i = l.length := by simp at hi; omega
      subst this
      rw [List.getElem_append_right (by omega)]
      simpa [hl] using hf
theorem cell_lt {W : World} {a : Addr} {v : Value} (h : W.cell? a = some v) : a.block < W.heap.size := by
  rcases Nat.lt_or_ge a.block W.heap.size with hlt | hge
  · exact hlt
  · unfold World.cell? at h; rw [Array.getElem?_eq_none hge] at h; cases h
/-- a list of elements that are data -/
theorem open_list {α : Type} [Inhabited α] {en : α → List Value} {Wf : α → Prop} {t e s : Nat} (hu : P.underlying t = some (.slice e)) (hs : P.cellsOf e = s) (hs0 : 0 < s)
    (hel : ∀ fuel cs x, DataW.trod enc P w base spare held fuel e cs = some x → ∃ f : α, cs = en f ∧ Wf f) {r : Reach} {b0 : Nat} {v : Value} {d : DataW H} {p : List MemPlace} (hv : Value.okWide P w r b0 t v) (h : DataW.Trod enc P w base spare held t v d p) :
    ∃ l : List α, ArrIs w v s l.length (ga en l) ∧ ∀ f ∈ l, Wf f := by
  obtain ⟨a0, len, cap, rfl⟩ := okWide_slice hu hv
  obtain ⟨fuel, hf⟩ := h
  rcases Go.Deep.open_slice hu hf with ⟨hcs, _⟩ | ⟨a, len', cap', m, n, D, Pl, hcs, _, hl, hm, hmm, _, hi⟩
  · have e : (Value.slice a0 len cap) = .slice none 0 0 := by simpa [Value.cells] using hcs
    injection e with e1 e2 e3
    subst e1 e2 e3
    exact ⟨[], ⟨none, 0, rfl, by simp, by simp, fun k hk => absurd hk (by simp)⟩, by simp⟩
  · have e : (Value.slice a0 len cap) = .slice (some a) len' cap' := by simpa [Value.cells] using hcs
    injection e with e1 e2 e3
    subst e1 e2 e3
    have hml : len ≤ m := by rw [hmm]; split <;> omega
    have all : ∀ i, i < len → ∃ f : α, (en f).length = s ∧ (∀ j u, (en f)[j]? = some u → w.cell? (a.add (i * s + j)) = some u) ∧ Wf f := by
      intro i hi'
      obtain ⟨cs', hc, ht'⟩ := hi i (by omega)
      rw [hs] at hc
      obtain ⟨f, e, wf⟩ := hel _ _ _ ht'
      obtain ⟨_, hcl, hat⟩ := World.cells?_some hc
      refine ⟨f, by rw [← e]; exact hcl, fun j u hu => ?_, wf⟩
      rw [← e] at hu
      have hj : j < s := by have := (List.getElem?_eq_some_iff.1 hu).1; omega
      have h1 := hat j hj
      rw [add_of_add] at h1
      rw [h1]; exact hu
    obtain ⟨l, hl2, hp⟩ := list_of len all
    refine ⟨l, ⟨some a, cap, by rw [hl2], by unfold maxLen at hm; omega, by omega, fun k hk => ?_⟩, fun f hf' => ?_⟩
    · obtain ⟨e1, e2, _⟩ := hp k hk
      rw [ga_at hk]
      have h0 : (en l[k])[0]? = some ((en l[k])[0]'(by omega)) := List.getElem?_eq_getElem _
      have := cell_lt (e2 0 _ h0)
      rw [block_of_add] at this
      exact ⟨a, rfl, this, e1, e2⟩
    · obtain ⟨i, hi', rfl⟩ := List.getElem_of_mem hf'
      exact (hp i hi').2.2
theorem open_ints_ {t e : Nat} (hu : P.underlying t = some (.slice e)) (hi : P.underlying e = some (.int .i64)) (hs : P.cellsOf e = 1) {r : Reach} {b0 : Nat} {v : Value} {d : DataW H} {p : List MemPlace} (hv : Value.okWide P w r b0 t v) (h : DataW.Trod enc P w base spare held t v d p) :
    ∃ l : List Int, ArrIs w v 1 l.length (ga e1 l) ∧ ∀ f ∈ l, (Lit.int .i64 f).wf = true :=
  open_list hu hs (by omega) (fun fuel cs x hx => by
    obtain ⟨m, e2, _, wf⟩ := DataW.trod_int hi hx
    exact ⟨m, e2, wf⟩) hv h
end
theorem ArrIs.one {w : World} {v : Value} {s n : Nat} {get : Nat → List Value} (h : ArrIs w v s n get) : v.oneCell' = true := by
  obtain ⟨_, _, rfl, _⟩ := h; rfl
/-- a call that is handed a nil list -/
theorem Svs.nil_ {ρ : Rho} {nx : Nat} (hx : ρ nx = none) : ∀ {args : List SV} {xs : List Value} {j : Nat}, args[j]? = some (.one (.val (.slice none 0 0))) → Svs ρ args xs → Svs (upd ρ nx (.slice none 0 0)) (args.set j (.one (.ref nx))) xs
  | [], _, j, h, _ => by simp at h
  | a :: l, _, 0, h, ⟨u, r, e, ha, hr⟩ => by
    have ea : a = .one (.val (.slice none 0 0)) := by simpa using h
    subst ea
    have eu : u = .slice none 0 0 := ha
    subst eu
    exact ⟨_, r, e, ⟨upd_same _ _ _, rfl⟩, Svs.ext (ext_upd hx) hr⟩
  | a :: l, _, j + 1, h, ⟨u, r, e, ha, hr⟩ => ⟨u, r, e, SV.is1_ext (ext_upd hx) ha, Svs.nil_ hx (by simpa using h) hr⟩
theorem NCall.nil_ {P : Program} {f : FuncId} {args : List SV} {obs : Obs} {nx : Nat} {K : SV → Obs → Nat → Prop} (j s : Nat) (e : args[j]? = some (.one (.val (.slice none 0 0)))) (h : NCall P f (args.set j (.one (.ref nx))) ((nx, .arr s 0 fun _ => []) :: obs) (nx + 1) K) : NCall P f args obs nx K := by
  refine ⟨h.b, fun B ρ w xs hC ha => ?_⟩
  have hx := hC.new nx (Nat.le_refl _)
  have hC' := hC.more (v := .slice none 0 0) (o := .arr s 0 fun _ => []) (Below.refl _ _) ⟨_, upd_same _ _ _, none, 0, rfl, by omega, by omega, fun k hk => by omega⟩ (fun b hf => by simp [foot] at hf)
  refine (h.h B _ w xs hC' (ha.nil_ hx e)).mono ?_
  rintro e w' ⟨v, obs', nx', ρ', x, hK, hE, r⟩
  exact ⟨v, obs', nx', ρ', x, hK, fun i y hy => hE i y (by have : i ≠ nx := fun q => (by rw [q, hx] at hy; cases hy); simpa [upd, this] using hy), r⟩
/-- lists that are handed in are no longer than lists can be -/
theorem Fn.lim {P : Program} {f : FuncId} {os : List Ob} {args : List SV} {x : Value} (hb : hasBody P f = true) (h : (∀ (i : Nat) s n g, os[i]? = some (.arr s n g) → n ≤ 9223372036854775807) → Fn P f os args x) : Fn P f os args x :=
  ⟨hb, fun w ρ xs ho hs => (h fun i s n g e => by
    obtain ⟨v, _, A, c, _, hn, _⟩ := ho i _ e
    exact hn).c w ρ xs ho hs⟩
end Go.Proofs.Yteblbhbfdfifpaa.V
