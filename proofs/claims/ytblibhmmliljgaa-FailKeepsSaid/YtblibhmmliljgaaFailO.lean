/- How a fail, and a list of fails, are read off the arguments. -/
import Derived.Test.YtblibhmmliljgaaFailL
import Derived.Deep.Slices
import Derived.Deep.Fields
import Derived.ChangeSame
import Derived.OpenShut
import Derived.Lib.SmallJoins
namespace Go.Proofs.Ytblibhmmliljgaa
open Go.RowKit Go.ChangeShapes Go.WideShapes Go.Deep

section
variable {H : Type} {enc : TypeId × Value → H} {P : Program} {w : World} {base : Nat} {spare : Nat → Bool} {held : Bool}
theorem ints_all : ∀ (cs : List Value), (∀ j (hj : j < cs.length), ∃ m, cs[j] = .int .i64 m ∧ (Lit.int .i64 m).wf = true) → ∃ ns : List Int, cs = ns.map (Value.int .i64) ∧ ∀ n ∈ ns, (Lit.int .i64 n).wf = true
  | [], _ => ⟨[], rfl, by simp⟩
  | c :: cs, h => by
    obtain ⟨m, e, wf⟩ := h 0 (by simp)
    obtain ⟨ns, e2, wfs⟩ := ints_all cs (fun j hj => h (j + 1) (by simpa using hj))
    refine ⟨m :: ns, by simp at e; simp [e, e2], fun n hn => ?_⟩
    rcases List.mem_cons.1 hn with rfl | hn
    · exact wf
    · exact wfs n hn
/-- a struct of integers alone, by its cells -/
theorem ints_struct {t : TypeId} {fs : Array Field} {fuel : Nat} {cs : List Value} {x : DataW H × List MemPlace} (hs : P.underlying t = some (.struct fs)) (hone : oneCellFields P fs = true) (hC : P.cellsOf t = fs.size)
    (hint : ∀ (j : Nat) (f : Field), fs[j]? = some f → P.underlying f.type = some (.int .i64)) (h : DataW.trod enc P w base spare held fuel t cs = some x) :
    ∃ ns : List Int, cs = ns.map (Value.int .i64) ∧ ns.length = fs.size ∧ ∀ n ∈ ns, (Lit.int .i64 n).wf = true := by
  obtain ⟨xs, n, _, _, hl, hlen, hg⟩ := DataW.trod_struct hs h
  have hC' : cs.length = fs.size := hl.trans hC
  obtain ⟨ns, e, wf⟩ := ints_all cs (fun j hj => by
    have hf : fs[j]? = some fs[j] := Array.getElem?_eq_getElem (by omega)
    obtain ⟨o, k⟩ := hone_of hone j _ hf
    have h1 := hg j _ hf
    rw [o, k] at h1
    have e1 : (cs.drop j).take 1 = [cs[j]] := by rw [List.drop_eq_getElem_cons hj]; rfl
    rw [e1] at h1
    have hx : j < xs.length := by omega
    rw [List.getElem?_eq_getElem hx] at h1
    obtain ⟨m, e2, _, wf⟩ := DataW.trod_int (hint j _ hf) h1
    exact ⟨m, by simpa using e2, wf⟩)
  exact ⟨ns, e, by rw [← hC', e]; simp, wf⟩
end

noncomputable def failFields : Array Field := (match Try.prog.underlying 23 with | some (.struct fs) => fs | _ => #[])
theorem failStruct : Try.prog.underlying 23 = some (.struct failFields) := by kernel_rfl
theorem failOne : oneCellFields Try.prog failFields = true := by kernel_rfl
theorem failSize : failFields.size = 10 := by kernel_rfl
theorem failCells : Try.prog.cellsOf 23 = 10 := by kernel_rfl
theorem failInts : (List.range 10).all (fun j => (failFields[j]?).all (fun f => decide (f.type = 3))) = true := by kernel_rfl
theorem failInt (j : Nat) (f : Field) (h : failFields[j]? = some f) : Try.prog.underlying f.type = some (.int .i64) := by
  have hj : j < 10 := by have := (Array.getElem?_eq_some_iff.1 h).1; rw [failSize] at this; exact this
  have := List.all_eq_true.1 failInts j (List.mem_range.2 hj)
  rw [h] at this
  have e : f.type = 3 := by simpa using this
  rw [e]
  exact Try.underlying3
def WfF (f : Fl) : Prop := ∀ n ∈ [f.id, f.fr, f.to, f.cl, f.pa, f.day, f.un, f.de, f.bo, f.pd], (Lit.int .i64 n).wf = true
theorem fl_of {H : Type} {enc : TypeId × Value → H} {w : World} {base : Nat} {spare : Nat → Bool} {held : Bool} {fuel : Nat} {cs : List Value} {x : DataW H × List MemPlace} (h : DataW.trod enc Try.prog w base spare held fuel 23 cs = some x) :
    ∃ f : Fl, cs = (#[.int .i64 f.id, .int .i64 f.fr, .int .i64 f.to, .int .i64 f.cl, .int .i64 f.pa, .int .i64 f.day, .int .i64 f.un, .int .i64 f.de, .int .i64 f.bo, .int .i64 f.pd] : Array Value).toList ∧ WfF f := by
  obtain ⟨ns, e, hl, wf⟩ := ints_struct failStruct failOne (failCells.trans failSize.symm) failInt h
  rw [failSize] at hl
  match ns, hl with
  | [a, b, c, d, e', f, g, h', i, j], _ => exact ⟨⟨a, b, c, d, e', f, g, h', i, j⟩, by simpa using e, wf⟩
theorem open_fl {H : Type} {enc : TypeId × Value → H} {W : World} {base : Nat} {spare : Nat → Bool} {held : Bool} {r : Reach} {b0 : Nat} {v : Value} {d : DataW H} {p : List MemPlace} (hv : Value.okWide Try.prog W r b0 23 v) (h : DataW.Trod enc Try.prog W base spare held 23 v d p) :
    ∃ f : Fl, v = .agg #[.int .i64 f.id, .int .i64 f.fr, .int .i64 f.to, .int .i64 f.cl, .int .i64 f.pa, .int .i64 f.day, .int .i64 f.un, .int .i64 f.de, .int .i64 f.bo, .int .i64 f.pd] ∧ WfF f := by
  obtain ⟨cs, rfl, _⟩ := okWide_struct failStruct hv
  obtain ⟨fuel, hf⟩ := h
  obtain ⟨f, e, wf⟩ := fl_of hf
  refine ⟨f, ?_, wf⟩
  obtain ⟨l⟩ := cs
  simp only [Value.cells] at e
  subst e
  rfl
theorem list_of {α : Type} {p : Nat → α → Prop} : ∀ (n : Nat), (∀ i, i < n → ∃ f, p i f) → ∃ l : List α, l.length = n ∧ ∀ i (hi : i < l.length), p i l[i]
  | 0, _ => ⟨[], rfl, fun i hi => absurd hi (by simp)⟩
  | n + 1, h => by
    obtain ⟨l, hl, hp⟩ := list_of n (fun i hi => h i (by omega))
    obtain ⟨f, hf⟩ := h n (by omega)
    refine ⟨l ++ [f], by simp [hl], fun i hi => ?_⟩
    by_cases hi' : i < l.length
    · rw [List.getElem_append_left hi']; exact hp i hi'
    · have : i = l.length := by simp at hi; omega
      subst this
      rw [List.getElem_append_right (by omega)]
      simpa [hl] using hf
theorem cell_lt {W : World} {b o : Nat} {v : Value} (h : W.cell? ⟨b, o, none⟩ = some v) : b < W.heap.size := by
  rcases Nat.lt_or_ge b W.heap.size with hlt | hge
  · exact hlt
  · unfold World.cell? at h; rw [Array.getElem?_eq_none hge] at h; cases h
theorem open_fls {H : Type} {enc : TypeId × Value → H} {W : World} {base : Nat} {spare : Nat → Bool} {held : Bool} {r : Reach} {b0 : Nat} {v : Value} {d : DataW H} {p : List MemPlace} (hv : Value.okWide Try.prog W r b0 24 v) (h : DataW.Trod enc Try.prog W base spare held 24 v d p) :
    ∃ (A : Option Addr) (l : List Fl) (c : Nat), v = .slice A l.length c ∧ FailsAt W W.heap.size A l ∧ l.length ≤ 9223372036854775807 ∧ ∀ f ∈ l, WfF f := by
  obtain ⟨a0, len, cap, rfl⟩ := okWide_slice Try.underlying24 hv
  obtain ⟨fuel, hf⟩ := h
  rcases open_slice Try.underlying24 hf with ⟨hcs, _⟩ | ⟨a, len', cap', m, n, D, Pl, hcs, _, hl, hm, hmm, _, hi⟩
  · simp only [Value.cells] at hcs
    have e : (Value.slice a0 len cap) = .slice none 0 0 := by simpa using hcs
    injection e with e1 e2 e3
    subst e1 e2
    exact ⟨none, [], cap, rfl, fun k hk => absurd hk (by simp), by simp, by simp⟩
  · have e : (Value.slice a0 len cap) = .slice (some a) len' cap' := by simpa [Value.cells] using hcs
    injection e with e1 e2 e3
    subst e1 e2 e3
    have hml : len ≤ m := by rw [hmm]; split <;> omega
    have all : ∀ i, i < len → ∃ f : Fl, (∃ b off, a = ⟨b, off, none⟩ ∧ b < W.heap.size ∧ ∀ j, j < 10 → W.cell? ⟨b, off + i * 10 + j, none⟩ = (#[.int .i64 f.id, .int .i64 f.fr, .int .i64 f.to, .int .i64 f.cl, .int .i64 f.pa, .int .i64 f.day, .int .i64 f.un, .int .i64 f.de, .int .i64 f.bo, .int .i64 f.pd] : Array Value)[j]?) ∧ WfF f := by
      intro i hi'
      obtain ⟨cs', hc, ht'⟩ := hi i (by omega)
      rw [failCells] at hc
      obtain ⟨f, e, wf⟩ := fl_of ht'
      obtain ⟨_, hcl, hat⟩ := World.cells?_some hc
      refine ⟨f, ?_, wf⟩
      obtain ⟨cs0, hc0, ht0⟩ := hi 0 (by omega)
      rw [failCells] at hc0
      obtain ⟨f0, e0, _⟩ := fl_of ht0
      obtain ⟨_, _, hat0⟩ := World.cells?_some hc0
      have hsp := hat0 0 (by omega)
      rw [e0] at hsp
      obtain ⟨b, off, spot⟩ := a
      have hspot : spot = none := by simpa [Addr.add] using World.cell?_spot (show W.cell? ((Addr.add ⟨b, off, spot⟩ (0 * 10)).add 0) = some (.int .i64 f0.id) from hsp)
      subst hspot
      have at' : ∀ j, j < 10 → W.cell? ⟨b, off + i * 10 + j, none⟩ = (#[.int .i64 f.id, .int .i64 f.fr, .int .i64 f.to, .int .i64 f.cl, .int .i64 f.pa, .int .i64 f.day, .int .i64 f.un, .int .i64 f.de, .int .i64 f.bo, .int .i64 f.pd] : Array Value)[j]? := by
        intro j hj
        have h1 := hat j hj
        rw [Go.WideShapes.add_plain, Go.WideShapes.add_plain, e] at h1
        rw [h1, Array.getElem?_toList]
      exact ⟨b, off, rfl, cell_lt (v := .int .i64 f.id) (at' 0 (by omega)), at'⟩
    obtain ⟨l, hl2, hp⟩ := list_of len all
    refine ⟨some a, l, cap, by rw [hl2], fun k hk => ?_, by unfold maxLen at hm; omega, fun f hf' => ?_⟩
    · obtain ⟨⟨b, off, e, hb, hc⟩, _⟩ := hp k hk
      exact ⟨b, off, by rw [e], hb, hc 0 (by omega), hc 1 (by omega), hc 2 (by omega), hc 3 (by omega), hc 4 (by omega), hc 5 (by omega), hc 6 (by omega), hc 7 (by omega), hc 8 (by omega), hc 9 (by omega)⟩
    · obtain ⟨i, hi', rfl⟩ := List.getElem_of_mem hf'
      exact (hp i hi').2
end Go.Proofs.Ytblibhmmliljgaa
