/- Contracts of calls that answer new memory: what is new, how it is used at a call, how a walk shows it. -/
import Derived.Test.YteblbhbfdfifpaaVAns
namespace Go.Proofs.Yteblbhbfdfifpaa.V
open Go Go.RowKit
set_option linter.unusedVariables false
set_option linter.unusedSimpArgs false

def isNew : Ob → Bool
  | .row _ _ _ _ | .arr _ _ _ => true
  | _ => false
def glue (m : Nat) (ρ ν : Rho) : Rho := fun i => if i < m then ρ i else ν i
structure News (B m : Nat) (ν : Rho) (w : World) (ros : List Ob) : Prop where
  sat : ∀ (j : Nat) o, ros[j]? = some o → Sat B ν w (m + j) o ∧ ∀ b, foot ν (m + j) o = some b → B ≤ b
  apart : ∀ (j k : Nat) o o' b, ros[j]? = some o → ros[k]? = some o' → j ≠ k → foot ν (m + j) o = some b → foot ν (m + k) o' ≠ some b
def svBv (n : Nat) : SV → Bool
  | .tup l => l.all (svB n)
  | v => svB n v
/-- A CONTRACT: the function f, handed the arguments args (over the objects os, that it only reads), answers v over new objects ros (they are numbered behind os), and leaves alone whatever was there. -/
structure FnR (P : Program) (f : FuncId) (os : List Ob) (args : List SV) (v : SV) (ros : List Ob) : Prop where
  b : hasBody P f = true
  n : ros.all isNew = true
  k : svBv (os.length + ros.length) v = true
  c : ∀ w ρ xs, (∀ (i : Nat) o, os[i]? = some o → ∃ v, ρ i = some v ∧ Ro w v o) → Svs ρ args xs → Calls P f xs.toArray w fun e w' => ∃ ν x, e = .returned x ∧ v.is (glue os.length ρ ν) x ∧ News w.heap.size os.length ν w' ros ∧ Below w.heap.size w w'

/-! at a call -/
def renV (σ : Nat → Nat) : SV → SV
  | .tup l => .tup (l.map (renS σ))
  | v => renS σ v
theorem CapsAre.ren {τ : Nat → Nat} {ρ : Rho} : ∀ {l : List Nat} {xs : List Value}, CapsAre (via τ ρ) l xs → CapsAre ρ (l.map τ) xs
  | [], _, h => h
  | i :: l, _, ⟨a, r, e, hx, hr⟩ => ⟨a, r, e, hx, CapsAre.ren hr⟩
theorem At.ren {τ : Nat → Nat} {ρ : Rho} {a : At} {x : Value} (h : a.is (via τ ρ) x) : (renA τ a).is ρ x := by
  cases a with
  | clo f l => obtain ⟨cs, hc, e⟩ := h; exact ⟨cs, CapsAre.ren hc, e⟩
  | _ => exact h
theorem Ats.ren {τ : Nat → Nat} {ρ : Rho} : ∀ {l : List At} {x : List Value}, Ats (V.via τ ρ) l x → Ats ρ (l.map (renA τ)) x
  | [], _, h => h
  | a :: l, _, ⟨u, r, hx, hu, hr⟩ => ⟨u, r, hx, At.ren hu, Ats.ren hr⟩
theorem SV.ren1 {τ : Nat → Nat} {ρ : Rho} {v : SV} {x : Value} (h : v.is1 (via τ ρ) x) : (renS τ v).is1 ρ x := by
  cases v with
  | one a => exact At.ren (a := a) h
  | agg l => obtain ⟨c, e, hx⟩ := h; exact ⟨c, e.ren, hx⟩
  | tup l => exact (show False from h).elim
theorem Svs.ren {τ : Nat → Nat} {ρ : Rho} : ∀ {l : List SV} {x : List Value}, Svs (V.via τ ρ) l x → Svs ρ (l.map (renS τ)) x
  | [], _, h => h
  | a :: l, _, ⟨u, r, hx, hu, hr⟩ => ⟨u, r, hx, SV.ren1 hu, Svs.ren hr⟩
theorem SV.renv {τ : Nat → Nat} {ρ : Rho} {v : SV} {x : Value} (h : v.is (via τ ρ) x) : (renV τ v).is ρ x := by
  cases v with
  | one a => exact At.ren (a := a) h
  | agg l => obtain ⟨c, e, hx⟩ := h; exact ⟨c, e.ren, hx⟩
  | tup l => obtain ⟨c, e, hx⟩ := h; exact ⟨c, e.ren, hx⟩
theorem ext_cut (n : Nat) (ρ : Rho) : Ext (cut n ρ) ρ := fun i y h => by
  unfold cut at h
  split at h
  · exact h
  · cases h
theorem Svs.cut' {nx : Nat} {ρ : Rho} : ∀ {l : List SV} {xs : List Value}, l.all (svB nx) = true → Svs ρ l xs → Svs (V.cut nx ρ) l xs := fun hb h => Svs.cut (by exact hb) h
theorem SV.is_agree {n : Nat} {ρ ρ' : Rho} {v : SV} {x : Value} (hb : svBv n v = true) (he : ∀ i, i < n → ρ i = ρ' i) (h : v.is ρ x) : v.is ρ' x := by
  have e : V.cut n ρ = V.cut n ρ' := funext fun i => by unfold V.cut; split <;> simp_all
  have hc : v.is (V.cut n ρ) x := by
    cases v with
    | one a => exact SV.is_cut (v := .one a) hb h
    | agg l => exact SV.is_cut (v := .agg l) hb h
    | tup l => obtain ⟨c, hc, hx⟩ := h; exact ⟨c, Svs.cut' hb hc, hx⟩
  rw [e] at hc
  exact SV.is_ext (ext_cut n ρ') hc
def newO : Nat → List Ob → Obs → Obs
  | _, [], obs => obs
  | i, o :: r, obs => newO (i + 1) r ((i, o) :: obs)
theorem newO_spec : ∀ {ros : List Ob} {n : Nat} {obs : Obs} {i : Nat} {o : Ob}, fnd (newO n ros obs) i = some o → (n ≤ i ∧ ros[i - n]? = some o) ∨ ((i < n ∨ n + ros.length ≤ i) ∧ fnd obs i = some o)
  | [], n, obs, i, o, h => .inr ⟨by rcases Nat.lt_or_ge i n with q | q <;> simp <;> omega, h⟩
  | u :: r, n, obs, i, o, h => by
    rcases newO_spec (ros := r) h with ⟨h1, h2⟩ | ⟨h1, h2⟩
    · left; exact ⟨by omega, by rw [show i - n = (i - (n + 1)) + 1 by omega]; simpa using h2⟩
    · rcases fnd_cons h2 with ⟨rfl, rfl⟩ | ⟨hn, h3⟩
      · left; exact ⟨Nat.le_refl _, by simp⟩
      · right; exact ⟨by simp; omega, h3⟩
theorem Sat.mono {B B' : Nat} {ρ : Rho} {w : World} {i : Nat} {o : Ob} (hn : isNew o = true) (h : Sat B' ρ w i o) (hb : B ≤ B') : Sat B ρ w i o := by
  cases o with
  | row t s n get =>
    obtain ⟨v, e, A, c, ev, h1, h2, h3⟩ := h
    refine ⟨v, e, A, c, ev, h1, h2, ?_⟩
    rcases h3 with q | ⟨g, cur, q1, q2, q3⟩
    · exact .inl q
    · exact .inr ⟨g, cur, q1, by omega, q3⟩
  | arr s n get => exact h
  | _ => cases hn
theorem Sat.at_ {B : Nat} {ρ ρ' : Rho} {w : World} {i j : Nat} {o : Ob} (hn : isNew o = true) (he : ρ' j = ρ i) (h : Sat B ρ w i o) : Sat B ρ' w j o := by
  cases o with
  | row t s n get => obtain ⟨v, e, q⟩ := h; exact ⟨v, he.trans e, q⟩
  | arr s n get => obtain ⟨v, e, q⟩ := h; exact ⟨v, he.trans e, q⟩
  | _ => cases hn
theorem foot_at {ρ ρ' : Rho} {i j : Nat} {o : Ob} (he : ρ' j = ρ i) : foot ρ' j o = foot ρ i o := by
  have hb : base ρ' j = base ρ i := by unfold base; rw [he]
  cases o <;> simp only [foot, hb, he]
theorem isNew_at {ros : List Ob} (h : ros.all isNew = true) {j : Nat} {o : Ob} (ho : ros[j]? = some o) : isNew o = true := List.all_eq_true.1 h o (List.mem_of_getElem? ho)
/-- objects that are new to the world -/
theorem Cls.adds {B nx m : Nat} {ρ ν ρ' : Rho} {obs : Obs} {w w' : World} {ros : List Ob} (h : Cls B ρ obs nx w) (hb : Below w.heap.size w w') (hn : ros.all isNew = true) (hN : News w.heap.size m ν w' ros)
    (h1 : ∀ i, i < nx → ρ' i = ρ i) (h2 : ∀ j, j < ros.length → ρ' (nx + j) = ν (m + j)) (h3 : ∀ i, nx + ros.length ≤ i → ρ' i = none) : Cls B ρ' (newO nx ros obs) (nx + ros.length) w' := by
  have hx : Ext ρ ρ' := fun i y hy => by
    by_cases hi : i < nx
    · rw [h1 i hi]; exact hy
    · rw [h.new i (by omega)] at hy; cases hy
  have lt : ∀ i o, fnd obs i = some o → o = .gone ∨ i < nx := fun i o ho => by
    rcases Nat.lt_or_ge i nx with q | q
    · exact .inr q
    · left
      have hs := h.sat i o ho
      cases o with
      | gone => rfl
      | box t l => obtain ⟨b, cs, e, _⟩ := hs; rw [h.new i q] at e; cases e
      | lit t s rows => obtain ⟨b, cs, e, _⟩ := hs; rw [h.new i q] at e; cases e
      | arr s n get => obtain ⟨v, e, _⟩ := hs; rw [h.new i q] at e; cases e
      | cel l => obtain ⟨v, e, _⟩ := hs; rw [h.new i q] at e; cases e
      | row t s n get => obtain ⟨v, e, _⟩ := hs; rw [h.new i q] at e; cases e
      | lp L env st => obtain ⟨_, _, _, _, e, _⟩ := hs; rw [h.new i q] at e; cases e
  have oldF : ∀ i o b, fnd obs i = some o → foot ρ' i o = some b → foot ρ i o = some b ∧ b < w.heap.size := fun i o b ho hf => by
    rcases lt i o ho with rfl | q
    · cases hf
    · rw [foot_at (h1 i q)] at hf
      exact ⟨hf, foot_lt (h.sat i o ho) hf⟩
  have newF : ∀ j o b, ros[j]? = some o → foot ρ' (nx + j) o = some b → foot ν (m + j) o = some b ∧ w.heap.size ≤ b := fun j o b ho hf => by
    have hj : j < ros.length := (List.getElem?_eq_some_iff.1 ho).1
    rw [foot_at (h2 j hj)] at hf
    exact ⟨hf, (hN.sat j o ho).2 b hf⟩
  refine ⟨Nat.le_trans h.le hb.size, fun i o ho => ?_, fun i j o o' b hi hj hne hm hf hf' => ?_, h3⟩
  · rcases newO_spec ho with ⟨q1, q2⟩ | ⟨_, q⟩
    · have hj : i - nx < ros.length := (List.getElem?_eq_some_iff.1 q2).1
      have hi : nx + (i - nx) = i := by omega
      have := ((hN.sat _ o q2).1.mono (isNew_at hn q2) h.le).at_ (isNew_at hn q2) (h2 _ hj)
      rwa [hi] at this
    · exact ((h.sat i o q).keep hb.size fun b hf => hb.block b (foot_lt (h.sat i o q) hf)).ext hx
  · rcases newO_spec hi with ⟨q1, q2⟩ | ⟨_, q⟩ <;> rcases newO_spec hj with ⟨r1, r2⟩ | ⟨_, r⟩
    · have e1 : nx + (i - nx) = i := by omega
      have e2 : nx + (j - nx) = j := by omega
      obtain ⟨f1, _⟩ := newF _ o b q2 (by rw [e1]; exact hf)
      obtain ⟨f2, _⟩ := newF _ o' b r2 (by rw [e2]; exact hf')
      exact hN.apart _ _ o o' b q2 r2 (by omega) f1 f2
    · have e1 : nx + (i - nx) = i := by omega
      obtain ⟨_, g1⟩ := newF _ o b q2 (by rw [e1]; exact hf)
      obtain ⟨_, g2⟩ := oldF j o' b r hf'
      omega
    · have e2 : nx + (j - nx) = j := by omega
      obtain ⟨_, g1⟩ := newF _ o' b r2 (by rw [e2]; exact hf')
      obtain ⟨_, g2⟩ := oldF i o b q hf
      omega
    · exact h.apart i j o o' b q r hne hm (oldF i o b q hf).1 (oldF j o' b r hf').1
/-- how the callee's ids are called here -/
def tau (m : Nat) (σ : List Nat) (nx : Nat) (i : Nat) : Nat := if i < m then sg σ i else nx + (i - m)
theorem FnR.goA {P : Program} {f : FuncId} {os : List Ob} {args args' : List SV} {v : SV} {ros : List Ob} (h : FnR P f os args v ros) (σ : List Nat) {obs : Obs} {nx : Nat} {K : SV → Obs → Nat → Prop} (ha : SameS (sg σ) args args') (ho : ObsTo (sg σ) obs 0 os)
    (hK : K (renV (tau os.length σ nx) v) (newO nx ros obs) (nx + ros.length)) : NCallA P f args' obs nx K :=
  ⟨h.b, fun B ρ w xs hC hs => by
    have hr := fun (i : Nat) o hi => by have := ObsTo.ro hC ho i o hi; simpa using this
    refine (h.c w (fun i => ρ (sg σ i)) xs hr (ha.is_ hs)).mono ?_
    rintro e w' ⟨ν, x, he, hv, hN, hw⟩
    let ρ' : Rho := fun i => if i < nx then ρ i else if i < nx + ros.length then ν (os.length + (i - nx)) else none
    have e1 : ∀ i, i < nx → ρ' i = ρ i := fun i hi => if_pos hi
    have e2 : ∀ j, j < ros.length → ρ' (nx + j) = ν (os.length + j) := fun j hj => by
      show (if nx + j < nx then _ else if nx + j < nx + ros.length then _ else _) = _
      rw [if_neg (by omega), if_pos (by omega)]; congr 2; omega
    have e3 : ∀ i, nx + ros.length ≤ i → ρ' i = none := fun i hi => by
      show (if i < nx then _ else if i < nx + ros.length then _ else _) = _
      rw [if_neg (by omega), if_neg (by omega)]
    refine ⟨_, _, _, ρ', x, hK, fun i y hy => ?_, he, SV.renv (SV.is_agree h.k (fun i hi => ?_) hv), hC.adds hw h.n hN e1 e2 e3, hw⟩
    · by_cases hi : i < nx
      · rw [e1 i hi]; exact hy
      · rw [hC.new i (by omega)] at hy; cases hy
    · show glue os.length _ ν i = ρ' (tau os.length σ nx i)
      unfold glue tau
      by_cases hi' : i < os.length
      · rw [if_pos hi', if_pos hi']
        obtain ⟨y, hy, _⟩ := hr i _ (List.getElem?_eq_getElem hi')
        have hy : ρ (sg σ i) = some y := hy
        have : sg σ i < nx := by
          rcases Nat.lt_or_ge (sg σ i) nx with q | q
          · exact q
          · rw [hC.new _ q] at hy; cases hy
        exact (e1 _ this).symm
      · rw [if_neg hi', if_neg hi', e2 (i - os.length) (by omega)]; congr 1; omega⟩
theorem FnR.go {P : Program} {f : FuncId} {os : List Ob} {args args' : List SV} {v : SV} {ros : List Ob} (h : FnR P f os args v ros) (σ : List Nat) {obs : Obs} {nx : Nat} {K : SV → Obs → Nat → Prop} (ha : SameS (sg σ) args args') (ho : ObsTo (sg σ) obs 0 os)
    (hK : K (renV (tau os.length σ nx) v) (newO nx ros obs) (nx + ros.length)) : NCall P f args' obs nx K := (h.goA σ ha ho hK).to
theorem FnR.a_ {P : Program} {f : FuncId} {os : List Ob} {args : List SV} {v : SV} {ros : List Ob} (h : FnR P f os args v ros) (σ : List Nat) (hp : plainS args = true) {obs : Obs} {nx : Nat} {K : SV → Obs → Nat → Prop} (ho : ObsTo (sg σ) obs 0 os)
    (hK : K (renV (tau os.length σ nx) v) (newO nx ros obs) (nx + ros.length)) : NCallA P f (args.map (renS (sg σ))) obs nx K :=
  h.goA σ (SameS.ren _ _ hp) ho hK
theorem FnR.a0 {P : Program} {f : FuncId} {args : List SV} {v : SV} {ros : List Ob} (h : FnR P f [] args v ros) (hp : plain0 args = true) {obs : Obs} {nx : Nat} {K : SV → Obs → Nat → Prop}
    (hK : K (renV (tau 0 [] nx) v) (newO nx ros obs) (nx + ros.length)) : NCallA P f args obs nx K :=
  h.goA [] (SameS.self hp) trivial hK
/-- by the arguments themselves -/
theorem FnR.k_ {P : Program} {f : FuncId} {os : List Ob} {args : List SV} {v : SV} {ros : List Ob} (h : FnR P f os args v ros) (σ : List Nat) (hp : plainS args = true) {obs : Obs} {nx : Nat} {K : SV → Obs → Nat → Prop} (ho : ObsTo (sg σ) obs 0 os)
    (hK : K (renV (tau os.length σ nx) v) (newO nx ros obs) (nx + ros.length)) : NCall P f (args.map (renS (sg σ))) obs nx K :=
  h.go σ (SameS.ren _ _ hp) ho hK
theorem FnR.k0 {P : Program} {f : FuncId} {args : List SV} {v : SV} {ros : List Ob} (h : FnR P f [] args v ros) (hp : plain0 args = true) {obs : Obs} {nx : Nat} {K : SV → Obs → Nat → Prop}
    (hK : K (renV (tau 0 [] nx) v) (newO nx ros obs) (nx + ros.length)) : NCall P f args obs nx K :=
  h.go [] (SameS.self hp) trivial hK

/-! how a walk shows it -/
/-- the id that stands for spec id i: l tells of the new ones (none: a slice that is nil) -/
def RetA (m : Nat) (l : List (Option Nat)) : At → At → Prop
  | .val x, .val y => y = x
  | .val x, .tf b => Value.bool b = x
  | .val (.bool b), .prop p => p ↔ b = true
  | .ref i, .ref j => if i < m then i = j else l[i - m]? = some (some j)
  | .ref i, .val (.slice none 0 0) => m ≤ i ∧ l[i - m]? = some none
  | _, _ => False
def RetAs (m : Nat) (l : List (Option Nat)) : List At → List At → Prop
  | [], [] => True
  | a :: r, b :: s => RetA m l a b ∧ RetAs m l r s
  | _, _ => False
def Ret1 (m : Nat) (l : List (Option Nat)) : SV → SV → Prop
  | .one a, .one b => RetA m l a b
  | .agg r, .agg s => RetAs m l r s
  | _, _ => False
def Rets (m : Nat) (l : List (Option Nat)) : List SV → List SV → Prop
  | [], [] => True
  | a :: r, b :: s => Ret1 m l a b ∧ Rets m l r s
  | _, _ => False
def RetV (m : Nat) (l : List (Option Nat)) : SV → SV → Prop
  | .tup r, .tup s => Rets m l r s
  | .tup _, _ | _, .tup _ => False
  | a, b => Ret1 m l a b
/-- the object that is handed back, as the contract has it -/
def ObRet : Ob → Ob → Prop
  | .row t s n g, .row t' s' n' g' => t = t' ∧ s = s' ∧ n = n' ∧ ∀ k, k < n → g k = g' k
  | .row _ s n g, .arr s' n' g' => s = s' ∧ n = n' ∧ ∀ k, k < n → g k = g' k
  | .lit _ s rows, .arr s' n' g' => s = s' ∧ rows.length = n' ∧ LitTo g' 0 rows
  | _, _ => False
def ObNil : Ob → Prop
  | .row _ _ n _ => n = 0
  | .arr _ n _ => n = 0
  | _ => False
def RetO (obs : Obs) : List (Option Nat) → List Ob → Prop
  | [], [] => True
  | none :: l, o :: r => ObNil o ∧ RetO obs l r
  | some i :: l, o :: r => fndK obs i (fun u => ObRet u o) ∧ RetO obs l r
  | _, _ => False
def somes : List (Option Nat) → List Nat
  | [] => []
  | none :: r => somes r
  | some i :: r => i :: somes r
structure NRet (m : Nat) (v : SV) (ros : List Ob) (v1 : SV) (obs1 : Obs) : Prop where
  h : ∃ l : List (Option Nat), nodB (somes l) = true ∧ RetV m l v v1 ∧ RetO obs1 l ros
theorem NRet.mk_ {m : Nat} {v : SV} {ros : List Ob} {v1 : SV} {obs1 : Obs} (l : List (Option Nat)) (h0 : nodB (somes l) = true) (h1 : RetV m l v v1) (h2 : RetO obs1 l ros) : NRet m v ros v1 obs1 := ⟨⟨l, h0, h1, h2⟩⟩
theorem RetO.get {obs : Obs} : ∀ {l : List (Option Nat)} {ros : List Ob}, RetO obs l ros → l.length = ros.length ∧ ∀ (j : Nat) o, ros[j]? = some o → (l[j]? = some none ∧ ObNil o) ∨ ∃ i u, l[j]? = some (some i) ∧ fnd obs i = some u ∧ ObRet u o
  | [], [], _ => ⟨rfl, fun j o h => by simp at h⟩
  | [], _ :: _, h => h.elim
  | none :: _, [], h => h.elim
  | some _ :: _, [], h => h.elim
  | none :: l, o :: r, ⟨h1, h2⟩ => by
    obtain ⟨e, q⟩ := RetO.get h2
    refine ⟨by simp [e], fun j u hu => ?_⟩
    cases j with
    | zero => simp at hu; subst hu; exact .inl ⟨rfl, h1⟩
    | succ j => simpa using q j u (by simpa using hu)
  | some i :: l, o :: r, ⟨h1, h2⟩ => by
    obtain ⟨e, q⟩ := RetO.get h2
    refine ⟨by simp [e], fun j u hu => ?_⟩
    cases j with
    | zero =>
      simp at hu; subst hu
      obtain ⟨u, hu, hr⟩ := fndK_spec h1
      exact .inr ⟨i, u, rfl, hu, hr⟩
    | succ j => simpa using q j u (by simpa using hu)
theorem mem_somes {i : Nat} : ∀ {l : List (Option Nat)} {j : Nat}, l[j]? = some (some i) → i ∈ somes l
  | [], j, h => by simp at h
  | none :: r, j, h => by
    cases j with
    | zero => simp at h
    | succ j => exact mem_somes (l := r) (by simpa using h)
  | some k :: r, j, h => by
    cases j with
    | zero => simp at h; subst h; simp [somes]
    | succ j => simp [somes, mem_somes (l := r) (j := j) (by simpa using h)]
theorem somes_inj {i : Nat} : ∀ {l : List (Option Nat)} {j k : Nat}, nodB (somes l) = true → l[j]? = some (some i) → l[k]? = some (some i) → j = k
  | [], j, k, _, h, _ => by simp at h
  | none :: r, j, k, hn, h, h' => by
    cases j with
    | zero => simp at h
    | succ j =>
      cases k with
      | zero => simp at h'
      | succ k => exact congrArg (· + 1) (somes_inj (l := r) hn (by simpa using h) (by simpa using h'))
  | some x :: r, j, k, hn, h, h' => by
    unfold somes nodB at hn
    cases hm : memB x (somes r) <;> simp only [hm] at hn
    · cases j with
      | zero =>
        cases k with
        | zero => rfl
        | succ k =>
          simp at h; subst h
          have := memB_of (mem_somes (l := r) (j := k) (by simpa using h'))
          rw [hm] at this; cases this
      | succ j =>
        cases k with
        | zero =>
          simp at h'; subst h'
          have := memB_of (mem_somes (l := r) (j := j) (by simpa using h))
          rw [hm] at this; cases this
        | succ k => exact congrArg (· + 1) (somes_inj (l := r) hn (by simpa using h) (by simpa using h'))
    · cases hn
def nuOf (m : Nat) (l : List (Option Nat)) (ρ : Rho) : Rho := fun i => match l[i - m]? with
  | some (some j) => ρ j
  | some none => some (.slice none 0 0)
  | none => none
theorem RetA.is_ {m : Nat} {l : List (Option Nat)} {ρ ρ0 : Rho} (h0 : ∀ i, i < m → ρ0 i = ρ i) : ∀ {a b : At} {x : Value}, RetA m l a b → b.is ρ x → a.is (glue m ρ0 (nuOf m l ρ)) x
  | .val u, .val y, x, h, hb => Eq.trans hb h
  | .val u, .tf b, x, h, hb => Eq.trans hb h
  | .val u, .prop p, x, h, hb => by
    cases u <;> try exact (show False from h).elim
    rename_i b
    obtain ⟨c, rfl, hc⟩ := hb
    show Value.bool c = Value.bool b
    congr 1
    rw [Bool.eq_iff_iff, hc]; exact h
  | .ref i, .ref j, x, h, hb => by
    refine ⟨?_, hb.2⟩
    have h : if i < m then i = j else l[i - m]? = some (some j) := h
    show glue m ρ0 (nuOf m l ρ) i = some x
    unfold glue nuOf
    split at h
    · rename_i hi; subst h; rw [if_pos hi, h0 i hi]; exact hb.1
    · rename_i hi; rw [if_neg hi, h]; exact hb.1
  | .ref i, .val (.slice none 0 0), x, h, hb => by
    have e : x = .slice none 0 0 := hb
    subst e
    refine ⟨?_, rfl⟩
    show glue m ρ0 (nuOf m l ρ) i = _
    unfold glue nuOf
    rw [if_neg (by have := h.1; omega), h.2]
  | .tf _, b, _, h, _ => by cases b <;> exact (show False from h).elim
  | .prop _, b, _, h, _ => by cases b <;> exact (show False from h).elim
  | .ptr _ _ _ _, b, _, h, _ => by cases b <;> exact (show False from h).elim
  | .clo _ _, b, _, h, _ => by cases b <;> exact (show False from h).elim
  | .val u, .ptr _ _ _ _, _, h, _ => by cases u <;> exact (show False from h).elim
  | .val u, .ref _, _, h, _ => by cases u <;> exact (show False from h).elim
  | .val u, .clo _ _, _, h, _ => by cases u <;> exact (show False from h).elim
  | .ref i, .tf _, _, h, _ => (show False from h).elim
  | .ref i, .prop _, _, h, _ => (show False from h).elim
  | .ref i, .ptr _ _ _ _, _, h, _ => (show False from h).elim
  | .ref i, .clo _ _, _, h, _ => (show False from h).elim
theorem RetAs.is_ {m : Nat} {l : List (Option Nat)} {ρ ρ0 : Rho} (h0 : ∀ i, i < m → ρ0 i = ρ i) : ∀ {a b : List At} {x : List Value}, RetAs m l a b → Ats ρ b x → Ats (glue m ρ0 (nuOf m l ρ)) a x
  | [], [], _, _, h => h
  | [], _ :: _, _, h, _ => h.elim
  | _ :: _, [], _, h, _ => h.elim
  | a :: r, b :: s, _, ⟨h1, h2⟩, ⟨u, q, hx, hu, hr⟩ => ⟨u, q, hx, RetA.is_ h0 h1 hu, RetAs.is_ h0 h2 hr⟩
theorem Ret1.is_ {m : Nat} {l : List (Option Nat)} {ρ ρ0 : Rho} (h0 : ∀ i, i < m → ρ0 i = ρ i) {a b : SV} {x : Value} (h : Ret1 m l a b) (hb : b.is1 ρ x) : a.is1 (glue m ρ0 (nuOf m l ρ)) x := by
  cases a <;> cases b <;> try exact (show False from h).elim
  · exact RetA.is_ h0 h hb
  · obtain ⟨c, hc, e⟩ := hb; exact ⟨c, RetAs.is_ h0 h hc, e⟩
theorem Rets.is_ {m : Nat} {l : List (Option Nat)} {ρ ρ0 : Rho} (h0 : ∀ i, i < m → ρ0 i = ρ i) : ∀ {a b : List SV} {x : List Value}, Rets m l a b → Svs ρ b x → Svs (glue m ρ0 (nuOf m l ρ)) a x
  | [], [], _, _, h => h
  | [], _ :: _, _, h, _ => h.elim
  | _ :: _, [], _, h, _ => h.elim
  | a :: r, b :: s, _, ⟨h1, h2⟩, ⟨u, q, hx, hu, hr⟩ => ⟨u, q, hx, Ret1.is_ h0 h1 hu, Rets.is_ h0 h2 hr⟩
theorem RetV.is_ {m : Nat} {l : List (Option Nat)} {ρ ρ0 : Rho} (h0 : ∀ i, i < m → ρ0 i = ρ i) {a b : SV} {x : Value} (h : RetV m l a b) (hb : b.is ρ x) : a.is (glue m ρ0 (nuOf m l ρ)) x := by
  cases a <;> cases b <;> try exact (show False from h).elim
  · exact RetA.is_ h0 h hb
  · obtain ⟨c, hc, e⟩ := hb; exact ⟨c, RetAs.is_ h0 h hc, e⟩
  · obtain ⟨c, hc, e⟩ := hb; exact ⟨c, Rets.is_ h0 h hc, e⟩
theorem ObRet.sat {B : Nat} {ρ ν : Rho} {w : World} {i j : Nat} {u o : Ob} (h : ObRet u o) (he : ν j = ρ i) (hs : Sat B ρ w i u) : isNew o = true ∧ Sat B ν w j o ∧ (∀ b, foot ν j o = some b → foot ρ i u = some b ∧ B ≤ b) ∧ u.mut = true := by
  cases u with
  | row t s n g =>
    obtain ⟨v, e, hr⟩ := hs
    have hf : ∀ b, foot ρ i (.row t s n g) = some b → B ≤ b := fun b hb => by
      obtain ⟨A, c, rfl, _, _, hc⟩ := hr
      rw [foot_row e] at hb
      split at hb
      · cases hb
      · rcases hc with ⟨_, q⟩ | ⟨g, cur, rfl, hB, _⟩
        · omega
        · simp at hb; omega
    cases o with
    | row t' s' n' g' =>
      obtain ⟨rfl, rfl, rfl, hg⟩ := h
      refine ⟨rfl, ⟨v, he.trans e, hr.congr fun k hk => (hg k hk).symm⟩, fun b hb => ?_, rfl⟩
      rw [foot_at he] at hb
      have hb' : foot ρ i (.row t s n g) = some b := hb
      exact ⟨hb', hf b hb'⟩
    | arr s' n' g' =>
      obtain ⟨rfl, rfl, hg⟩ := h
      refine ⟨rfl, ⟨v, he.trans e, (hr.congr fun k hk => (hg k hk).symm).arr⟩, fun b hb => ?_, rfl⟩
      rw [foot_at he] at hb
      have hb' : foot ρ i (.row t s n g) = some b := by
        obtain ⟨A, c, rfl, _, _, hc⟩ := hr
        unfold foot at hb ⊢
        rw [e]
        cases n with
        | zero => cases hb
        | succ n =>
          have hc0 : c ≠ 0 := by rcases hc with ⟨h, _⟩ | ⟨_, _, _, _, _, _, h, _⟩ <;> omega
          cases c with
          | zero => exact absurd rfl hc0
          | succ c => exact hb
      exact ⟨hb', hf b hb'⟩
    | _ => exact (show False from h).elim
  | lit t s rows =>
    cases o with
    | arr s' n' g' =>
      obtain ⟨h1, h2, h3⟩ := h
      obtain ⟨v, e, hr⟩ := ObTo.ro (u := .lit t s rows) (o := .arr s' n' g') ⟨h1, h2, h3⟩ hs
      refine ⟨rfl, ⟨v, he.trans e, hr⟩, fun b hb => ?_, rfl⟩
      rw [foot_at he] at hb
      obtain ⟨b', cs, e', hB, _⟩ := hs
      have hb' : foot ρ i (.lit t s rows) = some b := by
        unfold foot at hb ⊢
        cases n' with
        | zero => cases hb
        | succ n => exact hb
      refine ⟨hb', ?_⟩
      simp only [foot, base, e', Option.map_some] at hb'
      injection hb' with hb'; omega
    | _ => exact (show False from h).elim
  | _ => cases o <;> exact (show False from h).elim
theorem ObNil.sat {B : Nat} {ν : Rho} {w : World} {j : Nat} {o : Ob} (h : ObNil o) (he : ν j = some (.slice none 0 0)) : isNew o = true ∧ Sat B ν w j o ∧ ∀ b, foot ν j o ≠ some b := by
  cases o with
  | row t s n g =>
    have e : n = 0 := h
    subst e
    exact ⟨rfl, ⟨_, he, none, 0, rfl, by omega, fun k hk => by omega, .inl ⟨rfl, rfl⟩⟩, fun b hb => by rw [foot_row he] at hb; simp at hb⟩
  | arr s n g =>
    have e : n = 0 := h
    subst e
    exact ⟨rfl, ⟨_, he, none, 0, rfl, by omega, by omega, fun k hk => by omega⟩, fun b hb => by simp [foot] at hb⟩
  | _ => exact (show False from h).elim
theorem FnR.mk_ {P : Program} {T : TT} (hT : TTok P T) (hm : P.follows .mixedOrders = true) {f : FuncId} {fn : Func} {c : Code} (hf : P.funcs[f]? = some fn) (hb : fn.body = some c) {sz : Nat} (hs : fn.ntmps = sz) {os : List Ob} {args : List SV} {v : SV} {ros : List Ob}
    (hB : hasBody P f = true) (hsz : Nat.ble args.length sz = true) (hab : argB os.length args = true) (hn : ros.all isNew = true) (hk : svBv (os.length + ros.length) v = true) (h : vc P T sz os.length c (argEnv 0 args) (obsOf 0 os) os.length (fnK T fn.results.toList fun v1 obs1 _ => NRet os.length v ros v1 obs1)) : FnR P f os args v ros :=
  ⟨hB, hn, hk, fun w ρ xs hr ha => by
    have hr' : ∀ (i : Nat) o, os[i]? = some o → ∃ v, V.cut os.length ρ i = some v ∧ Ro w v o := fun i o ho => by
      obtain ⟨v, e, q⟩ := hr i o ho
      exact ⟨v, by rw [cut_lt (List.getElem?_eq_some_iff.1 ho).1]; exact e, q⟩
    refine (fn_sound hT hm hf hb hs hsz h (Cls.start hr' (fun i hi => if_neg (by omega))) (xs := xs.toArray) (by simpa using ha.cut hab)).mono ?_
    rintro e w' ⟨ρ', v1, obs', nx', y, ⟨⟨l, h0, h1, h2⟩⟩, he, hv, hC, hw, hx, _⟩
    obtain ⟨hl, hg⟩ := RetO.get h2
    have hin : ∀ i, i < os.length → ρ i = ρ' i := fun i hi => by
      obtain ⟨u, eu, _⟩ := hr i _ (List.getElem?_eq_getElem hi)
      rw [eu]
      exact (hx i u (by rw [cut_lt hi]; exact eu)).symm
    have nu : ∀ (j : Nat) q, l[j]? = some q → nuOf os.length l ρ' (os.length + j) = match q with | some i => ρ' i | none => some (.slice none 0 0) := fun j q hq => by
      unfold nuOf
      rw [show os.length + j - os.length = j by omega, hq]
      cases q <;> rfl
    refine ⟨nuOf os.length l ρ', y, he, RetV.is_ hin h1 hv, ⟨fun j o ho => ?_, fun j k o o' b hj hk' hne f1 f2 => ?_⟩, hw⟩
    · rcases hg j o ho with ⟨q1, q2⟩ | ⟨i, u, q1, q2, q3⟩
      · obtain ⟨_, s1, s2⟩ := q2.sat (B := w.heap.size) (w := w') (nu j none q1)
        exact ⟨s1, fun b hb => absurd hb (s2 b)⟩
      · obtain ⟨_, s1, s2, _⟩ := q3.sat (nu j (some i) q1) (hC.sat i u q2)
        exact ⟨s1, fun b hb => (s2 b hb).2⟩
    · rcases hg j o hj with ⟨q1, q2⟩ | ⟨i, u, q1, q2, q3⟩
      · obtain ⟨_, s1, s2⟩ := q2.sat (B := w.heap.size) (w := w') (nu j none q1)
        exact s2 b f1
      rcases hg k o' hk' with ⟨r1, r2⟩ | ⟨i', u', r1, r2, r3⟩
      · obtain ⟨_, s1, s2⟩ := r2.sat (B := w.heap.size) (w := w') (nu k none r1)
        exact s2 b f2
      obtain ⟨_, _, s2, s3⟩ := q3.sat (nu j (some i) q1) (hC.sat i u q2)
      obtain ⟨_, _, t2, _⟩ := r3.sat (nu k (some i') r1) (hC.sat i' u' r2)
      refine hC.apart i i' u u' b q2 r2 (fun e => ?_) s3 (s2 b f1).1 (t2 b f2).1
      subst e
      exact hne (somes_inj h0 q1 r1)⟩
end Go.Proofs.Yteblbhbfdfifpaa.V
