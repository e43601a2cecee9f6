/- Shared texts, one behind the other: Lists, VRef, VRet, VOpen, MoneyPl, VNet0, PricePl, FailPl, MoneyPl2, MarginPl, ClaimPl, DatePl, CalPl, BookPl, NetPl, DivPl, DivPl2, DivPl3, DivW2, DivW3, MoneyW, MoneyW2, VMoney, VNet1 -/
import Derived.Deep.Slices
import Derived.Deep.Fields
import Derived.OpenShut
import Derived.Lib.SmallJoins
import Derived.Lib.BitFns
import Derived.Test.YtpanlcnoopmchaaGreatShelf
import Derived.WalkLawsBesides
import Derived.Laws.Bits64b
import Derived.Deep.QuietTactic
import Derived.BigQuiet
import Derived.Test.YtpanlcnoopmchaaGreatX1
import Derived.Test.YtpanlcnoopmchaaGreatX2
set_option linter.unusedVariables false
set_option linter.unusedSimpArgs false
set_option maxRecDepth 100000

namespace Go.Proofs.YtpanlcnoopmchaaGreat
theorem getD_at {α : Type} [Inhabited α] {l : List α} {k : Nat} (h : k < l.length) : l.getD k default = l[k] := by simp [List.getD, List.getElem?_eq_getElem h]
theorem getD_mem {α : Type} [Inhabited α] {l : List α} {k : Nat} (h : k < l.length) : l.getD k default ∈ l := by rw [getD_at h]; exact List.getElem_mem h
def fb {α : Type} (f : α → Int) : List α → Int
  | [] => 0
  | x :: r => if f x ≠ 0 then f x else fb f r
theorem fb_ok {α : Type} {f : α → Int} : ∀ {l : List α}, fb f l = 0 → ∀ d ∈ l, f d = 0
  | [], _, _, h => by simp at h
  | d :: r, h, x, hx => by
    unfold fb at h
    split at h
    · rename_i k; exact absurd h k
    · rename_i k
      rcases List.mem_cons.1 hx with rfl | q
      · omega
      · exact fb_ok h x q
theorem fb_yes {α : Type} {f : α → Int} : ∀ {l : List α}, (∀ d ∈ l, f d = 0) → fb f l = 0
  | [], _ => rfl
  | d :: r, h => by unfold fb; rw [if_neg (by have := h d (by simp); omega)]; exact fb_yes fun x hx => h x (by simp [hx])
theorem fb_at {α : Type} {f : α → Int} : ∀ {l : List α} {k : Nat} (hk : k < l.length), (∀ d ∈ l.take k, f d = 0) → f l[k] ≠ 0 → fb f l = f l[k]
  | d :: r, 0, _, _, h => by unfold fb; rw [if_pos (by simpa using h)]; rfl
  | d :: r, k + 1, hk, h1, h => by
    unfold fb
    rw [if_neg (by have := h1 d (by simp); omega)]
    exact fb_at (l := r) (by simpa using hk) (fun x hx => h1 x (by simp [hx])) (by simpa using h)
theorem fb_get {α : Type} [Inhabited α] {f : α → Int} {l : List α} {k : Nat} (hk : k < l.length) (h1 : ∀ d ∈ l.take k, f d = 0) (h : f (l.getD k default) ≠ 0) : fb f l = f (l.getD k default) := by
  rw [getD_at hk] at *
  exact fb_at hk h1 h
theorem all_snoc {α : Type} [Inhabited α] {p : α → Prop} {l : List α} {k : Nat} (hk : k < l.length) (h1 : ∀ d ∈ l.take k, p d) (h : p (l.getD k default)) : ∀ d ∈ l.take (k + 1), p d := by
  intro a ha
  rw [List.take_succ_eq_append_getElem hk] at ha
  rcases List.mem_append.1 ha with q | q
  · exact h1 a q
  · rw [List.mem_singleton.1 q, ← getD_at hk]; exact h
theorem all_whole {α : Type} {p : α → Prop} {l : List α} {k : Nat} (hk : l.length ≤ k) (h1 : ∀ d ∈ l.take k, p d) : ∀ d ∈ l, p d := by
  rwa [List.take_of_length_le hk] at h1
def ixf {α : Type} (p : α → Bool) : List α → Int
  | [] => -1
  | x :: r => if p x then 0 else if ixf p r < 0 then -1 else ixf p r + 1
theorem ixf_no {α : Type} {p : α → Bool} : ∀ {l : List α}, (∀ d ∈ l, p d = false) → ixf p l = -1
  | [], _ => rfl
  | d :: r, h => by unfold ixf; rw [if_neg (by rw [h d (by simp)]; decide), ixf_no fun x hx => h x (by simp [hx])]; rfl
theorem ixf_at {α : Type} {p : α → Bool} : ∀ {l : List α} {k : Nat} (hk : k < l.length), (∀ d ∈ l.take k, p d = false) → p l[k] = true → ixf p l = k
  | d :: r, 0, _, _, h => by unfold ixf; rw [if_pos (by simpa using h)]; rfl
  | d :: r, k + 1, hk, h1, h => by
    unfold ixf
    have e := ixf_at (l := r) (k := k) (by simpa using hk) (fun x hx => h1 x (by simp [hx])) (by simpa using h)
    rw [if_neg (by rw [h1 d (by simp)]; decide), e, if_neg (by omega)]
    omega
theorem ixf_get {α : Type} [Inhabited α] {p : α → Bool} {l : List α} {k : Nat} (hk : k < l.length) (h1 : ∀ d ∈ l.take k, p d = false) (h : p (l.getD k default) = true) : ixf p l = k := by
  rw [getD_at hk] at h
  exact ixf_at hk h1 h
theorem ixf_cases {α : Type} [Inhabited α] (p : α → Bool) (l : List α) : (ixf p l = -1 ∧ ∀ d ∈ l, p d = false) ∨ ∃ k : Nat, ixf p l = k ∧ k < l.length ∧ p (l.getD k default) = true ∧ ∀ d ∈ l.take k, p d = false := by
  induction l with
  | nil => left; exact ⟨rfl, by simp⟩
  | cons d r ih =>
    by_cases h : p d
    · right; exact ⟨0, by unfold ixf; rw [if_pos h]; rfl, by simp, by simpa using h, by simp⟩
    · have hf : p d = false := by simpa using h
      rcases ih with ⟨e, a⟩ | ⟨k, e, hk, hp, ha⟩
      · left
        refine ⟨by unfold ixf; rw [if_neg h, e]; rfl, fun x hx => ?_⟩
        rcases List.mem_cons.1 hx with rfl | q
        · exact hf
        · exact a x q
      · right
        refine ⟨k + 1, by unfold ixf; rw [if_neg h, e, if_neg (by omega)]; omega, by simpa using hk, by simpa [List.getD] using hp, fun x hx => ?_⟩
        rcases List.mem_cons.1 (by simpa using hx) with rfl | q
        · exact hf
        · exact ha x q
theorem fb_end {α : Type} [Inhabited α] {f : α → Int} {l : List α} {k : Nat} (hk : l.length ≤ k) (h1 : ∀ d ∈ l.take k, f d = 0) : fb f l = 0 := fb_yes (all_whole hk h1)
end Go.Proofs.YtpanlcnoopmchaaGreat

namespace Go.Proofs.YtpanlcnoopmchaaGreat
open Go Go.RowKit V
theorem v_rbetween (n a b : Int) : V.Fn Tryz.prog 60 [] [.one (.val (.int .i64 n)), .one (.val (.int .i64 a)), .one (.val (.int .i64 b))] (.bool (decide (a ≤ n ∧ n ≤ b))) := by
  refine V.Fn.mk_ V.Tok V.mixed Tryz.func60 rfl Tryz.ntmps60 (by kernel_rfl) rfl rfl ?_
  repeat' ((conv => whnf); first | refine V.NCond.mk ?_ | refine V.NPick.l ?_ | refine V.NIf.not_ ?_ | refine V.NIf.dec_ ?_ | refine V.a4 ?_ | refine V.a5 ?_ | refine V.NIf.mk (fun _ => ?_) (fun _ => ?_) | refine V.a7 ?_ | refine V.a8 ?_ | refine V.a9 ?_ | refine V.NBoth.mk ?_ ?_ | refine V.b1 ?_ | refine V.b2 ?_ | refine V.NTF.dec ?_ | refine V.b3 ?_ | refine V.b4 ?_ | (refine V.NDraw.any (by kernel_rfl) ?_) | fail)
  · exact ⟨_, rfl, by simp_all⟩
  · exact congrArg Value.bool (by simp_all; omega)
end Go.Proofs.YtpanlcnoopmchaaGreat

namespace Go.Proofs.YtpanlcnoopmchaaGreat.V
open Go Go.RowKit
def isNew : Ob → Bool
  | .row _ _ _ _ | .arr _ _ _ => true
  | _ => false
def glue (m : Nat) (ρ ν : Rho) : Rho := fun i => if i < m then ρ i else ν i
structure News (B m : Nat) (ν : Rho) (w : World) (ros : List Ob) : Prop where
  sat : ∀ (j : Nat) o, ros[j]? = some o → Sat B ν w (m + j) o ∧ ∀ b, foot ν (m + j) o = some b → B ≤ b
  apart : ∀ (j k : Nat) o o' b, ros[j]? = some o → ros[k]? = some o' → j ≠ k → foot ν (m + j) o = some b → foot ν (m + k) o' ≠ some b
def svBv (n : Nat) : SV → Bool
  | .tup l => l.all (svB n)
  | v => svB n v
structure FnR (P : Program) (f : FuncId) (os : List Ob) (args : List SV) (v : SV) (ros : List Ob) : Prop where
  b : hasBody P f = true
  n : ros.all isNew = true
  k : svBv (os.length + ros.length) v = true
  c : ∀ w ρ xs, (∀ (i : Nat) o, os[i]? = some o → ∃ v, ρ i = some v ∧ Ro ρ w v o) → Svs ρ args xs → Calls P f xs.toArray w fun e w' => ∃ ν x, e = .returned x ∧ v.is (glue os.length ρ ν) x ∧ News w.heap.size os.length ν w' ros ∧ Below w.heap.size w w'
def renV (σ : Nat → Nat) : SV → SV
  | .tup l => .tup (l.map (renS σ))
  | v => renS σ v
theorem CapsAre.ren {τ : Nat → Nat} {ρ : Rho} : ∀ {l : List Nat} {xs : List Value}, CapsAre (via τ ρ) l xs → CapsAre ρ (l.map τ) xs
  | [], _, h => h
  | i :: l, _, ⟨a, r, e, hx, hr⟩ => ⟨a, r, e, hx, CapsAre.ren hr⟩
theorem At.ren {τ : Nat → Nat} {ρ : Rho} {a : At} {x : Value} (h : a.is (via τ ρ) x) : (renA τ a).is ρ x := by
  cases a with
  | clo f l => obtain ⟨cs, hc, e⟩ := h; exact ⟨cs, CapsAre.ren hc, e⟩
  | _ => exact h
theorem Ats.ren {τ : Nat → Nat} {ρ : Rho} : ∀ {l : List At} {x : List Value}, Ats (V.via τ ρ) l x → Ats ρ (l.map (renA τ)) x
  | [], _, h => h
  | a :: l, _, ⟨u, r, hx, hu, hr⟩ => ⟨u, r, hx, At.ren hu, Ats.ren hr⟩
theorem SV.ren1 {τ : Nat → Nat} {ρ : Rho} {v : SV} {x : Value} (h : v.is1 (via τ ρ) x) : (renS τ v).is1 ρ x := by
  cases v with
  | one a => exact At.ren (a := a) h
  | agg l => obtain ⟨c, e, hx⟩ := h; exact ⟨c, e.ren, hx⟩
  | tup l => exact (show False from h).elim
theorem Svs.ren {τ : Nat → Nat} {ρ : Rho} : ∀ {l : List SV} {x : List Value}, Svs (V.via τ ρ) l x → Svs ρ (l.map (renS τ)) x
  | [], _, h => h
  | a :: l, _, ⟨u, r, hx, hu, hr⟩ => ⟨u, r, hx, SV.ren1 hu, Svs.ren hr⟩
theorem SV.renv {τ : Nat → Nat} {ρ : Rho} {v : SV} {x : Value} (h : v.is (via τ ρ) x) : (renV τ v).is ρ x := by
  cases v with
  | one a => exact At.ren (a := a) h
  | agg l => obtain ⟨c, e, hx⟩ := h; exact ⟨c, e.ren, hx⟩
  | tup l => obtain ⟨c, e, hx⟩ := h; exact ⟨c, e.ren, hx⟩
theorem ext_cut (n : Nat) (ρ : Rho) : Ext (cut n ρ) ρ := fun i y h => by
  unfold cut at h
  split at h
  · exact h
  · cases h
theorem Svs.cut' {nx : Nat} {ρ : Rho} : ∀ {l : List SV} {xs : List Value}, l.all (svB nx) = true → Svs ρ l xs → Svs (V.cut nx ρ) l xs := fun hb h => Svs.cut (by exact hb) h
theorem SV.is_agree {n : Nat} {ρ ρ' : Rho} {v : SV} {x : Value} (hb : svBv n v = true) (he : ∀ i, i < n → ρ i = ρ' i) (h : v.is ρ x) : v.is ρ' x := by
  have e : V.cut n ρ = V.cut n ρ' := funext fun i => by unfold V.cut; split <;> simp_all
  have hc : v.is (V.cut n ρ) x := by
    cases v with
    | one a => exact SV.is_cut (v := .one a) hb h
    | agg l => exact SV.is_cut (v := .agg l) hb h
    | tup l => obtain ⟨c, hc, hx⟩ := h; exact ⟨c, Svs.cut' hb hc, hx⟩
  rw [e] at hc
  exact SV.is_ext (ext_cut n ρ') hc
def newO : Nat → List Ob → Obs → Obs
  | _, [], obs => obs
  | i, o :: r, obs => newO (i + 1) r ((i, o) :: obs)
theorem newO_spec : ∀ {ros : List Ob} {n : Nat} {obs : Obs} {i : Nat} {o : Ob}, fnd (newO n ros obs) i = some o → (n ≤ i ∧ ros[i - n]? = some o) ∨ ((i < n ∨ n + ros.length ≤ i) ∧ fnd obs i = some o)
  | [], n, obs, i, o, h => .inr ⟨by rcases Nat.lt_or_ge i n with q | q <;> simp <;> omega, h⟩
  | u :: r, n, obs, i, o, h => by
    rcases newO_spec (ros := r) h with ⟨h1, h2⟩ | ⟨h1, h2⟩
    · left; exact ⟨by omega, by rw [show i - n = (i - (n + 1)) + 1 by omega]; simpa using h2⟩
    · rcases fnd_cons h2 with ⟨rfl, rfl⟩ | ⟨hn, h3⟩
      · left; exact ⟨Nat.le_refl _, by simp⟩
      · right; exact ⟨by simp; omega, h3⟩
theorem Sat.mono {B B' : Nat} {ρ : Rho} {w : World} {i : Nat} {o : Ob} (hn : isNew o = true) (h : Sat B' ρ w i o) (hb : B ≤ B') : Sat B ρ w i o := by
  cases o with
  | row t s n get =>
    obtain ⟨v, e, A, c, ev, h1, h2, h3⟩ := h
    refine ⟨v, e, A, c, ev, h1, h2, ?_⟩
    rcases h3 with q | ⟨g, cur, q1, q2, q3⟩
    · exact .inl q
    · exact .inr ⟨g, cur, q1, by omega, q3⟩
  | arr s n get => exact h
  | _ => cases hn
theorem Sat.at_ {B : Nat} {ρ ρ' : Rho} {w : World} {i j : Nat} {o : Ob} (hn : isNew o = true) (he : ρ' j = ρ i) (h : Sat B ρ w i o) : Sat B ρ' w j o := by
  cases o with
  | row t s n get => obtain ⟨v, e, q⟩ := h; exact ⟨v, he.trans e, q⟩
  | arr s n get => obtain ⟨v, e, q⟩ := h; exact ⟨v, he.trans e, q⟩
  | _ => cases hn
theorem foot_at {ρ ρ' : Rho} {i j : Nat} {o : Ob} (he : ρ' j = ρ i) : foot ρ' j o = foot ρ i o := by
  have hb : base ρ' j = base ρ i := by unfold base; rw [he]
  cases o <;> simp only [foot, hb, he]
theorem isNew_at {ros : List Ob} (h : ros.all isNew = true) {j : Nat} {o : Ob} (ho : ros[j]? = some o) : isNew o = true := List.all_eq_true.1 h o (List.mem_of_getElem? ho)
theorem new_ns {o : Ob} (h : isNew o = true) (b : Nat) : ¬ sub o b := by
  cases o with
  | rws t e s N vs xs => cases h
  | _ => exact fun h => h
theorem Cls.adds {B nx m : Nat} {ρ ν ρ' : Rho} {obs : Obs} {w w' : World} {ros : List Ob} (h : Cls B ρ obs nx w) (hb : Below w.heap.size w w') (hn : ros.all isNew = true) (hN : News w.heap.size m ν w' ros)
    (h1 : ∀ i, i < nx → ρ' i = ρ i) (h2 : ∀ j, j < ros.length → ρ' (nx + j) = ν (m + j)) (h3 : ∀ i, nx + ros.length ≤ i → ρ' i = none) : Cls B ρ' (newO nx ros obs) (nx + ros.length) w' := by
  have hx : Ext ρ ρ' := fun i y hy => by
    by_cases hi : i < nx
    · rw [h1 i hi]; exact hy
    · rw [h.new i (by omega)] at hy; cases hy
  have lt : ∀ i o, fnd obs i = some o → o = .gone ∨ i < nx := fun i o ho => by
    rcases Nat.lt_or_ge i nx with q | q
    · exact .inr q
    · left
      have hs := h.sat i o ho
      cases o with
      | gone => rfl
      | box t l => obtain ⟨b, cs, e, _⟩ := hs; rw [h.new i q] at e; cases e
      | lit t s rows => obtain ⟨b, cs, e, _⟩ := hs; rw [h.new i q] at e; cases e
      | arr s n get => obtain ⟨v, e, _⟩ := hs; rw [h.new i q] at e; cases e
      | cel l => obtain ⟨v, cs, e, _⟩ := hs; rw [h.new i q] at e; cases e
      | row t s n get => obtain ⟨v, e, _⟩ := hs; rw [h.new i q] at e; cases e
      | lp L env st => obtain ⟨_, _, _, _, e, _⟩ := hs; rw [h.new i q] at e; cases e
      | tab g l => obtain ⟨e, _⟩ := hs; rw [h.new i q] at e; cases e
      | vw r a s => obtain ⟨_, _, _, _, _, e⟩ := hs; rw [h.new i q] at e; cases e
      | rov v t s n get => obtain ⟨e, _⟩ := hs; rw [h.new i q] at e; cases e
      | rws t e s N vs xs => obtain ⟨⟨v, e, _⟩, _⟩ := hs; rw [h.new i q] at e; cases e
  have oldF : ∀ i o b, fnd obs i = some o → foot ρ' i o = some b → foot ρ i o = some b ∧ b < w.heap.size := fun i o b ho hf => by
    rcases lt i o ho with rfl | q
    · cases hf
    · rw [foot_at (h1 i q)] at hf
      exact ⟨hf, foot_lt (h.sat i o ho) hf⟩
  have newF : ∀ j o b, ros[j]? = some o → foot ρ' (nx + j) o = some b → foot ν (m + j) o = some b ∧ w.heap.size ≤ b := fun j o b ho hf => by
    have hj : j < ros.length := (List.getElem?_eq_some_iff.1 ho).1
    rw [foot_at (h2 j hj)] at hf
    exact ⟨hf, (hN.sat j o ho).2 b hf⟩
  refine ⟨Nat.le_trans h.le hb.size, fun i o ho => ?_, fun i j o o' b hi hj hne hm hf hf' => ?_, h3, fun i j o o' b hi hj hb => ?_⟩
  · rcases newO_spec ho with ⟨q1, q2⟩ | ⟨_, q⟩
    · have hj : i - nx < ros.length := (List.getElem?_eq_some_iff.1 q2).1
      have hi : nx + (i - nx) = i := by omega
      have := ((hN.sat _ o q2).1.mono (isNew_at hn q2) h.le).at_ (isNew_at hn q2) (h2 _ hj)
      rwa [hi] at this
    · exact ((h.sat i o q).keep hb.size (fun b hf => hb.block b (foot_lt (h.sat i o q) hf)) fun b hf => hb.block b (sub_lt (h.sat i o q) hf).2).ext hx
  · rcases newO_spec hi with ⟨q1, q2⟩ | ⟨_, q⟩ <;> rcases newO_spec hj with ⟨r1, r2⟩ | ⟨_, r⟩
    · have e1 : nx + (i - nx) = i := by omega
      have e2 : nx + (j - nx) = j := by omega
      obtain ⟨f1, _⟩ := newF _ o b q2 (by rw [e1]; exact hf)
      obtain ⟨f2, _⟩ := newF _ o' b r2 (by rw [e2]; exact hf')
      exact hN.apart _ _ o o' b q2 r2 (by omega) f1 f2
    · have e1 : nx + (i - nx) = i := by omega
      obtain ⟨_, g1⟩ := newF _ o b q2 (by rw [e1]; exact hf)
      obtain ⟨_, g2⟩ := oldF j o' b r hf'
      omega
    · have e2 : nx + (j - nx) = j := by omega
      obtain ⟨_, g1⟩ := newF _ o' b r2 (by rw [e2]; exact hf')
      obtain ⟨_, g2⟩ := oldF i o b q hf
      omega
    · exact h.apart i j o o' b q r hne hm (oldF i o b q hf).1 (oldF j o' b r hf').1
  · rcases newO_spec hi with ⟨q1, q2⟩ | ⟨_, q⟩
    · exact absurd hb (new_ns (isNew_at hn q2) b)
    · rcases newO_spec hj with ⟨r1, r2⟩ | ⟨_, r⟩
      · have e2 : nx + (j - nx) = j := by omega
        refine ⟨fun hf => ?_, fun _ => new_ns (isNew_at hn r2) b⟩
        obtain ⟨_, g1⟩ := newF _ o' b r2 (by rw [e2]; exact hf)
        have := (sub_lt (h.sat i o q) hb).2
        omega
      · exact ⟨fun hf => (h.apx i j o o' b q r hb).1 (oldF j o' b r hf).1, (h.apx i j o o' b q r hb).2⟩
def tau (m : Nat) (σ : List Nat) (nx : Nat) (i : Nat) : Nat := if i < m then sg σ i else nx + (i - m)
theorem FnR.goA {P : Program} {f : FuncId} {os : List Ob} {args args' : List SV} {v : SV} {ros : List Ob} (h : FnR P f os args v ros) (σ : List Nat) {obs : Obs} {nx : Nat} {K : SV → Obs → Nat → Prop} (ha : SameS (sg σ) args args') (ho : ObsTo (sg σ) obs 0 os)
    (hK : K (renV (tau os.length σ nx) v) (newO nx ros obs) (nx + ros.length)) : NCallA P f args' obs nx K :=
  ⟨h.b, fun B ρ w xs hC hs => by
    have hr := fun (i : Nat) o hi => by have := ObsTo.ro hC ho i o hi; simpa using this
    refine (h.c w (fun i => ρ (sg σ i)) xs hr (ha.is_ hs)).mono ?_
    rintro e w' ⟨ν, x, he, hv, hN, hw⟩
    let ρ' : Rho := fun i => if i < nx then ρ i else if i < nx + ros.length then ν (os.length + (i - nx)) else none
    have e1 : ∀ i, i < nx → ρ' i = ρ i := fun i hi => if_pos hi
    have e2 : ∀ j, j < ros.length → ρ' (nx + j) = ν (os.length + j) := fun j hj => by
      show (if nx + j < nx then _ else if nx + j < nx + ros.length then _ else _) = _
      rw [if_neg (by omega), if_pos (by omega)]; congr 2; omega
    have e3 : ∀ i, nx + ros.length ≤ i → ρ' i = none := fun i hi => by
      show (if i < nx then _ else if i < nx + ros.length then _ else _) = _
      rw [if_neg (by omega), if_neg (by omega)]
    refine ⟨_, _, _, ρ', x, hK, fun i y hy => ?_, he, SV.renv (SV.is_agree h.k (fun i hi => ?_) hv), hC.adds hw h.n hN e1 e2 e3, hw⟩
    · by_cases hi : i < nx
      · rw [e1 i hi]; exact hy
      · rw [hC.new i (by omega)] at hy; cases hy
    · show glue os.length _ ν i = ρ' (tau os.length σ nx i)
      unfold glue tau
      by_cases hi' : i < os.length
      · rw [if_pos hi', if_pos hi']
        obtain ⟨y, hy, _⟩ := hr i _ (List.getElem?_eq_getElem hi')
        have hy : ρ (sg σ i) = some y := hy
        have : sg σ i < nx := by
          rcases Nat.lt_or_ge (sg σ i) nx with q | q
          · exact q
          · rw [hC.new _ q] at hy; cases hy
        exact (e1 _ this).symm
      · rw [if_neg hi', if_neg hi', e2 (i - os.length) (by omega)]; congr 1; omega⟩
theorem FnR.go {P : Program} {f : FuncId} {os : List Ob} {args args' : List SV} {v : SV} {ros : List Ob} (h : FnR P f os args v ros) (σ : List Nat) {obs : Obs} {nx : Nat} {K : SV → Obs → Nat → Prop} (ha : SameS (sg σ) args args') (ho : ObsTo (sg σ) obs 0 os)
    (hK : K (renV (tau os.length σ nx) v) (newO nx ros obs) (nx + ros.length)) : NCall P f args' obs nx K := (h.goA σ ha ho hK).to
theorem FnR.a_ {P : Program} {f : FuncId} {os : List Ob} {args : List SV} {v : SV} {ros : List Ob} (h : FnR P f os args v ros) (σ : List Nat) (hp : plainS args = true) {obs : Obs} {nx : Nat} {K : SV → Obs → Nat → Prop} (ho : ObsTo (sg σ) obs 0 os)
    (hK : K (renV (tau os.length σ nx) v) (newO nx ros obs) (nx + ros.length)) : NCallA P f (args.map (renS (sg σ))) obs nx K :=
  h.goA σ (SameS.ren _ _ hp) ho hK
theorem FnR.a0 {P : Program} {f : FuncId} {args : List SV} {v : SV} {ros : List Ob} (h : FnR P f [] args v ros) (hp : plain0 args = true) {obs : Obs} {nx : Nat} {K : SV → Obs → Nat → Prop}
    (hK : K (renV (tau 0 [] nx) v) (newO nx ros obs) (nx + ros.length)) : NCallA P f args obs nx K :=
  h.goA [] (SameS.self hp) trivial hK
theorem FnR.k_ {P : Program} {f : FuncId} {os : List Ob} {args : List SV} {v : SV} {ros : List Ob} (h : FnR P f os args v ros) (σ : List Nat) (hp : plainS args = true) {obs : Obs} {nx : Nat} {K : SV → Obs → Nat → Prop} (ho : ObsTo (sg σ) obs 0 os)
    (hK : K (renV (tau os.length σ nx) v) (newO nx ros obs) (nx + ros.length)) : NCall P f (args.map (renS (sg σ))) obs nx K :=
  h.go σ (SameS.ren _ _ hp) ho hK
theorem FnR.k0 {P : Program} {f : FuncId} {args : List SV} {v : SV} {ros : List Ob} (h : FnR P f [] args v ros) (hp : plain0 args = true) {obs : Obs} {nx : Nat} {K : SV → Obs → Nat → Prop}
    (hK : K (renV (tau 0 [] nx) v) (newO nx ros obs) (nx + ros.length)) : NCall P f args obs nx K :=
  h.go [] (SameS.self hp) trivial hK
def RetA (m : Nat) (l : List (Option Nat)) : At → At → Prop
  | .val x, .val y => y = x
  | .val x, .tf b => Value.bool b = x
  | .val (.bool b), .prop p => p ↔ b = true
  | .ref i, .ref j => if i < m then i = j else l[i - m]? = some (some j)
  | .ref i, .val (.slice none 0 0) => m ≤ i ∧ l[i - m]? = some none
  | _, _ => False
def RetAs (m : Nat) (l : List (Option Nat)) : List At → List At → Prop
  | [], [] => True
  | a :: r, b :: s => RetA m l a b ∧ RetAs m l r s
  | _, _ => False
def Ret1 (m : Nat) (l : List (Option Nat)) : SV → SV → Prop
  | .one a, .one b => RetA m l a b
  | .agg r, .agg s => RetAs m l r s
  | _, _ => False
def Rets (m : Nat) (l : List (Option Nat)) : List SV → List SV → Prop
  | [], [] => True
  | a :: r, b :: s => Ret1 m l a b ∧ Rets m l r s
  | _, _ => False
def RetV (m : Nat) (l : List (Option Nat)) : SV → SV → Prop
  | .tup r, .tup s => Rets m l r s
  | .tup _, _ | _, .tup _ => False
  | a, b => Ret1 m l a b
def ObRet : Ob → Ob → Prop
  | .row t s n g, .row t' s' n' g' => t = t' ∧ s = s' ∧ n = n' ∧ ∀ k, k < n → g k = g' k
  | .row _ s n g, .arr s' n' g' => s = s' ∧ n = n' ∧ ∀ k, k < n → g k = g' k
  | .lit _ s rows, .arr s' n' g' => s = s' ∧ rows.length = n' ∧ LitTo g' 0 rows
  | .lit t s rows, .row t' s' n' g' => t = t' ∧ s = s' ∧ rows.length = n' ∧ 0 < n' ∧ LitTo g' 0 rows
  | _, _ => False
def ObNil : Ob → Prop
  | .row _ _ n _ => n = 0
  | .arr _ n _ => n = 0
  | _ => False
def RetO (obs : Obs) : List (Option Nat) → List Ob → Prop
  | [], [] => True
  | none :: l, o :: r => ObNil o ∧ RetO obs l r
  | some i :: l, o :: r => fndK obs i (fun u => ObRet u o) ∧ RetO obs l r
  | _, _ => False
def somes : List (Option Nat) → List Nat
  | [] => []
  | none :: r => somes r
  | some i :: r => i :: somes r
structure NRet (m : Nat) (v : SV) (ros : List Ob) (v1 : SV) (obs1 : Obs) : Prop where
  h : ∃ l : List (Option Nat), nodB (somes l) = true ∧ RetV m l v v1 ∧ RetO obs1 l ros
theorem NRet.mk_ {m : Nat} {v : SV} {ros : List Ob} {v1 : SV} {obs1 : Obs} (l : List (Option Nat)) (h0 : nodB (somes l) = true) (h1 : RetV m l v v1) (h2 : RetO obs1 l ros) : NRet m v ros v1 obs1 := ⟨⟨l, h0, h1, h2⟩⟩
theorem RetO.get {obs : Obs} : ∀ {l : List (Option Nat)} {ros : List Ob}, RetO obs l ros → l.length = ros.length ∧ ∀ (j : Nat) o, ros[j]? = some o → (l[j]? = some none ∧ ObNil o) ∨ ∃ i u, l[j]? = some (some i) ∧ fnd obs i = some u ∧ ObRet u o
  | [], [], _ => ⟨rfl, fun j o h => by simp at h⟩
  | [], _ :: _, h => h.elim
  | none :: _, [], h => h.elim
  | some _ :: _, [], h => h.elim
  | none :: l, o :: r, ⟨h1, h2⟩ => by
    obtain ⟨e, q⟩ := RetO.get h2
    refine ⟨by simp [e], fun j u hu => ?_⟩
    cases j with
    | zero => simp at hu; subst hu; exact .inl ⟨rfl, h1⟩
    | succ j => simpa using q j u (by simpa using hu)
  | some i :: l, o :: r, ⟨h1, h2⟩ => by
    obtain ⟨e, q⟩ := RetO.get h2
    refine ⟨by simp [e], fun j u hu => ?_⟩
    cases j with
    | zero =>
      simp at hu; subst hu
      obtain ⟨u, hu, hr⟩ := fndK_spec h1
      exact .inr ⟨i, u, rfl, hu, hr⟩
    | succ j => simpa using q j u (by simpa using hu)
theorem mem_somes {i : Nat} : ∀ {l : List (Option Nat)} {j : Nat}, l[j]? = some (some i) → i ∈ somes l
  | [], j, h => by simp at h
  | none :: r, j, h => by
    cases j with
    | zero => simp at h
    | succ j => exact mem_somes (l := r) (by simpa using h)
  | some k :: r, j, h => by
    cases j with
    | zero => simp at h; subst h; simp [somes]
    | succ j => simp [somes, mem_somes (l := r) (j := j) (by simpa using h)]
theorem somes_inj {i : Nat} : ∀ {l : List (Option Nat)} {j k : Nat}, nodB (somes l) = true → l[j]? = some (some i) → l[k]? = some (some i) → j = k
  | [], j, k, _, h, _ => by simp at h
  | none :: r, j, k, hn, h, h' => by
    cases j with
    | zero => simp at h
    | succ j =>
      cases k with
      | zero => simp at h'
      | succ k => exact congrArg (· + 1) (somes_inj (l := r) hn (by simpa using h) (by simpa using h'))
  | some x :: r, j, k, hn, h, h' => by
    unfold somes nodB at hn
    cases hm : memB x (somes r) <;> simp only [hm] at hn
    · cases j with
      | zero =>
        cases k with
        | zero => rfl
        | succ k =>
          simp at h; subst h
          have := memB_of (mem_somes (l := r) (j := k) (by simpa using h'))
          rw [hm] at this; cases this
      | succ j =>
        cases k with
        | zero =>
          simp at h'; subst h'
          have := memB_of (mem_somes (l := r) (j := j) (by simpa using h))
          rw [hm] at this; cases this
        | succ k => exact congrArg (· + 1) (somes_inj (l := r) hn (by simpa using h) (by simpa using h'))
    · cases hn
def nuOf (m : Nat) (l : List (Option Nat)) (ρ : Rho) : Rho := fun i => match l[i - m]? with
  | some (some j) => ρ j
  | some none => some (.slice none 0 0)
  | none => none
theorem RetA.is_ {m : Nat} {l : List (Option Nat)} {ρ ρ0 : Rho} (h0 : ∀ i, i < m → ρ0 i = ρ i) : ∀ {a b : At} {x : Value}, RetA m l a b → b.is ρ x → a.is (glue m ρ0 (nuOf m l ρ)) x
  | .val u, .val y, x, h, hb => Eq.trans hb h
  | .val u, .tf b, x, h, hb => Eq.trans hb h
  | .val u, .prop p, x, h, hb => by
    cases u <;> try exact (show False from h).elim
    rename_i b
    obtain ⟨c, rfl, hc⟩ := hb
    show Value.bool c = Value.bool b
    congr 1
    rw [Bool.eq_iff_iff, hc]; exact h
  | .ref i, .ref j, x, h, hb => by
    refine ⟨?_, hb.2⟩
    have h : if i < m then i = j else l[i - m]? = some (some j) := h
    show glue m ρ0 (nuOf m l ρ) i = some x
    unfold glue nuOf
    split at h
    · rename_i hi; subst h; rw [if_pos hi, h0 i hi]; exact hb.1
    · rename_i hi; rw [if_neg hi, h]; exact hb.1
  | .ref i, .val (.slice none 0 0), x, h, hb => by
    have e : x = .slice none 0 0 := hb
    subst e
    refine ⟨?_, rfl⟩
    show glue m ρ0 (nuOf m l ρ) i = _
    unfold glue nuOf
    rw [if_neg (by have := h.1; omega), h.2]
  | .tf _, b, _, h, _ => by cases b <;> exact (show False from h).elim
  | .prop _, b, _, h, _ => by cases b <;> exact (show False from h).elim
  | .ptr _ _ _ _, b, _, h, _ => by cases b <;> exact (show False from h).elim
  | .clo _ _, b, _, h, _ => by cases b <;> exact (show False from h).elim
  | .val u, .ptr _ _ _ _, _, h, _ => by cases u <;> exact (show False from h).elim
  | .val u, .ref _, _, h, _ => by cases u <;> exact (show False from h).elim
  | .val u, .clo _ _, _, h, _ => by cases u <;> exact (show False from h).elim
  | .ref i, .tf _, _, h, _ => (show False from h).elim
  | .ref i, .prop _, _, h, _ => (show False from h).elim
  | .ref i, .ptr _ _ _ _, _, h, _ => (show False from h).elim
  | .ref i, .clo _ _, _, h, _ => (show False from h).elim
theorem RetAs.is_ {m : Nat} {l : List (Option Nat)} {ρ ρ0 : Rho} (h0 : ∀ i, i < m → ρ0 i = ρ i) : ∀ {a b : List At} {x : List Value}, RetAs m l a b → Ats ρ b x → Ats (glue m ρ0 (nuOf m l ρ)) a x
  | [], [], _, _, h => h
  | [], _ :: _, _, h, _ => h.elim
  | _ :: _, [], _, h, _ => h.elim
  | a :: r, b :: s, _, ⟨h1, h2⟩, ⟨u, q, hx, hu, hr⟩ => ⟨u, q, hx, RetA.is_ h0 h1 hu, RetAs.is_ h0 h2 hr⟩
theorem Ret1.is_ {m : Nat} {l : List (Option Nat)} {ρ ρ0 : Rho} (h0 : ∀ i, i < m → ρ0 i = ρ i) {a b : SV} {x : Value} (h : Ret1 m l a b) (hb : b.is1 ρ x) : a.is1 (glue m ρ0 (nuOf m l ρ)) x := by
  cases a <;> cases b <;> try exact (show False from h).elim
  · exact RetA.is_ h0 h hb
  · obtain ⟨c, hc, e⟩ := hb; exact ⟨c, RetAs.is_ h0 h hc, e⟩
theorem Rets.is_ {m : Nat} {l : List (Option Nat)} {ρ ρ0 : Rho} (h0 : ∀ i, i < m → ρ0 i = ρ i) : ∀ {a b : List SV} {x : List Value}, Rets m l a b → Svs ρ b x → Svs (glue m ρ0 (nuOf m l ρ)) a x
  | [], [], _, _, h => h
  | [], _ :: _, _, h, _ => h.elim
  | _ :: _, [], _, h, _ => h.elim
  | a :: r, b :: s, _, ⟨h1, h2⟩, ⟨u, q, hx, hu, hr⟩ => ⟨u, q, hx, Ret1.is_ h0 h1 hu, Rets.is_ h0 h2 hr⟩
theorem RetV.is_ {m : Nat} {l : List (Option Nat)} {ρ ρ0 : Rho} (h0 : ∀ i, i < m → ρ0 i = ρ i) {a b : SV} {x : Value} (h : RetV m l a b) (hb : b.is ρ x) : a.is (glue m ρ0 (nuOf m l ρ)) x := by
  cases a <;> cases b <;> try exact (show False from h).elim
  · exact RetA.is_ h0 h hb
  · obtain ⟨c, hc, e⟩ := hb; exact ⟨c, RetAs.is_ h0 h hc, e⟩
  · obtain ⟨c, hc, e⟩ := hb; exact ⟨c, Rets.is_ h0 h hc, e⟩
theorem flatten_len {s : Nat} : ∀ {rows : List (List At)}, (∀ r ∈ rows, r.length = s) → rows.flatten.length = rows.length * s
  | [], _ => by simp
  | r :: l, h => by
    rw [List.flatten_cons, List.length_append, flatten_len (rows := l) fun x hx => h x (List.mem_cons_of_mem _ hx), h r (List.mem_cons_self ..), List.length_cons, Nat.add_mul, Nat.one_mul, Nat.add_comm]
theorem ObRet.sat {B : Nat} {ρ ν : Rho} {w : World} {i j : Nat} {u o : Ob} (h : ObRet u o) (he : ν j = ρ i) (hs : Sat B ρ w i u) : isNew o = true ∧ Sat B ν w j o ∧ (∀ b, foot ν j o = some b → foot ρ i u = some b ∧ B ≤ b) ∧ u.mut = true := by
  cases u with
  | row t s n g =>
    obtain ⟨v, e, hr⟩ := hs
    have hf : ∀ b, foot ρ i (.row t s n g) = some b → B ≤ b := fun b hb => by
      obtain ⟨A, c, rfl, _, _, hc⟩ := hr
      rw [foot_row e] at hb
      split at hb
      · cases hb
      · rcases hc with ⟨_, q⟩ | ⟨g, cur, rfl, hB, _⟩
        · omega
        · simp at hb; omega
    cases o with
    | row t' s' n' g' =>
      obtain ⟨rfl, rfl, rfl, hg⟩ := h
      refine ⟨rfl, ⟨v, he.trans e, hr.congr fun k hk => (hg k hk).symm⟩, fun b hb => ?_, rfl⟩
      rw [foot_at he] at hb
      have hb' : foot ρ i (.row t s n g) = some b := hb
      exact ⟨hb', hf b hb'⟩
    | arr s' n' g' =>
      obtain ⟨rfl, rfl, hg⟩ := h
      refine ⟨rfl, ⟨v, he.trans e, (hr.congr fun k hk => (hg k hk).symm).arr⟩, fun b hb => ?_, rfl⟩
      rw [foot_at he] at hb
      have hb' : foot ρ i (.row t s n g) = some b := by
        obtain ⟨A, c, rfl, _, _, hc⟩ := hr
        unfold foot at hb ⊢
        rw [e]
        cases n with
        | zero => cases hb
        | succ n =>
          have hc0 : c ≠ 0 := by rcases hc with ⟨h, _⟩ | ⟨_, _, _, _, _, _, h, _⟩ <;> omega
          cases c with
          | zero => exact absurd rfl hc0
          | succ c => exact hb
      exact ⟨hb', hf b hb'⟩
    | _ => exact (show False from h).elim
  | lit t s rows =>
    cases o with
    | arr s' n' g' =>
      obtain ⟨h1, h2, h3⟩ := h
      obtain ⟨v, e, hr⟩ := ObTo.ro (σ := id) (u := .lit t s rows) (o := .arr s' n' g') ⟨h1, h2, h3⟩ hs
      refine ⟨rfl, ⟨v, he.trans e, hr⟩, fun b hb => ?_, rfl⟩
      rw [foot_at he] at hb
      obtain ⟨b', cs, e', hB, _⟩ := hs
      have hb' : foot ρ i (.lit t s rows) = some b := by
        unfold foot at hb ⊢
        cases n' with
        | zero => cases hb
        | succ n => exact hb
      refine ⟨hb', ?_⟩
      simp only [foot, base, e', Option.map_some] at hb'
      injection hb' with hb'; omega
    | row t' s' n' g' =>
      obtain ⟨rfl, rfl, rfl, h0, hg⟩ := h
      obtain ⟨b', cs, e', hB, hrs, hn, hl, hh⟩ := hs
      have hgk : ∀ k, k < rows.length → (cs.drop (k * s)).take s = g' k := fun k hk => by
        have hr : rows[k]? = some (rows[k]'hk) := List.getElem?_eq_getElem hk
        have e1 := FinL1.is_ (hg.get hr) (lit_at hrs hl hr)
        rwa [Nat.zero_add] at e1
      have hcs : cs.length = rows.length * s := by rw [hl.length]; exact flatten_len hrs
      have hfr : foot ρ i (.lit t s rows) = some b' := by simp only [foot, base, e', Option.map_some]
      refine ⟨rfl, ⟨_, he.trans e', _, _, rfl, hn, fun k hk => ?_, .inr ⟨b', cs.toArray, rfl, hB, hh, Nat.le_refl _, h0, by simp only [maxLen]; omega, by simpa using hcs, ?_⟩⟩, fun b hb => ?_, rfl⟩
      · rw [← hgk k hk]
        have : (k + 1) * s ≤ cs.length := by rw [hcs]; exact Nat.mul_le_mul_right _ hk
        rw [List.length_take, List.length_drop]
        rw [Nat.add_mul] at this
        omega
      · have e2 := flat_cut hcs
        have e3 : flat (fun k => (cs.drop (k * s)).take s) rows.length = flat g' rows.length := flat_congr hgk
        rw [List.take_of_length_le (by simp [hcs]), ← e3, e2]
      · rw [foot_row (he.trans e'), if_neg (by omega)] at hb
        injection hb with hb
        have hb : b' = b := hb
        subst hb
        exact ⟨hfr, hB⟩
    | _ => exact (show False from h).elim
  | _ => cases o <;> exact (show False from h).elim
theorem ObNil.sat {B : Nat} {ν : Rho} {w : World} {j : Nat} {o : Ob} (h : ObNil o) (he : ν j = some (.slice none 0 0)) : isNew o = true ∧ Sat B ν w j o ∧ ∀ b, foot ν j o ≠ some b := by
  cases o with
  | row t s n g =>
    have e : n = 0 := h
    subst e
    exact ⟨rfl, ⟨_, he, none, 0, rfl, by omega, fun k hk => by omega, .inl ⟨rfl, rfl⟩⟩, fun b hb => by rw [foot_row he] at hb; simp at hb⟩
  | arr s n g =>
    have e : n = 0 := h
    subst e
    exact ⟨rfl, ⟨_, he, none, 0, rfl, by omega, by omega, fun k hk => by omega⟩, fun b hb => by simp [foot] at hb⟩
  | _ => exact (show False from h).elim
theorem FnR.mk_ {P : Program} {T : TT} (hT : TTok P T) (hm : P.follows .mixedOrders = true) {f : FuncId} {fn : Func} {c : Code} (hf : P.funcs[f]? = some fn) (hb : fn.body = some c) {sz : Nat} (hs : fn.ntmps = sz) {os : List Ob} {args : List SV} {v : SV} {ros : List Ob}
    (hB : hasBody P f = true) (hsz : Nat.ble args.length sz = true) (hab : (argB os.length args && os.all (obB os.length)) = true) (hn : ros.all isNew = true) (hk : svBv (os.length + ros.length) v = true) (h : vc P T sz os.length c (argEnv 0 args) (obsOf 0 os) os.length (fnK T fn.results.toList fun v1 obs1 _ => NRet os.length v ros v1 obs1)) : FnR P f os args v ros :=
  ⟨hB, hn, hk, fun w ρ xs hr ha => by
    have hr' : ∀ (i : Nat) o, os[i]? = some o → ∃ v, V.cut os.length ρ i = some v ∧ Ro (V.cut os.length ρ) w v o := fun i o ho => by
      obtain ⟨v, e, q⟩ := hr i o ho
      exact ⟨v, by rw [cut_lt (List.getElem?_eq_some_iff.1 ho).1]; exact e, q.cut (List.all_eq_true.1 ((Bool.and_eq_true _ _).mp hab).2 o (List.mem_of_getElem? ho))⟩
    refine (fn_sound hT hm hf hb hs hsz h (Cls.start hr' (fun i hi => if_neg (by omega))) (xs := xs.toArray) (by simpa using ha.cut ((Bool.and_eq_true _ _).mp hab).1)).mono ?_
    rintro e w' ⟨ρ', v1, obs', nx', y, ⟨⟨l, h0, h1, h2⟩⟩, he, hv, hC, hw, hx, _⟩
    obtain ⟨hl, hg⟩ := RetO.get h2
    have hin : ∀ i, i < os.length → ρ i = ρ' i := fun i hi => by
      obtain ⟨u, eu, _⟩ := hr i _ (List.getElem?_eq_getElem hi)
      rw [eu]
      exact (hx i u (by rw [cut_lt hi]; exact eu)).symm
    have nu : ∀ (j : Nat) q, l[j]? = some q → nuOf os.length l ρ' (os.length + j) = match q with | some i => ρ' i | none => some (.slice none 0 0) := fun j q hq => by
      unfold nuOf
      rw [show os.length + j - os.length = j by omega, hq]
      cases q <;> rfl
    refine ⟨nuOf os.length l ρ', y, he, RetV.is_ hin h1 hv, ⟨fun j o ho => ?_, fun j k o o' b hj hk' hne f1 f2 => ?_⟩, hw⟩
    · rcases hg j o ho with ⟨q1, q2⟩ | ⟨i, u, q1, q2, q3⟩
      · obtain ⟨_, s1, s2⟩ := q2.sat (B := w.heap.size) (w := w') (nu j none q1)
        exact ⟨s1, fun b hb => absurd hb (s2 b)⟩
      · obtain ⟨_, s1, s2, _⟩ := q3.sat (nu j (some i) q1) (hC.sat i u q2)
        exact ⟨s1, fun b hb => (s2 b hb).2⟩
    · rcases hg j o hj with ⟨q1, q2⟩ | ⟨i, u, q1, q2, q3⟩
      · obtain ⟨_, s1, s2⟩ := q2.sat (B := w.heap.size) (w := w') (nu j none q1)
        exact s2 b f1
      rcases hg k o' hk' with ⟨r1, r2⟩ | ⟨i', u', r1, r2, r3⟩
      · obtain ⟨_, s1, s2⟩ := r2.sat (B := w.heap.size) (w := w') (nu k none r1)
        exact s2 b f2
      obtain ⟨_, _, s2, s3⟩ := q3.sat (nu j (some i) q1) (hC.sat i u q2)
      obtain ⟨_, _, t2, _⟩ := r3.sat (nu k (some i') r1) (hC.sat i' u' r2)
      refine hC.apart i i' u u' b q2 r2 (fun e => ?_) s3 (s2 b f1).1 (t2 b f2).1
      subst e
      exact hne (somes_inj h0 q1 r1)⟩
theorem er {m : Nat} {v : SV} {ros : List Ob} {v1 : SV} {obs1 : Obs} (k : Nat) (h1 : RetV m [some k] v v1 := by (repeat' (first | exact rfl | exact trivial | refine ⟨?_, ?_⟩)); all_goals fail) (h2 : RetO obs1 [some k] ros := by exact ⟨⟨rfl, rfl, rfl, fun k hk => absurd hk (Nat.not_lt_zero _)⟩, trivial⟩) : NRet m v ros v1 obs1 := .mk_ [some k] rfl h1 h2
theorem erf {m : Nat} {v : SV} {ros : List Ob} {v1 : SV} {obs1 : Obs} (k : Nat) (h1 : RetV m [some k] v v1 := by (repeat' (first | exact rfl | exact trivial | refine ⟨?_, ?_⟩)); all_goals fail) (h2 : RetO obs1 [some k] ros := by exact ⟨⟨rfl, rfl, rfl, fun _ _ => rfl⟩, trivial⟩) : NRet m v ros v1 obs1 := .mk_ [some k] rfl h1 h2
theorem er2 {m : Nat} {v : SV} {ros : List Ob} {v1 : SV} {obs1 : Obs} (j k : Nat) (h0 : nodB (somes [some j, some k]) = true := by exact rfl) (h1 : RetV m [some j, some k] v v1 := by (repeat' (first | exact rfl | exact trivial | exact Nat.le_of_ble_eq_true rfl | refine ⟨?_, ?_⟩)); all_goals fail) (h2 : RetO obs1 [some j, some k] ros := by exact ⟨⟨rfl, rfl, rfl, fun _ _ => rfl⟩, ⟨rfl, rfl, rfl, fun _ _ => rfl⟩, trivial⟩) : NRet m v ros v1 obs1 := .mk_ [some j, some k] h0 h1 h2
theorem er00 {m : Nat} {v : SV} {ros : List Ob} {v1 : SV} {obs1 : Obs} (h1 : RetV m [none, none] v v1 := by (repeat' (first | exact rfl | exact trivial | exact Nat.le_of_ble_eq_true rfl | refine ⟨?_, ?_⟩)); all_goals fail) (h2 : RetO obs1 [none, none] ros := by exact ⟨rfl, rfl, trivial⟩) : NRet m v ros v1 obs1 := .mk_ [none, none] rfl h1 h2
theorem er000 {m : Nat} {v : SV} {ros : List Ob} {v1 : SV} {obs1 : Obs} (h1 : RetV m [none, none, none] v v1 := by (repeat' (first | exact rfl | exact trivial | exact Nat.le_of_ble_eq_true rfl | refine ⟨?_, ?_⟩)); all_goals fail) (h2 : RetO obs1 [none, none, none] ros := by exact ⟨rfl, rfl, rfl, trivial⟩) : NRet m v ros v1 obs1 := .mk_ [none, none, none] rfl h1 h2
theorem er3 {m : Nat} {v : SV} {ros : List Ob} {v1 : SV} {obs1 : Obs} (i j k : Nat) (h0 : nodB (somes [some i, some j, some k]) = true := by exact rfl) (h1 : RetV m [some i, some j, some k] v v1 := by (repeat' (first | exact rfl | exact trivial | exact Nat.le_of_ble_eq_true rfl | refine ⟨?_, ?_⟩)); all_goals fail) (h2 : RetO obs1 [some i, some j, some k] ros := by exact ⟨⟨rfl, rfl, rfl, fun _ _ => rfl⟩, ⟨rfl, rfl, rfl, fun _ _ => rfl⟩, ⟨rfl, rfl, rfl, fun _ _ => rfl⟩, trivial⟩) : NRet m v ros v1 obs1 := .mk_ [some i, some j, some k] h0 h1 h2
theorem er001 {m : Nat} {v : SV} {ros : List Ob} {v1 : SV} {obs1 : Obs} (k : Nat) (h1 : RetV m [none, none, some k] v v1 := by (repeat' (first | exact rfl | exact trivial | exact Nat.le_of_ble_eq_true rfl | refine ⟨?_, ?_⟩)); all_goals fail) (h2 : RetO obs1 [none, none, some k] ros := by exact ⟨rfl, rfl, ⟨rfl, rfl, rfl, fun k hk => absurd hk (Nat.not_lt_zero _)⟩, trivial⟩) : NRet m v ros v1 obs1 := .mk_ [none, none, some k] rfl h1 h2
end Go.Proofs.YtpanlcnoopmchaaGreat.V

namespace Go.Proofs.YtpanlcnoopmchaaGreat.V
open Go Go.RowKit Go.ChangeShapes Go.WideShapes Go.Deep
def ga {α : Type} [Inhabited α] (en : α → List Value) (l : List α) : Nat → List Value := fun k => en (l.getD k default)
def e1 (x : Int) : List Value := [.int .i64 x]
def eB (b : Bool) : List Value := [.bool b]
def eb (x : UInt8) : List Value := [.int .u8 x.toNat]
theorem ga_at {α : Type} [Inhabited α] {en : α → List Value} {l : List α} {k : Nat} (h : k < l.length) : ga en l k = en l[k] := by
  simp [ga, List.getD, List.getElem?_eq_getElem h]
theorem ga_snoc {α : Type} [Inhabited α] {en : α → List Value} {l : List α} {x : α} {g : Nat → List Value} (h1 : ∀ k, k < l.length → g k = ga en l k) (h2 : g l.length = en x) : ∀ k, k < (l ++ [x]).length → g k = ga en (l ++ [x]) k := by
  intro k hk
  simp at hk
  by_cases hkl : k < l.length
  · rw [h1 k hkl, ga_at hkl, ga_at (by simp; omega), List.getElem_append_left hkl]
  · have e : k = l.length := by omega
    subst e
    rw [h2, ga_at (by simp)]
    simp
theorem _root_.Go.Proofs.YtpanlcnoopmchaaGreat.V.NApp.one {α : Type} [Inhabited α] {en : α → List Value} {l : List α} {x : α} {bytes : Nat} {K : Nat → (Nat → List Value) → Prop} (h1 : (l.length + 1) * bytes ≤ 140737488355328) (h2 : l.length + 1 ≤ 9223372036854775807) (hK : K (l ++ [x]).length (ga en (l ++ [x]))) :
    NApp l.length 1 (ga en l) (listG [en x]) bytes K :=
  ⟨⟨_, _, by simp, by simpa using h2, by simpa using h1, fun k hk => by rw [ga_at (by simp; omega), ga_at hk, List.getElem_append_left hk], fun k hk => by
    obtain rfl : k = 0 := by omega
    rw [Nat.add_zero, ga_at (by simp)]; simp [listG], hK⟩⟩
theorem b4 {α : Type} [Inhabited α] {en : α → List Value} {l : List α} {x : α} {bytes : Nat} {K : Nat → (Nat → List Value) → Prop} (hK : K (l ++ [x]).length (ga en (l ++ [x]))) (h1 : (l.length + 1) * bytes ≤ 140737488355328 := by first | omega | (simp; omega)) (h2 : l.length + 1 ≤ 9223372036854775807 := by first | omega | (simp; omega)) :
    NApp l.length 1 (ga en l) (listG [en x]) bytes K := NApp.one h1 h2 hK
theorem _root_.Go.Proofs.YtpanlcnoopmchaaGreat.V.NApp.first {α : Type} [Inhabited α] {en : α → List Value} {x : α} {get : Nat → List Value} {bytes : Nat} {K : Nat → (Nat → List Value) → Prop} (h1 : bytes ≤ 140737488355328) (hK : K [x].length (ga en [x])) :
    NApp 0 1 get (listG [en x]) bytes K :=
  ⟨⟨_, _, rfl, by simp, by simpa using h1, fun k hk => absurd hk (by omega), fun k hk => by
    obtain rfl : k = 0 := by omega
    rfl, hK⟩⟩
theorem _root_.Go.Proofs.YtpanlcnoopmchaaGreat.V.NApp.list {α : Type} [Inhabited α] {en : α → List Value} {l m : List α} {bytes : Nat} {K : Nat → (Nat → List Value) → Prop} (h1 : (l.length + m.length) * bytes ≤ 140737488355328) (h2 : l.length + m.length ≤ 9223372036854775807) (hK : K (l ++ m).length (ga en (l ++ m))) :
    NApp l.length m.length (ga en l) (ga en m) bytes K :=
  ⟨⟨_, _, by simp, by simpa using h2, by simpa using h1, fun k hk => by rw [ga_at (by simp; omega), ga_at hk, List.getElem_append_left hk], fun k hk => by
    rw [ga_at (by simp; omega), ga_at hk, List.getElem_append_right (by omega)]; congr 2; omega, hK⟩⟩
theorem _root_.Go.Proofs.YtpanlcnoopmchaaGreat.V.NApp.all_ {α : Type} [Inhabited α] {en : α → List Value} {m : List α} {get : Nat → List Value} {bytes : Nat} {K : Nat → (Nat → List Value) → Prop} (h1 : m.length * bytes ≤ 140737488355328) (h2 : m.length ≤ 9223372036854775807) (hK : K m.length (ga en m)) :
    NApp 0 m.length get (ga en m) bytes K :=
  ⟨⟨_, _, by simp, h2, h1, fun k hk => absurd hk (by omega), fun k hk => by rw [Nat.zero_add], hK⟩⟩
theorem _root_.Go.Proofs.YtpanlcnoopmchaaGreat.V.NPut.at_ {α : Type} [Inhabited α] {en : α → List Value} {l : List α} {k : Nat} (x : α) {r : List Value} {K : (Nat → List Value) → Prop} (hr : r = en x) (hK : K (ga en (l.set k x))) :
    NPut l.length k (ga en l) r K :=
  ⟨⟨_, fun k' hk => by
    rw [ga_at (by simpa using hk), ga_at hk, List.getElem_set, hr]
    by_cases e : k = k'
    · subst e; simp
    · rw [if_neg e, if_neg (fun q => e q.symm)], hK⟩⟩
theorem _root_.Go.Proofs.YtpanlcnoopmchaaGreat.V.NPut.to {α : Type} [Inhabited α] {en : α → List Value} {l : List α} {n k : Nat} (x : α) {r : List Value} {K : (Nat → List Value) → Prop} (hn : l.length = n) (hr : r = en x) (hK : K (ga en (l.set k x))) :
    NPut n k (ga en l) r K := by
  subst hn
  exact NPut.at_ x hr hK
theorem _root_.Go.Proofs.YtpanlcnoopmchaaGreat.V.NPut.is_ {α : Type} [Inhabited α] {en : α → List Value} {l : List α} {n k : Nat} (x : α) (l' : List α) {r : List Value} {K : (Nat → List Value) → Prop} (e : l.set k x = l') (hn : l.length = n) (hr : r = en x) (hK : K (ga en l')) :
    NPut n k (ga en l) r K := by
  subst e
  exact NPut.to x hn hr hK
theorem _root_.Go.Proofs.YtpanlcnoopmchaaGreat.V.ObLe.is_ {α : Type} [Inhabited α] {en : α → List Value} {t s n : Nat} {l l' : List α} (e : l' = l) (hn : n = l'.length) : ObLe (.row t s n (ga en l)) (.row t s l'.length (ga en l')) := by
  subst e hn
  exact ⟨rfl, rfl, rfl, fun k hk => rfl⟩
theorem _root_.Go.Proofs.YtpanlcnoopmchaaGreat.V.ObLe.snoc {α : Type} [Inhabited α] {en : α → List Value} {t s : Nat} {l l' : List α} {x : α} {g : Nat → List Value} (e : l' = l ++ [x]) (h1 : ∀ k, k < l.length → g k = ga en l k) (h2 : ∀ k, k < 1 → g (l.length + k) = listG [en x] k) : ObLe (.row t s (l.length + 1) g) (.row t s l'.length (ga en l')) := by
  subst e
  exact ⟨rfl, rfl, by simp, fun k hk => ga_snoc h1 (h2 0 (by omega)) k (by simp; omega)⟩
theorem _root_.Go.Proofs.YtpanlcnoopmchaaGreat.V.ObLe.as_ {α : Type} [Inhabited α] {en : α → List Value} {t s : Nat} {l l' : List α} (e : l' = l) : ObLe (.row t s l.length (ga en l)) (.row t s l'.length (ga en l')) := by
  subst e
  exact ⟨rfl, rfl, rfl, fun k hk => rfl⟩
theorem _root_.Go.Proofs.YtpanlcnoopmchaaGreat.V.ObLe.cut_ {α : Type} [Inhabited α] {en : α → List Value} {s n n' a i i' : Nat} {l : List α} (e : n - a = n') (h : a + i = i') : ObLe (.arr s (n - a) fun k => en (l.getD (a + k + i) default)) (.arr s n' fun k => en (l.getD (k + i') default)) :=
  ⟨rfl, e, fun k _ => congrArg (fun z => en (l.getD z default)) (by omega)⟩
section
variable {H : Type} {enc : TypeId × Value → H} {P : Program} {w : World} {base : Nat} {spare : Nat → Bool} {held : Bool}
theorem ints_all : ∀ (cs : List Value), (∀ j (hj : j < cs.length), ∃ m, cs[j] = .int .i64 m ∧ (Lit.int .i64 m).wf = true) → ∃ ns : List Int, cs = ns.map (Value.int .i64) ∧ ∀ n ∈ ns, (Lit.int .i64 n).wf = true
  | [], _ => ⟨[], rfl, by simp⟩
  | c :: cs, h => by
    obtain ⟨m, e, wf⟩ := h 0 (by simp)
    obtain ⟨ns, e2, wfs⟩ := ints_all cs (fun j hj => h (j + 1) (by simpa using hj))
    refine ⟨m :: ns, by simp at e; simp [e, e2], fun n hn => ?_⟩
    rcases List.mem_cons.1 hn with rfl | hn
    · exact wf
    · exact wfs n hn
theorem ints_struct {t : TypeId} {fs : Array Field} {fuel : Nat} {cs : List Value} {x : DataW H × List MemPlace} (hs : P.underlying t = some (.struct fs)) (hone : oneCellFields P fs = true) (hC : P.cellsOf t = fs.size)
    (hint : ∀ (j : Nat) (f : Field), fs[j]? = some f → P.underlying f.type = some (.int .i64)) (h : DataW.trod enc P w base spare held fuel t cs = some x) :
    ∃ ns : List Int, cs = ns.map (Value.int .i64) ∧ ns.length = fs.size ∧ ∀ n ∈ ns, (Lit.int .i64 n).wf = true := by
  obtain ⟨xs, n, _, _, hl, hlen, hg⟩ := DataW.trod_struct hs h
  have hC' : cs.length = fs.size := hl.trans hC
  obtain ⟨ns, e, wf⟩ := ints_all cs (fun j hj => by
    have hf : fs[j]? = some fs[j] := Array.getElem?_eq_getElem (by omega)
    obtain ⟨o, k⟩ := hone_of hone j _ hf
    have h1 := hg j _ hf
    rw [o, k] at h1
    have e1 : (cs.drop j).take 1 = [cs[j]] := by rw [List.drop_eq_getElem_cons hj]; rfl
    rw [e1] at h1
    have hx : j < xs.length := by omega
    rw [List.getElem?_eq_getElem hx] at h1
    obtain ⟨m, e2, _, wf⟩ := DataW.trod_int (hint j _ hf) h1
    exact ⟨m, by simpa using e2, wf⟩)
  exact ⟨ns, e, by rw [← hC', e]; simp, wf⟩
theorem list_of {α : Type} {p : Nat → α → Prop} : ∀ (n : Nat), (∀ i, i < n → ∃ f, p i f) → ∃ l : List α, l.length = n ∧ ∀ i (hi : i < l.length), p i l[i]
  | 0, _ => ⟨[], rfl, fun i hi => absurd hi (by simp)⟩
  | n + 1, h => by
    obtain ⟨l, hl, hp⟩ := list_of n (fun i hi => h i (by omega))
    obtain ⟨f, hf⟩ := h n (by omega)
    refine ⟨l ++ [f], by simp [hl], fun i hi => ?_⟩
    by_cases hi' : i < l.length
    · rw [List.getElem_append_left hi']; exact hp i hi'
    · have : i = l.length := by simp at hi; omega
      subst this
      rw [List.getElem_append_right (by omega)]
      simpa [hl] using hf
theorem cell_lt {W : World} {a : Addr} {v : Value} (h : W.cell? a = some v) : a.block < W.heap.size := by
  rcases Nat.lt_or_ge a.block W.heap.size with hlt | hge
  · exact hlt
  · unfold World.cell? at h; rw [Array.getElem?_eq_none hge] at h; cases h
theorem open_list {α : Type} [Inhabited α] {en : α → List Value} {Wf : α → Prop} {t e s : Nat} (hu : P.underlying t = some (.slice e)) (hs : P.cellsOf e = s) (hs0 : 0 < s)
    (hel : ∀ fuel cs x, DataW.trod enc P w base spare held fuel e cs = some x → ∃ f : α, cs = en f ∧ Wf f) {r : Reach} {b0 : Nat} {v : Value} {d : DataW H} {p : List MemPlace} (hv : Value.okWide P w r b0 t v) (h : DataW.Trod enc P w base spare held t v d p) :
    ∃ l : List α, ArrIs w v s l.length (ga en l) ∧ ∀ f ∈ l, Wf f := by
  obtain ⟨a0, len, cap, rfl⟩ := okWide_slice hu hv
  obtain ⟨fuel, hf⟩ := h
  rcases Go.Deep.open_slice hu hf with ⟨hcs, _⟩ | ⟨a, len', cap', m, n, D, Pl, hcs, _, hl, hm, hmm, _, hi⟩
  · have e : (Value.slice a0 len cap) = .slice none 0 0 := by simpa [Value.cells] using hcs
    injection e with e1 e2 e3
    subst e1 e2 e3
    exact ⟨[], ⟨none, 0, rfl, by simp, by simp, fun k hk => absurd hk (by simp)⟩, by simp⟩
  · have e : (Value.slice a0 len cap) = .slice (some a) len' cap' := by simpa [Value.cells] using hcs
    injection e with e1 e2 e3
    subst e1 e2 e3
    have hml : len ≤ m := by rw [hmm]; split <;> omega
    have all : ∀ i, i < len → ∃ f : α, (en f).length = s ∧ (∀ j u, (en f)[j]? = some u → w.cell? (a.add (i * s + j)) = some u) ∧ Wf f := by
      intro i hi'
      obtain ⟨cs', hc, ht'⟩ := hi i (by omega)
      rw [hs] at hc
      obtain ⟨f, e, wf⟩ := hel _ _ _ ht'
      obtain ⟨_, hcl, hat⟩ := World.cells?_some hc
      refine ⟨f, by rw [← e]; exact hcl, fun j u hu => ?_, wf⟩
      rw [← e] at hu
      have hj : j < s := by have := (List.getElem?_eq_some_iff.1 hu).1; omega
      have h1 := hat j hj
      rw [add_of_add] at h1
      rw [h1]; exact hu
    obtain ⟨l, hl2, hp⟩ := list_of len all
    refine ⟨l, ⟨some a, cap, by rw [hl2], by unfold maxLen at hm; omega, by omega, fun k hk => ?_⟩, fun f hf' => ?_⟩
    · obtain ⟨e1, e2, _⟩ := hp k hk
      rw [ga_at hk]
      have h0 : (en l[k])[0]? = some ((en l[k])[0]'(by omega)) := List.getElem?_eq_getElem _
      have := cell_lt (e2 0 _ h0)
      rw [block_of_add] at this
      exact ⟨a, rfl, this, e1, e2⟩
    · obtain ⟨i, hi', rfl⟩ := List.getElem_of_mem hf'
      exact (hp i hi').2.2
theorem open_ints_ {t e : Nat} (hu : P.underlying t = some (.slice e)) (hi : P.underlying e = some (.int .i64)) (hs : P.cellsOf e = 1) {r : Reach} {b0 : Nat} {v : Value} {d : DataW H} {p : List MemPlace} (hv : Value.okWide P w r b0 t v) (h : DataW.Trod enc P w base spare held t v d p) :
    ∃ l : List Int, ArrIs w v 1 l.length (ga e1 l) ∧ ∀ f ∈ l, (Lit.int .i64 f).wf = true :=
  open_list hu hs (by omega) (fun fuel cs x hx => by
    obtain ⟨m, e2, _, wf⟩ := DataW.trod_int hi hx
    exact ⟨m, e2, wf⟩) hv h
end
theorem ArrIs.one {w : World} {v : Value} {s n : Nat} {get : Nat → List Value} (h : ArrIs w v s n get) : v.oneCell' = true := by
  obtain ⟨_, _, rfl, _⟩ := h; rfl
theorem Fn.lim {P : Program} {f : FuncId} {os : List Ob} {args : List SV} {x : Value} (hb : hasBody P f = true) (h : (∀ (i : Nat) s n g, os[i]? = some (.arr s n g) → n ≤ 9223372036854775807) → Fn P f os args x) : Fn P f os args x :=
  ⟨hb, fun w ρ xs ho hs => (h fun i s n g e => by
    obtain ⟨v, _, A, c, _, hn, _⟩ := ho i _ e
    exact hn).c w ρ xs ho hs⟩
end Go.Proofs.YtpanlcnoopmchaaGreat.V

namespace Go.Proofs.YtpanlcnoopmchaaGreat.M
def Amt (a : Int) : Prop := -1152921504606846976 ≤ a ∧ a ≤ 1152921504606846976
instance (a : Int) : Decidable (Amt a) := by unfold Amt; exact inferInstance
def chk (a : Int) : Int := if Amt a then 0 else 3
theorem chk_yes {a : Int} (h : Amt a) : chk a = 0 := if_pos h
theorem chk_no {a : Int} (h : ¬ Amt a) : chk a = 3 := if_neg h
def POk (a b c : Int) : Prop := Amt a ∧ (0 ≤ b ∧ b ≤ 1099511627776) ∧ (1 ≤ c ∧ c ≤ 1099511627776)
instance (a b c : Int) : Decidable (POk a b c) := by unfold POk; exact inferInstance
def ckE (a b c : Int) : Int := if POk a b c then 0 else 3
theorem ck_yes {a b c : Int} (h : POk a b c) : ckE a b c = 0 := if_pos h
theorem ck_no {a b c : Int} (h : ¬ POk a b c) : ckE a b c = 3 := if_neg h
def prE (a b c : Int) : Int := if ¬ POk a b c then 3 else if ¬ Amt (a * b / c) then 8 else 0
def prQ (a b c : Int) : Int := if POk a b c ∧ Amt (a * b / c) then a * b / c else 0
def prR (a b c : Int) : Int := if POk a b c ∧ Amt (a * b / c) then a * b % c else 0
theorem pr_1 {a b c : Int} (h : ¬ POk a b c) : prE a b c = 3 ∧ prQ a b c = 0 ∧ prR a b c = 0 := ⟨if_pos h, if_neg fun q => h q.1, if_neg fun q => h q.1⟩
theorem pr_2 {a b c : Int} (h : POk a b c) (k : ¬ Amt (a * b / c)) : prE a b c = 8 ∧ prQ a b c = 0 ∧ prR a b c = 0 := ⟨by unfold prE; rw [if_neg (by simpa using h), if_pos k], if_neg fun q => k q.2, if_neg fun q => k q.2⟩
theorem pr_3 {a b c : Int} (h : POk a b c) (k : Amt (a * b / c)) : prE a b c = 0 ∧ prQ a b c = a * b / c ∧ prR a b c = a * b % c := ⟨by unfold prE; rw [if_neg (by simpa using h), if_neg (by simpa using k)], if_pos ⟨h, k⟩, if_pos ⟨h, k⟩⟩
theorem pr_ok {a b c : Int} (h : prE a b c = 0) : POk a b c ∧ Amt (a * b / c) := by
  by_cases p : POk a b c
  · by_cases k : Amt (a * b / c)
    · exact ⟨p, k⟩
    · rw [(pr_2 p k).1] at h; omega
  · rw [(pr_1 p).1] at h; omega
theorem r_bd {x c : Int} (h : 1 ≤ c) : 0 ≤ x % c ∧ x % c < c := ⟨Int.emod_nonneg _ (by omega), Int.emod_lt_of_pos _ (by omega)⟩
theorem qr (x c : Int) : c * (x / c) + x % c = x := Int.mul_ediv_add_emod x c
def up (q r c : Int) : Int := if c < 2 * r ∨ (2 * r = c ∧ q % 2 ≠ 0) then q + 1 else q
def neE (a b c : Int) : Int := if prE a b c ≠ 0 then prE a b c else if ¬ Amt (up (a * b / c) (a * b % c) c) then 8 else 0
def neV (a b c : Int) : Int := if prE a b c = 0 ∧ Amt (up (a * b / c) (a * b % c) c) then up (a * b / c) (a * b % c) c else 0
def sum : List Int → Int
  | [] => 0
  | a :: r => a + sum r
theorem sum_append (l r : List Int) : sum (l ++ r) = sum l + sum r := by
  induction l with
  | nil => simp [sum]
  | cons a l ih => simp only [List.cons_append, sum, ih]; omega
def chks (l : List Int) : Int := if ∀ a ∈ l, Amt a then 0 else 3
theorem chks_no {l : List Int} (h : ¬ ∀ a ∈ l, Amt a) : chks l = 3 := if_neg h
def toE (l : List Int) : Int := if 40 < l.length then 2 else if chks l ≠ 0 then chks l else if ¬ Amt (sum l) then 8 else 0
def toV (l : List Int) : Int := if toE l = 0 then sum l else 0
theorem two {x y c : Int} (hc : 1 ≤ c) : x / c + y / c ≤ (x + y) / c ∧ (x + y) / c ≤ x / c + y / c + 1 := by
  have h1 := qr x c
  have h2 := qr y c
  have h3 := r_bd (x := x) hc
  have h4 := r_bd (x := y) hc
  refine ⟨(Int.le_ediv_iff_mul_le (by omega)).2 ?_, ?_⟩
  · have : (x / c + y / c) * c = c * (x / c) + c * (y / c) := by rw [Int.add_mul, Int.mul_comm, Int.mul_comm (y / c)]
    omega
  · apply Int.le_of_lt_add_one
    apply Int.ediv_lt_of_lt_mul (by omega)
    have : (x / c + y / c + 1 + 1) * c = c * (x / c) + c * (y / c) + c + c := by
      rw [Int.add_mul, Int.add_mul, Int.add_mul, Int.mul_comm, Int.mul_comm (y / c)]; omega
    omega
theorem neg_part {x c : Int} (hc : 1 ≤ c) : (x % c = 0 ∧ (-x) / c = -(x / c) ∧ (-x) % c = 0) ∨ (0 < x % c ∧ (-x) / c = -(x / c) - 1 ∧ (-x) % c = c - x % c) := by
  have h1 := qr x c
  have h3 := r_bd (x := x) hc
  by_cases h : x % c = 0
  · left
    have e : -x = c * (-(x / c)) := by rw [Int.mul_neg]; omega
    exact ⟨h, by rw [e]; exact Int.mul_ediv_cancel_left _ (by omega), by rw [e]; exact Int.mul_emod_right _ _⟩
  · right
    have e : -x = (c - x % c) + c * (-(x / c) - 1) := by
      rw [Int.mul_sub, Int.mul_neg]; omega
    refine ⟨by omega, ?_, ?_⟩
    · rw [e, Int.add_mul_ediv_left _ _ (by omega), Int.ediv_eq_zero_of_lt (by omega) (by omega)]; omega
    · rw [e, Int.add_mul_emod_self_left]; exact Int.emod_eq_of_lt (by omega) (by omega)
end Go.Proofs.YtpanlcnoopmchaaGreat.M

namespace Go.Proofs.YtpanlcnoopmchaaGreat
open Go Go.RowKit V
structure Du where
  fr : Int
  to : Int
  am : Int
instance : Inhabited Du := ⟨⟨0, 0, 0⟩⟩
def encD (d : Du) : List Value := [.int .i64 d.fr, .int .i64 d.to, .int .i64 d.am]
namespace N
def ck1 (d : Du) : Int := if ¬ ((0 ≤ d.fr ∧ d.fr ≤ 30) ∧ (0 ≤ d.to ∧ d.to ≤ 30) ∧ 1 ≤ d.am ∧ d.am ≤ 1152921504606846976) then 3 else if d.fr = d.to then 1 else 0
def chk (l : List Du) : Int := if 60 < l.length then 2 else fb ck1 l
theorem chk_ok {l : List Du} (h : chk l = 0) : l.length ≤ 60 ∧ ∀ d ∈ l, ck1 d = 0 := by
  unfold chk at h
  split at h
  · omega
  · exact ⟨by omega, fb_ok h⟩
theorem ck_ok {d : Du} (h : ck1 d = 0) : (0 ≤ d.fr ∧ d.fr ≤ 30) ∧ (0 ≤ d.to ∧ d.to ≤ 30) ∧ (1 ≤ d.am ∧ d.am ≤ 1152921504606846976) ∧ d.fr ≠ d.to := by
  unfold ck1 at h
  split at h
  · omega
  · split at h <;> omega
end N
theorem v_nparty (n : Int) : V.Fn Tryz.prog 168 [] [.one (.val (.int .i64 n))] (.bool (decide (0 ≤ n ∧ n ≤ 30))) := by
  refine V.Fn.mk_ V.Tok V.mixed Tryz.func168 rfl Tryz.ntmps168 (by kernel_rfl) rfl rfl ?_
  repeat' ((conv => whnf); first | refine V.NCond.mk ?_ | refine V.NPick.l ?_ | refine V.NIf.not_ ?_ | refine V.NIf.dec_ ?_ | refine V.a4 ?_ | refine V.a5 ?_ | refine V.NIf.mk (fun _ => ?_) (fun _ => ?_) | refine V.a7 ?_ | refine V.a8 ?_ | refine V.a9 ?_ | refine V.NBoth.mk ?_ ?_ | refine V.b1 ?_ | refine V.b2 ?_ | refine V.NTF.dec ?_ | refine V.b3 ?_ | refine V.b4 ?_ | (refine V.NDraw.any (by kernel_rfl) ?_) | fail)
  · exact ⟨_, rfl, by simp_all⟩
  · exact congrArg Value.bool (by simp_all; omega)
theorem v_ncheck (l : List Du) (hn : l.length ≤ 9223372036854775807) : V.Fn Tryz.prog 160 [.arr 3 l.length (ga encD l)] [.one (.ref 0)] (.int .i64 (N.chk l)) := by
  refine V.Fn.mk_ V.Tok V.mixed Tryz.func160 rfl Tryz.ntmps160 (by kernel_rfl) rfl rfl ?_
  repeat' ((conv => whnf); first | refine V.NCond.mk ?_ | refine V.NPick.l ?_ | refine V.NIf.not_ ?_ | refine V.NIf.dec_ ?_ | refine V.a4 ?_ | refine V.a5 ?_ | refine V.NIf.mk (fun _ => ?_) (fun _ => ?_) | refine V.a7 ?_ | refine V.a8 ?_ | refine V.a9 ?_ | refine V.NBoth.mk ?_ ?_ | refine V.b1 ?_ | refine V.b2 ?_ | refine V.NTF.dec ?_ | refine V.b3 ?_ | refine V.b4 ?_ | (refine V.NDraw.any (by kernel_rfl) ?_) | fail)
  all_goals (conv => whnf)
  · exact V.fin1 (if_pos (by omega))
  have e0 : N.chk l = fb N.ck1 l := if_neg (by omega)
  refine V.NLoop.auto (fun (k : Nat) => [(10, .one (.val (.int .i64 k)))]) (fun (k : Nat) => []) [] [] (fun (k : Nat) => l.length - k) (fun (k : Nat) => k ≤ l.length ∧ ∀ a ∈ l.take k, N.ck1 a = 0) 0 ⟨by omega, by simp⟩ V.S_ V.S_ (fun _ => ⟨rfl, rfl⟩) ?_; (conv => whnf); refine ⟨⟨rfl, rfl⟩, ?_⟩
  rintro k ⟨hk, hJ⟩
  repeat' ((conv => whnf); first | refine V.NCond.mk ?_ | refine V.NPick.l ?_ | refine V.NIf.not_ ?_ | refine V.NIf.dec_ ?_ | refine V.a4 ?_ | refine V.a5 ?_ | refine V.NIf.mk (fun _ => ?_) (fun _ => ?_) | refine V.a7 ?_ | refine V.a8 ?_ | refine V.a9 ?_ | refine V.NBoth.mk ?_ ?_ | refine V.b1 ?_ | refine V.b2 ?_ | refine V.NTF.dec ?_ | refine V.b3 ?_ | refine V.b4 ?_ | (refine NIdx.mk ⟨_, rfl, by omega, ?_⟩) | (first | refine V.Fn.k0 (v_nparty _) rfl ?_ | refine V.Fn.q0 (v_nparty _) rfl ?_ | refine V.Fn.a0 (v_nparty _) rfl ?_) | (refine V.NDraw.any (by kernel_rfl) ?_) | fail)
  all_goals (conv => whnf)
  all_goals first
    | exact V.NBack.at_ (k + 1) [] ⟨by omega, all_snoc (by omega) hJ (by unfold N.ck1; rw [if_neg (by omega), if_neg (by omega)])⟩ (by omega) V.S_ rfl V.S_ V.S_ V.S_
    | exact V.fin1 (e0.trans (fb_end (by omega) hJ))
    | exact V.fin1 (e0.trans ((fb_get (by omega) hJ (by unfold N.ck1; (repeat' split) <;> omega)).trans (by unfold N.ck1; (repeat' split) <;> omega)))
theorem v_netcheck (l : List Du) (hn : l.length ≤ 9223372036854775807) : V.Fn Tryz.prog 146 [.arr 3 l.length (ga encD l)] [.one (.ref 0)] (.int .i64 (N.chk l)) := by
  refine V.Fn.mk_ V.Tok V.mixed Tryz.func146 rfl Tryz.ntmps146 (by kernel_rfl) rfl rfl ?_
  repeat' ((conv => whnf); first | refine V.NCond.mk ?_ | refine V.NPick.l ?_ | refine V.NIf.not_ ?_ | refine V.NIf.dec_ ?_ | refine V.a4 ?_ | refine V.a5 ?_ | refine V.NIf.mk (fun _ => ?_) (fun _ => ?_) | refine V.a7 ?_ | refine V.a8 ?_ | refine V.a9 ?_ | refine V.NBoth.mk ?_ ?_ | refine V.b1 ?_ | refine V.b2 ?_ | refine V.NTF.dec ?_ | refine V.b3 ?_ | refine V.b4 ?_ | (refine V.NDraw.any (by kernel_rfl) ?_) | fail)
  all_goals (conv => whnf)
  · exact V.fin1 (if_pos (by omega))
  have e0 : N.chk l = fb N.ck1 l := if_neg (by omega)
  refine V.NLoop.auto (fun (k : Nat) => [(3, .one (.val (.int .i64 k)))]) (fun (k : Nat) => []) [] [] (fun (k : Nat) => l.length - k) (fun (k : Nat) => k ≤ l.length ∧ ∀ a ∈ l.take k, N.ck1 a = 0) 0 ⟨by omega, by simp⟩ V.S_ V.S_ (fun _ => ⟨rfl, rfl⟩) ?_; (conv => whnf); refine ⟨⟨rfl, rfl⟩, ?_⟩
  rintro k ⟨hk, hJ⟩
  repeat' ((conv => whnf); first | refine V.NCond.mk ?_ | refine V.NPick.l ?_ | refine V.NIf.not_ ?_ | refine V.NIf.dec_ ?_ | refine V.a4 ?_ | refine V.a5 ?_ | refine V.NIf.mk (fun _ => ?_) (fun _ => ?_) | refine V.a7 ?_ | refine V.a8 ?_ | refine V.a9 ?_ | refine V.NBoth.mk ?_ ?_ | refine V.b1 ?_ | refine V.b2 ?_ | refine V.NTF.dec ?_ | refine V.b3 ?_ | refine V.b4 ?_ | (refine NIdx.mk ⟨_, rfl, by omega, ?_⟩) | (first | refine V.Fn.k0 (v_rbetween _ _ _) rfl ?_ | refine V.Fn.q0 (v_rbetween _ _ _) rfl ?_ | refine V.Fn.a0 (v_rbetween _ _ _) rfl ?_) | (refine V.NDraw.any (by kernel_rfl) ?_) | fail)
  all_goals (conv => whnf)
  all_goals first
    | exact V.NBack.at_ (k + 1) [] ⟨by omega, all_snoc (by omega) hJ (by unfold N.ck1; rw [if_neg (by omega), if_neg (by omega)])⟩ (by omega) V.S_ rfl V.S_ V.S_ V.S_
    | exact V.fin1 (e0.trans (fb_end (by omega) hJ))
    | exact V.fin1 (e0.trans ((fb_get (by omega) hJ (by unfold N.ck1; (repeat' split) <;> omega)).trans (by unfold N.ck1; (repeat' split) <;> omega)))
end Go.Proofs.YtpanlcnoopmchaaGreat

namespace Go.Proofs.YtpanlcnoopmchaaGreat
namespace P
def Ok (p : Int) : Prop := 0 ≤ p ∧ p ≤ 1099511627776
instance (p : Int) : Decidable (Ok p) := by unfold Ok; exact inferInstance
def chk (p : Int) : Int := if Ok p then 0 else 3
theorem chk_yes {p : Int} (h : Ok p) : chk p = 0 := if_pos h
theorem chk_no {p : Int} (h : ¬ Ok p) : chk p = 3 := if_neg h
theorem pok {u p : Int} : M.POk u p 10000 ↔ M.Amt u ∧ Ok p := by
  unfold M.POk Ok
  constructor
  · intro h; exact ⟨h.1, h.2.1⟩
  · intro h; exact ⟨h.1, h.2, by omega⟩
def chks (l : List Int) : Int := if l.length ≠ 20 then 1 else if ∀ p ∈ l, Ok p then 0 else 3
theorem chks_ok {l : List Int} (h : chks l = 0) : l.length = 20 ∧ ∀ p ∈ l, Ok p := by
  unfold chks at h
  split at h
  · omega
  · split at h
    · exact ⟨by omega, by assumption⟩
    · omega
theorem chks_of {l : List Int} (h1 : l.length = 20) (h2 : ∀ p ∈ l, Ok p) : chks l = 0 := by
  unfold chks; rw [if_neg (by omega), if_pos h2]
theorem chks_bad {l : List Int} (h1 : l.length = 20) {p : Int} (hp : p ∈ l) (h2 : ¬ Ok p) : chks l = 3 := by
  unfold chks; rw [if_neg (by omega), if_neg fun q => h2 (q p hp)]
def pr (l : List Int) (pa : Int) : Int := l.getD (pa - 1).toNat default
theorem pr_ok {l : List Int} (h : chks l = 0) {pa : Int} (h1 : 1 ≤ pa ∧ pa ≤ 20) : Ok (pr l pa) := by
  obtain ⟨h2, h3⟩ := chks_ok h
  exact h3 _ (getD_mem (by omega))
def cost (u p : Int) : Int := u * p / 10000
theorem mul_bd {u p : Int} (hu : 0 ≤ u ∧ u ≤ 1073741824) (hp : Ok p) : 0 ≤ u * p ∧ u * p ≤ 1180591620717411303424 := by
  unfold Ok at hp
  have h1 := Int.mul_nonneg hu.1 hp.1
  have h2 := Int.mul_le_mul hu.2 hp.2 hp.1 (show (0 : Int) ≤ 1073741824 by omega)
  omega
theorem cost_bd {u p : Int} (hu : 0 ≤ u ∧ u ≤ 1073741824) (hp : Ok p) : 0 ≤ cost u p ∧ cost u p ≤ 118059162071741130 := by
  have := mul_bd hu hp
  unfold cost
  generalize u * p = x at *
  omega
theorem cost_mono {u v p : Int} (h : u ≤ v) (hp : Ok p) : cost u p ≤ cost v p := by
  have := Int.mul_le_mul_of_nonneg_right h hp.1
  unfold cost
  generalize u * p = x at *
  generalize v * p = y at *
  omega
theorem part_cost {u p : Int} (hu : 0 ≤ u ∧ u ≤ 1073741824) (hp : Ok p) : M.prE u p 10000 = 0 ∧ M.prQ u p 10000 = cost u p := by
  have h := cost_bd hu hp
  have k : M.POk u p 10000 := pok.2 ⟨by unfold M.Amt; omega, hp⟩
  have a : M.Amt (u * p / 10000) := by unfold M.Amt; unfold cost at h; omega
  exact ⟨(M.pr_3 k a).1, (M.pr_3 k a).2.1⟩
theorem rate_bd {n r : Int} (hn : 0 ≤ n) (hr : 0 ≤ r ∧ r ≤ 10000) : 0 ≤ n * r / 10000 ∧ n * r / 10000 ≤ n := by
  have h1 := Int.mul_nonneg hn hr.1
  have h2 := Int.mul_le_mul_of_nonneg_left hr.2 hn
  generalize n * r = x at *
  omega
theorem rate_mono {n m r : Int} (h : n ≤ m) (hr : 0 ≤ r) : n * r / 10000 ≤ m * r / 10000 := by
  have := Int.mul_le_mul_of_nonneg_right h hr
  generalize n * r = x at *
  generalize m * r = y at *
  omega
theorem part_rate {n r : Int} (hn : 0 ≤ n ∧ n ≤ 1152921504606846976) (hr : 0 ≤ r ∧ r ≤ 10000) : M.prE n r 10000 = 0 ∧ M.prQ n r 10000 = n * r / 10000 := by
  have h := rate_bd hn.1 hr
  have k : M.POk n r 10000 := ⟨by unfold M.Amt; omega, by omega, by omega⟩
  have a : M.Amt (n * r / 10000) := by unfold M.Amt; omega
  exact ⟨(M.pr_3 k a).1, (M.pr_3 k a).2.1⟩
end P
end Go.Proofs.YtpanlcnoopmchaaGreat

namespace Go.Proofs.YtpanlcnoopmchaaGreat
structure Fl where
  id : Int
  fr : Int
  to : Int
  cl : Int
  pa : Int
  day : Int
  un : Int
  de : Int
  bo : Int
  pd : Int
namespace F
def zero : Fl := ⟨0, 0, 0, 0, 0, 0, 0, 0, 0, 0⟩
instance : Inhabited Fl := ⟨zero⟩
def Kn (f : Fl) : Prop := (1 ≤ f.id ∧ f.id ≤ 1099511627776) ∧ (0 ≤ f.fr ∧ f.fr ≤ 30) ∧ (0 ≤ f.to ∧ f.to ≤ 30) ∧ (0 ≤ f.cl ∧ f.cl ≤ 5) ∧ (1 ≤ f.pa ∧ f.pa ≤ 20) ∧ (0 ≤ f.day ∧ f.day ≤ 3652058) ∧ (1 ≤ f.un ∧ f.un ≤ 1073741824)
instance (f : Fl) : Decidable (Kn f) := by unfold Kn; exact inferInstance
def Pt (f : Fl) : Prop := (0 ≤ f.de ∧ f.de ≤ f.un) ∧ (0 ≤ f.bo ∧ f.bo ≤ f.un) ∧ (0 ≤ f.pd ∧ f.pd ≤ f.un)
instance (f : Fl) : Decidable (Pt f) := by unfold Pt; exact inferInstance
def left (f : Fl) : Int := f.un - f.de - f.bo - f.pd
def chk (f : Fl) : Int := if ¬ Kn f then 3 else if f.fr = f.to then 1 else if ¬ Pt f then 3 else if f.un < f.de + f.bo + f.pd then 4 else 0
def Ok (f : Fl) : Prop := Kn f ∧ f.fr ≠ f.to ∧ Pt f ∧ f.de + f.bo + f.pd ≤ f.un
theorem chk_ok {f : Fl} (h : chk f = 0) : Ok f := by
  unfold chk at h
  by_cases a : Kn f
  · rw [if_neg (by simpa using a)] at h
    by_cases b : f.fr = f.to
    · rw [if_pos b] at h; omega
    · rw [if_neg b] at h
      by_cases c : Pt f
      · rw [if_neg (by simpa using c)] at h
        by_cases d : f.un < f.de + f.bo + f.pd
        · rw [if_pos d] at h; omega
        · exact ⟨a, b, c, by omega⟩
      · rw [if_pos c] at h; omega
  · rw [if_pos a] at h; omega
theorem chk_of {f : Fl} (h : Ok f) : chk f = 0 := by
  obtain ⟨a, b, c, d⟩ := h
  unfold chk
  rw [if_neg (by simpa using a), if_neg b, if_neg (by simpa using c), if_neg (by omega)]
theorem chk_1 {f : Fl} (a : ¬ Kn f) : chk f = 3 := if_pos a
theorem chk_2 {f : Fl} (a : Kn f) (b : f.fr = f.to) : chk f = 1 := by unfold chk; rw [if_neg (by simpa using a), if_pos b]
theorem chk_3 {f : Fl} (a : Kn f) (b : f.fr ≠ f.to) (c : ¬ Pt f) : chk f = 3 := by unfold chk; rw [if_neg (by simpa using a), if_neg b, if_pos c]
def opn (f : Fl) : Int := if chk f = 0 then left f else 0
theorem opn_yes {f : Fl} (h : chk f = 0) : opn f = left f := if_pos h
def less (f : Fl) (u : Int) : Int := if chk f ≠ 0 then chk f else if ¬ (1 ≤ u ∧ u ≤ 1073741824) then 3 else if left f = 0 then 5 else if left f < u then 8 else 0
theorem less_1 {f : Fl} {u : Int} (h : chk f ≠ 0) : less f u = chk f := if_pos h
theorem less_2 {f : Fl} {u : Int} (h : chk f = 0) (a : ¬ (1 ≤ u ∧ u ≤ 1073741824)) : less f u = 3 := by unfold less; rw [if_neg (by simpa using h), if_pos a]
theorem less_3 {f : Fl} {u : Int} (h : chk f = 0) (a : 1 ≤ u ∧ u ≤ 1073741824) (b : left f = 0) : less f u = 5 := by unfold less; rw [if_neg (by simpa using h), if_neg (by simpa using a), if_pos b]
theorem less_4 {f : Fl} {u : Int} (h : chk f = 0) (a : 1 ≤ u ∧ u ≤ 1073741824) (b : left f ≠ 0) (c : left f < u) : less f u = 8 := by unfold less; rw [if_neg (by simpa using h), if_neg (by simpa using a), if_neg b, if_pos c]
theorem less_5 {f : Fl} {u : Int} (h : chk f = 0) (a : 1 ≤ u ∧ u ≤ 1073741824) (b : left f ≠ 0) (c : u ≤ left f) : less f u = 0 := by unfold less; rw [if_neg (by simpa using h), if_neg (by simpa using a), if_neg b, if_neg (by omega)]
theorem less_ok {f : Fl} {u : Int} (h : less f u = 0) : Ok f ∧ 1 ≤ u ∧ u ≤ 1073741824 ∧ u ≤ left f := by
  by_cases a : chk f = 0
  · by_cases b : 1 ≤ u ∧ u ≤ 1073741824
    · by_cases c : left f = 0
      · rw [less_3 a b c] at h; omega
      · by_cases d : left f < u
        · rw [less_4 a b c d] at h; omega
        · exact ⟨chk_ok a, b.1, b.2, by omega⟩
    · rw [less_2 a b] at h; omega
  · rw [less_1 a] at h; exact absurd h a
def addDe (f : Fl) (u : Int) : Fl := ⟨f.id, f.fr, f.to, f.cl, f.pa, f.day, f.un, f.de + u, f.bo, f.pd⟩
def addBo (f : Fl) (u : Int) : Fl := ⟨f.id, f.fr, f.to, f.cl, f.pa, f.day, f.un, f.de, f.bo + u, f.pd⟩
def addPd (f : Fl) (u : Int) : Fl := ⟨f.id, f.fr, f.to, f.cl, f.pa, f.day, f.un, f.de, f.bo, f.pd + u⟩
def deliver (f : Fl) (u : Int) : Fl := if less f u = 0 then addDe f u else zero
def pay (f : Fl) : Fl := if less f 1 = 0 then addPd f (left f) else zero
def paid (f : Fl) : Int := if less f 1 = 0 then left f else 0
theorem ok_bounds {f : Fl} (h : Ok f) : 0 ≤ left f ∧ left f ≤ f.un ∧ f.un ≤ 1073741824 ∧ 0 ≤ f.de ∧ f.de ≤ 1073741824 ∧ 0 ≤ f.bo ∧ f.bo ≤ 1073741824 ∧ 0 ≤ f.pd ∧ f.pd ≤ 1073741824 := by
  obtain ⟨⟨_, _, _, _, _, _, k1, k2⟩, _, ⟨⟨p1, p2⟩, ⟨p3, p4⟩, p5, p6⟩, d⟩ := h
  unfold left; refine ⟨?_, ?_, ?_, ?_, ?_, ?_, ?_, ?_, ?_⟩ <;> omega
theorem deliver_yes {f : Fl} {u : Int} (h : less f u = 0) : deliver f u = addDe f u := if_pos h
theorem deliver_no {f : Fl} {u : Int} (h : ¬ less f u = 0) : deliver f u = zero := if_neg h
theorem pay_yes {f : Fl} (h : less f 1 = 0) : pay f = addPd f (left f) ∧ paid f = left f := ⟨if_pos h, if_pos h⟩
theorem pay_no {f : Fl} (h : ¬ less f 1 = 0) : pay f = zero ∧ paid f = 0 := ⟨if_neg h, if_neg h⟩
def ckFrom : List Int → List Fl → Int
  | _, [] => 0
  | seen, x :: r => if chk x ≠ 0 then chk x else if x.id ∈ seen then 6 else ckFrom (seen ++ [x.id]) r
def checks (l : List Fl) : Int := if 60 < l.length then 2 else ckFrom [] l
def idx (id : Int) : List Fl → Nat → Int
  | [], _ => -1
  | x :: r, k => if x.id = id then k else idx id r (k + 1)
theorem ckFrom_ok : ∀ {l : List Fl} {seen : List Int}, ckFrom seen l = 0 → (∀ x ∈ l, chk x = 0 ∧ x.id ∉ seen) ∧ (l.map (·.id)).Nodup
  | [], _, _ => ⟨by simp, by simp⟩
  | x :: r, seen, h => by
    unfold ckFrom at h
    by_cases a : chk x = 0
    · rw [if_neg (by simpa using a)] at h
      by_cases b : x.id ∈ seen
      · rw [if_pos b] at h; omega
      · rw [if_neg b] at h
        obtain ⟨h1, h2⟩ := ckFrom_ok h
        refine ⟨fun y hy => ?_, ?_⟩
        · rcases List.mem_cons.1 hy with rfl | hy
          · exact ⟨a, b⟩
          · obtain ⟨c, d⟩ := h1 y hy
            exact ⟨c, fun e => d (by simp [e])⟩
        · simp only [List.map_cons, List.nodup_cons]
          refine ⟨fun hm => ?_, h2⟩
          obtain ⟨y, hy, e⟩ := List.mem_map.1 hm
          exact (h1 y hy).2 (by simp [e])
    · rw [if_pos a] at h; exact absurd h a
theorem ckFrom_of : ∀ {l : List Fl} {seen : List Int}, (∀ x ∈ l, chk x = 0 ∧ x.id ∉ seen) → (l.map (·.id)).Nodup → ckFrom seen l = 0
  | [], _, _, _ => rfl
  | x :: r, seen, h1, h2 => by
    simp only [List.map_cons, List.nodup_cons] at h2
    obtain ⟨a, b⟩ := h1 x (by simp)
    unfold ckFrom
    rw [if_neg (by simpa using a), if_neg b]
    refine ckFrom_of (fun y hy => ?_) h2.2
    obtain ⟨c, d⟩ := h1 y (by simp [hy])
    refine ⟨c, fun e => ?_⟩
    rcases List.mem_append.1 e with e | e
    · exact d e
    · exact h2.1 (List.mem_map.2 ⟨y, hy, by simpa using e⟩)
theorem checks_len {l : List Fl} (h : checks l ≠ 2) : l.length ≤ 60 := by
  unfold checks at h
  by_cases a : 60 < l.length
  · rw [if_pos a] at h; exact absurd rfl h
  · omega
theorem idx_lt : ∀ (id : Int) (l : List Fl) (k : Nat), idx id l k = -1 ∨ ((k : Int) ≤ idx id l k ∧ idx id l k < k + l.length)
  | _, [], _ => .inl rfl
  | id, x :: r, k => by
    unfold idx
    by_cases a : x.id = id
    · rw [if_pos a]; right; simp only [List.length_cons]; omega
    · rw [if_neg a]
      rcases idx_lt id r (k + 1) with h | h
      · exact .inl h
      · right; simp only [List.length_cons]; omega
theorem drop_at {l : List Fl} {k : Nat} (hk : k < l.length) : l.drop k = l[k] :: l.drop (k + 1) := List.drop_eq_getElem_cons hk
theorem ckStep_err {l : List Fl} {k : Nat} (hk : k < l.length) (S : List Int) (h : chk l[k] ≠ 0) : ckFrom S (l.drop k) = chk l[k] := by
  rw [drop_at hk]; unfold ckFrom; rw [if_pos h]
theorem ckStep_twice {l : List Fl} {k : Nat} (hk : k < l.length) (S : List Int) (h : chk l[k] = 0) (h2 : l[k].id ∈ S) : ckFrom S (l.drop k) = 6 := by
  rw [drop_at hk]; unfold ckFrom; rw [if_neg (by simpa using h), if_pos h2]
theorem ids_snoc {l : List Fl} {k : Nat} (hk : k < l.length) : (l.take (k + 1)).map (·.id) = (l.take k).map (·.id) ++ [l[k].id] := by
  rw [List.take_succ_eq_append_getElem hk, List.map_append]; rfl
theorem ckStep_on {l : List Fl} {k : Nat} (hk : k < l.length) (h : chk l[k] = 0) (h2 : l[k].id ∉ (l.take k).map (·.id)) : ckFrom ((l.take k).map (·.id)) (l.drop k) = ckFrom ((l.take (k + 1)).map (·.id)) (l.drop (k + 1)) := by
  rw [ids_snoc hk, drop_at hk]
  conv => lhs; unfold ckFrom
  rw [if_neg (by simpa using h), if_neg h2]
theorem ckEnd (l : List Fl) (S : List Int) : ckFrom S (l.drop l.length) = 0 := by rw [List.drop_length]; rfl
theorem idxStep {l : List Fl} {k : Nat} (hk : k < l.length) (id : Int) : idx id (l.drop k) k = if l[k].id = id then (k : Int) else idx id (l.drop (k + 1)) (k + 1) := by
  rw [drop_at hk]; rfl
theorem idxEnd (l : List Fl) (id : Int) (k : Nat) : idx id (l.drop l.length) k = -1 := by rw [List.drop_length]; rfl
theorem mem_take {l : List Fl} {j k : Nat} (hj : j < l.length) (h : j < k) {x : Int} (e : l[j].id = x) : x ∈ (l.take k).map (·.id) := by
  rw [List.mem_map]
  refine ⟨l[j], ?_, e⟩
  rw [List.mem_take_iff_getElem]
  exact ⟨j, by omega, rfl⟩
theorem not_snoc {l : List Fl} {j : Nat} (hj : j < l.length) {x : Int} (h : x ∉ (l.take j).map (·.id)) (ne : ¬ l[j].id = x) : x ∉ (l.take (j + 1)).map (·.id) := by
  rw [ids_snoc hj, List.mem_append]
  intro q
  rcases q with q | q
  · exact h q
  · exact ne (by simpa using Eq.symm (List.mem_singleton.1 q))
theorem checks_many {l : List Fl} (h : 60 < l.length) : checks l = 2 := if_pos h
theorem checks_few {l : List Fl} (h : l.length ≤ 60) : checks l = ckFrom ((l.take 0).map (·.id)) (l.drop 0) := by unfold checks; rw [if_neg (by omega)]; rfl
end F
end Go.Proofs.YtpanlcnoopmchaaGreat

namespace Go.Proofs.YtpanlcnoopmchaaGreat
namespace M
def mo (l : List Int) : List Int := l.filter fun a => decide (0 ≤ a)
def le (l : List Int) : List Int := l.filter fun a => !decide (0 ≤ a)
theorem mo_snoc {l : List Int} {k : Nat} (h : k < l.length) : mo (l.take (k + 1)) = if 0 ≤ l[k] then mo (l.take k) ++ [l[k]] else mo (l.take k) := by
  unfold mo; rw [List.take_succ_eq_append_getElem h, List.filter_append]; split <;> simp_all
theorem le_snoc {l : List Int} {k : Nat} (h : k < l.length) : le (l.take (k + 1)) = if 0 ≤ l[k] then le (l.take k) else le (l.take k) ++ [l[k]] := by
  unfold le; rw [List.take_succ_eq_append_getElem h, List.filter_append]; split <;> simp_all
theorem mole_len (l : List Int) (k : Nat) (h : k ≤ l.length) : (mo (l.take k)).length ≤ k ∧ (le (l.take k)).length ≤ k := by
  have h1 := List.length_filter_le (fun a : Int => decide (0 ≤ a)) (l.take k)
  have h2 := List.length_filter_le (fun a : Int => !decide (0 ≤ a)) (l.take k)
  rw [List.length_take_of_le h] at h1 h2
  exact ⟨h1, h2⟩
theorem mole_sum : ∀ l : List Int, sum (mo l) + sum (le l) = sum l
  | [] => rfl
  | a :: r => by
    have := mole_sum r
    unfold mo le at *
    by_cases h : 0 ≤ a <;> simp [h, sum] <;> omega
theorem sum_take_drop (l : List Int) (i : Nat) : sum (l.take i) + sum (l.drop i) = sum l := by rw [← sum_append, List.take_append_drop]
theorem sum_take_succ {l : List Int} {i : Nat} (h : i < l.length) : sum (l.take (i + 1)) = sum (l.take i) + l[i] := by
  rw [List.take_succ_eq_append_getElem h, sum_append]; simp [sum]
theorem sum_pos {l : List Int} (h : ∀ a ∈ l, 0 ≤ a) : 0 ≤ sum l := by
  induction l with
  | nil => simp [sum]
  | cons a r ih => have := h a (by simp); have := ih fun x hx => h x (by simp [hx]); simp only [sum]; omega
theorem sum_neg {l : List Int} (h : ∀ a ∈ l, a ≤ 0) : sum l ≤ 0 := by
  induction l with
  | nil => simp [sum]
  | cons a r ih => have := h a (by simp); have := ih fun x hx => h x (by simp [hx]); simp only [sum]; omega
theorem sum_drop_pos {l : List Int} (h : ∀ a ∈ l, 0 ≤ a) (i : Nat) : sum (l.take i) + sum (l.drop i) = sum l ∧ 0 ≤ sum (l.drop i) ∧ (l.length ≤ i → sum (l.drop i) = 0) ∧ (i < l.length → l.getD (0 + i) default ≤ sum (l.drop i) ∧ sum (l.take (i + 1)) = sum (l.take i) + l.getD (0 + i) default) := by
  refine ⟨sum_take_drop l i, sum_pos fun a ha => h a (List.mem_of_mem_drop ha), fun hi => by rw [List.drop_eq_nil_of_le hi]; rfl, fun hi => ?_⟩
  rw [Nat.zero_add, getD_at hi]
  refine ⟨?_, sum_take_succ hi⟩
  rw [List.drop_eq_getElem_cons hi]
  have := sum_pos (l := l.drop (i + 1)) fun a ha => h a (List.mem_of_mem_drop ha)
  simp only [sum]; omega
theorem sum_drop_neg {l : List Int} (h : ∀ a ∈ l, a ≤ 0) (i : Nat) : sum (l.take i) + sum (l.drop i) = sum l ∧ sum (l.drop i) ≤ 0 ∧ (l.length ≤ i → sum (l.drop i) = 0) ∧ (i < l.length → sum (l.drop i) ≤ l.getD (0 + i) default ∧ sum (l.take (i + 1)) = sum (l.take i) + l.getD (0 + i) default) := by
  refine ⟨sum_take_drop l i, sum_neg fun a ha => h a (List.mem_of_mem_drop ha), fun hi => by rw [List.drop_eq_nil_of_le hi]; rfl, fun hi => ?_⟩
  rw [Nat.zero_add, getD_at hi]
  refine ⟨?_, sum_take_succ hi⟩
  rw [List.drop_eq_getElem_cons hi]
  have := sum_neg (l := l.drop (i + 1)) fun a ha => h a (List.mem_of_mem_drop ha)
  simp only [sum]; omega
theorem mo_pos (l : List Int) : ∀ a ∈ mo l, 0 ≤ a := fun a h => by simpa using (List.mem_filter.1 h).2
theorem le_neg (l : List Int) : ∀ a ∈ le l, a ≤ 0 := fun a h => by have := (List.mem_filter.1 h).2; simp at this; omega
end M
namespace M
def sofV (l : List Int) : Int := if -2305843009213693952 ≤ sum l ∧ sum l ≤ 2305843009213693952 then sum l else 0
end M
end Go.Proofs.YtpanlcnoopmchaaGreat

namespace Go.Proofs.YtpanlcnoopmchaaGreat
structure St where
  pa : Int
  un : Int
  ct : Int
instance : Inhabited St := ⟨⟨0, 0, 0⟩⟩
namespace K
def Ok (s : St) : Prop := (1 ≤ s.pa ∧ s.pa ≤ 20) ∧ (1 ≤ s.un ∧ s.un ≤ 1073741824) ∧ (0 ≤ s.ct ∧ s.ct ≤ 10000)
instance (s : St) : Decidable (Ok s) := by unfold Ok; exact inferInstance
def chk (l : List St) : Int := if 40 < l.length then 2 else if ∀ s ∈ l, Ok s then 0 else 3
theorem chk_ok {l : List St} (h : chk l = 0) : l.length ≤ 40 ∧ ∀ s ∈ l, Ok s := by
  unfold chk at h
  split at h
  · omega
  · split at h
    · exact ⟨by omega, by assumption⟩
    · omega
theorem chk_of {l : List St} (h1 : l.length ≤ 40) (h2 : ∀ s ∈ l, Ok s) : chk l = 0 := by
  unfold chk; rw [if_neg (by omega), if_pos h2]
def cnt (ps : List Int) (s : St) (u : Int) : Int := P.cost u (P.pr ps s.pa) * s.ct / 10000
theorem cnt_bd {ps : List Int} {s : St} {u : Int} (h : P.chks ps = 0) (hs : Ok s) (hu : 0 ≤ u ∧ u ≤ 1073741824) : 0 ≤ cnt ps s u ∧ cnt ps s u ≤ 118059162071741130 := by
  have h1 := P.cost_bd hu (P.pr_ok h hs.1)
  have h2 := P.rate_bd h1.1 hs.2.2
  unfold cnt; omega
theorem cnt_mono {ps : List Int} {s : St} {u v : Int} (h : P.chks ps = 0) (hs : Ok s) (huv : u ≤ v) : cnt ps s u ≤ cnt ps s v :=
  P.rate_mono (P.cost_mono huv (P.pr_ok h hs.1)) hs.2.2.1
def ck (l : List St) (ps : List Int) : Int := if chk l ≠ 0 then chk l else P.chks ps
theorem ck_ok {l : List St} {ps : List Int} (h : ck l ps = 0) : chk l = 0 ∧ P.chks ps = 0 := by
  unfold ck at h
  split at h
  · exact absurd h ‹_›
  · exact ⟨by omega, h⟩
theorem ck_of {l : List St} {ps : List Int} (h1 : chk l = 0) (h2 : P.chks ps = 0) : ck l ps = 0 := by
  unfold ck; rw [if_neg (by omega), h2]
theorem ck_1 {l : List St} {ps : List Int} (h : ¬ chk l = 0) : ck l ps = chk l := if_pos h
theorem ck_2 {l : List St} {ps : List Int} (h : chk l = 0) : ck l ps = P.chks ps := if_neg (by omega)
def cts (ps : List Int) (l : List St) : List Int := l.map fun s => cnt ps s s.un
def val (ps : List Int) (l : List St) : Int := M.sum (cts ps l)
theorem val_app {ps : List Int} {l m : List St} : val ps (l ++ m) = val ps l + val ps m := by
  unfold val cts; rw [List.map_append, M.sum_append]
def vE (l : List St) (ps : List Int) : Int := if ck l ps ≠ 0 then ck l ps else if 1152921504606846976 < val ps l then 8 else 0
def vV (l : List St) (ps : List Int) : Int := if vE l ps = 0 then val ps l else 0
theorem v_1 {l : List St} {ps : List Int} (h : ¬ ck l ps = 0) : vE l ps = ck l ps ∧ vV l ps = 0 := by
  have e : vE l ps = ck l ps := if_pos h
  exact ⟨e, if_neg (by omega)⟩
theorem v_2 {l : List St} {ps : List Int} (h : ck l ps = 0) (k : 1152921504606846976 < val ps l) : vE l ps = 8 ∧ vV l ps = 0 := by
  have e : vE l ps = 8 := by unfold vE; rw [if_neg (by omega), if_pos k]
  exact ⟨e, if_neg (by omega)⟩
theorem v_3 {l : List St} {ps : List Int} (h : ck l ps = 0) (k : ¬ 1152921504606846976 < val ps l) : vE l ps = 0 ∧ vV l ps = val ps l := by
  have e : vE l ps = 0 := by unfold vE; rw [if_neg (by omega), if_neg k]
  exact ⟨e, if_pos e⟩
theorem v_ok {l : List St} {ps : List Int} (h : vE l ps = 0) : ck l ps = 0 ∧ val ps l ≤ 1152921504606846976 ∧ vV l ps = val ps l := by
  by_cases a : ck l ps = 0
  · by_cases b : 1152921504606846976 < val ps l
    · rw [(v_2 a b).1] at h; omega
    · exact ⟨a, by omega, (v_3 a b).2⟩
  · rw [(v_1 a).1] at h; exact absurd h a
def vl (ps : List Int) (l : List St) : Int := if 1152921504606846976 < val ps l then 0 else val ps l
theorem two {l m : List St} {ps : List Int} (h1 : vE l ps = 0) (h2 : vE m ps = 0) : vE (l ++ m) ps = 2 ∨ vE (l ++ m) ps = 8 ∨ (vE (l ++ m) ps = 0 ∧ vV (l ++ m) ps = vV l ps + vV m ps) := by
  obtain ⟨a1, a2, a3⟩ := v_ok h1
  obtain ⟨b1, b2, b3⟩ := v_ok h2
  obtain ⟨c1, c2⟩ := ck_ok a1
  obtain ⟨d1, _⟩ := ck_ok b1
  obtain ⟨c3, c4⟩ := chk_ok c1
  obtain ⟨d3, d4⟩ := chk_ok d1
  by_cases q : 40 < (l ++ m).length
  · left
    have e : chk (l ++ m) = 2 := if_pos q
    exact (v_1 (by rw [ck_1 (by omega)]; omega)).1.trans ((ck_1 (by omega)).trans e)
  · have e : chk (l ++ m) = 0 := chk_of (by omega) fun s hs => by
      rcases List.mem_append.1 hs with h | h
      · exact c4 s h
      · exact d4 s h
    have ek := ck_of e c2
    by_cases k : 1152921504606846976 < val ps (l ++ m)
    · exact .inr (.inl (v_2 ek k).1)
    · obtain ⟨x, y⟩ := v_3 ek k
      exact .inr (.inr ⟨x, by rw [y, val_app, a3, b3]⟩)
structure Stay (ps : List Int) (s : St) (oth need m : Int) : Prop where
  b : 0 ≤ m ∧ m ≤ s.un
  y : need ≤ oth + cnt ps s m
  n : m = 0 ∨ oth + cnt ps s (m - 1) < need
def oth (ps : List Int) (l : List St) (at_ : Nat) : Int := val ps l - cnt ps (l.getD at_ default) (l.getD at_ default).un
def nds (fs : List Fl) (ps : List Int) (party : Int) : List Int := (fs.filter fun f => decide (f.fr = party)).map fun f => P.cost (F.left f) (P.pr ps f.pa)
def need (fs : List Fl) (ps : List Int) (party : Int) : Int := M.sum (nds fs ps party)
def nE (fs : List Fl) (ps : List Int) (party rate : Int) : Int :=
  if F.checks fs ≠ 0 then F.checks fs else if P.chks ps ≠ 0 then P.chks ps else if ¬ ((0 ≤ party ∧ party ≤ 30) ∧ (0 ≤ rate ∧ rate ≤ 10000)) then 3 else if 1152921504606846976 < need fs ps party then 8 else 0
theorem checks_all {fs : List Fl} (h : F.checks fs = 0) : fs.length ≤ 60 ∧ (∀ f ∈ fs, F.Ok f) ∧ (fs.map (·.id)).Nodup := by
  have h60 : fs.length ≤ 60 := F.checks_len (by omega)
  unfold F.checks at h
  rw [if_neg (by omega)] at h
  obtain ⟨a, b⟩ := F.ckFrom_ok h
  exact ⟨h60, fun f hf => F.chk_ok (a f hf).1, b⟩
theorem checks_of {fs : List Fl} (h : fs.length ≤ 60) (a : ∀ f ∈ fs, F.Ok f) (b : (fs.map (·.id)).Nodup) : F.checks fs = 0 := by
  unfold F.checks
  rw [if_neg (by omega)]
  exact F.ckFrom_of (fun f hf => ⟨F.chk_of (a f hf), by simp⟩) b
end K
end Go.Proofs.YtpanlcnoopmchaaGreat

namespace Go.Proofs.YtpanlcnoopmchaaGreat
structure Ev where
  pa : Int
  ca : Int
  gi : Int
  fo : Int
structure Po where
  ac : Int
  ut : Int
  am : Int
instance : Inhabited Ev := ⟨⟨0, 0, 0, 0⟩⟩
instance : Inhabited Po := ⟨⟨0, 0, 0⟩⟩
def encP (p : Po) : List Go.Value := [.int .i64 p.ac, .int .i64 p.ut, .int .i64 p.am]
namespace C
def Ok (v : Ev) : Prop := (1 ≤ v.pa ∧ v.pa ≤ 20) ∧ P.Ok v.ca ∧ (0 ≤ v.gi ∧ v.gi ≤ 1000) ∧ (0 ≤ v.fo ∧ v.fo ≤ 1000)
instance (v : Ev) : Decidable (Ok v) := by unfold Ok; exact inferInstance
def Odd (v : Ev) : Prop := ¬ (v.gi = 0 ↔ v.fo = 0) ∨ (v.gi = 0 ∧ v.ca = 0)
instance (v : Ev) : Decidable (Odd v) := by unfold Odd; exact inferInstance
def ev (v : Ev) : Int := if ¬ Ok v then 3 else if Odd v then 1 else 0
def uE (v : Ev) (u : Int) : Int := if ev v ≠ 0 then ev v else if ¬ (0 ≤ u ∧ u ≤ 1073741824) then 3 else 0
def cash (v : Ev) (u : Int) : Int := P.cost u v.ca
def fr (v : Ev) (u : Int) : Int := if v.fo = 0 then 0 else u * v.gi / v.fo
def le (v : Ev) (u : Int) : Int := if v.fo = 0 then 0 else u * v.gi % v.fo
def lV (v : Ev) (u : Int) : Int := if uE v u = 0 then le v u else 0
theorem mul_bd {v : Ev} {u : Int} (h : Ok v) (hu : 0 ≤ u ∧ u ≤ 1073741824) : 0 ≤ u * v.gi ∧ u * v.gi ≤ 1073741824000 := by
  obtain ⟨_, _, h3, _⟩ := h
  have h1 := Int.mul_nonneg hu.1 h3.1
  have h2 := Int.mul_le_mul hu.2 h3.2 h3.1 (show (0 : Int) ≤ 1073741824 by omega)
  omega
def xE (v : Ev) (fs : List Fl) : Int := if ev v ≠ 0 then ev v else F.checks fs
def duO (v : Ev) (f : Fl) : List Du := if f.pa = v.pa ∧ 0 < F.left f ∧ 0 < cash v (F.left f) then [⟨f.fr, f.to, cash v (F.left f)⟩] else []
def poO (v : Ev) (f : Fl) : List Po := if f.pa = v.pa ∧ 0 < F.left f ∧ 0 < fr v (F.left f) then [⟨f.fr, v.pa, -fr v (F.left f)⟩, ⟨f.to, v.pa, fr v (F.left f)⟩] else []
def dus (v : Ev) (fs : List Fl) : List Du := fs.flatMap (duO v)
def pos (v : Ev) (fs : List Fl) : List Po := fs.flatMap (poO v)
theorem dus_snoc {v : Ev} {fs : List Fl} {k : Nat} (h : k < fs.length) : dus v (fs.take (k + 1)) = dus v (fs.take k) ++ duO v (fs.getD k default) := by
  unfold dus
  rw [List.take_succ_eq_append_getElem h, List.flatMap_append, getD_at h]; simp
theorem pos_snoc {v : Ev} {fs : List Fl} {k : Nat} (h : k < fs.length) : pos v (fs.take (k + 1)) = pos v (fs.take k) ++ poO v (fs.getD k default) := by
  unfold pos
  rw [List.take_succ_eq_append_getElem h, List.flatMap_append, getD_at h]; simp
theorem duO_len (v : Ev) (f : Fl) : (duO v f).length ≤ 1 := by unfold duO; split <;> simp
theorem poO_len (v : Ev) (f : Fl) : (poO v f).length ≤ 2 := by unfold poO; split <;> simp
theorem dus_len (v : Ev) : ∀ fs : List Fl, (dus v fs).length ≤ fs.length
  | [] => Nat.le_refl _
  | f :: fs => by
    have := dus_len v fs
    have := duO_len v f
    unfold dus at *
    rw [List.flatMap_cons, List.length_append, List.length_cons]; omega
theorem pos_len (v : Ev) : ∀ fs : List Fl, (pos v fs).length ≤ 2 * fs.length
  | [] => Nat.le_refl _
  | f :: fs => by
    have := pos_len v fs
    have := poO_len v f
    unfold pos at *
    rw [List.flatMap_cons, List.length_append, List.length_cons]; omega
def dV (v : Ev) (fs : List Fl) : List Du := if xE v fs = 0 then dus v fs else []
def up (f : Fl) (n : Int) : Fl := ⟨f.id, f.fr, f.to, f.cl, f.pa, f.day, f.un + n, f.de, f.bo, f.pd⟩
end C
end Go.Proofs.YtpanlcnoopmchaaGreat

namespace Go.Proofs.YtpanlcnoopmchaaGreat.D
def lp (y : Int) : Bool := y % 4 == 0 && (!(y % 100 == 0) || y % 400 == 0)
def L (y : Int) : Int := if y % 4 = 0 ∧ (¬ y % 100 = 0 ∨ y % 400 = 0) then 1 else 0
def ml (y m : Int) : Int := if m = 2 then 28 + L y else if m = 4 ∨ m = 6 ∨ m = 9 ∨ m = 11 then 30 else 31
def cum (y m : Int) : Int :=
  if m ≤ 1 then 0 else if m = 2 then 31 else (if m = 3 then 59 else if m = 4 then 90 else if m = 5 then 120 else if m = 6 then 151 else if m = 7 then 181 else if m = 8 then 212 else if m = 9 then 243 else if m = 10 then 273 else if m = 11 then 304 else 334) + L y
def dby (y : Int) : Int := 365 * (y - 1) + (y - 1) / 4 - (y - 1) / 100 + (y - 1) / 400
def raw (y m d : Int) : Int := dby y + cum y m + d - 1
def Valid (y m d : Int) : Prop := 1 ≤ y ∧ y ≤ 9999 ∧ 1 ≤ m ∧ m ≤ 12 ∧ 1 ≤ d ∧ d ≤ ml y m
instance (y m d : Int) : Decidable (Valid y m d) := by unfold Valid; exact inferInstance
theorem L_01 (y : Int) : 0 ≤ L y ∧ L y ≤ 1 := by unfold L; split <;> omega
theorem dby_succ (y : Int) : dby (y + 1) = dby y + 365 + L y := by unfold dby L; split <;> omega
theorem dby_mono {y z : Int} (h : y < z) : dby y + 365 + L y ≤ dby z := by
  rw [← dby_succ]; unfold dby; omega
theorem dby_bd (y : Int) (h0 : 1 ≤ y) (h : y ≤ 20000) : 0 ≤ dby y ∧ dby y ≤ 10000000 := by unfold dby; omega
theorem dby_400 (y : Int) : dby (y + 400) = dby y + 146097 := by unfold dby; omega
theorem L_400 (y : Int) : L (y + 400) = L y := by
  unfold L
  have a : (y + 400) % 4 = y % 4 := by omega
  have b : (y + 400) % 100 = y % 100 := by omega
  have c : (y + 400) % 400 = y % 400 := by omega
  rw [a, b, c]
theorem dby_max : dby 10000 = 3652059 := by decide
theorem ml_bd (y m : Int) : 28 ≤ ml y m ∧ ml y m ≤ 31 := by have := L_01 y; unfold ml; split <;> (try split) <;> omega
theorem cum_succ (y m : Int) (h1 : 1 ≤ m) (h2 : m ≤ 11) : cum y (m + 1) = cum y m + ml y m := by
  have h : m = 1 ∨ m = 2 ∨ m = 3 ∨ m = 4 ∨ m = 5 ∨ m = 6 ∨ m = 7 ∨ m = 8 ∨ m = 9 ∨ m = 10 ∨ m = 11 := by omega
  rcases h with rfl | rfl | rfl | rfl | rfl | rfl | rfl | rfl | rfl | rfl | rfl <;> simp [cum, ml] <;> omega
theorem cum_one (y : Int) : cum y 1 = 0 := by simp [cum]
theorem cum_12 (y : Int) : cum y 12 + ml y 12 = 365 + L y := by simp [cum, ml]; omega
theorem cum_bd (y m : Int) (h1 : 1 ≤ m) (h2 : m ≤ 12) : 0 ≤ cum y m ∧ cum y m + ml y m ≤ 365 + L y := by
  have h : m = 1 ∨ m = 2 ∨ m = 3 ∨ m = 4 ∨ m = 5 ∨ m = 6 ∨ m = 7 ∨ m = 8 ∨ m = 9 ∨ m = 10 ∨ m = 11 ∨ m = 12 := by omega
  have := L_01 y
  rcases h with rfl | rfl | rfl | rfl | rfl | rfl | rfl | rfl | rfl | rfl | rfl | rfl <;> simp [cum, ml] <;> omega
theorem cum_mono (y : Int) {m k : Int} (h1 : 1 ≤ m) (h : m < k) (h2 : k ≤ 12) : cum y m + ml y m ≤ cum y k := by
  have a : m = 1 ∨ m = 2 ∨ m = 3 ∨ m = 4 ∨ m = 5 ∨ m = 6 ∨ m = 7 ∨ m = 8 ∨ m = 9 ∨ m = 10 ∨ m = 11 := by omega
  have b : k = 2 ∨ k = 3 ∨ k = 4 ∨ k = 5 ∨ k = 6 ∨ k = 7 ∨ k = 8 ∨ k = 9 ∨ k = 10 ∨ k = 11 ∨ k = 12 := by omega
  have := L_01 y
  rcases a with rfl | rfl | rfl | rfl | rfl | rfl | rfl | rfl | rfl | rfl | rfl <;>
    rcases b with rfl | rfl | rfl | rfl | rfl | rfl | rfl | rfl | rfl | rfl | rfl <;>
    first | (exfalso; omega) | (simp [cum, ml]; try omega)
theorem ml_400 (y m : Int) : ml (y + 400) m = ml y m := by unfold ml; rw [L_400]
theorem cum_400 (y m : Int) : cum (y + 400) m = cum y m := by unfold cum; rw [L_400]
theorem raw_bd {y m d : Int} (h : Valid y m d) : 0 ≤ raw y m d ∧ raw y m d ≤ 3652058 := by
  obtain ⟨a, b, c, e, f, g⟩ := h
  have h1 := dby_bd y a (by omega)
  have h2 := cum_bd y m c e
  have h3 : dby y + 365 + L y ≤ 3652059 := by have := dby_mono (y := y) (z := 10000) (by omega); have := dby_max; omega
  unfold raw; omega
theorem raw_lt {y m d z k e : Int} (h : Valid y m d) (h' : Valid z k e) (hl : y < z ∨ (y = z ∧ (m < k ∨ (m = k ∧ d < e)))) : raw y m d < raw z k e := by
  obtain ⟨a1, b1, c1, e1, f1, g1⟩ := h
  obtain ⟨a2, b2, c2, e2, f2, g2⟩ := h'
  have q1 := cum_bd y m c1 e1
  have q2 := cum_bd z k c2 e2
  unfold raw
  rcases hl with hl | ⟨rfl, hl | ⟨rfl, hl⟩⟩
  · have := dby_mono hl; omega
  · have := cum_mono y c1 hl e2; omega
  · omega
theorem raw_inj {y m d z k e : Int} (h : Valid y m d) (h' : Valid z k e) (he : raw y m d = raw z k e) : y = z ∧ m = k ∧ d = e := by
  by_cases a : y < z
  · have := raw_lt h h' (.inl a); omega
  by_cases b : z < y
  · have := raw_lt h' h (.inl b); omega
  obtain rfl : y = z := by omega
  by_cases c : m < k
  · have := raw_lt h h' (.inr ⟨rfl, .inl c⟩); omega
  by_cases d' : k < m
  · have := raw_lt h' h (.inr ⟨rfl, .inl d'⟩); omega
  obtain rfl : m = k := by omega
  refine ⟨rfl, rfl, ?_⟩
  unfold raw at he; omega
def next (t : Int × Int × Int) : Int × Int × Int :=
  if t.2.2 < ml t.1 t.2.1 then (t.1, t.2.1, t.2.2 + 1) else if t.2.1 < 12 then (t.1, t.2.1 + 1, 1) else (t.1 + 1, 1, 1)
def at' : Nat → Int × Int × Int
  | 0 => (1, 1, 1)
  | k + 1 => next (at' k)
theorem at'_ok (k : Nat) : (k : Int) ≤ 3652058 → Valid (at' k).1 (at' k).2.1 (at' k).2.2 ∧ raw (at' k).1 (at' k).2.1 (at' k).2.2 = k := by
  induction k with
  | zero => intro _; refine ⟨⟨by decide, by decide, by decide, by decide, by decide, by decide⟩, by decide⟩
  | succ k ih =>
    intro h
    obtain ⟨v, hr⟩ := ih (by omega)
    show Valid (next (at' k)).1 (next (at' k)).2.1 (next (at' k)).2.2 ∧ raw (next (at' k)).1 (next (at' k)).2.1 (next (at' k)).2.2 = _
    generalize at' k = t at v hr
    obtain ⟨y, m, d⟩ := t
    obtain ⟨a, b, c, e, f, g⟩ := v
    simp only at a b c e f g hr
    unfold next
    simp only
    unfold raw at hr
    split
    · rename_i hd
      refine ⟨⟨a, b, c, e, by simp only; omega, by simp only; omega⟩, ?_⟩
      unfold raw; simp only; omega
    · rename_i hd
      split
      · rename_i hm
        have := cum_succ y m c (by omega)
        have := ml_bd y (m + 1)
        refine ⟨⟨a, b, by simp only; omega, by simp only; omega, by simp only; omega, by simp only; omega⟩, ?_⟩
        unfold raw; simp only; omega
      · rename_i hm
        obtain rfl : m = 12 := by omega
        have h12 := cum_12 y
        have hs := dby_succ y
        have hy : y + 1 ≤ 9999 := by
          apply Classical.byContradiction; intro hc
          obtain rfl : y = 9999 := by omega
          have h1 := dby_max
          have h2 : dby (9999 + 1) = dby 10000 := rfl
          omega
        refine ⟨⟨by simp only; omega, by simp only; omega, by simp only; omega, by simp only; omega, by simp only; omega, by simp only; have := ml_bd (y + 1) 1; omega⟩, ?_⟩
        have h1 := cum_one (y + 1)
        unfold raw; simp only; omega
def yO (n : Int) : Int := (at' n.toNat).1
def mO (n : Int) : Int := (at' n.toNat).2.1
def dO (n : Int) : Int := (at' n.toNat).2.2
theorem of_ok (n : Int) (h0 : 0 ≤ n) (h : n ≤ 3652058) : Valid (yO n) (mO n) (dO n) ∧ raw (yO n) (mO n) (dO n) = n := by
  have := at'_ok n.toNat (by omega)
  rw [show ((n.toNat : Nat) : Int) = n from by omega] at this
  exact this
theorem of_uniq {n y m d : Int} (h : Valid y m d) (e : raw y m d = n) : yO n = y ∧ mO n = m ∧ dO n = d := by
  have hb := raw_bd h
  obtain ⟨v, r⟩ := of_ok n (by omega) (by omega)
  exact raw_inj v h (by omega)
def fromV (y m d : Int) : Int := if Valid y m d then raw y m d else 0
def fromE (y m d : Int) : Int := if Valid y m d then 0 else 3
theorem fromV_yes {y m d : Int} (h : Valid y m d) : fromV y m d = raw y m d := if_pos h
theorem fromE_yes {y m d : Int} (h : Valid y m d) : fromE y m d = 0 := if_pos h
def chk (n : Int) : Int := if 0 ≤ n ∧ n ≤ 3652058 then 0 else 3
theorem chk_yes {n : Int} (h : 0 ≤ n) (h' : n ≤ 3652058) : chk n = 0 := if_pos ⟨h, h'⟩
theorem chk_no {n : Int} (h : ¬ (0 ≤ n ∧ n ≤ 3652058)) : chk n = 3 := if_neg h
theorem of_bds {n : Int} (h0 : 0 ≤ n) (h : n ≤ 3652058) : 1 ≤ yO n ∧ yO n ≤ 9999 ∧ 1 ≤ mO n ∧ mO n ≤ 12 ∧ 1 ≤ dO n ∧ dO n ≤ ml (yO n) (mO n) ∧ n = dby (yO n) + cum (yO n) (mO n) + dO n - 1 ∧ dby (yO n) ≤ n ∧ n < dby (yO n + 1) := by
  obtain ⟨⟨a, b, c, e, f, g⟩, r⟩ := of_ok n h0 h
  have h1 := cum_bd (yO n) (mO n) c e
  have h2 := dby_succ (yO n)
  unfold raw at r
  refine ⟨a, b, c, e, f, g, by omega, by omega, by omega⟩
def yO' (n : Int) : Int := if 0 ≤ n ∧ n ≤ 3652058 then yO n else 0
def mO' (n : Int) : Int := if 0 ≤ n ∧ n ≤ 3652058 then mO n else 0
def dO' (n : Int) : Int := if 0 ≤ n ∧ n ≤ 3652058 then dO n else 0
theorem o_yes {n : Int} (h : 0 ≤ n ∧ n ≤ 3652058) : yO' n = yO n ∧ mO' n = mO n ∧ dO' n = dO n := ⟨if_pos h, if_pos h, if_pos h⟩
def wk (n : Int) : Int := if 0 ≤ n ∧ n ≤ 3652058 then n % 7 else 0
theorem wk_yes {n : Int} (h : 0 ≤ n ∧ n ≤ 3652058) : wk n = n % 7 := if_pos h
def leB (y : Int) : Bool := if 1 ≤ y ∧ y ≤ 9999 then lp y else false
def leE (y : Int) : Int := if 1 ≤ y ∧ y ≤ 9999 then 0 else 3
def moV (n many : Int) : Int :=
  if ¬ (0 ≤ n ∧ n ≤ 3652058) then 0 else if many < -120000 ∨ 120000 < many then 0 else
  if 12 * yO n + mO n - 1 + many < 12 ∨ 120000 ≤ 12 * yO n + mO n - 1 + many then 0 else
  raw ((12 * yO n + mO n - 1 + many) / 12) ((12 * yO n + mO n - 1 + many) % 12 + 1) (min (dO n) (ml ((12 * yO n + mO n - 1 + many) / 12) ((12 * yO n + mO n - 1 + many) % 12 + 1)))
def moE (n many : Int) : Int :=
  if ¬ (0 ≤ n ∧ n ≤ 3652058) then 3 else if many < -120000 ∨ 120000 < many then 8 else
  if 12 * yO n + mO n - 1 + many < 12 ∨ 120000 ≤ 12 * yO n + mO n - 1 + many then 8 else 0
theorem mo_yes {n many : Int} (h : 0 ≤ n ∧ n ≤ 3652058) (h2 : -120000 ≤ many) (h3 : many ≤ 120000) :
    (12 * yO n + mO n - 1 + many < 12 ∨ 120000 ≤ 12 * yO n + mO n - 1 + many → moV n many = 0 ∧ moE n many = 8) ∧
    (12 ≤ 12 * yO n + mO n - 1 + many ∧ 12 * yO n + mO n - 1 + many < 120000 → moV n many = raw ((12 * yO n + mO n - 1 + many) / 12) ((12 * yO n + mO n - 1 + many) % 12 + 1) (min (dO n) (ml ((12 * yO n + mO n - 1 + many) / 12) ((12 * yO n + mO n - 1 + many) % 12 + 1))) ∧ moE n many = 0) := by
  unfold moV moE
  have a1 : ¬ ¬ (0 ≤ n ∧ n ≤ 3652058) := by simpa using h
  have a2 : ¬ (many < -120000 ∨ 120000 < many) := by omega
  rw [if_neg a1, if_neg a2, if_neg a1, if_neg a2]
  exact ⟨fun q => by rw [if_pos q, if_pos q]; exact ⟨rfl, rfl⟩, fun q => by rw [if_neg (by omega), if_neg (by omega)]; exact ⟨rfl, rfl⟩⟩
theorem b1 : fromV 2026 11 16 = 739935 ∧ fromE 2026 11 16 = 0 := by decide
theorem b2 : yO' 739935 = 2026 ∧ mO' 739935 = 11 ∧ dO' 739935 = 16 ∧ chk 739935 = 0 := by
  obtain ⟨e1, e2, e3⟩ := o_yes (n := 739935) (by decide)
  obtain ⟨g1, g2, g3⟩ := of_uniq (n := 739935) (y := 2026) (m := 11) (d := 16) (by decide) (by decide)
  rw [e1, e2, e3]
  exact ⟨g1, g2, g3, by decide⟩
theorem b3 : wk 739935 = 0 := by decide
theorem b4 : leB 1900 = false ∧ leE 1900 = 0 := by decide
theorem b5 : moV 739935 3 = 740027 ∧ moE 739935 3 = 0 := by
  obtain ⟨g1, g2, g3⟩ := of_uniq (n := 739935) (y := 2026) (m := 11) (d := 16) (by decide) (by decide)
  have := (mo_yes (n := 739935) (many := 3) (by decide) (by decide) (by decide)).2 (by rw [g1, g2]; decide)
  rw [g1, g2, g3] at this
  rw [this.1, this.2]
  decide
theorem b6 : fromV 9999 12 31 = 3652058 ∧ fromE 9999 12 31 = 0 := by decide
theorem b7 : fromV 2023 2 29 = 0 ∧ fromE 2023 2 29 = 3 := by decide
theorem round {y m d : Int} (h : Valid y m d) (hy : y ≤ 9599) : fromV (y + 400) m d = fromV y m d + 146097 ∧ fromE (y + 400) m d = 0 ∧ chk (fromV y m d) = 0 ∧ chk (fromV y m d + 146097) = 0 ∧ wk (fromV y m d + 146097) = wk (fromV y m d) := by
  have h' : Valid (y + 400) m d := by
    obtain ⟨a, b, c, e, f, g⟩ := h
    exact ⟨by omega, by omega, c, e, f, by rw [ml_400]; exact g⟩
  have r : raw (y + 400) m d = raw y m d + 146097 := by unfold raw; rw [dby_400, cum_400]; omega
  have b1 := raw_bd h
  have b2 := raw_bd h'
  rw [fromV_yes h', fromE_yes h', fromV_yes h]
  refine ⟨r, rfl, chk_yes b1.1 b1.2, chk_yes (by omega) (by omega), ?_⟩
  rw [wk_yes (by omega), wk_yes b1]
  omega
theorem back {n many : Int} (h : 0 ≤ n ∧ n ≤ 3652058) (h2 : -120000 ≤ many) (h3 : many ≤ 120000) (h4 : 12 ≤ 12 * yO n + mO n - 1 + many ∧ 12 * yO n + mO n - 1 + many < 120000) :
    moE n many = 0 ∧ chk (moV n many) = 0 ∧ (∃ q, mO' (moV n many) - mO' n - many = 12 * q ∧ -20000 ≤ q ∧ q ≤ 20000) ∧ dO' (moV n many) ≤ dO' n ∧ 1 ≤ dO' (moV n many) ∧ dO' n ≤ 31 ∧ 28 ≤ ml (yO' (moV n many)) (mO' (moV n many)) ∧
    (dO' (moV n many) < dO' n → dO' (moV n many) = ml (yO' (moV n many)) (mO' (moV n many))) ∧ 1 ≤ yO' (moV n many) ∧ yO' (moV n many) ≤ 9999 ∧ 1 ≤ mO' (moV n many) ∧ mO' (moV n many) ≤ 12 ∧ 1 ≤ mO' n ∧ mO' n ≤ 12 ∧
    moE (moV n many) (-many) = 0 ∧ moV (moV n many) (-many) = n - (dO' n - dO' (moV n many)) := by
  obtain ⟨e1, e2⟩ := (mo_yes (many := many) h h2 h3).2 h4
  obtain ⟨c1, c2, c3⟩ := o_yes h
  obtain ⟨b1, b2, b3, b4, b5, b6, b7, b8, b9⟩ := of_bds h.1 h.2
  have hml := ml_bd ((12 * yO n + mO n - 1 + many) / 12) ((12 * yO n + mO n - 1 + many) % 12 + 1)
  have hml2 := ml_bd (yO n) (mO n)
  have hv : Valid ((12 * yO n + mO n - 1 + many) / 12) ((12 * yO n + mO n - 1 + many) % 12 + 1) (min (dO n) (ml ((12 * yO n + mO n - 1 + many) / 12) ((12 * yO n + mO n - 1 + many) % 12 + 1))) := ⟨by omega, by omega, by omega, by omega, by omega, by omega⟩
  have hb := raw_bd hv
  rw [← e1] at hb
  obtain ⟨g1, g2, g3⟩ := of_uniq hv e1.symm
  obtain ⟨d1, d2, d3⟩ := o_yes hb
  have hat : 12 * yO (moV n many) + mO (moV n many) - 1 + -many = 12 * yO n + mO n - 1 := by rw [g1, g2]; omega
  obtain ⟨f1, f2⟩ := (mo_yes (many := -many) hb (by omega) (by omega)).2 (by rw [hat]; omega)
  rw [hat] at f1
  have y1 : (12 * yO n + mO n - 1) / 12 = yO n := by omega
  have m1 : (12 * yO n + mO n - 1) % 12 + 1 = mO n := by omega
  rw [y1, m1, g3] at f1
  rw [f1, f2, e2, d1, d2, d3, c2, c3, g1, g2, g3]
  refine ⟨rfl, chk_yes hb.1 hb.2, ⟨yO n - (12 * yO n + mO n - 1 + many) / 12, by omega, by omega, by omega⟩, by omega, by omega, by omega, hml.1, by omega, by omega, by omega, by omega, by omega, by omega, by omega, rfl, ?_⟩
  unfold raw
  omega
end Go.Proofs.YtpanlcnoopmchaaGreat.D

namespace Go.Proofs.YtpanlcnoopmchaaGreat
structure Cl where
  we : Int
  hs : List Int
namespace Ca
def fe (f : Nat → Int) (n : Nat) : Int := fb f (List.range n)
theorem fe_ok {f : Nat → Int} {n : Nat} (h : fe f n = 0) : ∀ j, j < n → f j = 0 := fun j hj => fb_ok h j (List.mem_range.2 hj)
theorem fe_end {f : Nat → Int} {n : Nat} (h : ∀ j, j < n → f j = 0) : fe f n = 0 := fb_yes fun d hd => h d (List.mem_range.1 hd)
theorem fe_get {f : Nat → Int} {n k : Nat} (hk : k < n) (h1 : ∀ j, j < k → f j = 0) (h : f k ≠ 0) : fe f n = f k := by
  have hl : k < (List.range n).length := by simpa using hk
  have e : (List.range n)[k] = k := by simp
  have := fb_at (f := f) hl (fun d hd => h1 d (by
    rw [List.take_range] at hd
    have := List.mem_range.1 hd
    omega)) (by rw [e]; exact h)
  rw [e] at this
  exact this
def Day (n : Int) : Prop := 0 ≤ n ∧ n ≤ 3652058
instance (n : Int) : Decidable (Day n) := by unfold Day; exact inferInstance
def Ok (c : Cl) : Prop := (0 ≤ c.we ∧ c.we ≤ 126) ∧ c.hs.length ≤ 60 ∧ (∀ n ∈ c.hs, Day n) ∧ c.hs.Pairwise (· < ·)
def eAt (hs : List Int) (k : Nat) : Int := if ¬ Day (hs.getD k default) then 3 else if 0 < k ∧ hs.getD k default = hs.getD (k - 1) default then 6 else if 0 < k ∧ hs.getD k default < hs.getD (k - 1) default then 4 else 0
def chk (c : Cl) : Int := if c.we < 0 ∨ 126 < c.we then 3 else if 60 < c.hs.length then 2 else fe (eAt c.hs) c.hs.length
theorem eAt_ok {hs : List Int} {k : Nat} (h : eAt hs k = 0) : Day (hs.getD k default) ∧ (0 < k → hs.getD (k - 1) default < hs.getD k default) := by
  unfold eAt at h
  split at h
  · omega
  · rename_i a
    split at h
    · omega
    · split at h
      · omega
      · exact ⟨Classical.not_not.1 a, fun hk => by omega⟩
theorem chk_ok {c : Cl} (h : chk c = 0) : Ok c := by
  unfold chk at h
  split at h
  · omega
  split at h
  · omega
  have a := fe_ok h
  refine ⟨by omega, by omega, fun n hn => ?_, List.pairwise_iff_getElem.2 fun i j hi hj hij => ?_⟩
  · obtain ⟨i, hi, rfl⟩ := List.getElem_of_mem hn
    have := (eAt_ok (a i hi)).1
    rwa [getD_at hi] at this
  · have st : ∀ m, i < m → m < c.hs.length → c.hs.getD i default < c.hs.getD m default := by
      intro m
      induction m with
      | zero => intro h; omega
      | succ m ih =>
        intro h1 h2
        have h3 := (eAt_ok (a (m + 1) h2)).2 (by omega)
        rw [Nat.add_sub_cancel] at h3
        by_cases e : i = m
        · subst e; exact h3
        · have := ih (by omega) (by omega); omega
    have := st j hij hj
    rwa [getD_at hi, getD_at hj] at this
theorem chk_1 {c : Cl} (h : c.we < 0 ∨ 126 < c.we) : chk c = 3 := if_pos h
theorem chk_2 {c : Cl} (h : ¬ (c.we < 0 ∨ 126 < c.we)) (k : 60 < c.hs.length) : chk c = 2 := (if_neg h).trans (if_pos k)
theorem chk_3 {c : Cl} (h : ¬ (c.we < 0 ∨ 126 < c.we)) (k : ¬ 60 < c.hs.length) : chk c = fe (eAt c.hs) c.hs.length := (if_neg h).trans (if_neg k)
theorem chk_of {c : Cl} (h : Ok c) : chk c = 0 := by
  obtain ⟨h1, h2, h3, h4⟩ := h
  rw [chk_3 (by omega) (by omega)]
  refine fe_end fun k hk => ?_
  have hd := h3 _ (getD_mem (l := c.hs) hk)
  unfold eAt
  rw [if_neg (fun q => q hd)]
  have lt : 0 < k → c.hs.getD (k - 1) default < c.hs.getD k default := fun h => by
    rw [getD_at hk, getD_at (l := c.hs) (k := k - 1) (by omega)]
    exact List.pairwise_iff_getElem.1 h4 (k - 1) k (by omega) hk (by omega)
  rw [if_neg (fun q => by have := lt q.1; omega), if_neg (fun q => by have := lt q.1; omega)]
def wd (c : Cl) (n : Int) : Int := 1 - c.we / 2 ^ (n % 7).toNat % 2
def op (c : Cl) (n : Int) : Int := if n ∈ c.hs then 0 else wd c n
theorem wd_01 (c : Cl) (n : Int) : wd c n = 0 ∨ wd c n = 1 := by unfold wd; omega
theorem op_01 (c : Cl) (n : Int) : op c n = 0 ∨ op c n = 1 := by unfold op; split; · exact .inl rfl
                                                                 · exact wd_01 c n
def sm (f : Int → Int) (a : Int) : Nat → Int
  | 0 => 0
  | k + 1 => sm f a k + f (a + k + 1)
theorem sm_add (f : Int → Int) (a : Int) (k : Nat) : ∀ m : Nat, sm f a (k + m) = sm f a k + sm f (a + k) m
  | 0 => by simp [sm]
  | m + 1 => by
    have := sm_add f a k m
    rw [← Nat.add_assoc]
    simp only [sm]
    rw [this, show a + ((k + m : Nat) : Int) + 1 = a + k + m + 1 by omega]; omega
def cnt (c : Cl) (a b : Int) : Int := sm (op c) a (b - a).toNat
theorem cnt_none {c : Cl} {a b : Int} (h : b ≤ a) : cnt c a b = 0 := by unfold cnt; rw [show (b - a).toNat = 0 by omega]; rfl
theorem cnt_succ {c : Cl} {a b : Int} (h : a ≤ b) : cnt c a (b + 1) = cnt c a b + op c (b + 1) := by
  unfold cnt
  rw [show (b + 1 - a).toNat = (b - a).toNat + 1 by omega]
  simp only [sm]
  rw [show a + ((b - a).toNat : Int) + 1 = b + 1 by omega]
theorem cnt_add {c : Cl} {a b d : Int} (h : a ≤ b) (k : b ≤ d) : cnt c a d = cnt c a b + cnt c b d := by
  unfold cnt
  rw [show (d - a).toNat = (b - a).toNat + (d - b).toNat by omega, sm_add, show a + ((b - a).toNat : Int) = b by omega]
theorem cnt_last {c : Cl} {a b : Int} (h : a < b) : cnt c a b = cnt c a (b - 1) + op c b := by
  have := cnt_succ (c := c) (a := a) (b := b - 1) (by omega)
  rwa [show b - 1 + 1 = b by omega] at this
theorem cnt_one (c : Cl) (a : Int) : cnt c a (a + 1) = op c (a + 1) := by rw [cnt_succ (Int.le_refl _), cnt_none (Int.le_refl _)]; omega
theorem cnt_first {c : Cl} {a b : Int} (h : a < b) : cnt c a b = op c (a + 1) + cnt c (a + 1) b := by
  rw [cnt_add (b := a + 1) (by omega) (by omega), cnt_one]
theorem sm_bd (c : Cl) (a : Int) : ∀ k : Nat, 0 ≤ sm (op c) a k ∧ sm (op c) a k ≤ k
  | 0 => by simp [sm]
  | k + 1 => by
    have := sm_bd c a k
    have := op_01 c (a + k + 1)
    simp only [sm]; omega
theorem cnt_bd (c : Cl) (a b : Int) : 0 ≤ cnt c a b ∧ (a ≤ b → cnt c a b ≤ b - a) := by
  have := sm_bd c a (b - a).toNat
  unfold cnt
  exact ⟨this.1, fun h => by omega⟩
theorem cnt_mono {c : Cl} {a b d : Int} (k : b ≤ d) : cnt c a b ≤ cnt c a d := by
  by_cases h : a ≤ b
  · have := cnt_add (c := c) h k; have := cnt_bd c b d; omega
  · rw [cnt_none (by omega)]; exact (cnt_bd c a d).1
theorem cnt_pos {c : Cl} {a b : Int} (h : a < b) (k : op c b = 1) : 1 ≤ cnt c a b := by
  rw [cnt_last h]; have := cnt_bd c a (b - 1); omega
def Up (c : Cl) (a m d : Int) : Prop := a < d ∧ d ≤ 3652058 ∧ op c d = 1 ∧ cnt c a d = m
theorem up_one {c : Cl} {a m d e : Int} (h : Up c a m d) (k : Up c a m e) : d = e := by
  obtain ⟨h1, h2, h3, h4⟩ := h
  obtain ⟨k1, k2, k3, k4⟩ := k
  rcases Int.lt_trichotomy d e with q | q | q
  · have := cnt_add (c := c) (a := a) (b := d) (d := e) (by omega) (by omega); have := cnt_pos q k3; omega
  · exact q
  · have := cnt_add (c := c) (a := a) (b := e) (d := d) (by omega) (by omega); have := cnt_pos q h3; omega
open Classical in
noncomputable def stU (c : Cl) (a m : Int) : Int := if h : ∃ d, Up c a m d then h.choose else -1
theorem stU_is {c : Cl} {a m d : Int} (h : Up c a m d) : stU c a m = d := by
  have e : ∃ d, Up c a m d := ⟨d, h⟩
  unfold stU
  rw [dif_pos e]
  exact up_one e.choose_spec h
theorem stU_no {c : Cl} {a m : Int} (h : cnt c a 3652058 < m) : stU c a m = -1 := by
  unfold stU
  exact dif_neg fun ⟨d, _, h2, _, h4⟩ => by have := cnt_mono (c := c) (a := a) h2; omega
theorem stU_ok {c : Cl} {a m : Int} (h : 0 ≤ stU c a m) : Up c a m (stU c a m) := by
  by_cases e : ∃ d, Up c a m d
  · unfold stU; rw [dif_pos e]; exact e.choose_spec
  · unfold stU at h; rw [dif_neg e] at h; omega
theorem stU_cases {c : Cl} {a m : Int} (ha : -1 ≤ a) : stU c a m = -1 ∨ (0 ≤ stU c a m ∧ Up c a m (stU c a m)) := by
  by_cases e : ∃ d, Up c a m d
  · right
    have : Up c a m (stU c a m) := by unfold stU; rw [dif_pos e]; exact e.choose_spec
    exact ⟨by have := this.1; omega, this⟩
  · left; unfold stU; exact dif_neg e
def Dn (c : Cl) (a m d : Int) : Prop := 0 ≤ d ∧ d < a ∧ op c d = 1 ∧ cnt c (d - 1) (a - 1) = m
theorem dn_one {c : Cl} {a m d e : Int} (h : Dn c a m d) (k : Dn c a m e) : d = e := by
  have key : ∀ d e, d < e → Dn c a m d → Dn c a m e → False := fun d e q ⟨h1, h2, h3, h4⟩ ⟨k1, k2, k3, k4⟩ => by
    have h5 := cnt_add (c := c) (a := d - 1) (b := e - 1) (d := a - 1) (by omega) (by omega)
    have h6 := cnt_first (c := c) (a := d - 1) (b := e - 1) (by omega)
    have h7 := cnt_bd c (d - 1 + 1) (e - 1)
    rw [show d - 1 + 1 = d by omega] at h6 h7
    omega
  rcases Int.lt_trichotomy d e with q | q | q
  · exact (key d e q h k).elim
  · exact q
  · exact (key e d q k h).elim
open Classical in
noncomputable def stD (c : Cl) (a m : Int) : Int := if h : ∃ d, Dn c a m d then h.choose else -1
theorem stD_is {c : Cl} {a m d : Int} (h : Dn c a m d) : stD c a m = d := by
  have e : ∃ d, Dn c a m d := ⟨d, h⟩
  unfold stD
  rw [dif_pos e]
  exact dn_one e.choose_spec h
theorem cnt_mono_l {c : Cl} {a b d : Int} (k : a ≤ b) : cnt c b d ≤ cnt c a d := by
  by_cases h : b ≤ d
  · have := cnt_add (c := c) k h; have := cnt_bd c a b; omega
  · rw [cnt_none (by omega)]; exact (cnt_bd c a d).1
theorem stD_no {c : Cl} {a m : Int} (h : cnt c (-1) (a - 1) < m) : stD c a m = -1 := by
  unfold stD
  exact dif_neg fun ⟨d, h1, h2, _, h4⟩ => by have := cnt_mono_l (c := c) (a := -1) (b := d - 1) (d := a - 1) (by omega); omega
theorem stD_cases (c : Cl) (a m : Int) : stD c a m = -1 ∨ (0 ≤ stD c a m ∧ Dn c a m (stD c a m)) := by
  by_cases e : ∃ d, Dn c a m d
  · right
    have : Dn c a m (stD c a m) := by unfold stD; rw [dif_pos e]; exact e.choose_spec
    exact ⟨this.1, this⟩
  · left; unfold stD; exact dif_neg e
noncomputable def stp (c : Cl) (n m : Int) : Int := if 0 < m then stU c n m else if m < 0 then stD c n (-m) else n
theorem stp_p {c : Cl} {n m : Int} (h : 0 < m) : stp c n m = stU c n m := if_pos h
theorem stp_n {c : Cl} {n m : Int} (h : m < 0) : stp c n m = stD c n (-m) := (if_neg (by omega)).trans (if_pos h)
theorem stp_0 {c : Cl} {n : Int} : stp c n 0 = n := (if_neg (by omega)).trans (if_neg (by omega))
theorem stp_cases {c : Cl} {n m : Int} (hn : Day n) : stp c n m = -1 ∨ Day (stp c n m) := by
  unfold Day at *
  by_cases h : 0 < m
  · rw [stp_p h]
    rcases stU_cases (c := c) (a := n) (m := m) (by omega) with q | ⟨q, _, r, _⟩
    · exact .inl q
    · exact .inr ⟨q, r⟩
  · by_cases k : m < 0
    · rw [stp_n k]
      rcases stD_cases c n (-m) with q | ⟨q, _, r, _⟩
      · exact .inl q
      · exact .inr ⟨q, by omega⟩
    · obtain rfl : m = 0 := by omega
      rw [stp_0]; exact .inr hn
def hc (c : Cl) (a b : Int) : List Int → Int
  | [] => 0
  | h :: r => (if a < h ∧ h ≤ b ∧ wd c h = 1 then 1 else 0) + hc c a b r
def wk (c : Cl) : Int := sm (wd c) (-1) 7
def lb (l : List Int) (x : Int) : Nat := (l.takeWhile (fun y => decide (y < x))).length
theorem lb_is {l : List Int} {x : Int} {i : Nat} (hi : i ≤ l.length) (h1 : ∀ k, k < i → l.getD k default < x) (h2 : ∀ k, i ≤ k → k < l.length → ¬ l.getD k default < x) : lb l x = i := by
  have key : ∀ (l : List Int) (i : Nat), i ≤ l.length → (∀ k, k < i → l.getD k default < x) → (∀ k, i ≤ k → k < l.length → ¬ l.getD k default < x) → lb l x = i := by
    intro l
    induction l with
    | nil => intro i hi _ _; simp at hi; subst hi; rfl
    | cons a r ih =>
      intro i hi h1 h2
      unfold lb
      cases i with
      | zero =>
        have := h2 0 (by omega) (by simp)
        have e : ¬ a < x := by simpa using this
        rw [List.takeWhile_cons, if_neg (by simpa using e)]; rfl
      | succ i =>
        have := h1 0 (by omega)
        have e : a < x := by simpa using this
        rw [List.takeWhile_cons, if_pos (by simpa using e), List.length_cons]
        have := ih i (by simpa using hi) (fun k hk => by simpa using h1 (k + 1) (by omega)) (fun k h3 h4 => by simpa using h2 (k + 1) (by omega) (by simpa using h4))
        unfold lb at this
        rw [this]
  exact key l i hi h1 h2
theorem srt_lt {l : List Int} (h : l.Pairwise (· < ·)) {i j : Nat} (hij : i < j) (hj : j < l.length) : l.getD i default < l.getD j default := by
  rw [getD_at (by omega), getD_at hj]
  exact List.pairwise_iff_getElem.1 h i j (by omega) hj hij
theorem found_is {l : List Int} {x : Int} {i : Nat} (h1 : ∀ k, k < i → l.getD k default < x) (h2 : ∀ k, i ≤ k → k < l.length → ¬ l.getD k default < x) (hs : l.Pairwise (· < ·)) : x ∈ l ↔ (i < l.length ∧ l.getD i default = x) := by
  constructor
  · intro h
    obtain ⟨k, hk, e⟩ := List.getElem_of_mem h
    have e : l.getD k default = x := by rw [getD_at hk]; exact e
    have hik : i ≤ k := by
      rcases Nat.lt_or_ge k i with q | q
      · have := h1 k q; omega
      · exact q
    refine ⟨by omega, ?_⟩
    by_cases q : i = k
    · subst q; exact e
    · have a := srt_lt hs (i := i) (j := k) (by omega) hk
      have b := h2 i (Nat.le_refl _) (by omega)
      omega
  · rintro ⟨a, b⟩
    rw [← b]; exact getD_mem a
def chks (c : Cl) (ds : List Int) : Int := if chk c ≠ 0 then chk c else fb D.chk ds
theorem chks_1 {c : Cl} {ds : List Int} (h : ¬ chk c = 0) : chks c ds = chk c := if_pos h
theorem chks_2 {c : Cl} {ds : List Int} (h : chk c = 0) : chks c ds = fb D.chk ds := if_neg (by omega)
def e1 (c : Cl) (n : Int) : Int := chks c [n]
theorem dchk (n : Int) : (D.chk n = 0 ∧ Day n) ∨ (D.chk n = 3 ∧ ¬ Day n) := by
  by_cases h : Day n
  · exact .inl ⟨D.chk_yes h.1 h.2, h⟩
  · exact .inr ⟨D.chk_no h, h⟩
theorem e1_ok {c : Cl} {n : Int} (h : e1 c n = 0) : Ok c ∧ Day n ∧ chk c = 0 := by
  unfold e1 at h
  by_cases a : chk c = 0
  · rw [chks_2 a] at h
    have := fb_ok h n (by simp)
    rcases dchk n with q | q
    · exact ⟨chk_ok a, q.2, a⟩
    · omega
  · rw [chks_1 a] at h; omega
theorem e1_of {c : Cl} {n : Int} (h : chk c = 0) (k : Day n) : e1 c n = 0 := by
  unfold e1
  rw [chks_2 h]
  exact fb_yes fun d hd => by rw [List.mem_singleton] at hd; subst hd; exact D.chk_yes k.1 k.2
theorem e1_2 {c : Cl} {n : Int} (h : chk c = 0) (k : ¬ Day n) : e1 c n = 3 := by
  unfold e1
  rw [chks_2 h]
  have e := D.chk_no k
  show (if D.chk n ≠ 0 then D.chk n else _) = 3
  rw [if_pos (by omega), e]
def isV (c : Cl) (n : Int) : Bool := decide (e1 c n = 0 ∧ op c n = 1)
def toV (d : Int) : Int := if d < 0 then 0 else d
def toE (d : Int) : Int := if d < 0 then 8 else 0
noncomputable def neV (c : Cl) (n : Int) : Int := if e1 c n ≠ 0 then 0 else toV (stU c (n - 1) 1)
noncomputable def neE (c : Cl) (n : Int) : Int := if e1 c n ≠ 0 then e1 c n else toE (stU c (n - 1) 1)
def sE0 (c : Cl) (n m : Int) : Int := if e1 c n ≠ 0 then e1 c n else if m < -500 ∨ 500 < m then 3 else 0
theorem sE0_ok {c : Cl} {n m : Int} (h : sE0 c n m = 0) : e1 c n = 0 ∧ -500 ≤ m ∧ m ≤ 500 := by
  unfold sE0 at h
  split at h
  · exact absurd h ‹_›
  · split at h
    · omega
    · exact ⟨by omega, by omega, by omega⟩
noncomputable def sV (c : Cl) (n m : Int) : Int := if sE0 c n m ≠ 0 then 0 else toV (stp c n m)
noncomputable def sE (c : Cl) (n m : Int) : Int := if sE0 c n m ≠ 0 then sE0 c n m else toE (stp c n m)
def coE (c : Cl) (a b : Int) : Int := if chks c [a, b] ≠ 0 then chks c [a, b] else if b < a then 1 else 0
def coV (c : Cl) (a b : Int) : Int := if coE c a b = 0 then cnt c a b else 0
theorem coE_of {c : Cl} {a b : Int} (h : chk c = 0) (ha : Day a) (hb : Day b) (hab : a ≤ b) : coE c a b = 0 := by
  have : chks c [a, b] = 0 := by
    rw [chks_2 h]
    exact fb_yes fun d hd => by
      simp only [List.mem_cons, List.not_mem_nil, or_false] at hd
      rcases hd with rfl | rfl
      · exact D.chk_yes ha.1 ha.2
      · exact D.chk_yes hb.1 hb.2
  unfold coE
  rw [if_neg (by omega), if_neg (by omega)]
theorem eAt_cases {hs : List Int} {k : Nat} {x last : Int} (hx : x = hs.getD k default) (hl : last = if k = 0 then -1 else hs.getD (k - 1) default) :
    (¬ Day x → eAt hs k = 3) ∧ (Day x → x = last → eAt hs k = 6) ∧ (Day x → ¬ x = last → x < last → eAt hs k = 4) ∧ (Day x → ¬ x = last → ¬ x < last → eAt hs k = 0) := by
  subst hx
  unfold eAt Day
  by_cases hk : k = 0
  · subst hk
    rw [if_pos rfl] at hl
    refine ⟨fun h => if_pos h, fun h e => by omega, fun h e q => by omega, fun h e q => ?_⟩
    rw [if_neg (fun z => z h), if_neg (by omega), if_neg (by omega)]
  · rw [if_neg hk] at hl
    refine ⟨fun h => if_pos h, fun h e => ?_, fun h e q => ?_, fun h e q => ?_⟩
    · rw [if_neg (fun z => z h), if_pos (by omega)]
    · rw [if_neg (fun z => z h), if_neg (by omega), if_pos (by omega)]
    · rw [if_neg (fun z => z h), if_neg (by omega), if_neg (by omega)]
end Ca
end Go.Proofs.YtpanlcnoopmchaaGreat

namespace Go.Proofs.YtpanlcnoopmchaaGreat
namespace Bk
def wadd (s : Int × Int) (n : Int) : Int × Int := (s.1 + (s.2 + n).tdiv 1152921504606846976, (s.2 + n).tmod 1152921504606846976)
def wst (l : List Int) : Int × Int := l.foldl wadd (0, 0)
theorem wst_snoc (l : List Int) (n : Int) : wst (l ++ [n]) = wadd (wst l) n := by unfold wst; rw [List.foldl_append]; rfl
theorem tdm (x : Int) : x.tdiv 1152921504606846976 * 1152921504606846976 + x.tmod 1152921504606846976 = x ∧ -1152921504606846976 < x.tmod 1152921504606846976 ∧ x.tmod 1152921504606846976 < 1152921504606846976 ∧ (0 ≤ x → 0 ≤ x.tmod 1152921504606846976) ∧ (x ≤ 0 → x.tmod 1152921504606846976 ≤ 0) := by
  refine ⟨by have := Int.mul_tdiv_add_tmod x 1152921504606846976; omega, ?_, ?_, fun h => Int.tmod_nonneg _ h, fun h => ?_⟩
  · have := Int.lt_tmod_of_pos x (show (0 : Int) < 1152921504606846976 by decide); omega
  · exact Int.tmod_lt_of_pos x (by decide)
  · have := Int.tmod_nonneg (a := -x) 1152921504606846976 (by omega)
    rw [Int.neg_tmod] at this
    omega
theorem wadd_spec {s : Int × Int} {n : Int} (h1 : -1152921504606846976 < s.2 ∧ s.2 < 1152921504606846976) (hn : M.Amt n) : (wadd s n).1 * 1152921504606846976 + (wadd s n).2 = s.1 * 1152921504606846976 + s.2 + n ∧ (-1152921504606846976 < (wadd s n).2 ∧ (wadd s n).2 < 1152921504606846976) ∧ s.1 - 1 ≤ (wadd s n).1 ∧ (wadd s n).1 ≤ s.1 + 1 := by
  have d := tdm (s.2 + n)
  unfold M.Amt at hn
  unfold wadd
  simp only
  generalize (s.2 + n).tdiv 1152921504606846976 = q at *
  generalize (s.2 + n).tmod 1152921504606846976 = r at *
  omega
theorem wfold : ∀ (l : List Int) (s : Int × Int), (-1152921504606846976 < s.2 ∧ s.2 < 1152921504606846976) → (∀ a ∈ l, M.Amt a) → (l.foldl wadd s).1 * 1152921504606846976 + (l.foldl wadd s).2 = s.1 * 1152921504606846976 + s.2 + M.sum l ∧ (-1152921504606846976 < (l.foldl wadd s).2 ∧ (l.foldl wadd s).2 < 1152921504606846976) ∧ s.1 - l.length ≤ (l.foldl wadd s).1 ∧ (l.foldl wadd s).1 ≤ s.1 + l.length
  | [], s, h, _ => by simp [M.sum]; omega
  | a :: r, s, h, ha => by
    obtain ⟨w1, w2, w3⟩ := wadd_spec h (ha a (by simp))
    obtain ⟨i1, i2, i3⟩ := wfold r (wadd s a) w2 fun x hx => ha x (by simp [hx])
    simp only [List.foldl_cons, M.sum, List.length_cons]
    refine ⟨by omega, i2, by omega, by omega⟩
theorem wst_spec (l : List Int) (h : ∀ a ∈ l, M.Amt a) : (wst l).1 * 1152921504606846976 + (wst l).2 = M.sum l ∧ (-1152921504606846976 < (wst l).2 ∧ (wst l).2 < 1152921504606846976) ∧ -(l.length : Int) ≤ (wst l).1 ∧ (wst l).1 ≤ l.length := by
  obtain ⟨a, b, c⟩ := wfold l (0, 0) (by decide) h
  refine ⟨by unfold wst; simpa using a, b, ?_⟩
  unfold wst
  simp only at c
  omega
def Right (p : Po) : Prop := ((0 ≤ p.ac ∧ p.ac ≤ 100) ∧ (0 ≤ p.ut ∧ p.ut ≤ 20)) ∧ M.Amt p.am ∧ p.am ≠ 0
instance (p : Po) : Decidable (Right p) := by unfold Right M.Amt; exact inferInstance
def amu (l : List Po) (u : Nat) : List Int := (l.filter fun p => decide (p.ut = (u : Int))).map (·.am)
theorem amu_snoc (l : List Po) (p : Po) (u : Nat) : amu (l ++ [p]) u = amu l u ++ if p.ut = (u : Int) then [p.am] else [] := by
  unfold amu
  rw [List.filter_append, List.map_append]
  congr 1
  by_cases h : p.ut = (u : Int)
  · rw [if_pos h]; simp [h]
  · rw [if_neg h]; simp [h]
theorem amu_amt {l : List Po} (h : ∀ p ∈ l, Right p) (u : Nat) : ∀ a ∈ amu l u, M.Amt a := fun a ha => by
  obtain ⟨p, hp, rfl⟩ := List.mem_map.1 ha
  exact (h p (List.mem_filter.1 hp).1).2.1
theorem amu_len (l : List Po) (u : Nat) : (amu l u).length ≤ l.length := by
  unfold amu
  rw [List.length_map]
  exact List.length_filter_le _ _
def even (l : List Po) : Bool := (List.range 21).all fun u => decide (M.sum (amu l u) = 0)
theorem even_iff (l : List Po) : even l = true ↔ ∀ u, u < 21 → M.sum (amu l u) = 0 := by
  unfold even
  rw [List.all_eq_true]
  exact ⟨fun h u hu => by simpa using h u (List.mem_range.2 hu), fun h u hu => by simpa using h u (List.mem_range.1 hu)⟩
def bad (p : Po) : Bool := !decide (Right p)
def chk (l : List Po) : Int := if l.length = 0 then 1 else if 60 < l.length then 2 else if 0 ≤ ixf bad l then 3 else if even l = true then 0 else 4
theorem chk_cases (l : List Po) : (l.length = 0 ∧ chk l = 1) ∨ (60 < l.length ∧ chk l = 2) ∨ ((0 < l.length ∧ l.length ≤ 60) ∧ 0 ≤ ixf bad l ∧ chk l = 3) ∨ ((0 < l.length ∧ l.length ≤ 60) ∧ ixf bad l < 0 ∧ (∀ p ∈ l, Right p) ∧ even l = false ∧ chk l = 4) ∨ ((0 < l.length ∧ l.length ≤ 60) ∧ ixf bad l < 0 ∧ (∀ p ∈ l, Right p) ∧ even l = true ∧ chk l = 0) := by
  unfold chk
  by_cases h1 : l.length = 0
  · rw [if_pos h1]; exact .inl ⟨h1, rfl⟩
  rw [if_neg h1]
  by_cases h2 : 60 < l.length
  · rw [if_pos h2]; exact .inr (.inl ⟨h2, rfl⟩)
  rw [if_neg h2]
  by_cases h3 : 0 ≤ ixf bad l
  · rw [if_pos h3]; exact .inr (.inr (.inl ⟨by omega, h3, rfl⟩))
  rw [if_neg h3]
  have hr : ∀ p ∈ l, Right p := fun p hp => by
    rcases ixf_cases bad l with ⟨_, a⟩ | ⟨k, e, _⟩
    · have := a p hp
      unfold bad at this
      simpa using this
    · omega
  cases h4 : even l
  · rw [if_neg (by decide)]; exact .inr (.inr (.inr (.inl ⟨by omega, by omega, hr, rfl, rfl⟩)))
  · rw [if_pos rfl]; exact .inr (.inr (.inr (.inr ⟨by omega, by omega, hr, rfl, rfl⟩)))
def lx (p q : Po) : Bool := decide (p.ac < q.ac ∨ (p.ac = q.ac ∧ p.ut < q.ut))
def eAt (b : List Po) (k : Nat) : Int := if ¬ Right (b.getD k default) then 3 else if 0 < k ∧ lx (b.getD (k - 1) default) (b.getD k default) = false then 4 else 0
def lines (b : List Po) : Int := if 400 < b.length then 2 else if Ca.fe (eAt b) b.length ≠ 0 then Ca.fe (eAt b) b.length else if even b = true then 0 else 4
structure Lines (b : List Po) : Prop where
  le : b.length ≤ 400
  r : ∀ p ∈ b, Right p
  s : b.Pairwise fun p q => lx p q = true
theorem lx_trans {p q r : Po} (h1 : lx p q = true) (h2 : lx q r = true) : lx p r = true := by
  unfold lx at *
  simp only [decide_eq_true_eq] at *
  omega
theorem fe_ok {b : List Po} (n : b.length ≤ 400) (h : Ca.fe (eAt b) b.length = 0) : Lines b := by
  have a := Ca.fe_ok h
  have e : ∀ k, k < b.length → Right (b.getD k default) ∧ (0 < k → lx (b.getD (k - 1) default) (b.getD k default) = true) := fun k hk => by
    have := a k hk
    unfold eAt at this
    split at this
    · omega
    · rename_i q
      split at this
      · omega
      · rename_i r
        refine ⟨Classical.not_not.1 q, fun h0 => ?_⟩
        cases z : lx (b.getD (k - 1) default) (b.getD k default)
        · exact absurd ⟨h0, z⟩ r
        · rfl
  refine ⟨n, fun p hp => ?_, List.pairwise_iff_getElem.2 fun i j hi hj hij => ?_⟩
  · obtain ⟨i, hi, rfl⟩ := List.getElem_of_mem hp
    rw [← getD_at hi]
    exact (e i hi).1
  · have st : ∀ m, i < m → m < b.length → lx (b.getD i default) (b.getD m default) = true := by
      intro m
      induction m with
      | zero => intro h; omega
      | succ m ih =>
        intro h1 h2
        have h3 := (e (m + 1) h2).2 (by omega)
        rw [Nat.add_sub_cancel] at h3
        by_cases z : i = m
        · subst z; exact h3
        · exact lx_trans (ih (by omega) (by omega)) h3
    have := st j hij hj
    rwa [getD_at hi, getD_at hj] at this
theorem ok_fe {b : List Po} (h : Lines b) : Ca.fe (eAt b) b.length = 0 := Ca.fe_end fun k hk => by
  unfold eAt
  rw [if_neg (fun z => z (h.r _ (getD_mem hk))), if_neg]
  rintro ⟨h0, h1⟩
  have := List.pairwise_iff_getElem.1 h.s (k - 1) k (by omega) hk (by omega)
  rw [← getD_at (l := b) (k := k - 1) (by omega), ← getD_at hk, h1] at this
  cases this
theorem lines_cases (b : List Po) : (400 < b.length ∧ lines b = 2) ∨ (b.length ≤ 400 ∧ Ca.fe (eAt b) b.length ≠ 0 ∧ lines b = Ca.fe (eAt b) b.length) ∨ (Ca.fe (eAt b) b.length = 0 ∧ Lines b ∧ even b = false ∧ lines b = 4) ∨ (Ca.fe (eAt b) b.length = 0 ∧ Lines b ∧ even b = true ∧ lines b = 0) := by
  unfold lines
  by_cases h1 : 400 < b.length
  · rw [if_pos h1]; exact .inl ⟨h1, rfl⟩
  rw [if_neg h1]
  by_cases h2 : Ca.fe (eAt b) b.length = 0
  · rw [if_neg (fun z => z h2)]
    have l := fe_ok (by omega) h2
    cases h3 : even b
    · rw [if_neg (by decide)]; exact .inr (.inr (.inl ⟨h2, l, rfl, rfl⟩))
    · rw [if_pos rfl]; exact .inr (.inr (.inr ⟨h2, l, rfl, rfl⟩))
  · rw [if_pos h2]; exact .inr (.inl ⟨by omega, h2, rfl⟩)
theorem lines_0 {b : List Po} (h : lines b = 0) : Lines b ∧ even b = true := by
  rcases lines_cases b with ⟨_, e⟩ | ⟨_, a, e⟩ | ⟨_, _, _, e⟩ | ⟨_, l, e, _⟩
  · omega
  · omega
  · omega
  · exact ⟨l, e⟩
theorem lines_is {b : List Po} (l : Lines b) (e : even b = true) : lines b = 0 := by
  unfold lines
  rw [if_neg (by have := l.le; omega), if_neg (fun z => z (ok_fe l)), if_pos e]
theorem chk_0 {l : List Po} (h : chk l = 0) : (0 < l.length ∧ l.length ≤ 60) ∧ (∀ p ∈ l, Right p) ∧ even l = true := by
  rcases chk_cases l with ⟨_, e⟩ | ⟨_, e⟩ | ⟨_, _, e⟩ | ⟨_, _, _, _, e⟩ | ⟨a, _, b, c, _⟩
  · omega
  · omega
  · omega
  · omega
  · exact ⟨a, b, c⟩
theorem chk_is {l : List Po} (n : 0 < l.length ∧ l.length ≤ 60) (r : ∀ p ∈ l, Right p) (e : even l = true) : chk l = 0 := by
  rcases chk_cases l with ⟨a, _⟩ | ⟨a, _⟩ | ⟨_, a, _⟩ | ⟨_, _, _, a, _⟩ | ⟨_, _, _, _, a⟩
  · omega
  · omega
  · exfalso
    rcases ixf_cases bad l with ⟨e, _⟩ | ⟨k, _, hk, hp, _⟩
    · omega
    · have := r _ (getD_mem hk)
      unfold bad at hp
      simp only [Bool.not_eq_true', decide_eq_false_iff_not] at hp
      exact hp this
  · rw [e] at a; cases a
  · exact a
end Bk
end Go.Proofs.YtpanlcnoopmchaaGreat

namespace Go.Proofs.YtpanlcnoopmchaaGreat
namespace Nt
def one (p : Nat) (d : Du) : List Int := (if d.fr = (p : Int) then [-d.am] else []) ++ (if d.to = (p : Int) then [d.am] else [])
def part (l : List Du) (p : Nat) : List Int := l.flatMap (one p)
theorem part_snoc (l : List Du) (d : Du) (p : Nat) : part (l ++ [d]) p = part l p ++ one p d := by
  unfold part; simp
theorem part_take {l : List Du} {k : Nat} (h : k < l.length) (p : Nat) : part (l.take (k + 1)) p = part (l.take k) p ++ one p (l.getD k default) := by
  rw [List.take_succ_eq_append_getElem h, part_snoc, getD_at h]
theorem one_len (p : Nat) (d : Du) : (one p d).length ≤ 2 := by
  unfold one; split <;> split <;> simp
theorem part_len : ∀ (l : List Du) (p : Nat), (part l p).length ≤ 2 * l.length
  | [], _ => by simp [part]
  | d :: r, p => by
    have := part_len r p
    have := one_len p d
    have e : part (d :: r) p = one p d ++ part r p := rfl
    rw [e, List.length_append, List.length_cons]
    omega
theorem part_mem {l : List Du} {p : Nat} {a : Int} (h : a ∈ part l p) : ∃ d ∈ l, a = d.am ∨ a = -d.am := by
  unfold part at h
  obtain ⟨d, hd, ha⟩ := List.mem_flatMap.1 h
  refine ⟨d, hd, ?_⟩
  unfold one at ha
  rcases List.mem_append.1 ha with h | h <;> split at h <;> simp at h
  · exact .inr h
  · exact .inl h
theorem part_amt {l : List Du} (h : ∀ d ∈ l, N.ck1 d = 0) {p : Nat} : ∀ a ∈ part l p, M.Amt a := fun a ha => by
  obtain ⟨d, hd, e⟩ := part_mem ha
  have := N.ck_ok (h d hd)
  unfold M.Amt
  omega
def tov (l : List Int) : Int := if (Bk.wst l).1 < -2 ∨ 2 < (Bk.wst l).1 then 0 else M.sum l
theorem tov_amt {l : List Int} (h : ∀ a ∈ l, M.Amt a) (s : M.Amt (M.sum l)) : tov l = M.sum l := by
  obtain ⟨w1, w2, w3⟩ := Bk.wst_spec l h
  unfold M.Amt at s
  exact if_neg (by omega)
def sums (l : List Du) (k : Nat) : List Int := (List.range k).map fun p => M.sum (part l p)
def Wide (l : List Du) : Prop := ∀ p, p < 31 → M.Amt (M.sum (part l p))
instance (a : Int) : Decidable (M.Amt a) := by unfold M.Amt; exact inferInstance
instance (l : List Du) : Decidable (Wide l) := by unfold Wide; exact inferInstance
def stE (l : List Du) : Int := if N.chk l ≠ 0 then N.chk l else if Wide l then 0 else 8
def st (l : List Du) : List Int := if stE l = 0 then sums l 31 else []
theorem stE_ok {l : List Du} (h : N.chk l = 0) (w : Wide l) : stE l = 0 := (if_neg (by omega)).trans (if_pos w)
theorem stE_no {l : List Du} (h : N.chk l = 0) (w : ¬ Wide l) : stE l = 8 := (if_neg (by omega)).trans (if_neg w)
def two (p q : Int) (d : Du) : List Int := (if d.to = p ∧ (q < 0 ∨ d.fr = q) then [d.am] else []) ++ (if d.fr = p ∧ (q < 0 ∨ d.to = q) then [-d.am] else [])
def due (l : List Du) (p q : Int) : List Int := l.flatMap (two p q)
theorem due_snoc (l : List Du) (d : Du) (p q : Int) : due (l ++ [d]) p q = due l p q ++ two p q d := by
  unfold due; simp
theorem due_take {l : List Du} {k : Nat} (h : k < l.length) (p q : Int) : due (l.take (k + 1)) p q = due (l.take k) p q ++ two p q (l.getD k default) := by
  rw [List.take_succ_eq_append_getElem h, due_snoc, getD_at h]
theorem two_len (p q : Int) (d : Du) : (two p q d).length ≤ 2 := by
  unfold two; split <;> split <;> simp
theorem due_len : ∀ (l : List Du) (p q : Int), (due l p q).length ≤ 2 * l.length
  | [], _, _ => by simp [due]
  | d :: r, p, q => by
    have := due_len r p q
    have := two_len p q d
    have e : due (d :: r) p q = two p q d ++ due r p q := rfl
    rw [e, List.length_append, List.length_cons]
    omega
theorem due_mem {l : List Du} {p q : Int} {a : Int} (h : a ∈ due l p q) : ∃ d ∈ l, a = d.am ∨ a = -d.am := by
  unfold due at h
  obtain ⟨d, hd, ha⟩ := List.mem_flatMap.1 h
  refine ⟨d, hd, ?_⟩
  unfold two at ha
  rcases List.mem_append.1 ha with h | h <;> split at h <;> simp at h
  · exact .inl h
  · exact .inr h
theorem due_amt {l : List Du} (h : ∀ d ∈ l, N.ck1 d = 0) {p q : Int} : ∀ a ∈ due l p q, M.Amt a := fun a ha => by
  obtain ⟨d, hd, e⟩ := due_mem ha
  have := N.ck_ok (h d hd)
  unfold M.Amt
  omega
theorem due_part {l : List Du} (h : ∀ d ∈ l, N.ck1 d = 0) (p : Nat) : due l p (-1) = part l p := by
  unfold due part
  rw [List.flatMap_def, List.flatMap_def]
  refine congrArg List.flatten (List.map_congr_left fun d hd => ?_)
  have := N.ck_ok (h d hd)
  unfold two one
  by_cases e : d.to = (p : Int)
  · rw [if_pos ⟨e, by omega⟩, if_neg (by omega), if_neg (by omega), if_pos e]
    rfl
  · by_cases e2 : d.fr = (p : Int)
    · rw [if_neg (by omega), if_pos ⟨e2, by omega⟩, if_pos e2, if_neg e]
      rfl
    · rw [if_neg (by omega), if_neg (by omega), if_neg e2, if_neg e]
theorem sums_snoc (l : List Du) (k : Nat) : sums l (k + 1) = sums l k ++ [M.sum (part l k)] := by
  unfold sums; rw [List.range_succ, List.map_append]; rfl
theorem sof_amt {l : List Int} (h : M.Amt (M.sum l)) : M.sofV l = M.sum l := by
  unfold M.Amt at h
  exact if_pos (by omega)
end Nt
end Go.Proofs.YtpanlcnoopmchaaGreat

namespace Go.Proofs.YtpanlcnoopmchaaGreat.V
theorem too_great {a b u d q r : Nat} (h : q * a + r = u) : (r * 4294967296 + d < q * b) ↔ (u * 4294967296 + d < q * (a * 4294967296 + b)) := by
  have e : q * (a * 4294967296 + b) = q * a * 4294967296 + q * b := by rw [Nat.mul_add, Nat.mul_assoc]
  rw [e, ← h, Nat.add_mul]
  omega
theorem digit_le {V N q : Nat} (hb : N < q * V) : N / V ≤ q - 1 := by
  have h1 : N / V < q := Nat.div_lt_of_lt_mul (by rw [Nat.mul_comm]; exact hb)
  omega
theorem digit_eq {V N q : Nat} (h : N / V ≤ q) (hb : ¬ N < q * V) (hV : 0 < V) : q = N / V := by
  have h1 : q ≤ N / V := (Nat.le_div_iff_mul_le hV).2 (by omega)
  omega
theorem guess_ge {a b u d : Nat} (ha : 0 < a) (hd : d < 4294967296) : (u * 4294967296 + d) / (a * 4294967296 + b) ≤ u / a := by
  apply Nat.le_of_lt_succ
  apply Nat.div_lt_of_lt_mul
  have h1 : u < a * (u / a + 1) := by have := Nat.lt_mul_div_succ u ha; exact this
  have h2 : (u + 1) * 4294967296 ≤ a * (u / a + 1) * 4294967296 := Nat.mul_le_mul_right _ h1
  have h3 : (a * 4294967296 + b) * (u / a + 1) = a * (u / a + 1) * 4294967296 + b * (u / a + 1) := by
    rw [Nat.add_mul]; congr 1; rw [Nat.mul_assoc, Nat.mul_comm 4294967296, ← Nat.mul_assoc]
  show u * 4294967296 + d < (a * 4294967296 + b) * (u / a + 1)
  rw [h3]; omega
theorem wide_great {V u d q : Nat} (hu : u < V) (hd : d < 4294967296) (hq : 4294967296 ≤ q) : u * 4294967296 + d < q * V := by
  have h1 : (u + 1) * 4294967296 ≤ V * 4294967296 := Nat.mul_le_mul_right _ hu
  have h2 : 4294967296 * V ≤ q * V := Nat.mul_le_mul_right _ hq
  have h3 : 4294967296 * V = V * 4294967296 := Nat.mul_comm _ _
  omega
theorem wide_rest {a b u d q r : Nat} (h : q * a + r = u) (hu : u < a * 4294967296 + b) (hb : b < 4294967296) (hr : 4294967296 ≤ r) : q < 4294967296 ∧ ¬ u * 4294967296 + d < q * (a * 4294967296 + b) := by
  have hq : q < 4294967296 := by
    apply Classical.byContradiction; intro hc
    have h1 : 4294967296 * a ≤ q * a := Nat.mul_le_mul_right _ (by omega)
    have h2 : 4294967296 * a = a * 4294967296 := Nat.mul_comm _ _
    omega
  refine ⟨hq, ?_⟩
  rw [← too_great h]
  have h3 : q * b ≤ 4294967295 * b := Nat.mul_le_mul_right _ (by omega)
  omega
theorem two_digits_ {K V N d0 : Nat} (hV : 0 < V) : (N / V) * K + ((N % V) * K + d0) / V = (N * K + d0) / V ∧ ((N % V) * K + d0) % V = (N * K + d0) % V := by
  have h := Nat.div_add_mod N V
  generalize N / V = q1 at *
  generalize N % V = r1 at *
  have e : N * K + d0 = (r1 * K + d0) + V * (q1 * K) := by
    rw [← h, Nat.add_mul, Nat.mul_assoc]; omega
  rw [e, Nat.add_mul_div_left _ _ hV, Nat.add_mul_mod_self_left]
  exact ⟨by omega, rfl⟩
theorem shift_div {N y s : Nat} (hs : 0 < s) : (N * s) / (y * s) = N / y ∧ (N * s) % (y * s) / s = N % y := by
  refine ⟨Nat.mul_div_mul_right _ _ hs, ?_⟩
  rw [Nat.mul_mod_mul_right]
  exact Nat.mul_div_cancel _ hs
end Go.Proofs.YtpanlcnoopmchaaGreat.V

namespace Go.Proofs.YtpanlcnoopmchaaGreat.V
open Go.Lib
theorem bl : ∀ (f x : Nat), x ≠ 0 → x < 2 ^ f → f ≤ 64 → 1 ≤ Lib.bitLen x ∧ Lib.bitLen x ≤ f ∧ 2 ^ (Lib.bitLen x - 1) ≤ x ∧ x < 2 ^ Lib.bitLen x
  | 0, x, h0, h, _ => by simp at h; exact absurd h h0
  | f + 1, x, h0, h, hf => by
    have h64 : x < 2 ^ 64 := Nat.lt_of_lt_of_le h (Nat.pow_le_pow_right (by omega) hf)
    rw [Lib.bitLen_half x h0 h64]
    by_cases hx : x / 2 = 0
    · have : x = 1 := by omega
      subst this
      rw [hx]
      have e : Lib.bitLen 0 = 0 := rfl
      rw [e]
      exact ⟨by omega, by omega, by decide, by decide⟩
    · have hlt : x / 2 < 2 ^ f := by rw [Nat.pow_succ] at h; omega
      obtain ⟨a, b, c, d⟩ := bl f (x / 2) hx hlt (by omega)
      generalize Lib.bitLen (x / 2) = k at *
      obtain ⟨j, rfl⟩ : ∃ j, k = j + 1 := ⟨k - 1, by omega⟩
      have e1 : 1 + (j + 1) - 1 = j + 1 := by omega
      have e2 : j + 1 - 1 = j := by omega
      rw [e1]
      rw [e2] at c
      have e3 : (2 : Nat) ^ (1 + (j + 1)) = 2 ^ (j + 1) * 2 := by rw [Nat.add_comm, Nat.pow_succ]
      rw [e3]
      have e4 : (2 : Nat) ^ (j + 1) = 2 ^ j * 2 := Nat.pow_succ ..
      refine ⟨by omega, by omega, by omega, by omega⟩
theorem lead {y : Nat} (h0 : y ≠ 0) (h : y < 18446744073709551616) : Lib.bitLen y ≤ 64 ∧ 1 ≤ Lib.bitLen y ∧ 9223372036854775808 ≤ y * 2 ^ (64 - Lib.bitLen y) ∧ y * 2 ^ (64 - Lib.bitLen y) < 18446744073709551616 := by
  obtain ⟨a, b, c, d⟩ := bl 64 y h0 h (Nat.le_refl _)
  have e1 : 2 ^ (Lib.bitLen y - 1) * 2 ^ (64 - Lib.bitLen y) = 9223372036854775808 := by
    rw [← Nat.pow_add, show Lib.bitLen y - 1 + (64 - Lib.bitLen y) = 63 from by omega]
  have e2 : 2 ^ Lib.bitLen y * 2 ^ (64 - Lib.bitLen y) = 18446744073709551616 := by
    rw [← Nat.pow_add, show Lib.bitLen y + (64 - Lib.bitLen y) = 64 from by omega]
  have hp : 0 < 2 ^ (64 - Lib.bitLen y) := Nat.pow_pos (by omega)
  refine ⟨b, a, ?_, ?_⟩
  · rw [← e1]; exact Nat.mul_le_mul_right _ c
  · rw [← e2]; exact Nat.mul_lt_mul_of_pos_right d hp
end Go.Proofs.YtpanlcnoopmchaaGreat.V

namespace Go.Proofs.YtpanlcnoopmchaaGreat.V
theorem step_eq {a u q r q' r' : Nat} (h : q * a + r = u) (hq : 1 ≤ q) (e1 : q' = q - 1) (e2 : r' = r + a) : q' * a + r' = u := by
  obtain ⟨k, rfl⟩ : ∃ k, q = k + 1 := ⟨q - 1, by omega⟩
  have : q' = k := by omega
  subst this
  rw [e2, ← h, Nat.add_mul]
  omega
theorem rem_wrap {u d Q Y : Nat} (hq : Q = (u * 4294967296 + d) / Y) (hY : 0 < Y) (hY2 : Y < 18446744073709551616) :
    ((((u : Int) * 4294967296 % 18446744073709551616 + (d : Int)) % 18446744073709551616 - (Q : Int) * (Y : Int) % 18446744073709551616) % 18446744073709551616) = (((u * 4294967296 + d) % Y : Nat) : Int) := by
  have h := Nat.div_add_mod (u * 4294967296 + d) Y
  have h2 := Nat.mod_lt (u * 4294967296 + d) hY
  rw [← hq] at h
  generalize (u * 4294967296 + d) % Y = m at *
  have e : (Q : Int) * (Y : Int) = ((Y * Q : Nat) : Int) := by simp [Int.mul_comm]
  rw [e]
  generalize Y * Q = z at *
  omega
theorem final_ {K W hi lo y s u d1 d0 V' Y : Nat} (hW : W = K * K) (hY : Y = y * 2 ^ s) (hy : 0 < Y) (hU : u * W + V' = (hi * W + lo) * 2 ^ s) (hV : V' = d1 * K + d0) :
    ((u * K + d1) / Y) * K + (((u * K + d1) % Y) * K + d0) / Y = (hi * W + lo) / y ∧ ((((u * K + d1) % Y) * K + d0) % Y) / 2 ^ s = (hi * W + lo) % y := by
  obtain ⟨t1, t2⟩ := two_digits_ (K := K) (V := Y) (N := u * K + d1) (d0 := d0) hy
  have e : (u * K + d1) * K + d0 = (hi * W + lo) * 2 ^ s := by rw [← hU, hV, hW, Nat.add_mul, Nat.mul_assoc]; omega
  rw [e, hY] at t1 t2
  obtain ⟨g1, g2⟩ := shift_div (N := hi * W + lo) (y := y) (s := 2 ^ s) (Nat.pow_pos (by omega))
  rw [hY]
  exact ⟨t1.trans g1, by rw [t2]; exact g2⟩
theorem final {hi lo y s u d1 d0 V' Y : Nat} (hY : Y = y * 2 ^ s) (hy : 0 < Y) (hU : u * 18446744073709551616 + V' = (hi * 18446744073709551616 + lo) * 2 ^ s) (hV : V' = d1 * 4294967296 + d0) :
    ((u * 4294967296 + d1) / Y) * 4294967296 + (((u * 4294967296 + d1) % Y) * 4294967296 + d0) / Y = (hi * 18446744073709551616 + lo) / y ∧
    ((((u * 4294967296 + d1) % Y) * 4294967296 + d0) % Y) / 2 ^ s = (hi * 18446744073709551616 + lo) % y := final_ (by omega) hY hy hU hV
theorem lt_words_ {K hi lo y : Nat} (h1 : hi < y) (h2 : lo < K) : hi * K + lo < y * K := by
  have h : (hi + 1) * K ≤ y * K := Nat.mul_le_mul_right _ h1
  rw [Nat.add_mul] at h; omega
theorem lt_words {hi lo y : Nat} (h1 : hi < y) (h2 : lo < 18446744073709551616) : hi * 18446744073709551616 + lo < y * 18446744073709551616 := lt_words_ h1 h2
theorem or_add {h l s : Nat} (hl : l < 2 ^ s) : (h * 2 ^ s) ||| l = h * 2 ^ s + l := by
  have := Nat.shiftLeft_add_eq_or_of_lt hl h
  rw [Nat.shiftLeft_eq] at this
  exact this.symm
theorem words_ {hi lo A B K : Nat} (hp : 0 < B) (e : A * B = K) : (hi * B + lo / A) * K + lo * B % K = (hi * K + lo) * B := by
  have hd : lo * B / K = lo / A := by rw [← e]; exact Nat.mul_div_mul_right _ _ hp
  have hdm := Nat.div_add_mod (lo * B) K
  rw [hd] at hdm
  rw [Nat.add_mul, Nat.add_mul, Nat.mul_assoc hi K B, Nat.mul_comm K B, ← Nat.mul_assoc hi B K, Nat.mul_comm (lo / A) K]
  omega
theorem words {hi lo y s : Nat} (hs : s ≤ 63) (h1 : hi < y) (h2 : lo < 18446744073709551616) (h4 : y * 2 ^ s < 18446744073709551616) :
    hi * 2 ^ s < 18446744073709551616 ∧ lo / 2 ^ (64 - s) < 2 ^ s ∧ hi * 2 ^ s + lo / 2 ^ (64 - s) < y * 2 ^ s ∧
    (hi * 2 ^ s + lo / 2 ^ (64 - s)) * 18446744073709551616 + lo * 2 ^ s % 18446744073709551616 = (hi * 18446744073709551616 + lo) * 2 ^ s := by
  have hp : 0 < 2 ^ s := Nat.pow_pos (by omega)
  have e : 2 ^ (64 - s) * 2 ^ s = 18446744073709551616 := by rw [← Nat.pow_add, show 64 - s + s = 64 from by omega]
  have hl : lo / 2 ^ (64 - s) < 2 ^ s := Nat.div_lt_of_lt_mul (by rw [e]; exact h2)
  have hm : (hi + 1) * 2 ^ s ≤ y * 2 ^ s := Nat.mul_le_mul_right _ h1
  rw [Nat.add_mul] at hm
  exact ⟨by omega, hl, by omega, words_ hp e⟩
end Go.Proofs.YtpanlcnoopmchaaGreat.V

namespace Go.Proofs.YtpanlcnoopmchaaGreat
open Go.RowKit
set_option maxHeartbeats 2000000
theorem wrapn {a : Nat} (h : a < 18446744073709551616) : IntKind.u64.wrap (a : Int) = (a : Int) := by rw [IntKind.wrap_u64]; omega
theorem wrapm (a : Nat) : IntKind.u64.wrap (a : Int) = ((a % 18446744073709551616 : Nat) : Int) := by rw [IntKind.wrap_u64]; omega
theorem maskn {a : Nat} (ha : a < 18446744073709551616) : bits .and .u64 (a : Int) 4294967295 = ((a % 4294967296 : Nat) : Int) := by
  have h := bits_and_u64_nat a 4294967295 ha (by omega)
  have e : a &&& 4294967295 = a % 4294967296 := Nat.and_two_pow_sub_one_eq_mod a 32
  rw [e] at h
  exact h
theorem castpow (a s : Nat) : (a : Int) * 2 ^ s = ((a * 2 ^ s : Nat) : Int) := by simp
theorem castdiv (a s : Nat) : (a : Int) / 2 ^ s = ((a / 2 ^ s : Nat) : Int) := by simp
theorem div64_yes (hi lo y R1 R2 : Nat) (g1 : R1 = (hi * 18446744073709551616 + lo) / y) (g2 : R2 = (hi * 18446744073709551616 + lo) % y) (h0 : ¬ hi = 0) (h1 : hi < y) (h2 : lo < 18446744073709551616) (h3 : y < 18446744073709551616) (w : World) : Calls Tryz.prog 175 #[.int .u64 hi, .int .u64 lo, .int .u64 y] w fun e w' => e = .returned (.tuple #[.int .u64 R1, .int .u64 R2]) ∧ w' = w := by
  · have HR1 := hid g1
    have HR2 := hid g2
    clear g1 g2
    obtain ⟨l1, l2, l3, l4⟩ := V.lead (y := y) (by omega) h3
    have hs : ∃ s : Nat, s = 64 - Lib.bitLen y := ⟨_, rfl⟩
    obtain ⟨s, hs⟩ := hs
    rw [← hs] at l3 l4
    have r1 : IntKind.u64.wrap (64 - (Lib.bitLen y : Int)) = (s : Int) := by rw [IntKind.wrap_u64]; omega
    have hs63 : s ≤ 63 := by omega
    have r2 : min s 64 = s := by omega
    have HS := hid hs
    clear hs l1 l2
    obtain ⟨Y, hY⟩ : ∃ Y, Y = y * 2 ^ s := ⟨_, rfl⟩
    rw [← hY] at l3 l4
    have r3 : IntKind.u64.wrap ((y : Int) * 2 ^ s) = (Y : Int) := by
      have : ((y : Int) * 2 ^ s) = ((Y : Nat) : Int) := by rw [hY]; simp
      rw [this, IntKind.wrap_u64]; omega
    have HY := hid hY
    clear hY
    obtain ⟨w1, w2, w3, w4⟩ := V.words (hi := hi) (lo := lo) (y := y) (s := s) hs63 h1 h2 (by rw [← HY.out]; exact l4)
    have r4 : IntKind.u64.wrap ((hi : Int) * 2 ^ s) = ((hi * 2 ^ s : Nat) : Int) := by rw [castpow, wrapn w1]
    have r5 : (lo : Int) / 2 ^ (64 - s) = ((lo / 2 ^ (64 - s) : Nat) : Int) := castdiv _ _
    have r6 : IntKind.u64.wrap ((lo : Int) * 2 ^ s) = ((lo * 2 ^ s % 18446744073709551616 : Nat) : Int) := by rw [castpow, wrapm]
    rw [← HY.out] at w3
    have l5 : lo / 2 ^ (64 - s) < 18446744073709551616 := by omega
    have r7 : bits .or .u64 ((hi * 2 ^ s : Nat) : Int) ((lo / 2 ^ (64 - s) : Nat) : Int) = ((hi * 2 ^ s + lo / 2 ^ (64 - s) : Nat) : Int) := by rw [bits_or_u64_nat _ _ w1 l5, V.or_add w2]
    have l6 : lo * 2 ^ s % 18446744073709551616 < 18446744073709551616 := Nat.mod_lt _ (by omega)
    have HU := hid w4
    clear w4 w2
    generalize hi * 2 ^ s = H at *
    generalize lo / 2 ^ (64 - s) = L at *
    generalize lo * 2 ^ s % 18446744073709551616 = V' at *
    obtain ⟨u, hu⟩ : ∃ u, u = H + L := ⟨_, rfl⟩
    rw [← hu] at r7 w3
    have HU2 : Hid (u * 18446744073709551616 + V' = (hi * 18446744073709551616 + lo) * 2 ^ s) := by rw [hu]; exact HU.out
    clear hu HU
    obtain ⟨a, ha⟩ : ∃ a, a = Y / 4294967296 := ⟨_, rfl⟩
    obtain ⟨b, hb⟩ : ∃ b, b = Y % 4294967296 := ⟨_, rfl⟩
    obtain ⟨d1, hd1⟩ : ∃ d, d = V' / 4294967296 := ⟨_, rfl⟩
    obtain ⟨d0, hd0⟩ : ∃ d, d = V' % 4294967296 := ⟨_, rfl⟩
    have r8 : (Y : Int) / 4294967296 = (a : Int) := by omega
    have r9 : bits .and .u64 (Y : Int) 4294967295 = (b : Int) := by rw [maskn l4, ← hb]
    have r10 : (V' : Int) / 4294967296 = (d1 : Int) := by omega
    have r11 : bits .and .u64 (V' : Int) 4294967295 = (d0 : Int) := by rw [maskn l6, ← hd0]
    have HAB : Hid (Y = a * 4294967296 + b) := show Y = a * 4294967296 + b by omega
    have HD : Hid (V' = d1 * 4294967296 + d0) := show V' = d1 * 4294967296 + d0 by omega
    have ka : 2147483648 ≤ a := by omega
    have ka2 : a < 4294967296 := by omega
    have kb : b < 4294967296 := by omega
    have kd1 : d1 < 4294967296 := by omega
    have kd0 : d0 < 4294967296 := by omega
    have ku : u < 18446744073709551616 := by omega
    clear ha hb hd1 hd0 w1 l5 l6
    obtain ⟨q0, hq0⟩ : ∃ q, q = u / a := ⟨_, rfl⟩
    obtain ⟨m0, hm0⟩ : ∃ r, r = u % a := ⟨_, rfl⟩
    have e0 : q0 * a + m0 = u := by rw [hq0, hm0, Nat.mul_comm]; exact Nat.div_add_mod u a
    have em : m0 < a := by rw [hm0]; exact Nat.mod_lt _ (by omega)
    have kq : q0 < 18446744073709551616 := by rw [hq0]; exact Nat.lt_of_le_of_lt (Nat.div_le_self _ _) ku
    have r12 : IntKind.u64.wrap ((u : Int) / (a : Int)) = (q0 : Int) := by
      have : (u : Int) / (a : Int) = ((u / a : Nat) : Int) := by simp
      rw [this, ← hq0, wrapn kq]
    have r13 : (q0 : Int) * (a : Int) = ((u - m0 : Nat) : Int) := by
      have : q0 * a = u - m0 := by omega
      rw [← this]; simp
    have r14 : IntKind.u64.wrap (((u - m0 : Nat) : Int)) = ((u - m0 : Nat) : Int) := wrapn (by omega)
    have r15 : IntKind.u64.wrap ((u : Int) - ((u - m0 : Nat) : Int)) = (m0 : Int) := by
      have : (u : Int) - ((u - m0 : Nat) : Int) = (m0 : Int) := by omega
      rw [this]; exact wrapn (by omega)
    have G0 := hid (V.guess_ge (a := a) (b := b) (u := u) (d := d1) (by omega) kd1)
    rw [← hq0] at G0
    have E0 := hid e0
    clear hq0 hm0 e0
    generalize hK : u - m0 = K at *
    clear hK
    have hby : ((y : Int) == 0) = false := beq_eq_false_iff_ne.2 (by omega)
    have hc : ((hi : Int) == 0) = false := beq_eq_false_iff_ne.2 (by omega)
    go_enter Tryz.func175, Tryz.ntmps175
    go_wp2_with (go_at_call 177; refine (Tryz.bits_LeadingZeros64 _ _ (by omega) (by omega)).mono ?_; rintro e w' ⟨rfl, rfl⟩)
    clear r1 r2 r3 r4 r5 r6 r7 r8 r9 r10 r11 r12 r13 r14 r15
    have BD : Hid (2147483648 ≤ a ∧ a < 4294967296 ∧ b < 4294967296 ∧ d1 < 4294967296 ∧ d0 < 4294967296 ∧ u < 18446744073709551616 ∧ u < Y ∧ Y < 18446744073709551616 ∧ 0 < Y) := ⟨ka, ka2, kb, kd1, kd0, ku, w3, l4, by omega⟩
    have B0 : Hid (q0 < 18446744073709551616 ∧ m0 < 4294967296) := ⟨kq, by omega⟩
    have S0 : Hid (s ≤ 63 ∧ hi < y ∧ lo < 18446744073709551616 ∧ y < 18446744073709551616) := ⟨hs63, h1, h2, h3⟩
    have ia : (2147483648 : Int) ≤ (a : Int) := by omega
    have HUY : Hid (u < Y) := w3
    clear ka ka2 kb kd1 kd0 ku w3 l3 l4 hs63 h1 h2 h3 kq em
    go_loop [15, 16] (fun t1 t2 => ∃ q r : Nat, t1 = .int .u64 q ∧ t2 = .int .u64 r ∧ Hid (q < 18446744073709551616 ∧ r < 4294967296) ∧ Hid (q * a + r = u) ∧ Hid ((u * 4294967296 + d1) / (a * 4294967296 + b) ≤ q)) (fun t1 _ => (intOf t1).toNat)
    case atStart => exact ⟨q0, m0, rfl, rfl, B0, E0, G0⟩
    case round =>
      obtain ⟨q, r, rfl, rfl, B1, E1, G1⟩ := hrel
      clear E0 G0 B0
      by_cases c1 : 4294967296 ≤ q
      · obtain ⟨q', hq'⟩ : ∃ q', q' = q - 1 := ⟨_, rfl⟩
        obtain ⟨r', hr'⟩ : ∃ r', r' = r + a := ⟨_, rfl⟩
        have q1 : IntKind.u64.wrap ((q : Int) - 1) = (q' : Int) := by have := B1.out; rw [IntKind.wrap_u64]; omega
        have q2 : IntKind.u64.wrap ((r : Int) + (a : Int)) = (r' : Int) := by have := B1.out; have := BD.out; rw [IntKind.wrap_u64]; omega
        have C1 : (4294967296 : Int) ≤ (q : Int) := by omega
        have HQ := hid hq'
        have E2 : Hid (q' * a + r' = u) := V.step_eq E1.out (by omega) hq' hr'
        have G2 : Hid ((u * 4294967296 + d1) / (a * 4294967296 + b) ≤ q') := by
          have hbd := BD.out
          have hh := HAB.out
          have hu2 := HUY.out
          have hlt := V.wide_great (V := a * 4294967296 + b) (u := u) (d := d1) (q := q) (by omega) (by omega) c1
          have := V.digit_le hlt
          rw [hq']; exact this
        by_cases c2 : 4294967296 ≤ r'
        · have C2 : decide ((4294967296 : Int) ≤ (r' : Int)) = true := decide_eq_true (by omega)
          have QE : Hid (q' = (u * 4294967296 + d1) / (a * 4294967296 + b)) := by
            have hbd := BD.out
            have hh := HAB.out
            have hu2 := HUY.out
            exact V.digit_eq G2.out (V.wide_rest E2.out (by omega) (by omega) c2).2 (by omega)
          clear hq' hr' c1 c2
          generalize q' = Q at *
          obtain ⟨u2, hu2⟩ : ∃ u2, u2 = (u * 4294967296 + d1) % Y := ⟨_, rfl⟩
          have hQY : Q = (u * 4294967296 + d1) / Y := by rw [HAB.out]; exact QE.out
          have k1 : u2 < Y := by rw [hu2]; exact Nat.mod_lt _ BD.out.2.2.2.2.2.2.2.2
          have k2 : Y < 18446744073709551616 := BD.out.2.2.2.2.2.2.2.1
          have s1 : IntKind.u64.wrap (IntKind.u64.wrap (IntKind.u64.wrap ((u : Int) * 4294967296) + (d1 : Int)) - IntKind.u64.wrap ((Q : Int) * (Y : Int))) = (u2 : Int) := by
            rw [IntKind.wrap_u64, IntKind.wrap_u64, IntKind.wrap_u64, IntKind.wrap_u64, hu2]
            exact V.rem_wrap hQY (by omega) k2
          obtain ⟨p0, hp0⟩ : ∃ q, q = u2 / a := ⟨_, rfl⟩
          obtain ⟨n0, hn0⟩ : ∃ r, r = u2 % a := ⟨_, rfl⟩
          have e0 : p0 * a + n0 = u2 := by rw [hp0, hn0, Nat.mul_comm]; exact Nat.div_add_mod u2 a
          have em : n0 < a := by rw [hn0]; exact Nat.mod_lt _ (by have := BD.out; omega)
          have kp : p0 < 18446744073709551616 := by rw [hp0]; exact Nat.lt_of_le_of_lt (Nat.div_le_self _ _) (by omega)
          have s2 : IntKind.u64.wrap ((u2 : Int) / (a : Int)) = (p0 : Int) := by
            have : (u2 : Int) / (a : Int) = ((u2 / a : Nat) : Int) := by simp
            rw [this, ← hp0, wrapn kp]
          obtain ⟨K2, hK2⟩ : ∃ k, k = u2 - n0 := ⟨_, rfl⟩
          have s3 : (p0 : Int) * (a : Int) = (K2 : Int) := by
            have : p0 * a = K2 := by omega
            rw [← this]; simp
          have s4 : IntKind.u64.wrap (K2 : Int) = (K2 : Int) := wrapn (by omega)
          have s5 : IntKind.u64.wrap ((u2 : Int) - (K2 : Int)) = (n0 : Int) := by
            have : (u2 : Int) - (K2 : Int) = (n0 : Int) := by omega
            rw [this]; exact wrapn (by omega)
          have G0 := hid (V.guess_ge (a := a) (b := b) (u := u2) (d := d0) (by omega) BD.out.2.2.2.2.1)
          rw [← hp0] at G0
          have E0 := hid e0
          have B0 : Hid (p0 < 18446744073709551616 ∧ n0 < 4294967296) := ⟨kp, by have := BD.out; omega⟩
          have HUY : Hid (u2 < Y) := k1
          have HU3 := hid hu2
          have HQY := hid hQY
          clear hu2 hQY k1 k2 hp0 hn0 e0 em kp hK2
          go_wp2_with fail
          clear s1 s2 s3 s4 s5
          go_loop [18, 16] (fun t1 t2 => ∃ q r : Nat, t1 = .int .u64 q ∧ t2 = .int .u64 r ∧ Hid (q < 18446744073709551616 ∧ r < 4294967296) ∧ Hid (q * a + r = u2) ∧ Hid ((u2 * 4294967296 + d0) / (a * 4294967296 + b) ≤ q)) (fun t1 _ => (intOf t1).toNat)
          case atStart => exact ⟨p0, n0, rfl, rfl, B0, E0, G0⟩
          case round =>
            obtain ⟨q, r, rfl, rfl, B1, E1, G1⟩ := hrel
            clear E0 G0 B0
            by_cases c1 : 4294967296 ≤ q
            · obtain ⟨q', hq'⟩ : ∃ q', q' = q - 1 := ⟨_, rfl⟩
              obtain ⟨r', hr'⟩ : ∃ r', r' = r + a := ⟨_, rfl⟩
              have q1 : IntKind.u64.wrap ((q : Int) - 1) = (q' : Int) := by have := B1.out; rw [IntKind.wrap_u64]; omega
              have q2 : IntKind.u64.wrap ((r : Int) + (a : Int)) = (r' : Int) := by have := B1.out; have := BD.out; rw [IntKind.wrap_u64]; omega
              have C1 : (4294967296 : Int) ≤ (q : Int) := by omega
              have HQ := hid hq'
              have E2 : Hid (q' * a + r' = u2) := V.step_eq E1.out (by omega) hq' hr'
              have G2 : Hid ((u2 * 4294967296 + d0) / (a * 4294967296 + b) ≤ q') := by
                have hbd := BD.out
                have hh := HAB.out
                have hu2 := HUY.out
                have hlt := V.wide_great (V := a * 4294967296 + b) (u := u2) (d := d0) (q := q) (by omega) (by omega) c1
                have := V.digit_le hlt
                rw [hq']; exact this
              by_cases c2 : 4294967296 ≤ r'
              · have C2 : decide ((4294967296 : Int) ≤ (r' : Int)) = true := decide_eq_true (by omega)
                have QE : Hid (q' = (u2 * 4294967296 + d0) / (a * 4294967296 + b)) := by
                  have hbd := BD.out
                  have hh := HAB.out
                  have hu2 := HUY.out
                  exact V.digit_eq G2.out (V.wide_rest E2.out (by omega) (by omega) c2).2 (by omega)
                clear hq' hr' c1 c2
                have FF := V.final HY.out BD.out.2.2.2.2.2.2.2.2 HU2.out HD.out
                rw [← HQY.out, ← HU3.out] at FF
                have hq2 : q' = (u2 * 4294967296 + d0) / Y := by rw [HAB.out]; exact QE.out
                rw [← hq2] at FF
                have hR1 := HR1.out
                have hR2 := HR2.out
                obtain ⟨e2, he2⟩ : ∃ R, R = (u2 * 4294967296 + d0) % Y := ⟨_, rfl⟩
                rw [← hR1, ← hR2, ← he2] at FF
                have hR3 : R1 < 18446744073709551616 := by
                  rw [hR1]
                  have := S0.out
                  exact Nat.div_lt_of_lt_mul (V.lt_words this.2.1 this.2.2.1)
                have f1 : IntKind.u64.wrap (IntKind.u64.wrap ((Q : Int) * 4294967296) + (q' : Int)) = (R1 : Int) := by
                  have := FF.1
                  rw [IntKind.wrap_u64, IntKind.wrap_u64]; omega
                have f2 : IntKind.u64.wrap (IntKind.u64.wrap (IntKind.u64.wrap ((u2 : Int) * 4294967296) + (d0 : Int)) - IntKind.u64.wrap ((q' : Int) * (Y : Int))) = (e2 : Int) := by
                  rw [IntKind.wrap_u64, IntKind.wrap_u64, IntKind.wrap_u64, IntKind.wrap_u64, he2]
                  exact V.rem_wrap hq2 BD.out.2.2.2.2.2.2.2.2 BD.out.2.2.2.2.2.2.2.1
                have f3 : (e2 : Int) / 2 ^ s = (R2 : Int) := by rw [castdiv, FF.2]
                have f4 : min s 64 = s := by have := S0.out; omega
                clear hR1 hR2 he2 hq2 FF hR3
                go_wp2_with fail
                go_ret2
                exact ⟨rfl, rfl⟩
              · have C2 : decide ((4294967296 : Int) ≤ (r' : Int)) = false := decide_eq_false (by omega)
                have B2 : Hid (q' < 18446744073709551616 ∧ r' < 4294967296) := by have := B1.out; exact ⟨by omega, by omega⟩
                clear hq' hr' c1 c2
                go_wp2_with fail
                go_round
                case rel => exact ⟨q', r', rfl, rfl, B2, E2, G2⟩
                case measure => have := HQ.out; simp [intOf]; omega
            · have D1 : decide ((4294967296 : Int) ≤ (q : Int)) = false := decide_eq_false (by omega)
              obtain ⟨x, hx⟩ : ∃ x, x = q * b := ⟨_, rfl⟩
              obtain ⟨z, hz⟩ : ∃ z, z = 4294967296 * r := ⟨_, rfl⟩
              obtain ⟨t, ht⟩ : ∃ t, t = z + d0 := ⟨_, rfl⟩
              have hxb : x ≤ 4294967295 * 4294967295 := by rw [hx]; have := BD.out; exact Nat.mul_le_mul (by omega) (by omega)
              have p1 : (q : Int) * (b : Int) = (x : Int) := by rw [hx]; simp
              have p1' : IntKind.u64.wrap (x : Int) = (x : Int) := wrapn (by omega)
              have p2 : IntKind.u64.wrap (4294967296 * (r : Int)) = (z : Int) := by have := B1.out; rw [IntKind.wrap_u64]; omega
              have p3 : IntKind.u64.wrap ((z : Int) + (d0 : Int)) = (t : Int) := by have := B1.out; have := BD.out; rw [IntKind.wrap_u64]; omega
              have TG : Hid ((t < x) ↔ (u2 * 4294967296 + d0 < q * (a * 4294967296 + b))) := by
                have := V.too_great (b := b) (d := d0) E1.out
                rw [← hx] at this
                rw [ht, hz, Nat.mul_comm 4294967296 r]; exact this
              by_cases c3 : t < x
              · have hlt := TG.out.1 c3
                obtain ⟨q', hq'⟩ : ∃ q', q' = q - 1 := ⟨_, rfl⟩
                obtain ⟨r', hr'⟩ : ∃ r', r' = r + a := ⟨_, rfl⟩
                have hq1 : 1 ≤ q := by
                  rcases Nat.eq_zero_or_pos q with h | h
                  · rw [h, Nat.zero_mul] at hlt; omega
                  · exact h
                have q1 : IntKind.u64.wrap ((q : Int) - 1) = (q' : Int) := by have := B1.out; rw [IntKind.wrap_u64]; omega
                have q2 : IntKind.u64.wrap ((r : Int) + (a : Int)) = (r' : Int) := by have := B1.out; have := BD.out; rw [IntKind.wrap_u64]; omega
                have HQ : Hid (q' = q - 1 ∧ 1 ≤ q) := ⟨hq', hq1⟩
                have E2 : Hid (q' * a + r' = u2) := V.step_eq E1.out hq1 hq' hr'
                have G2 : Hid ((u2 * 4294967296 + d0) / (a * 4294967296 + b) ≤ q') := by
                  have := V.digit_le hlt
                  rw [hq']; exact this
                by_cases c2 : 4294967296 ≤ r'
                · have C2 : decide ((4294967296 : Int) ≤ (r' : Int)) = true := decide_eq_true (by omega)
                  have QE : Hid (q' = (u2 * 4294967296 + d0) / (a * 4294967296 + b)) := by
                    have hbd := BD.out
                    have hh := HAB.out
                    have hu2 := HUY.out
                    exact V.digit_eq G2.out (V.wide_rest E2.out (by omega) (by omega) c2).2 (by omega)
                  clear hq' hr' c1 c2 hx hz ht hxb hlt hq1
                  have FF := V.final HY.out BD.out.2.2.2.2.2.2.2.2 HU2.out HD.out
                  rw [← HQY.out, ← HU3.out] at FF
                  have hq2 : q' = (u2 * 4294967296 + d0) / Y := by rw [HAB.out]; exact QE.out
                  rw [← hq2] at FF
                  have hR1 := HR1.out
                  have hR2 := HR2.out
                  obtain ⟨e2, he2⟩ : ∃ R, R = (u2 * 4294967296 + d0) % Y := ⟨_, rfl⟩
                  rw [← hR1, ← hR2, ← he2] at FF
                  have hR3 : R1 < 18446744073709551616 := by
                    rw [hR1]
                    have := S0.out
                    exact Nat.div_lt_of_lt_mul (V.lt_words this.2.1 this.2.2.1)
                  have f1 : IntKind.u64.wrap (IntKind.u64.wrap ((Q : Int) * 4294967296) + (q' : Int)) = (R1 : Int) := by
                    have := FF.1
                    rw [IntKind.wrap_u64, IntKind.wrap_u64]; omega
                  have f2 : IntKind.u64.wrap (IntKind.u64.wrap (IntKind.u64.wrap ((u2 : Int) * 4294967296) + (d0 : Int)) - IntKind.u64.wrap ((q' : Int) * (Y : Int))) = (e2 : Int) := by
                    rw [IntKind.wrap_u64, IntKind.wrap_u64, IntKind.wrap_u64, IntKind.wrap_u64, he2]
                    exact V.rem_wrap hq2 BD.out.2.2.2.2.2.2.2.2 BD.out.2.2.2.2.2.2.2.1
                  have f3 : (e2 : Int) / 2 ^ s = (R2 : Int) := by rw [castdiv, FF.2]
                  have f4 : min s 64 = s := by have := S0.out; omega
                  clear hR1 hR2 he2 hq2 FF hR3
                  go_wp2_with fail
                  go_ret2
                  exact ⟨rfl, rfl⟩
                · have C2 : decide ((4294967296 : Int) ≤ (r' : Int)) = false := decide_eq_false (by omega)
                  have B2 : Hid (q' < 18446744073709551616 ∧ r' < 4294967296) := by have := B1.out; exact ⟨by omega, by omega⟩
                  clear hq' hr' c1 c2 hx hz ht hxb hlt hq1
                  go_wp2_with fail
                  go_round
                  case rel => exact ⟨q', r', rfl, rfl, B2, E2, G2⟩
                  case measure => have := HQ.out; simp [intOf]; omega
              · have QE : Hid (q = (u2 * 4294967296 + d0) / (a * 4294967296 + b)) := V.digit_eq G1.out (fun h => c3 (TG.out.2 h)) (by have := BD.out; omega)
                clear c1 hx hz ht hxb
                have FF := V.final HY.out BD.out.2.2.2.2.2.2.2.2 HU2.out HD.out
                rw [← HQY.out, ← HU3.out] at FF
                have hq2 : q = (u2 * 4294967296 + d0) / Y := by rw [HAB.out]; exact QE.out
                rw [← hq2] at FF
                have hR1 := HR1.out
                have hR2 := HR2.out
                obtain ⟨e2, he2⟩ : ∃ R, R = (u2 * 4294967296 + d0) % Y := ⟨_, rfl⟩
                rw [← hR1, ← hR2, ← he2] at FF
                have hR3 : R1 < 18446744073709551616 := by
                  rw [hR1]
                  have := S0.out
                  exact Nat.div_lt_of_lt_mul (V.lt_words this.2.1 this.2.2.1)
                have f1 : IntKind.u64.wrap (IntKind.u64.wrap ((Q : Int) * 4294967296) + (q : Int)) = (R1 : Int) := by
                  have := FF.1
                  rw [IntKind.wrap_u64, IntKind.wrap_u64]; omega
                have f2 : IntKind.u64.wrap (IntKind.u64.wrap (IntKind.u64.wrap ((u2 : Int) * 4294967296) + (d0 : Int)) - IntKind.u64.wrap ((q : Int) * (Y : Int))) = (e2 : Int) := by
                  rw [IntKind.wrap_u64, IntKind.wrap_u64, IntKind.wrap_u64, IntKind.wrap_u64, he2]
                  exact V.rem_wrap hq2 BD.out.2.2.2.2.2.2.2.2 BD.out.2.2.2.2.2.2.2.1
                have f3 : (e2 : Int) / 2 ^ s = (R2 : Int) := by rw [castdiv, FF.2]
                have f4 : min s 64 = s := by have := S0.out; omega
                clear hR1 hR2 he2 hq2 FF hR3
                go_wp2_with fail
                go_ret2
                exact ⟨rfl, rfl⟩
        · have C2 : decide ((4294967296 : Int) ≤ (r' : Int)) = false := decide_eq_false (by omega)
          have B2 : Hid (q' < 18446744073709551616 ∧ r' < 4294967296) := by have := B1.out; exact ⟨by omega, by omega⟩
          clear hq' hr' c1 c2
          go_wp2_with fail
          go_round
          case rel => exact ⟨q', r', rfl, rfl, B2, E2, G2⟩
          case measure => have := HQ.out; simp [intOf]; omega
      · have D1 : decide ((4294967296 : Int) ≤ (q : Int)) = false := decide_eq_false (by omega)
        obtain ⟨x, hx⟩ : ∃ x, x = q * b := ⟨_, rfl⟩
        obtain ⟨z, hz⟩ : ∃ z, z = 4294967296 * r := ⟨_, rfl⟩
        obtain ⟨t, ht⟩ : ∃ t, t = z + d1 := ⟨_, rfl⟩
        have hxb : x ≤ 4294967295 * 4294967295 := by rw [hx]; have := BD.out; exact Nat.mul_le_mul (by omega) (by omega)
        have p1 : (q : Int) * (b : Int) = (x : Int) := by rw [hx]; simp
        have p1' : IntKind.u64.wrap (x : Int) = (x : Int) := wrapn (by omega)
        have p2 : IntKind.u64.wrap (4294967296 * (r : Int)) = (z : Int) := by have := B1.out; rw [IntKind.wrap_u64]; omega
        have p3 : IntKind.u64.wrap ((z : Int) + (d1 : Int)) = (t : Int) := by have := B1.out; have := BD.out; rw [IntKind.wrap_u64]; omega
        have TG : Hid ((t < x) ↔ (u * 4294967296 + d1 < q * (a * 4294967296 + b))) := by
          have := V.too_great (b := b) (d := d1) E1.out
          rw [← hx] at this
          rw [ht, hz, Nat.mul_comm 4294967296 r]; exact this
        by_cases c3 : t < x
        · have hlt := TG.out.1 c3
          obtain ⟨q', hq'⟩ : ∃ q', q' = q - 1 := ⟨_, rfl⟩
          obtain ⟨r', hr'⟩ : ∃ r', r' = r + a := ⟨_, rfl⟩
          have hq1 : 1 ≤ q := by
            rcases Nat.eq_zero_or_pos q with h | h
            · rw [h, Nat.zero_mul] at hlt; omega
            · exact h
          have q1 : IntKind.u64.wrap ((q : Int) - 1) = (q' : Int) := by have := B1.out; rw [IntKind.wrap_u64]; omega
          have q2 : IntKind.u64.wrap ((r : Int) + (a : Int)) = (r' : Int) := by have := B1.out; have := BD.out; rw [IntKind.wrap_u64]; omega
          have HQ : Hid (q' = q - 1 ∧ 1 ≤ q) := ⟨hq', hq1⟩
          have E2 : Hid (q' * a + r' = u) := V.step_eq E1.out hq1 hq' hr'
          have G2 : Hid ((u * 4294967296 + d1) / (a * 4294967296 + b) ≤ q') := by
            have := V.digit_le hlt
            rw [hq']; exact this
          by_cases c2 : 4294967296 ≤ r'
          · have C2 : decide ((4294967296 : Int) ≤ (r' : Int)) = true := decide_eq_true (by omega)
            have QE : Hid (q' = (u * 4294967296 + d1) / (a * 4294967296 + b)) := by
              have hbd := BD.out
              have hh := HAB.out
              have hu2 := HUY.out
              exact V.digit_eq G2.out (V.wide_rest E2.out (by omega) (by omega) c2).2 (by omega)
            clear hq' hr' c1 c2 hx hz ht hxb hlt hq1
            generalize q' = Q at *
            obtain ⟨u2, hu2⟩ : ∃ u2, u2 = (u * 4294967296 + d1) % Y := ⟨_, rfl⟩
            have hQY : Q = (u * 4294967296 + d1) / Y := by rw [HAB.out]; exact QE.out
            have k1 : u2 < Y := by rw [hu2]; exact Nat.mod_lt _ BD.out.2.2.2.2.2.2.2.2
            have k2 : Y < 18446744073709551616 := BD.out.2.2.2.2.2.2.2.1
            have s1 : IntKind.u64.wrap (IntKind.u64.wrap (IntKind.u64.wrap ((u : Int) * 4294967296) + (d1 : Int)) - IntKind.u64.wrap ((Q : Int) * (Y : Int))) = (u2 : Int) := by
              rw [IntKind.wrap_u64, IntKind.wrap_u64, IntKind.wrap_u64, IntKind.wrap_u64, hu2]
              exact V.rem_wrap hQY (by omega) k2
            obtain ⟨p0, hp0⟩ : ∃ q, q = u2 / a := ⟨_, rfl⟩
            obtain ⟨n0, hn0⟩ : ∃ r, r = u2 % a := ⟨_, rfl⟩
            have e0 : p0 * a + n0 = u2 := by rw [hp0, hn0, Nat.mul_comm]; exact Nat.div_add_mod u2 a
            have em : n0 < a := by rw [hn0]; exact Nat.mod_lt _ (by have := BD.out; omega)
            have kp : p0 < 18446744073709551616 := by rw [hp0]; exact Nat.lt_of_le_of_lt (Nat.div_le_self _ _) (by omega)
            have s2 : IntKind.u64.wrap ((u2 : Int) / (a : Int)) = (p0 : Int) := by
              have : (u2 : Int) / (a : Int) = ((u2 / a : Nat) : Int) := by simp
              rw [this, ← hp0, wrapn kp]
            obtain ⟨K2, hK2⟩ : ∃ k, k = u2 - n0 := ⟨_, rfl⟩
            have s3 : (p0 : Int) * (a : Int) = (K2 : Int) := by
              have : p0 * a = K2 := by omega
              rw [← this]; simp
            have s4 : IntKind.u64.wrap (K2 : Int) = (K2 : Int) := wrapn (by omega)
            have s5 : IntKind.u64.wrap ((u2 : Int) - (K2 : Int)) = (n0 : Int) := by
              have : (u2 : Int) - (K2 : Int) = (n0 : Int) := by omega
              rw [this]; exact wrapn (by omega)
            have G0 := hid (V.guess_ge (a := a) (b := b) (u := u2) (d := d0) (by omega) BD.out.2.2.2.2.1)
            rw [← hp0] at G0
            have E0 := hid e0
            have B0 : Hid (p0 < 18446744073709551616 ∧ n0 < 4294967296) := ⟨kp, by have := BD.out; omega⟩
            have HUY : Hid (u2 < Y) := k1
            have HU3 := hid hu2
            have HQY := hid hQY
            clear hu2 hQY k1 k2 hp0 hn0 e0 em kp hK2
            go_wp2_with fail
            clear s1 s2 s3 s4 s5
            go_loop [18, 16] (fun t1 t2 => ∃ q r : Nat, t1 = .int .u64 q ∧ t2 = .int .u64 r ∧ Hid (q < 18446744073709551616 ∧ r < 4294967296) ∧ Hid (q * a + r = u2) ∧ Hid ((u2 * 4294967296 + d0) / (a * 4294967296 + b) ≤ q)) (fun t1 _ => (intOf t1).toNat)
            case atStart => exact ⟨p0, n0, rfl, rfl, B0, E0, G0⟩
            case round =>
              obtain ⟨q, r, rfl, rfl, B1, E1, G1⟩ := hrel
              clear E0 G0 B0
              by_cases c1 : 4294967296 ≤ q
              · obtain ⟨q', hq'⟩ : ∃ q', q' = q - 1 := ⟨_, rfl⟩
                obtain ⟨r', hr'⟩ : ∃ r', r' = r + a := ⟨_, rfl⟩
                have q1 : IntKind.u64.wrap ((q : Int) - 1) = (q' : Int) := by have := B1.out; rw [IntKind.wrap_u64]; omega
                have q2 : IntKind.u64.wrap ((r : Int) + (a : Int)) = (r' : Int) := by have := B1.out; have := BD.out; rw [IntKind.wrap_u64]; omega
                have C1 : (4294967296 : Int) ≤ (q : Int) := by omega
                have HQ := hid hq'
                have E2 : Hid (q' * a + r' = u2) := V.step_eq E1.out (by omega) hq' hr'
                have G2 : Hid ((u2 * 4294967296 + d0) / (a * 4294967296 + b) ≤ q') := by
                  have hbd := BD.out
                  have hh := HAB.out
                  have hu2 := HUY.out
                  have hlt := V.wide_great (V := a * 4294967296 + b) (u := u2) (d := d0) (q := q) (by omega) (by omega) c1
                  have := V.digit_le hlt
                  rw [hq']; exact this
                by_cases c2 : 4294967296 ≤ r'
                · have C2 : decide ((4294967296 : Int) ≤ (r' : Int)) = true := decide_eq_true (by omega)
                  have QE : Hid (q' = (u2 * 4294967296 + d0) / (a * 4294967296 + b)) := by
                    have hbd := BD.out
                    have hh := HAB.out
                    have hu2 := HUY.out
                    exact V.digit_eq G2.out (V.wide_rest E2.out (by omega) (by omega) c2).2 (by omega)
                  clear hq' hr' c1 c2
                  have FF := V.final HY.out BD.out.2.2.2.2.2.2.2.2 HU2.out HD.out
                  rw [← HQY.out, ← HU3.out] at FF
                  have hq2 : q' = (u2 * 4294967296 + d0) / Y := by rw [HAB.out]; exact QE.out
                  rw [← hq2] at FF
                  have hR1 := HR1.out
                  have hR2 := HR2.out
                  obtain ⟨e2, he2⟩ : ∃ R, R = (u2 * 4294967296 + d0) % Y := ⟨_, rfl⟩
                  rw [← hR1, ← hR2, ← he2] at FF
                  have hR3 : R1 < 18446744073709551616 := by
                    rw [hR1]
                    have := S0.out
                    exact Nat.div_lt_of_lt_mul (V.lt_words this.2.1 this.2.2.1)
                  have f1 : IntKind.u64.wrap (IntKind.u64.wrap ((Q : Int) * 4294967296) + (q' : Int)) = (R1 : Int) := by
                    have := FF.1
                    rw [IntKind.wrap_u64, IntKind.wrap_u64]; omega
                  have f2 : IntKind.u64.wrap (IntKind.u64.wrap (IntKind.u64.wrap ((u2 : Int) * 4294967296) + (d0 : Int)) - IntKind.u64.wrap ((q' : Int) * (Y : Int))) = (e2 : Int) := by
                    rw [IntKind.wrap_u64, IntKind.wrap_u64, IntKind.wrap_u64, IntKind.wrap_u64, he2]
                    exact V.rem_wrap hq2 BD.out.2.2.2.2.2.2.2.2 BD.out.2.2.2.2.2.2.2.1
                  have f3 : (e2 : Int) / 2 ^ s = (R2 : Int) := by rw [castdiv, FF.2]
                  have f4 : min s 64 = s := by have := S0.out; omega
                  clear hR1 hR2 he2 hq2 FF hR3
                  go_wp2_with fail
                  go_ret2
                  exact ⟨rfl, rfl⟩
                · have C2 : decide ((4294967296 : Int) ≤ (r' : Int)) = false := decide_eq_false (by omega)
                  have B2 : Hid (q' < 18446744073709551616 ∧ r' < 4294967296) := by have := B1.out; exact ⟨by omega, by omega⟩
                  clear hq' hr' c1 c2
                  go_wp2_with fail
                  go_round
                  case rel => exact ⟨q', r', rfl, rfl, B2, E2, G2⟩
                  case measure => have := HQ.out; simp [intOf]; omega
              · have D1 : decide ((4294967296 : Int) ≤ (q : Int)) = false := decide_eq_false (by omega)
                obtain ⟨x, hx⟩ : ∃ x, x = q * b := ⟨_, rfl⟩
                obtain ⟨z, hz⟩ : ∃ z, z = 4294967296 * r := ⟨_, rfl⟩
                obtain ⟨t, ht⟩ : ∃ t, t = z + d0 := ⟨_, rfl⟩
                have hxb : x ≤ 4294967295 * 4294967295 := by rw [hx]; have := BD.out; exact Nat.mul_le_mul (by omega) (by omega)
                have p1 : (q : Int) * (b : Int) = (x : Int) := by rw [hx]; simp
                have p1' : IntKind.u64.wrap (x : Int) = (x : Int) := wrapn (by omega)
                have p2 : IntKind.u64.wrap (4294967296 * (r : Int)) = (z : Int) := by have := B1.out; rw [IntKind.wrap_u64]; omega
                have p3 : IntKind.u64.wrap ((z : Int) + (d0 : Int)) = (t : Int) := by have := B1.out; have := BD.out; rw [IntKind.wrap_u64]; omega
                have TG : Hid ((t < x) ↔ (u2 * 4294967296 + d0 < q * (a * 4294967296 + b))) := by
                  have := V.too_great (b := b) (d := d0) E1.out
                  rw [← hx] at this
                  rw [ht, hz, Nat.mul_comm 4294967296 r]; exact this
                by_cases c3 : t < x
                · have hlt := TG.out.1 c3
                  obtain ⟨q', hq'⟩ : ∃ q', q' = q - 1 := ⟨_, rfl⟩
                  obtain ⟨r', hr'⟩ : ∃ r', r' = r + a := ⟨_, rfl⟩
                  have hq1 : 1 ≤ q := by
                    rcases Nat.eq_zero_or_pos q with h | h
                    · rw [h, Nat.zero_mul] at hlt; omega
                    · exact h
                  have q1 : IntKind.u64.wrap ((q : Int) - 1) = (q' : Int) := by have := B1.out; rw [IntKind.wrap_u64]; omega
                  have q2 : IntKind.u64.wrap ((r : Int) + (a : Int)) = (r' : Int) := by have := B1.out; have := BD.out; rw [IntKind.wrap_u64]; omega
                  have HQ : Hid (q' = q - 1 ∧ 1 ≤ q) := ⟨hq', hq1⟩
                  have E2 : Hid (q' * a + r' = u2) := V.step_eq E1.out hq1 hq' hr'
                  have G2 : Hid ((u2 * 4294967296 + d0) / (a * 4294967296 + b) ≤ q') := by
                    have := V.digit_le hlt
                    rw [hq']; exact this
                  by_cases c2 : 4294967296 ≤ r'
                  · have C2 : decide ((4294967296 : Int) ≤ (r' : Int)) = true := decide_eq_true (by omega)
                    have QE : Hid (q' = (u2 * 4294967296 + d0) / (a * 4294967296 + b)) := by
                      have hbd := BD.out
                      have hh := HAB.out
                      have hu2 := HUY.out
                      exact V.digit_eq G2.out (V.wide_rest E2.out (by omega) (by omega) c2).2 (by omega)
                    clear hq' hr' c1 c2 hx hz ht hxb hlt hq1
                    have FF := V.final HY.out BD.out.2.2.2.2.2.2.2.2 HU2.out HD.out
                    rw [← HQY.out, ← HU3.out] at FF
                    have hq2 : q' = (u2 * 4294967296 + d0) / Y := by rw [HAB.out]; exact QE.out
                    rw [← hq2] at FF
                    have hR1 := HR1.out
                    have hR2 := HR2.out
                    obtain ⟨e2, he2⟩ : ∃ R, R = (u2 * 4294967296 + d0) % Y := ⟨_, rfl⟩
                    rw [← hR1, ← hR2, ← he2] at FF
                    have hR3 : R1 < 18446744073709551616 := by
                      rw [hR1]
                      have := S0.out
                      exact Nat.div_lt_of_lt_mul (V.lt_words this.2.1 this.2.2.1)
                    have f1 : IntKind.u64.wrap (IntKind.u64.wrap ((Q : Int) * 4294967296) + (q' : Int)) = (R1 : Int) := by
                      have := FF.1
                      rw [IntKind.wrap_u64, IntKind.wrap_u64]; omega
                    have f2 : IntKind.u64.wrap (IntKind.u64.wrap (IntKind.u64.wrap ((u2 : Int) * 4294967296) + (d0 : Int)) - IntKind.u64.wrap ((q' : Int) * (Y : Int))) = (e2 : Int) := by
                      rw [IntKind.wrap_u64, IntKind.wrap_u64, IntKind.wrap_u64, IntKind.wrap_u64, he2]
                      exact V.rem_wrap hq2 BD.out.2.2.2.2.2.2.2.2 BD.out.2.2.2.2.2.2.2.1
                    have f3 : (e2 : Int) / 2 ^ s = (R2 : Int) := by rw [castdiv, FF.2]
                    have f4 : min s 64 = s := by have := S0.out; omega
                    clear hR1 hR2 he2 hq2 FF hR3
                    go_wp2_with fail
                    go_ret2
                    exact ⟨rfl, rfl⟩
                  · have C2 : decide ((4294967296 : Int) ≤ (r' : Int)) = false := decide_eq_false (by omega)
                    have B2 : Hid (q' < 18446744073709551616 ∧ r' < 4294967296) := by have := B1.out; exact ⟨by omega, by omega⟩
                    clear hq' hr' c1 c2 hx hz ht hxb hlt hq1
                    go_wp2_with fail
                    go_round
                    case rel => exact ⟨q', r', rfl, rfl, B2, E2, G2⟩
                    case measure => have := HQ.out; simp [intOf]; omega
                · have QE : Hid (q = (u2 * 4294967296 + d0) / (a * 4294967296 + b)) := V.digit_eq G1.out (fun h => c3 (TG.out.2 h)) (by have := BD.out; omega)
                  clear c1 hx hz ht hxb
                  have FF := V.final HY.out BD.out.2.2.2.2.2.2.2.2 HU2.out HD.out
                  rw [← HQY.out, ← HU3.out] at FF
                  have hq2 : q = (u2 * 4294967296 + d0) / Y := by rw [HAB.out]; exact QE.out
                  rw [← hq2] at FF
                  have hR1 := HR1.out
                  have hR2 := HR2.out
                  obtain ⟨e2, he2⟩ : ∃ R, R = (u2 * 4294967296 + d0) % Y := ⟨_, rfl⟩
                  rw [← hR1, ← hR2, ← he2] at FF
                  have hR3 : R1 < 18446744073709551616 := by
                    rw [hR1]
                    have := S0.out
                    exact Nat.div_lt_of_lt_mul (V.lt_words this.2.1 this.2.2.1)
                  have f1 : IntKind.u64.wrap (IntKind.u64.wrap ((Q : Int) * 4294967296) + (q : Int)) = (R1 : Int) := by
                    have := FF.1
                    rw [IntKind.wrap_u64, IntKind.wrap_u64]; omega
                  have f2 : IntKind.u64.wrap (IntKind.u64.wrap (IntKind.u64.wrap ((u2 : Int) * 4294967296) + (d0 : Int)) - IntKind.u64.wrap ((q : Int) * (Y : Int))) = (e2 : Int) := by
                    rw [IntKind.wrap_u64, IntKind.wrap_u64, IntKind.wrap_u64, IntKind.wrap_u64, he2]
                    exact V.rem_wrap hq2 BD.out.2.2.2.2.2.2.2.2 BD.out.2.2.2.2.2.2.2.1
                  have f3 : (e2 : Int) / 2 ^ s = (R2 : Int) := by rw [castdiv, FF.2]
                  have f4 : min s 64 = s := by have := S0.out; omega
                  clear hR1 hR2 he2 hq2 FF hR3
                  go_wp2_with fail
                  go_ret2
                  exact ⟨rfl, rfl⟩
          · have C2 : decide ((4294967296 : Int) ≤ (r' : Int)) = false := decide_eq_false (by omega)
            have B2 : Hid (q' < 18446744073709551616 ∧ r' < 4294967296) := by have := B1.out; exact ⟨by omega, by omega⟩
            clear hq' hr' c1 c2 hx hz ht hxb hlt hq1
            go_wp2_with fail
            go_round
            case rel => exact ⟨q', r', rfl, rfl, B2, E2, G2⟩
            case measure => have := HQ.out; simp [intOf]; omega
        · have QE : Hid (q = (u * 4294967296 + d1) / (a * 4294967296 + b)) := V.digit_eq G1.out (fun h => c3 (TG.out.2 h)) (by have := BD.out; omega)
          clear c1 hx hz ht hxb
          generalize q = Q at *
          obtain ⟨u2, hu2⟩ : ∃ u2, u2 = (u * 4294967296 + d1) % Y := ⟨_, rfl⟩
          have hQY : Q = (u * 4294967296 + d1) / Y := by rw [HAB.out]; exact QE.out
          have k1 : u2 < Y := by rw [hu2]; exact Nat.mod_lt _ BD.out.2.2.2.2.2.2.2.2
          have k2 : Y < 18446744073709551616 := BD.out.2.2.2.2.2.2.2.1
          have s1 : IntKind.u64.wrap (IntKind.u64.wrap (IntKind.u64.wrap ((u : Int) * 4294967296) + (d1 : Int)) - IntKind.u64.wrap ((Q : Int) * (Y : Int))) = (u2 : Int) := by
            rw [IntKind.wrap_u64, IntKind.wrap_u64, IntKind.wrap_u64, IntKind.wrap_u64, hu2]
            exact V.rem_wrap hQY (by omega) k2
          obtain ⟨p0, hp0⟩ : ∃ q, q = u2 / a := ⟨_, rfl⟩
          obtain ⟨n0, hn0⟩ : ∃ r, r = u2 % a := ⟨_, rfl⟩
          have e0 : p0 * a + n0 = u2 := by rw [hp0, hn0, Nat.mul_comm]; exact Nat.div_add_mod u2 a
          have em : n0 < a := by rw [hn0]; exact Nat.mod_lt _ (by have := BD.out; omega)
          have kp : p0 < 18446744073709551616 := by rw [hp0]; exact Nat.lt_of_le_of_lt (Nat.div_le_self _ _) (by omega)
          have s2 : IntKind.u64.wrap ((u2 : Int) / (a : Int)) = (p0 : Int) := by
            have : (u2 : Int) / (a : Int) = ((u2 / a : Nat) : Int) := by simp
            rw [this, ← hp0, wrapn kp]
          obtain ⟨K2, hK2⟩ : ∃ k, k = u2 - n0 := ⟨_, rfl⟩
          have s3 : (p0 : Int) * (a : Int) = (K2 : Int) := by
            have : p0 * a = K2 := by omega
            rw [← this]; simp
          have s4 : IntKind.u64.wrap (K2 : Int) = (K2 : Int) := wrapn (by omega)
          have s5 : IntKind.u64.wrap ((u2 : Int) - (K2 : Int)) = (n0 : Int) := by
            have : (u2 : Int) - (K2 : Int) = (n0 : Int) := by omega
            rw [this]; exact wrapn (by omega)
          have G0 := hid (V.guess_ge (a := a) (b := b) (u := u2) (d := d0) (by omega) BD.out.2.2.2.2.1)
          rw [← hp0] at G0
          have E0 := hid e0
          have B0 : Hid (p0 < 18446744073709551616 ∧ n0 < 4294967296) := ⟨kp, by have := BD.out; omega⟩
          have HUY : Hid (u2 < Y) := k1
          have HU3 := hid hu2
          have HQY := hid hQY
          clear hu2 hQY k1 k2 hp0 hn0 e0 em kp hK2
          go_wp2_with fail
          clear s1 s2 s3 s4 s5
          go_loop [18, 16] (fun t1 t2 => ∃ q r : Nat, t1 = .int .u64 q ∧ t2 = .int .u64 r ∧ Hid (q < 18446744073709551616 ∧ r < 4294967296) ∧ Hid (q * a + r = u2) ∧ Hid ((u2 * 4294967296 + d0) / (a * 4294967296 + b) ≤ q)) (fun t1 _ => (intOf t1).toNat)
          case atStart => exact ⟨p0, n0, rfl, rfl, B0, E0, G0⟩
          case round =>
            obtain ⟨q, r, rfl, rfl, B1, E1, G1⟩ := hrel
            clear E0 G0 B0
            by_cases c1 : 4294967296 ≤ q
            · obtain ⟨q', hq'⟩ : ∃ q', q' = q - 1 := ⟨_, rfl⟩
              obtain ⟨r', hr'⟩ : ∃ r', r' = r + a := ⟨_, rfl⟩
              have q1 : IntKind.u64.wrap ((q : Int) - 1) = (q' : Int) := by have := B1.out; rw [IntKind.wrap_u64]; omega
              have q2 : IntKind.u64.wrap ((r : Int) + (a : Int)) = (r' : Int) := by have := B1.out; have := BD.out; rw [IntKind.wrap_u64]; omega
              have C1 : (4294967296 : Int) ≤ (q : Int) := by omega
              have HQ := hid hq'
              have E2 : Hid (q' * a + r' = u2) := V.step_eq E1.out (by omega) hq' hr'
              have G2 : Hid ((u2 * 4294967296 + d0) / (a * 4294967296 + b) ≤ q') := by
                have hbd := BD.out
                have hh := HAB.out
                have hu2 := HUY.out
                have hlt := V.wide_great (V := a * 4294967296 + b) (u := u2) (d := d0) (q := q) (by omega) (by omega) c1
                have := V.digit_le hlt
                rw [hq']; exact this
              by_cases c2 : 4294967296 ≤ r'
              · have C2 : decide ((4294967296 : Int) ≤ (r' : Int)) = true := decide_eq_true (by omega)
                have QE : Hid (q' = (u2 * 4294967296 + d0) / (a * 4294967296 + b)) := by
                  have hbd := BD.out
                  have hh := HAB.out
                  have hu2 := HUY.out
                  exact V.digit_eq G2.out (V.wide_rest E2.out (by omega) (by omega) c2).2 (by omega)
                clear hq' hr' c1 c2
                have FF := V.final HY.out BD.out.2.2.2.2.2.2.2.2 HU2.out HD.out
                rw [← HQY.out, ← HU3.out] at FF
                have hq2 : q' = (u2 * 4294967296 + d0) / Y := by rw [HAB.out]; exact QE.out
                rw [← hq2] at FF
                have hR1 := HR1.out
                have hR2 := HR2.out
                obtain ⟨e2, he2⟩ : ∃ R, R = (u2 * 4294967296 + d0) % Y := ⟨_, rfl⟩
                rw [← hR1, ← hR2, ← he2] at FF
                have hR3 : R1 < 18446744073709551616 := by
                  rw [hR1]
                  have := S0.out
                  exact Nat.div_lt_of_lt_mul (V.lt_words this.2.1 this.2.2.1)
                have f1 : IntKind.u64.wrap (IntKind.u64.wrap ((Q : Int) * 4294967296) + (q' : Int)) = (R1 : Int) := by
                  have := FF.1
                  rw [IntKind.wrap_u64, IntKind.wrap_u64]; omega
                have f2 : IntKind.u64.wrap (IntKind.u64.wrap (IntKind.u64.wrap ((u2 : Int) * 4294967296) + (d0 : Int)) - IntKind.u64.wrap ((q' : Int) * (Y : Int))) = (e2 : Int) := by
                  rw [IntKind.wrap_u64, IntKind.wrap_u64, IntKind.wrap_u64, IntKind.wrap_u64, he2]
                  exact V.rem_wrap hq2 BD.out.2.2.2.2.2.2.2.2 BD.out.2.2.2.2.2.2.2.1
                have f3 : (e2 : Int) / 2 ^ s = (R2 : Int) := by rw [castdiv, FF.2]
                have f4 : min s 64 = s := by have := S0.out; omega
                clear hR1 hR2 he2 hq2 FF hR3
                go_wp2_with fail
                go_ret2
                exact ⟨rfl, rfl⟩
              · have C2 : decide ((4294967296 : Int) ≤ (r' : Int)) = false := decide_eq_false (by omega)
                have B2 : Hid (q' < 18446744073709551616 ∧ r' < 4294967296) := by have := B1.out; exact ⟨by omega, by omega⟩
                clear hq' hr' c1 c2
                go_wp2_with fail
                go_round
                case rel => exact ⟨q', r', rfl, rfl, B2, E2, G2⟩
                case measure => have := HQ.out; simp [intOf]; omega
            · have D1 : decide ((4294967296 : Int) ≤ (q : Int)) = false := decide_eq_false (by omega)
              obtain ⟨x, hx⟩ : ∃ x, x = q * b := ⟨_, rfl⟩
              obtain ⟨z, hz⟩ : ∃ z, z = 4294967296 * r := ⟨_, rfl⟩
              obtain ⟨t, ht⟩ : ∃ t, t = z + d0 := ⟨_, rfl⟩
              have hxb : x ≤ 4294967295 * 4294967295 := by rw [hx]; have := BD.out; exact Nat.mul_le_mul (by omega) (by omega)
              have p1 : (q : Int) * (b : Int) = (x : Int) := by rw [hx]; simp
              have p1' : IntKind.u64.wrap (x : Int) = (x : Int) := wrapn (by omega)
              have p2 : IntKind.u64.wrap (4294967296 * (r : Int)) = (z : Int) := by have := B1.out; rw [IntKind.wrap_u64]; omega
              have p3 : IntKind.u64.wrap ((z : Int) + (d0 : Int)) = (t : Int) := by have := B1.out; have := BD.out; rw [IntKind.wrap_u64]; omega
              have TG : Hid ((t < x) ↔ (u2 * 4294967296 + d0 < q * (a * 4294967296 + b))) := by
                have := V.too_great (b := b) (d := d0) E1.out
                rw [← hx] at this
                rw [ht, hz, Nat.mul_comm 4294967296 r]; exact this
              by_cases c3 : t < x
              · have hlt := TG.out.1 c3
                obtain ⟨q', hq'⟩ : ∃ q', q' = q - 1 := ⟨_, rfl⟩
                obtain ⟨r', hr'⟩ : ∃ r', r' = r + a := ⟨_, rfl⟩
                have hq1 : 1 ≤ q := by
                  rcases Nat.eq_zero_or_pos q with h | h
                  · rw [h, Nat.zero_mul] at hlt; omega
                  · exact h
                have q1 : IntKind.u64.wrap ((q : Int) - 1) = (q' : Int) := by have := B1.out; rw [IntKind.wrap_u64]; omega
                have q2 : IntKind.u64.wrap ((r : Int) + (a : Int)) = (r' : Int) := by have := B1.out; have := BD.out; rw [IntKind.wrap_u64]; omega
                have HQ : Hid (q' = q - 1 ∧ 1 ≤ q) := ⟨hq', hq1⟩
                have E2 : Hid (q' * a + r' = u2) := V.step_eq E1.out hq1 hq' hr'
                have G2 : Hid ((u2 * 4294967296 + d0) / (a * 4294967296 + b) ≤ q') := by
                  have := V.digit_le hlt
                  rw [hq']; exact this
                by_cases c2 : 4294967296 ≤ r'
                · have C2 : decide ((4294967296 : Int) ≤ (r' : Int)) = true := decide_eq_true (by omega)
                  have QE : Hid (q' = (u2 * 4294967296 + d0) / (a * 4294967296 + b)) := by
                    have hbd := BD.out
                    have hh := HAB.out
                    have hu2 := HUY.out
                    exact V.digit_eq G2.out (V.wide_rest E2.out (by omega) (by omega) c2).2 (by omega)
                  clear hq' hr' c1 c2 hx hz ht hxb hlt hq1
                  have FF := V.final HY.out BD.out.2.2.2.2.2.2.2.2 HU2.out HD.out
                  rw [← HQY.out, ← HU3.out] at FF
                  have hq2 : q' = (u2 * 4294967296 + d0) / Y := by rw [HAB.out]; exact QE.out
                  rw [← hq2] at FF
                  have hR1 := HR1.out
                  have hR2 := HR2.out
                  obtain ⟨e2, he2⟩ : ∃ R, R = (u2 * 4294967296 + d0) % Y := ⟨_, rfl⟩
                  rw [← hR1, ← hR2, ← he2] at FF
                  have hR3 : R1 < 18446744073709551616 := by
                    rw [hR1]
                    have := S0.out
                    exact Nat.div_lt_of_lt_mul (V.lt_words this.2.1 this.2.2.1)
                  have f1 : IntKind.u64.wrap (IntKind.u64.wrap ((Q : Int) * 4294967296) + (q' : Int)) = (R1 : Int) := by
                    have := FF.1
                    rw [IntKind.wrap_u64, IntKind.wrap_u64]; omega
                  have f2 : IntKind.u64.wrap (IntKind.u64.wrap (IntKind.u64.wrap ((u2 : Int) * 4294967296) + (d0 : Int)) - IntKind.u64.wrap ((q' : Int) * (Y : Int))) = (e2 : Int) := by
                    rw [IntKind.wrap_u64, IntKind.wrap_u64, IntKind.wrap_u64, IntKind.wrap_u64, he2]
                    exact V.rem_wrap hq2 BD.out.2.2.2.2.2.2.2.2 BD.out.2.2.2.2.2.2.2.1
                  have f3 : (e2 : Int) / 2 ^ s = (R2 : Int) := by rw [castdiv, FF.2]
                  have f4 : min s 64 = s := by have := S0.out; omega
                  clear hR1 hR2 he2 hq2 FF hR3
                  go_wp2_with fail
                  go_ret2
                  exact ⟨rfl, rfl⟩
                · have C2 : decide ((4294967296 : Int) ≤ (r' : Int)) = false := decide_eq_false (by omega)
                  have B2 : Hid (q' < 18446744073709551616 ∧ r' < 4294967296) := by have := B1.out; exact ⟨by omega, by omega⟩
                  clear hq' hr' c1 c2 hx hz ht hxb hlt hq1
                  go_wp2_with fail
                  go_round
                  case rel => exact ⟨q', r', rfl, rfl, B2, E2, G2⟩
                  case measure => have := HQ.out; simp [intOf]; omega
              · have QE : Hid (q = (u2 * 4294967296 + d0) / (a * 4294967296 + b)) := V.digit_eq G1.out (fun h => c3 (TG.out.2 h)) (by have := BD.out; omega)
                clear c1 hx hz ht hxb
                have FF := V.final HY.out BD.out.2.2.2.2.2.2.2.2 HU2.out HD.out
                rw [← HQY.out, ← HU3.out] at FF
                have hq2 : q = (u2 * 4294967296 + d0) / Y := by rw [HAB.out]; exact QE.out
                rw [← hq2] at FF
                have hR1 := HR1.out
                have hR2 := HR2.out
                obtain ⟨e2, he2⟩ : ∃ R, R = (u2 * 4294967296 + d0) % Y := ⟨_, rfl⟩
                rw [← hR1, ← hR2, ← he2] at FF
                have hR3 : R1 < 18446744073709551616 := by
                  rw [hR1]
                  have := S0.out
                  exact Nat.div_lt_of_lt_mul (V.lt_words this.2.1 this.2.2.1)
                have f1 : IntKind.u64.wrap (IntKind.u64.wrap ((Q : Int) * 4294967296) + (q : Int)) = (R1 : Int) := by
                  have := FF.1
                  rw [IntKind.wrap_u64, IntKind.wrap_u64]; omega
                have f2 : IntKind.u64.wrap (IntKind.u64.wrap (IntKind.u64.wrap ((u2 : Int) * 4294967296) + (d0 : Int)) - IntKind.u64.wrap ((q : Int) * (Y : Int))) = (e2 : Int) := by
                  rw [IntKind.wrap_u64, IntKind.wrap_u64, IntKind.wrap_u64, IntKind.wrap_u64, he2]
                  exact V.rem_wrap hq2 BD.out.2.2.2.2.2.2.2.2 BD.out.2.2.2.2.2.2.2.1
                have f3 : (e2 : Int) / 2 ^ s = (R2 : Int) := by rw [castdiv, FF.2]
                have f4 : min s 64 = s := by have := S0.out; omega
                clear hR1 hR2 he2 hq2 FF hR3
                go_wp2_with fail
                go_ret2
                exact ⟨rfl, rfl⟩
end Go.Proofs.YtpanlcnoopmchaaGreat

namespace Go.Proofs.YtpanlcnoopmchaaGreat
open Go.RowKit
set_option maxHeartbeats 2000000
theorem div64_any (hi lo y R1 R2 : Nat) (g1 : R1 = (hi * 18446744073709551616 + lo) / y) (g2 : R2 = (hi * 18446744073709551616 + lo) % y) (h1 : hi < y) (h2 : lo < 18446744073709551616) (h3 : y < 18446744073709551616) (w : World) : Calls Tryz.prog 175 #[.int .u64 hi, .int .u64 lo, .int .u64 y] w fun e w' => e = .returned (.tuple #[.int .u64 R1, .int .u64 R2]) ∧ Below w.heap.size w w' := by
  by_cases h0 : hi = 0
  · subst h0
    rw [Nat.zero_mul, Nat.zero_add] at g1 g2
    have r1 : IntKind.u64.wrap ((lo : Int) / (y : Int)) = (R1 : Int) := by
      have : (lo : Int) / (y : Int) = ((lo / y : Nat) : Int) := by simp
      rw [this, ← g1, wrapn (by rw [g1]; exact Nat.lt_of_le_of_lt (Nat.div_le_self _ _) h2)]
    have r2 : (lo : Int) % (y : Int) = (R2 : Int) := by rw [g2]; simp
    have r3 : IntKind.u64.wrap ((lo : Int).tdiv (y : Int)) = (R1 : Int) := by rw [Int.tdiv_eq_ediv_of_nonneg (by omega)]; exact r1
    have r4 : (lo : Int).tmod (y : Int) = (R2 : Int) := by rw [Int.tmod_eq_emod_of_nonneg (by omega)]; exact r2
    have hby : ((y : Int) == 0) = false := beq_eq_false_iff_ne.2 (by omega)
    have hle : ¬ ((y : Int) ≤ 0) := by omega
    clear g1 g2 h3
    go_enter Tryz.func175, Tryz.ntmps175
    go_wp2_with fail
    go_quiet (fail)
    go_wp2_with fail
    go_ret2
    exact ⟨rfl, below_drewN (Below.refl _ _) _⟩
  · refine (div64_yes hi lo y R1 R2 g1 g2 h0 h1 h2 h3 w).mono ?_
    rintro e w' ⟨rfl, rfl⟩
    exact ⟨rfl, Below.refl _ _⟩
end Go.Proofs.YtpanlcnoopmchaaGreat

namespace Go.Proofs.YtpanlcnoopmchaaGreat
open Go.RowKit
end Go.Proofs.YtpanlcnoopmchaaGreat

namespace Go.Proofs.YtpanlcnoopmchaaGreat
open Go.RowKit
theorem msplit_no (a b c : Nat) (ha : a < 18446744073709551616) (hb : b < 18446744073709551616) (h : c ≤ a * b / 18446744073709551616) (w : World) :
    Calls Tryz.prog 172 #[.int .u64 a, .int .u64 b, .int .u64 c] w fun e w' => e = .returned (.tuple #[.int .u64 0, .int .u64 0, .bool false]) ∧ w = w' := by
  have m := Tryz.bits_Mul64 a b ha hb
  obtain ⟨hi, hh⟩ : ∃ x, x = a * b / 18446744073709551616 := ⟨_, rfl⟩
  obtain ⟨lo, hl⟩ : ∃ x, x = a * b % 18446744073709551616 := ⟨_, rfl⟩
  rw [← hh, ← hl] at m
  rw [← hh] at h
  have M0 := hid m
  clear m hh hl ha hb
  go_enter Tryz.func172, Tryz.ntmps172
  go_wp2_with fail
  refine (M0.out _).mono ?_
  rintro e w' ⟨rfl, rfl⟩
  go_wp2_with fail
  go_ret3
  exact ⟨rfl, rfl⟩
theorem msplit_yes (a b c R1 R2 : Nat) (ha : a < 18446744073709551616) (hb : b < 18446744073709551616) (hc : c < 18446744073709551616) (h : a * b / 18446744073709551616 < c) (g1 : R1 = a * b / c) (g2 : R2 = a * b % c) (w : World) :
    Calls Tryz.prog 172 #[.int .u64 a, .int .u64 b, .int .u64 c] w fun e w' => e = .returned (.tuple #[.int .u64 R1, .int .u64 R2, .bool (decide ((R1 : Int) ≤ 1152921504606846976))]) ∧ Below w.heap.size w w' := by
  have m := Tryz.bits_Mul64 a b ha hb
  have e := Nat.div_add_mod (a * b) 18446744073709551616
  have hl2 : a * b % 18446744073709551616 < 18446744073709551616 := Nat.mod_lt _ (by omega)
  obtain ⟨hi, hh⟩ : ∃ x, x = a * b / 18446744073709551616 := ⟨_, rfl⟩
  obtain ⟨lo, hl⟩ : ∃ x, x = a * b % 18446744073709551616 := ⟨_, rfl⟩
  rw [← hh, ← hl] at m e
  rw [← hh] at h
  rw [← hl] at hl2
  rw [Nat.mul_comm] at e
  rw [← e] at g1 g2
  have D0 := hid (div64_any hi lo c R1 R2 g1 g2 h hl2 hc)
  have M0 := hid m
  clear m hh hl ha hb g1 g2 e hl2 hc
  go_enter Tryz.func172, Tryz.ntmps172
  go_wp2_with fail
  refine (M0.out _).mono ?_
  rintro e w' ⟨rfl, rfl⟩
  go_wp2_with fail
  refine (D0.out _).mono ?_
  rintro e w2 ⟨rfl, hb2⟩
  go_wp2_with fail
  go_ret3
  exact ⟨rfl, hb2⟩
end Go.Proofs.YtpanlcnoopmchaaGreat

namespace Go.Proofs.YtpanlcnoopmchaaGreat
open Go Go.RowKit V
namespace M
theorem chk_ok {a : Int} (h : chk a = 0) : Amt a := by
  by_cases q : Amt a
  · exact q
  · rw [chk_no q] at h; omega
theorem chks_ok {l : List Int} (h : chks l = 0) : ∀ a ∈ l, Amt a := by
  by_cases q : ∀ a ∈ l, Amt a
  · exact q
  · rw [chks_no q] at h; omega
theorem chks_bad {l : List Int} (h : ¬ chks l = 0) : chks l = 3 := by unfold chks at h ⊢; split <;> simp_all
theorem chk_nok {a : Int} (h : ¬ chk a = 0) : ¬ Amt a := fun q => h (chk_yes q)
theorem ck_ok {a b c : Int} (h : ckE a b c = 0) : POk a b c := by
  by_cases q : POk a b c
  · exact q
  · rw [ck_no q] at h; omega
theorem ck_nok {a b c : Int} (h : ¬ ckE a b c = 0) : ¬ POk a b c := fun q => h (ck_yes q)
def spQ (a b c : Int) : Int := if c ≤ a * b / 18446744073709551616 then 0 else a * b / c
def spR (a b c : Int) : Int := if c ≤ a * b / 18446744073709551616 then 0 else a * b % c
def spB (a b c : Int) : Bool := if c ≤ a * b / 18446744073709551616 then false else decide (a * b / c ≤ 1152921504606846976)
end M
theorem v_mwithin (n a b : Int) : V.Fn Tryz.prog 163 [] [.one (.val (.int .i64 n)), .one (.val (.int .i64 a)), .one (.val (.int .i64 b))] (.bool (decide (a ≤ n ∧ n ≤ b))) := by
  refine V.Fn.mk_ V.Tok V.mixed Tryz.func163 rfl Tryz.ntmps163 (by kernel_rfl) rfl rfl ?_
  repeat' ((conv => whnf); first | refine V.NCond.mk ?_ | refine V.NPick.l ?_ | refine V.NIf.not_ ?_ | refine V.NIf.dec_ ?_ | refine V.a4 ?_ | refine V.a5 ?_ | refine V.NIf.mk (fun _ => ?_) (fun _ => ?_) | refine V.a7 ?_ | refine V.a8 ?_ | refine V.a9 ?_ | refine V.NBoth.mk ?_ ?_ | refine V.b1 ?_ | refine V.b2 ?_ | refine V.NTF.dec ?_ | refine V.b3 ?_ | refine V.b4 ?_ | (refine V.NDraw.any (by kernel_rfl) ?_) | fail)
  · exact ⟨_, rfl, by simp_all⟩
  · exact congrArg Value.bool (by simp_all; omega)
theorem v_check (a : Int) : V.Fn Tryz.prog 150 [] [.one (.val (.int .i64 a))] (.int .i64 (M.chk a)) := by
  refine V.Fn.mk_ V.Tok V.mixed Tryz.func150 rfl Tryz.ntmps150 (by kernel_rfl) rfl rfl ?_
  repeat' ((conv => whnf); first | refine V.NCond.mk ?_ | refine V.NPick.l ?_ | refine V.NIf.not_ ?_ | refine V.NIf.dec_ ?_ | refine V.a4 ?_ | refine V.a5 ?_ | refine V.NIf.mk (fun _ => ?_) (fun _ => ?_) | refine V.a7 ?_ | refine V.a8 ?_ | refine V.a9 ?_ | refine V.NBoth.mk ?_ ?_ | refine V.b1 ?_ | refine V.b2 ?_ | refine V.NTF.dec ?_ | refine V.b3 ?_ | refine V.b4 ?_ | (first | refine V.Fn.k0 (v_mwithin _ _ _) rfl ?_ | refine V.Fn.q0 (v_mwithin _ _ _) rfl ?_ | refine V.Fn.a0 (v_mwithin _ _ _) rfl ?_) | (refine V.NDraw.any (by kernel_rfl) ?_) | fail)
  all_goals ((conv => whnf); refine congrArg _ ?_; unfold M.chk M.Amt; (repeat' split) <;> first | rfl | omega | (exfalso; omega) | (simp_all; done) | (simp_all; omega))
theorem v_split (a b c : Int) (ha : 0 ≤ a ∧ a < 18446744073709551616) (hb : 0 ≤ b ∧ b < 18446744073709551616) (hc : 0 ≤ c ∧ c < 18446744073709551616) :
    V.Fn Tryz.prog 172 [] [.one (.val (.int .u64 a)), .one (.val (.int .u64 b)), .one (.val (.int .u64 c))] (.tuple #[.int .u64 (M.spQ a b c), .int .u64 (M.spR a b c), .bool (M.spB a b c)]) := by
  obtain ⟨x, rfl⟩ := Int.eq_ofNat_of_zero_le ha.1
  obtain ⟨y, rfl⟩ := Int.eq_ofNat_of_zero_le hb.1
  obtain ⟨z, rfl⟩ := Int.eq_ofNat_of_zero_le hc.1
  have e : (x : Int) * y / 18446744073709551616 = ((x * y / 18446744073709551616 : Nat) : Int) := by simp
  by_cases h : z ≤ x * y / 18446744073709551616
  · have h' : (z : Int) ≤ (x : Int) * y / 18446744073709551616 := by rw [e]; exact Int.ofNat_le.2 h
    rw [show M.spQ x y z = 0 from if_pos h', show M.spR x y z = 0 from if_pos h', show M.spB x y z = false from if_pos h']
    refine Fn.of_calls (xs := [.int .u64 x, .int .u64 y, .int .u64 z]) (by kernel_rfl) V.S_ fun w => ?_
    refine (msplit_no x y z (by omega) (by omega) h w).mono ?_
    rintro e w' ⟨rfl, rfl⟩
    exact ⟨rfl, Below.refl _ _⟩
  · have h' : ¬ (z : Int) ≤ (x : Int) * y / 18446744073709551616 := by rw [e]; exact fun q => h (Int.ofNat_le.1 q)
    rw [show M.spQ x y z = _ from if_neg h', show M.spR x y z = _ from if_neg h', show M.spB x y z = _ from if_neg h']
    refine Fn.of_calls (xs := [.int .u64 x, .int .u64 y, .int .u64 z]) (by kernel_rfl) V.S_ fun w => ?_
    refine (msplit_yes x y z (x * y / z) (x * y % z) (by omega) (by omega) (by omega) (by omega) rfl rfl w).mono ?_
    rintro e w' ⟨rfl, hb⟩
    exact ⟨by simp, hb⟩
namespace M
def rawQ (a b c : Int) : Int := if 0 ≤ a then IntKind.i64.wrap (spQ a b c) else if spR (0 - a) b c = 0 then IntKind.i64.wrap (0 - IntKind.i64.wrap (spQ (0 - a) b c)) else IntKind.i64.wrap (IntKind.i64.wrap (0 - IntKind.i64.wrap (spQ (0 - a) b c)) - 1)
def rawR (a b c : Int) : Int := if 0 ≤ a then spR a b c else if spR (0 - a) b c = 0 then 0 else c - spR (0 - a) b c
def rawB (a b c : Int) : Bool := if 0 ≤ a then spB a b c else if spR (0 - a) b c = 0 then spB (0 - a) b c else (spB (0 - a) b c && decide (spQ (0 - a) b c < 1152921504606846976))
theorem raw_1 {a b c : Int} (h : 0 ≤ a) : rawQ a b c = IntKind.i64.wrap (spQ a b c) ∧ rawR a b c = spR a b c ∧ rawB a b c = spB a b c := ⟨if_pos h, if_pos h, if_pos h⟩
theorem raw_2 {a b c : Int} (h : ¬ 0 ≤ a) (k : spR (0 - a) b c = 0) : rawQ a b c = IntKind.i64.wrap (0 - IntKind.i64.wrap (spQ (0 - a) b c)) ∧ rawR a b c = 0 ∧ rawB a b c = spB (0 - a) b c := by
  unfold rawQ rawR rawB; rw [if_neg h, if_pos k, if_neg h, if_pos k, if_neg h, if_pos k]; exact ⟨rfl, rfl, rfl⟩
theorem raw_3 {a b c : Int} (h : ¬ 0 ≤ a) (k : ¬ spR (0 - a) b c = 0) : rawQ a b c = IntKind.i64.wrap (IntKind.i64.wrap (0 - IntKind.i64.wrap (spQ (0 - a) b c)) - 1) ∧ rawR a b c = c - spR (0 - a) b c ∧ rawB a b c = (spB (0 - a) b c && decide (spQ (0 - a) b c < 1152921504606846976)) := by
  unfold rawQ rawR rawB; rw [if_neg h, if_neg k, if_neg h, if_neg k, if_neg h, if_neg k]; exact ⟨rfl, rfl, rfl⟩
theorem spR_bd {a b c : Int} (hc : 1 ≤ c) : 0 ≤ spR a b c ∧ spR a b c < c := by
  unfold spR; split
  · omega
  · exact r_bd hc
theorem i64w {e : Int} (h : -9223372036854775808 ≤ e ∧ e ≤ 9223372036854775807) : IntKind.i64.wrap e = e := IntWalk.i64_in e h
theorem sp_in {a b c : Int} (hc : 1 ≤ c ∧ c ≤ 1099511627776) (ha : 0 ≤ a) (hb : 0 ≤ b) (k : a * b / c ≤ 1152921504606846976) : spQ a b c = a * b / c ∧ spR a b c = a * b % c ∧ spB a b c = true := by
  have hab : 0 ≤ a * b := Int.mul_nonneg ha hb
  have e := qr (a * b) c
  have r := r_bd (x := a * b) hc.1
  have lt : ¬ c ≤ a * b / 18446744073709551616 := by
    intro q
    have h1 : c * 18446744073709551616 ≤ a * b := (Int.le_ediv_iff_mul_le (by omega)).1 q
    have h2 : c * (a * b / c) ≤ c * 1152921504606846976 := Int.mul_le_mul_of_nonneg_left k (by omega)
    omega
  exact ⟨if_neg lt, if_neg lt, (if_neg lt).trans (decide_eq_true k)⟩
theorem sp_out {a b c : Int} (hc : 1 ≤ c ∧ c ≤ 1099511627776) (ha : 0 ≤ a) (hb : 0 ≤ b) (k : spB a b c = true) : a * b / c ≤ 1152921504606846976 := by
  unfold spB at k
  split at k
  · cases k
  · exact of_decide_eq_true k
theorem raw_at {a b c : Int} (h : POk a b c) : (rawB a b c = true ↔ Amt (a * b / c)) ∧ (Amt (a * b / c) → rawQ a b c = a * b / c ∧ rawR a b c = a * b % c) := by
  obtain ⟨⟨a0, a1⟩, ⟨b0, b1⟩, hc⟩ := h
  by_cases ha : 0 ≤ a
  · obtain ⟨e1, e2, e3⟩ := raw_1 (b := b) (c := c) ha
    have q0 : 0 ≤ a * b / c := Int.ediv_nonneg (Int.mul_nonneg ha b0) (by omega)
    rw [e1, e2, e3]
    refine ⟨⟨fun k => ⟨by omega, sp_out hc ha b0 k⟩, fun k => (sp_in hc ha b0 k.2).2.2⟩, fun k => ?_⟩
    obtain ⟨s1, s2, _⟩ := sp_in hc ha b0 k.2
    have k2 := k.2
    rw [s1, s2, i64w (by omega)]; exact ⟨rfl, rfl⟩
  · have hn : 0 ≤ 0 - a := by omega
    have em : a * b = -((0 - a) * b) := by rw [Int.zero_sub, Int.neg_mul, Int.neg_neg]
    have q0 : 0 ≤ (0 - a) * b / c := Int.ediv_nonneg (Int.mul_nonneg hn b0) (by omega)
    rw [em]
    by_cases k : (0 - a) * b / c ≤ 1152921504606846976
    · obtain ⟨s1, s2, s3⟩ := sp_in hc hn b0 k
      rcases neg_part (x := (0 - a) * b) hc.1 with ⟨z, n1, n2⟩ | ⟨z, n1, n2⟩
      · obtain ⟨e1, e2, e3⟩ := raw_2 (b := b) (c := c) ha (by rw [s2]; exact z)
        rw [e1, e2, e3, n1, n2, s1, s3, i64w (e := (0 - a) * b / c) (by omega), i64w (by omega)]
        refine ⟨⟨fun _ => ⟨by omega, by omega⟩, fun _ => rfl⟩, fun _ => ⟨by omega, rfl⟩⟩
      · obtain ⟨e1, e2, e3⟩ := raw_3 (b := b) (c := c) ha (by rw [s2]; omega)
        rw [e1, e2, e3, n1, n2, s1, s2, s3, i64w (e := (0 - a) * b / c) (by omega), i64w (e := 0 - _) (by omega), i64w (by omega)]
        refine ⟨?_, fun _ => ⟨by omega, rfl⟩⟩
        unfold Amt
        simp only [Bool.true_and, decide_eq_true_eq]
        omega
    · have sb : spB (0 - a) b c = false := by
        rw [Bool.eq_false_iff]; exact fun q => k (sp_out hc hn b0 q)
      have na : ¬ Amt (-((0 - a) * b) / c) := by
        unfold Amt
        rcases neg_part (x := (0 - a) * b) hc.1 with ⟨z, n1, n2⟩ | ⟨z, n1, n2⟩ <;> omega
      have rb : rawB a b c = false := by
        by_cases z : spR (0 - a) b c = 0
        · rw [(raw_2 (b := b) (c := c) ha z).2.2]; exact sb
        · rw [(raw_3 (b := b) (c := c) ha z).2.2, sb]; rfl
      rw [rb]
      exact ⟨⟨fun q => (nomatch q), fun q => absurd q na⟩, fun q => absurd q na⟩
theorem raw_ok {a b c : Int} (h : POk a b c) (k : rawB a b c = true) : Amt (a * b / c) ∧ rawQ a b c = a * b / c ∧ rawR a b c = a * b % c := ⟨(raw_at h).1.1 k, (raw_at h).2 ((raw_at h).1.1 k)⟩
theorem raw_nok {a b c : Int} (h : POk a b c) (k : ¬ rawB a b c = true) : ¬ Amt (a * b / c) := fun q => k ((raw_at h).1.2 q)
end M
set_option maxHeartbeats 1000000 in
theorem v_raw (a b c : Int) (h : M.POk a b c) : V.Fn Tryz.prog 167 [] [.one (.val (.int .i64 a)), .one (.val (.int .i64 b)), .one (.val (.int .i64 c))] (.tuple #[.int .i64 (M.rawQ a b c), .int .i64 (M.rawR a b c), .bool (M.rawB a b c)]) := by
  obtain ⟨⟨a0, a1⟩, ⟨b0, b1⟩, c0, c1⟩ := h
  have r1 := M.spR_bd (a := a) (b := b) c0
  have r2 := M.spR_bd (a := 0 - a) (b := b) c0
  refine V.Fn.mk_ V.Tok V.mixed Tryz.func167 rfl Tryz.ntmps167 (by kernel_rfl) rfl rfl ?_
  repeat' ((conv => whnf); first | refine V.NCond.mk ?_ | refine V.NPick.l ?_ | refine V.NIf.not_ ?_ | refine V.NIf.dec_ ?_ | refine V.a4 ?_ | refine V.a5 ?_ | refine V.NIf.mk (fun _ => ?_) (fun _ => ?_) | refine V.a7 ?_ | refine V.a8 ?_ | refine V.a9 ?_ | refine V.NBoth.mk ?_ ?_ | refine V.b1 ?_ | refine V.b2 ?_ | refine V.NTF.dec ?_ | refine V.b3 ?_ | refine V.b4 ?_ | (first | refine V.Fn.k0 (v_split a b c (by omega) (by omega) (by omega)) rfl ?_ | refine V.Fn.q0 (v_split a b c (by omega) (by omega) (by omega)) rfl ?_ | refine V.Fn.a0 (v_split a b c (by omega) (by omega) (by omega)) rfl ?_) | (first | refine V.Fn.k0 (v_split (0 - a) b c (by omega) (by omega) (by omega)) rfl ?_ | refine V.Fn.q0 (v_split (0 - a) b c (by omega) (by omega) (by omega)) rfl ?_ | refine V.Fn.a0 (v_split (0 - a) b c (by omega) (by omega) (by omega)) rfl ?_) | (refine NWrap.mk ?_) | (refine V.NDraw.any (by kernel_rfl) ?_) | fail)
  · obtain ⟨e1, e2, e3⟩ := M.raw_1 (a := a) (b := b) (c := c) (by assumption)
    rw [e1, e2, e3]; exact V.S_
  · obtain ⟨e1, e2, e3⟩ := M.raw_2 (a := a) (b := b) (c := c) (by assumption) (by assumption)
    rw [e1, e2, e3]; exact V.S_
  all_goals obtain ⟨e1, e2, e3⟩ := M.raw_3 (a := a) (b := b) (c := c) (by assumption) (by assumption)
  all_goals rw [e1, e2, e3]
  all_goals (conv => whnf)
  all_goals (repeat' (first | exact rfl | exact trivial | (refine ⟨_, rfl, ?_⟩; simp_all; done) | (refine ⟨?_, ?_⟩) | exact congrArg Value.bool (by simp_all) | (simp_all; done)))
theorem v_mcheck (a b c : Int) : V.Fn Tryz.prog 166 [] [.one (.val (.int .i64 a)), .one (.val (.int .i64 b)), .one (.val (.int .i64 c))] (.int .i64 (M.ckE a b c)) := by
  refine V.Fn.mk_ V.Tok V.mixed Tryz.func166 rfl Tryz.ntmps166 (by kernel_rfl) rfl rfl ?_
  repeat' ((conv => whnf); first | refine V.NCond.mk ?_ | refine V.NPick.l ?_ | refine V.NIf.not_ ?_ | refine V.NIf.dec_ ?_ | refine V.a4 ?_ | refine V.a5 ?_ | refine V.NIf.mk (fun _ => ?_) (fun _ => ?_) | refine V.a7 ?_ | refine V.a8 ?_ | refine V.a9 ?_ | refine V.NBoth.mk ?_ ?_ | refine V.b1 ?_ | refine V.b2 ?_ | refine V.NTF.dec ?_ | refine V.b3 ?_ | refine V.b4 ?_ | (first | refine V.Fn.k0 (v_check _) rfl ?_ | refine V.Fn.q0 (v_check _) rfl ?_ | refine V.Fn.a0 (v_check _) rfl ?_) | (first | refine V.Fn.k0 (v_mwithin _ _ _) rfl ?_ | refine V.Fn.q0 (v_mwithin _ _ _) rfl ?_ | refine V.Fn.a0 (v_mwithin _ _ _) rfl ?_) | (refine V.NDraw.any (by kernel_rfl) ?_) | fail)
  all_goals (conv => whnf)
  all_goals refine congrArg (Value.int .i64) ?_
  all_goals first
    | exact (M.ck_yes ⟨M.chk_ok (by assumption), by omega, by omega⟩).symm
    | exact (M.ck_no fun q => by have := q.2; omega).symm
    | (have k := M.chk_nok (a := a) (by assumption); rw [M.ck_no fun q => k q.1, M.chk_no k])
theorem v_part (a b c : Int) : V.Fn Tryz.prog 159 [] [.one (.val (.int .i64 a)), .one (.val (.int .i64 b)), .one (.val (.int .i64 c))] (.tuple #[.int .i64 (M.prQ a b c), .int .i64 (M.prR a b c), .int .i64 (M.prE a b c)]) := by
  refine V.Fn.mk_ V.Tok V.mixed Tryz.func159 rfl Tryz.ntmps159 (by kernel_rfl) rfl rfl ?_
  repeat' ((conv => whnf); first | refine V.NCond.mk ?_ | refine V.NPick.l ?_ | refine V.NIf.not_ ?_ | refine V.NIf.dec_ ?_ | refine V.a4 ?_ | refine V.a5 ?_ | refine V.NIf.mk (fun _ => ?_) (fun _ => ?_) | refine V.a7 ?_ | refine V.a8 ?_ | refine V.a9 ?_ | refine V.NBoth.mk ?_ ?_ | refine V.b1 ?_ | refine V.b2 ?_ | refine V.NTF.dec ?_ | refine V.b3 ?_ | refine V.b4 ?_ | (first | refine V.Fn.k0 (v_mcheck _ _ _) rfl ?_ | refine V.Fn.q0 (v_mcheck _ _ _) rfl ?_ | refine V.Fn.a0 (v_mcheck _ _ _) rfl ?_) | (first | refine V.Fn.k0 (v_raw a b c (M.ck_ok (by assumption))) rfl ?_ | refine V.Fn.q0 (v_raw a b c (M.ck_ok (by assumption))) rfl ?_ | refine V.Fn.a0 (v_raw a b c (M.ck_ok (by assumption))) rfl ?_) | (refine V.NDraw.any (by kernel_rfl) ?_) | fail)
  · have h := M.ck_ok (by assumption)
    obtain ⟨k, e1, e2⟩ := M.raw_ok h (by assumption)
    rw [e1, e2, (M.pr_3 h k).1, (M.pr_3 h k).2.1, (M.pr_3 h k).2.2]; exact V.S_
  · have h := M.ck_ok (by assumption)
    have k := M.raw_nok h (by assumption)
    rw [(M.pr_2 h k).1, (M.pr_2 h k).2.1, (M.pr_2 h k).2.2]; exact V.S_
  · have h := M.ck_nok (by assumption)
    rw [(M.pr_1 h).1, (M.pr_1 h).2.1, (M.pr_1 h).2.2, M.ck_no h]; exact V.S_
end Go.Proofs.YtpanlcnoopmchaaGreat

namespace Go.Proofs.YtpanlcnoopmchaaGreat.V
open Go Go.RowKit
theorem Redo.refl (sz : Nat) (env : Env) (obs : Obs) (nx : Nat) : Redo sz env obs nx env obs nx := ⟨fun _ ρ _ _ h1 h2 => ⟨ρ, fun _ _ h => h, h1, h2⟩⟩
theorem Redo.out {sz : Nat} {env env' : Env} {obs obs' : Obs} {nx nx' : Nat} (i k : Nat) {t e s n m : Nat} {vs : Nat → Value} {xs : Nat → Option (Nat × (Nat → List Value))} {g : Nat → List Value} (ho : fnd obs i = some (.rws t e s n vs xs)) (hk : k < n) (hx : xs k = some (m, g))
    (h : Redo sz env ((nx, .rov (vs k) e s m g) :: (i, .rws t e s n vs (putX xs k none)) :: obs) (nx + 1) env' obs' nx') : Redo sz env obs nx env' obs' nx' :=
  ⟨fun B ρ w a hE hC => by
    obtain ⟨c, _⟩ := hC.out ho hk hx (.inl rfl)
    have hX : Ext ρ (upd ρ nx (vs k)) := ext_upd (hC.new nx (Nat.le_refl _))
    obtain ⟨ρ', h1, h2, h3⟩ := h.h B _ w a (hE.ext hX) c
    exact ⟨ρ', fun i y q => h1 i y (hX i y q), h2, h3⟩⟩
theorem Svs.see_ {ρ : Rho} {nx : Nat} {v : Value} (hx : ρ nx = none) (ho : v.oneCell' = true) : ∀ {args : List SV} {xs : List Value} {j : Nat}, args[j]? = some (.one (.val v)) → Svs ρ args xs → Svs (upd ρ nx v) (args.set j (.one (.ref nx))) xs
  | [], _, j, h, _ => by simp at h
  | a :: l, _, 0, h, ⟨u, r, e, ha, hr⟩ => by
    have ea : a = .one (.val v) := by simpa using h
    subst ea
    have eu : u = v := ha
    subst eu
    exact ⟨_, r, e, ⟨upd_same _ _ _, ho⟩, Svs.ext (ext_upd hx) hr⟩
  | a :: l, _, j + 1, h, ⟨u, r, e, ha, hr⟩ => ⟨u, r, e, SV.is1_ext (ext_upd hx) ha, Svs.see_ hx ho (by simpa using h) hr⟩
theorem NCall.see {P : Program} {f : FuncId} {args : List SV} {obs : Obs} {nx : Nat} {K : SV → Obs → Nat → Prop} (j i k : Nat) {t e s n m : Nat} {vs : Nat → Value} {xs : Nat → Option (Nat × (Nat → List Value))} {g : Nat → List Value} (ho : fnd obs i = some (.rws t e s n vs xs)) (hk : k < n) (hx : xs k = some (m, g))
    (ea : args[j]? = some (.one (.val (vs k)))) (h : NCall P f (args.set j (.one (.ref nx))) ((nx, .row e s m g) :: (i, .rws t e s n vs (putX xs k none)) :: obs) (nx + 1) K) : NCall P f args obs nx K := by
  refine ⟨h.b, fun B ρ w ys hC ha => ?_⟩
  obtain ⟨c, h1⟩ := hC.out ho hk hx (.inr rfl)
  have hx := hC.new nx (Nat.le_refl _)
  refine (h.h B _ w ys c (ha.see_ hx h1 ea)).mono ?_
  rintro e w' ⟨v, obs', nx', ρ', x, hK, hE, r⟩
  exact ⟨v, obs', nx', ρ', x, hK, fun i y hy => hE i y (by have : i ≠ nx := fun q => (by rw [q, hx] at hy; cases hy); simpa [upd, this] using hy), r⟩
end Go.Proofs.YtpanlcnoopmchaaGreat.V
namespace Go.Proofs.YtpanlcnoopmchaaGreat
open Go Go.RowKit V
theorem v_ntotal (l : List Int) (hn : l.length ≤ 100000) (hJ : ∀ a ∈ l, M.Amt a) : V.Fn Tryz.prog 161 [.arr 1 l.length (ga e1 l)] [.one (.ref 0)] (.tuple #[.int .i64 (Nt.tov l), .bool (decide (M.Amt (M.sum l)))]) := by
  refine V.Fn.mk_ V.Tok V.mixed Tryz.func161 rfl Tryz.ntmps161 (by kernel_rfl) rfl rfl ?_
  repeat' ((conv => whnf); first | refine V.NCond.mk ?_ | refine V.NPick.l ?_ | refine V.NIf.not_ ?_ | refine V.NIf.dec_ ?_ | refine V.a4 ?_ | refine V.a5 ?_ | refine V.NIf.mk (fun _ => ?_) (fun _ => ?_) | refine V.a7 ?_ | refine V.a8 ?_ | refine V.a9 ?_ | refine V.NBoth.mk ?_ ?_ | refine V.b1 ?_ | refine V.b2 ?_ | refine V.NTF.dec ?_ | refine V.b3 ?_ | refine V.b4 ?_ | (refine V.NDraw.any (by kernel_rfl) ?_) | fail)
  refine V.NLoop.auto (fun (k : Nat) => [(10, .one (.val (.int .i64 k))), (4, .one (.val (.int .i64 (Bk.wst (l.take k)).2))), (5, .one (.val (.int .i64 (Bk.wst (l.take k)).1)))]) (fun (k : Nat) => []) [] [] (fun (k : Nat) => l.length - k) (fun (k : Nat) => k ≤ l.length) 0 (Nat.zero_le _) V.S_ V.S_ (fun _ => ⟨rfl, rfl⟩) ?_; (conv => whnf); refine ⟨⟨rfl, rfl⟩, ?_⟩
  rintro k hk
  obtain ⟨w1, w2, w3, w4⟩ := Bk.wst_spec (l.take k) (fun a ha => hJ a (List.mem_of_mem_take ha))
  rw [List.length_take] at w3 w4
  have am : M.Amt (M.sum l) ↔ -1152921504606846976 ≤ M.sum l ∧ M.sum l ≤ 1152921504606846976 := Iff.rfl
  have ckn := fun n => @M.chk_yes n
  have ckz := fun n (h : M.chk n = 0) => Classical.byContradiction fun (z : ¬ M.Amt n) => by rw [M.chk_no z] at h; omega
  by_cases hlt : k < l.length
  · have hd := Bk.tdm ((Bk.wst (l.take k)).2 + l.getD k default)
    have aj := hJ _ (getD_mem hlt)
    unfold M.Amt at aj
    have ws : Bk.wst (l.take (k + 1)) = ((Bk.wst (l.take k)).1 + ((Bk.wst (l.take k)).2 + l.getD k default).tdiv 1152921504606846976, ((Bk.wst (l.take k)).2 + l.getD k default).tmod 1152921504606846976) := by rw [List.take_succ_eq_append_getElem hlt, Bk.wst_snoc, getD_at hlt]; rfl
    repeat' ((conv => whnf); first | refine V.NCond.mk ?_ | refine V.NPick.l ?_ | refine V.NIf.not_ ?_ | refine V.NIf.dec_ ?_ | refine V.a4 ?_ | refine V.a5 ?_ | refine V.NIf.mk (fun _ => ?_) (fun _ => ?_) | refine V.a7 ?_ | refine V.a8 ?_ | refine V.a9 ?_ | refine V.NBoth.mk ?_ ?_ | refine V.b1 ?_ | refine V.b2 ?_ | refine V.NTF.dec ?_ | refine V.b3 ?_ | refine V.b4 ?_ | (refine NIdx.mk ⟨_, rfl, by omega, ?_⟩) | (refine V.NWrap.ok (by omega) (by omega) ?_) | (refine NQuo.ok (by decide) (by omega) (by omega) ?_) | (refine NRem.mk (by decide) ?_) | (refine V.NDraw.any (by kernel_rfl) ?_) | fail)
    all_goals (conv => whnf)
    exact V.NBack.at_ (k + 1) [] (by omega) (by omega) ⟨rfl, by rw [ws]; rfl, by rw [ws]; rfl, trivial⟩ rfl V.S_ V.S_ V.S_
  obtain rfl : k = l.length := by omega
  have eT : l.take l.length = l := List.take_length
  generalize l.take l.length = T at *
  replace eT := eT.symm
  subst eT
  have no : M.chk ((Bk.wst l).2 + (Bk.wst l).1 * 1152921504606846976) = 0 ↔ M.Amt (M.sum l) := by
    rw [show (Bk.wst l).2 + (Bk.wst l).1 * 1152921504606846976 = M.sum l by omega]
    exact ⟨fun h => am.2 (ckz _ h), fun h => ckn _ h⟩
  repeat' ((conv => whnf); first | refine V.NCond.mk ?_ | refine V.NPick.l ?_ | refine V.NIf.not_ ?_ | refine V.NIf.dec_ ?_ | refine V.a4 ?_ | refine V.a5 ?_ | refine V.NIf.mk (fun _ => ?_) (fun _ => ?_) | refine V.a7 ?_ | refine V.a8 ?_ | refine V.a9 ?_ | refine V.NBoth.mk ?_ ?_ | refine V.b1 ?_ | refine V.b2 ?_ | refine V.NTF.dec ?_ | refine V.b3 ?_ | refine V.b4 ?_ | (refine V.NWrap.ok (by omega) (by omega) ?_) | (first | refine V.Fn.k0 (v_check _) rfl ?_ | refine V.Fn.q0 (v_check _) rfl ?_ | refine V.Fn.a0 (v_check _) rfl ?_) | (refine V.NDraw.any (by kernel_rfl) ?_) | fail)
  all_goals (conv => whnf)
  · exact ⟨V.fin1 (if_pos (by omega)), congrArg Value.bool (decide_eq_false fun h => by have := am.1 h; omega).symm, trivial⟩
  · exact ⟨V.fin1 (if_pos (by omega)), congrArg Value.bool (decide_eq_false fun h => by have := am.1 h; omega).symm, trivial⟩
  · exact ⟨V.fin1 ((if_neg (by omega)).trans (by omega)), ⟨_, rfl, by rw [no, decide_eq_true_iff]⟩, trivial⟩
end Go.Proofs.YtpanlcnoopmchaaGreat
