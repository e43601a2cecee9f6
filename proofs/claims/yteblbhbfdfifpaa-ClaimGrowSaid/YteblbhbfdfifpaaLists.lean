/- Plain facts on lists that are gone through one by one. -/
namespace Go.Proofs.Yteblbhbfdfifpaa
theorem getD_at {α : Type} [Inhabited α] {l : List α} {k : Nat} (h : k < l.length) : l.getD k default = l[k] := by simp [List.getD, List.getElem?_eq_getElem h]
theorem getD_mem {α : Type} [Inhabited α] {l : List α} {k : Nat} (h : k < l.length) : l.getD k default ∈ l := by rw [getD_at h]; exact List.getElem_mem h
/-- the first answer that is not 0 -/
def fb {α : Type} (f : α → Int) : List α → Int
  | [] => 0
  | x :: r => if f x ≠ 0 then f x else fb f r
theorem fb_ok {α : Type} {f : α → Int} : ∀ {l : List α}, fb f l = 0 → ∀ d ∈ l, f d = 0
  | [], _, _, h => by simp at h
  | d :: r, h, x, hx => by
    unfold fb at h
    split at h
    · rename_i k; exact absurd h k
    · rename_i k
      rcases List.mem_cons.1 hx with rfl | q
      · omega
      · exact fb_ok h x q
theorem fb_yes {α : Type} {f : α → Int} : ∀ {l : List α}, (∀ d ∈ l, f d = 0) → fb f l = 0
  | [], _ => rfl
  | d :: r, h => by unfold fb; rw [if_neg (by have := h d (by simp); omega)]; exact fb_yes fun x hx => h x (by simp [hx])
theorem fb_at {α : Type} {f : α → Int} : ∀ {l : List α} {k : Nat} (hk : k < l.length), (∀ d ∈ l.take k, f d = 0) → f l[k] ≠ 0 → fb f l = f l[k]
  | d :: r, 0, _, _, h => by unfold fb; rw [if_pos (by simpa using h)]; rfl
  | d :: r, k + 1, hk, h1, h => by
    unfold fb
    rw [if_neg (by have := h1 d (by simp); omega)]
    exact fb_at (l := r) (by simpa using hk) (fun x hx => h1 x (by simp [hx])) (by simpa using h)
theorem fb_get {α : Type} [Inhabited α] {f : α → Int} {l : List α} {k : Nat} (hk : k < l.length) (h1 : ∀ d ∈ l.take k, f d = 0) (h : f (l.getD k default) ≠ 0) : fb f l = f (l.getD k default) := by
  rw [getD_at hk] at *
  exact fb_at hk h1 h
theorem all_snoc {α : Type} [Inhabited α] {p : α → Prop} {l : List α} {k : Nat} (hk : k < l.length) (h1 : ∀ d ∈ l.take k, p d) (h : p (l.getD k default)) : ∀ d ∈ l.take (k + 1), p d := by
  intro a ha
  rw [List.take_succ_eq_append_getElem hk] at ha
  rcases List.mem_append.1 ha with q | q
  · exact h1 a q
  · rw [List.mem_singleton.1 q, ← getD_at hk]; exact h
theorem all_whole {α : Type} {p : α → Prop} {l : List α} {k : Nat} (hk : l.length ≤ k) (h1 : ∀ d ∈ l.take k, p d) : ∀ d ∈ l, p d := by
  rwa [List.take_of_length_le hk] at h1
/-- where the first one is; -1: nowhere -/
def ixf {α : Type} (p : α → Bool) : List α → Int
  | [] => -1
  | x :: r => if p x then 0 else if ixf p r < 0 then -1 else ixf p r + 1
theorem ixf_no {α : Type} {p : α → Bool} : ∀ {l : List α}, (∀ d ∈ l, p d = false) → ixf p l = -1
  | [], _ => rfl
  | d :: r, h => by unfold ixf; rw [if_neg (by rw [h d (by simp)]; decide), ixf_no fun x hx => h x (by simp [hx])]; rfl
theorem ixf_at {α : Type} {p : α → Bool} : ∀ {l : List α} {k : Nat} (hk : k < l.length), (∀ d ∈ l.take k, p d = false) → p l[k] = true → ixf p l = k
  | d :: r, 0, _, _, h => by unfold ixf; rw [if_pos (by simpa using h)]; rfl
  | d :: r, k + 1, hk, h1, h => by
    unfold ixf
    have e := ixf_at (l := r) (k := k) (by simpa using hk) (fun x hx => h1 x (by simp [hx])) (by simpa using h)
    rw [if_neg (by rw [h1 d (by simp)]; decide), e, if_neg (by omega)]
    omega
theorem ixf_get {α : Type} [Inhabited α] {p : α → Bool} {l : List α} {k : Nat} (hk : k < l.length) (h1 : ∀ d ∈ l.take k, p d = false) (h : p (l.getD k default) = true) : ixf p l = k := by
  rw [getD_at hk] at h
  exact ixf_at hk h1 h
theorem ixf_cases {α : Type} [Inhabited α] (p : α → Bool) (l : List α) : (ixf p l = -1 ∧ ∀ d ∈ l, p d = false) ∨ ∃ k : Nat, ixf p l = k ∧ k < l.length ∧ p (l.getD k default) = true ∧ ∀ d ∈ l.take k, p d = false := by
  induction l with
  | nil => left; exact ⟨rfl, by simp⟩
  | cons d r ih =>
    by_cases h : p d
    · right; exact ⟨0, by unfold ixf; rw [if_pos h]; rfl, by simp, by simpa using h, by simp⟩
    · have hf : p d = false := by simpa using h
      rcases ih with ⟨e, a⟩ | ⟨k, e, hk, hp, ha⟩
      · left
        refine ⟨by unfold ixf; rw [if_neg h, e]; rfl, fun x hx => ?_⟩
        rcases List.mem_cons.1 hx with rfl | q
        · exact hf
        · exact a x q
      · right
        refine ⟨k + 1, by unfold ixf; rw [if_neg h, e, if_neg (by omega)]; omega, by simpa using hk, by simpa [List.getD] using hp, fun x hx => ?_⟩
        rcases List.mem_cons.1 (by simpa using hx) with rfl | q
        · exact hf
        · exact ha x q
/-- the least -/
def lmin (l : List Int) : Int := (l.drop 1).foldl (fun a b => if b < a then b else a) (l.getD 0 default)
theorem foldmin (l : List Int) : ∀ a : Int, (l.foldl (fun a b => if b < a then b else a) a ≤ a) ∧ ∀ x ∈ l, l.foldl (fun a b => if b < a then b else a) a ≤ x := by
  induction l with
  | nil => intro a; simp
  | cons y r ih =>
    intro a
    obtain ⟨h1, h2⟩ := ih (if y < a then y else a)
    simp only [List.foldl_cons, List.mem_cons]
    have q1 : (if y < a then y else a) ≤ a := by split <;> omega
    have q2 : (if y < a then y else a) ≤ y := by split <;> omega
    refine ⟨Int.le_trans h1 q1, ?_⟩
    rintro x (rfl | hx)
    · exact Int.le_trans h1 q2
    · exact h2 x hx
theorem foldmin_in (l : List Int) : ∀ a : Int, l.foldl (fun a b => if b < a then b else a) a = a ∨ l.foldl (fun a b => if b < a then b else a) a ∈ l := by
  induction l with
  | nil => intro a; simp
  | cons y r ih =>
    intro a
    simp only [List.foldl_cons, List.mem_cons]
    rcases ih (if y < a then y else a) with h | h
    · rw [h]; split <;> simp
    · exact .inr (.inr h)
theorem lmin_neg {l : List Int} (h : l ≠ []) : lmin l < 0 ↔ ∃ x ∈ l, x < 0 := by
  cases l with
  | nil => exact absurd rfl h
  | cons a r =>
    unfold lmin
    simp only [List.drop_succ_cons, List.drop_zero, List.getD_cons_zero, List.mem_cons]
    obtain ⟨h1, h2⟩ := foldmin r a
    constructor
    · intro q
      rcases foldmin_in r a with e | e
      · exact ⟨a, .inl rfl, by omega⟩
      · exact ⟨_, .inr e, q⟩
    · rintro ⟨x, rfl | hx, q⟩
      · omega
      · have := h2 x hx; omega
theorem fb_end {α : Type} [Inhabited α] {f : α → Int} {l : List α} {k : Nat} (hk : l.length ≤ k) (h1 : ∀ d ∈ l.take k, f d = 0) : fb f l = 0 := fb_yes (all_whole hk h1)
end Go.Proofs.Yteblbhbfdfifpaa
