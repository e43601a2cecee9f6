/- Plain facts on settling all at once: a ring. -/
import Derived.Test.YtmbcdkgnlididaaGridPl8
namespace Go.Proofs.Ytmbcdkgnlididaa
set_option linter.unusedVariables false
namespace G
def edge (n : Nat) (a : Int) (i : Nat) : Du := ⟨i, ((i + 1) % n : Nat), a⟩
def rng (n : Nat) (a : Int) (k : Nat) : List Du := (List.range k).map (edge n a)
/-- all but one of them -/
def rngx (n : Nat) (a o : Int) (k : Nat) : List Du := ((List.range k).filter fun (i : Nat) => decide ((i : Int) ≠ o)).map (edge n a)
theorem rng_len (n : Nat) (a : Int) (k : Nat) : (rng n a k).length = k := by simp [rng]
theorem rng_succ (n : Nat) (a : Int) (k : Nat) : rng n a (k + 1) = rng n a k ++ [edge n a k] := by
  unfold rng; rw [List.range_succ, List.map_append]; rfl
theorem rngx_succ (n : Nat) (a o : Int) (k : Nat) : rngx n a o (k + 1) = if (k : Int) ≠ o then rngx n a o k ++ [edge n a k] else rngx n a o k := by
  unfold rngx
  rw [List.range_succ, List.filter_append, List.map_append]
  by_cases h : (k : Int) = o <;> simp [h]
theorem rng_at {n : Nat} {a : Int} {k i : Nat} (h : i < k) : (rng n a k).getD i default = edge n a i := by
  rw [getD_at (by rw [rng_len]; exact h)]; simp [rng]
theorem rngx_le (n : Nat) (a o : Int) (k : Nat) : (rngx n a o k).length ≤ k := by
  unfold rngx
  rw [List.length_map]
  have := List.length_filter_le (fun i : Nat => decide ((i : Int) ≠ o)) (List.range k)
  rwa [List.length_range] at this
theorem edge_ok {n : Nat} {a : Int} (h2 : 2 ≤ n) (h31 : n ≤ 31) (ha : 1 ≤ a ∧ a ≤ 1000000) {i : Nat} (hi : i < n) : N.ck1 (edge n a i) = 0 := by
  have h := Nat.mod_lt (i + 1) (show 0 < n by omega)
  have e : (i + 1) % n ≠ i := by
    rcases Nat.lt_or_ge (i + 1) n with q | q
    · rw [Nat.mod_eq_of_lt q]; omega
    · have : i + 1 = n := by omega
      rw [this, Nat.mod_self]; omega
  unfold N.ck1 edge
  simp only
  rw [if_neg (by omega), if_neg (by omega)]
theorem mem_rngx {n : Nat} {a o : Int} {k : Nat} {d : Du} : d ∈ rngx n a o k ↔ ∃ i : Nat, i < k ∧ (i : Int) ≠ o ∧ d = edge n a i := by
  unfold rngx
  simp only [List.mem_map, List.mem_filter, List.mem_range, decide_eq_true_eq]
  constructor
  · rintro ⟨i, ⟨h1, h2⟩, rfl⟩; exact ⟨i, h1, h2, rfl⟩
  · rintro ⟨i, h1, h2, rfl⟩; exact ⟨i, ⟨h1, h2⟩, rfl⟩
theorem mem_rng {n : Nat} {a : Int} {k : Nat} {d : Du} : d ∈ rng n a k ↔ ∃ i : Nat, i < k ∧ d = edge n a i := by
  unfold rng
  simp only [List.mem_map, List.mem_range]
  constructor
  · rintro ⟨i, h1, rfl⟩; exact ⟨i, h1, rfl⟩
  · rintro ⟨i, h1, rfl⟩; exact ⟨i, h1, rfl⟩
theorem sumD_le {a : Int} : ∀ {l : List Du}, (∀ d ∈ l, d.am ≤ a) → sumD l ≤ a * l.length
  | [], _ => by simp [sumD, M.sum]
  | d :: l, h => by
    have ih := sumD_le (l := l) fun x hx => h x (by simp [hx])
    have := h d (by simp)
    have e : a * ((d :: l).length : Nat) = a * (l.length : Nat) + a := by rw [List.length_cons]; push_cast; rw [Int.mul_add, Int.mul_one]
    simp only [sumD, List.map_cons, M.sum] at *
    omega
theorem few_chk {n : Nat} {a : Int} (h2 : 2 ≤ n) (h31 : n ≤ 31) (ha : 1 ≤ a ∧ a ≤ 1000000) {l : List Du} (hl : l.length ≤ n) (h : ∀ d ∈ l, ∃ i : Nat, i < n ∧ d = edge n a i) : chk none l = 0 := by
  refine chk_of rfl none_ok ?_ ?_
  · unfold N.chk; rw [if_neg (by omega)]
    refine fb_yes fun d hd => ?_
    obtain ⟨i, hi, rfl⟩ := h d hd
    exact edge_ok h2 h31 ha hi
  · rw [none_sum]
    have := sumD_le (a := 1000000) (l := l) fun d hd => by
      obtain ⟨i, hi, rfl⟩ := h d hd
      exact ha.2
    have : (1000000 : Int) * l.length ≤ 1000000 * 31 := by omega
    omega
/-- who gives of the first k -/
theorem sum_ite (x : Nat) (a : Int) : ∀ n : Nat, M.sum ((List.range n).map fun i => if i = x then a else 0) = if x < n then a else 0
  | 0 => by simp [M.sum]
  | n + 1 => by
    rw [List.range_succ, List.map_append, M.sum_append, sum_ite x a n]
    simp only [List.map_cons, List.map_nil, M.sum]
    (repeat' split) <;> omega
theorem prev {n p : Nat} (h : p < n) : ∃ q, q < n ∧ ∀ i, i < n → ((i + 1) % n = p ↔ i = q) := by
  by_cases e : p = 0
  · refine ⟨n - 1, by omega, fun i hi => ?_⟩
    rcases Nat.lt_or_ge (i + 1) n with q | q
    · rw [Nat.mod_eq_of_lt q]; omega
    · have : i + 1 = n := by omega
      rw [this, Nat.mod_self]; omega
  · refine ⟨p - 1, by omega, fun i hi => ?_⟩
    rcases Nat.lt_or_ge (i + 1) n with q | q
    · rw [Nat.mod_eq_of_lt q]; omega
    · have : i + 1 = n := by omega
      rw [this, Nat.mod_self]; omega
theorem flow_ring {n p : Nat} {a : Int} (h : p < n) : flow p (rng n a n) (yes (rng n a n).length) = 0 := by
  obtain ⟨q, hq, hp⟩ := prev h
  have e : ((rng n a n).zip (yes (rng n a n).length)).map (fl p) = (List.range n).map fun i => (fun i => if i = q then a else 0) i + (fun i => -(fun i => if i = p then a else 0) i) i := by
    apply List.ext_getElem
    · simp [rng, yes]
    · intro i h1 h2
      have hi : i < n := by simpa using h2
      simp only [List.getElem_map, List.getElem_zip, List.getElem_range, yes, List.getElem_replicate, rng, fl, edge, if_true]
      have := hp i hi
      (repeat' split) <;> omega
  unfold flow
  rw [e, sum_map_add, sum_neg, sum_ite, sum_ite, if_pos hq, if_pos h]; omega
theorem flow_far {n p : Nat} {a : Int} (h : n ≤ p) : flow p (rng n a n) (yes (rng n a n).length) = 0 := by
  refine Int.le_antisymm ?_ ?_ <;> (
  unfold flow
  have : ((rng n a n).zip (yes (rng n a n).length)).map (fl p) = (List.range n).map fun _ => 0 := by
    apply List.ext_getElem
    · simp [rng, yes]
    · intro i h1 h2
      have hi : i < n := by simpa using h2
      have hm := Nat.mod_lt (i + 1) (show 0 < n by omega)
      simp only [List.getElem_map, List.getElem_zip, List.getElem_range, yes, List.getElem_replicate, rng, fl, edge, if_true]
      (repeat' split) <;> omega
  rw [this, sum_none _ _ fun _ _ => rfl]
  exact Int.le_refl _)
theorem ring_adm (n : Nat) (a : Int) : Adm none (rng n a n) (yes (rng n a n).length) :=
  ⟨by simp [yes], fun i j hij hj _ _ => yes_at (by omega), fun p hp => by
    rw [aft_at hp, none_at]
    rcases Nat.lt_or_ge p n with h | h
    · rw [flow_ring h]; omega
    · rw [flow_far h]; omega⟩
/-- of a ring that is not whole: who gets nothing gives nothing -/
theorem flow_zero {p : Nat} : ∀ {l : List Du} {b : List Bool}, (∀ d ∈ l, 1 ≤ d.am) → (∀ i : Nat, i < l.length → b.getD i default = true → (l.getD i default).to ≠ p) → 0 ≤ flow p l b → ∀ i : Nat, i < l.length → b.getD i default = true → (l.getD i default).fr ≠ p := fun {l b} ha ht h0 => by
  have key : ∀ {l : List Du} {b : List Bool}, (∀ d ∈ l, 1 ≤ d.am) → (∀ i : Nat, i < l.length → b.getD i default = true → (l.getD i default).to ≠ p) → flow p l b ≤ 0 ∧ ∀ i : Nat, i < l.length → b.getD i default = true → (l.getD i default).fr = p → flow p l b < 0 := by
    intro l
    induction l with
    | nil => intro b _ _; simp [flow, M.sum]
    | cons d l ih =>
      intro b ha ht
      cases b with
      | nil => exact ⟨by simp [flow, M.sum], fun i _ hb => by simp [List.getD] at hb⟩
      | cons v b =>
        have hd := ha d (by simp)
        obtain ⟨h1, h2⟩ := ih (b := b) (fun x hx => ha x (by simp [hx])) fun i hi hb => by
          have := ht (i + 1) (by simpa using hi) (by simpa [List.getD] using hb)
          simpa [List.getD] using this
        have e : flow p (d :: l) (v :: b) = fl p (d, v) + flow p l b := by simp [flow, M.sum]
        have h3 : v = true → d.to ≠ p := fun q => by
          have := ht 0 (by simp) (by simpa [List.getD] using q)
          simpa [List.getD] using this
        have e2 : fl p (d, v) ≤ 0 ∧ (v = true → d.fr = p → fl p (d, v) < 0) := by
          unfold fl
          cases v
          · simp
          · have := h3 rfl
            simp only [if_true]
            rw [if_neg this]
            exact ⟨by split <;> omega, fun _ q => by rw [if_pos q]; omega⟩
        rw [e]
        refine ⟨by omega, fun i hi hb hf => ?_⟩
        cases i with
        | zero =>
          have := e2.2 (by simpa [List.getD] using hb) (by simpa [List.getD] using hf)
          omega
        | succ i =>
          have := h2 i (by simpa using hi) (by simpa [List.getD] using hb) (by simpa [List.getD] using hf)
          omega
  intro i hi hb hf
  have := (key ha ht).2 i hi hb hf
  omega
theorem open_nil {n o : Nat} {a : Int} (h2 : 2 ≤ n) (h31 : n ≤ 31) (ha : 1 ≤ a ∧ a ≤ 1000000) (ho : o < n) (hc : chk none (rngx n a o n) = 0) : sol none (rngx n a o n) = [] := by
  refine sol_nil hc fun b adm => ?_
  have shape : ∀ i : Nat, i < (rngx n a o n).length → ∃ m : Nat, m < n ∧ m ≠ o ∧ (rngx n a o n).getD i default = edge n a m := fun i hi => by
    obtain ⟨m, h1, h2, h3⟩ := mem_rngx.1 (getD_mem hi)
    exact ⟨m, h1, by omega, h3⟩
  have am : ∀ d ∈ rngx n a o n, 1 ≤ d.am := fun d hd => by
    obtain ⟨m, _, _, rfl⟩ := mem_rngx.1 hd; exact ha.1
  -- the party t places behind the gap gives nothing
  have step : ∀ t : Nat, ∀ i : Nat, i < (rngx n a o n).length → b.getD i default = true → (rngx n a o n).getD i default ≠ edge n a ((o + 1 + t) % n) := by
    intro t
    induction t with
    | zero =>
      intro i hi hb e
      have hp : (o + 1) % n < n := Nat.mod_lt _ (by omega)
      have f := adm.pos ((o + 1) % n) (by omega)
      rw [aft_at (by omega), none_at] at f
      refine flow_zero (p := (o + 1) % n) am (fun j hj hbj q => ?_) (by omega) i hi hb (by rw [e]; rfl)
      obtain ⟨m, h1, h2, h3⟩ := shape j hj
      rw [h3] at q
      have q : (m + 1) % n = (o + 1) % n := by simpa [edge] using Int.ofNat.inj q
      obtain ⟨z, hz, hu⟩ := prev hp
      have := (hu m h1).1 q
      have := (hu o ho).1 rfl
      omega
    | succ t ih =>
      intro i hi hb e
      have hp : (o + 1 + (t + 1)) % n < n := Nat.mod_lt _ (by omega)
      have f := adm.pos ((o + 1 + (t + 1)) % n) (by omega)
      rw [aft_at (by omega), none_at] at f
      refine flow_zero (p := (o + 1 + (t + 1)) % n) am (fun j hj hbj q => ?_) (by omega) i hi hb (by rw [e]; rfl)
      obtain ⟨m, h1, h2, h3⟩ := shape j hj
      have no := ih j hj hbj
      rw [h3] at q no
      have q : (m + 1) % n = (o + 1 + (t + 1)) % n := by simpa [edge] using Int.ofNat.inj q
      obtain ⟨z, hz, hu⟩ := prev hp
      have e1 := (hu m h1).1 q
      have hl : (o + 1 + t) % n < n := Nat.mod_lt _ (by omega)
      have e2 := (hu ((o + 1 + t) % n) hl).1 (by rw [Nat.mod_add_mod]; rfl)
      exact no (by rw [e1, ← e2])
  intro i hi
  cases q : b.getD i default
  · rfl
  · obtain ⟨m, h1, h2, h3⟩ := shape i hi
    exfalso
    refine step (m + n - (o + 1)) i hi q ?_
    rw [h3, show o + 1 + (m + n - (o + 1)) = m + n by omega, Nat.add_mod_right, Nat.mod_eq_of_lt h1]
theorem rngx_all {n : Nat} {a o : Int} (h : ∀ i : Nat, i < n → (i : Int) ≠ o) : rngx n a o n = rng n a n := by
  unfold rngx rng
  rw [List.filter_eq_self.2 fun i hi => decide_eq_true (h i (List.mem_range.1 hi))]
end G
end Go.Proofs.Ytmbcdkgnlididaa
