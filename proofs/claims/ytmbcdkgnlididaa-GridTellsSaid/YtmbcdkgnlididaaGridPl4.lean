/- Plain facts on settling all at once: round by round. -/
import Derived.Test.YtmbcdkgnlididaaGridPl3
namespace Go.Proofs.Ytmbcdkgnlididaa
set_option linter.unusedVariables false
namespace G
def sf (f : Du × Bool → Int) (l : List Du) (b : List Bool) : Int := M.sum ((l.zip b).map f)
theorem sf_snoc {f : Du × Bool → Int} {l : List Du} {b : List Bool} {k : Nat} (hk : k < l.length) (hb : b.length = l.length) : sf f (l.take (k + 1)) (b.take (k + 1)) = sf f (l.take k) (b.take k) + f (l.getD k default, b.getD k default) := by
  have hz : k < (l.zip b).length := by simp; omega
  have e : ∀ j, (l.take j).zip (b.take j) = (l.zip b).take j := fun j => by simp only [List.zip, List.take_zipWith]
  unfold sf
  rw [e, e, List.take_succ_eq_append_getElem hz, List.map_append, M.sum_append, getD_at hk, getD_at (by omega)]
  simp [M.sum]
theorem sf_whole {f : Du × Bool → Int} {l : List Du} {b : List Bool} (hb : b.length = l.length) : sf f (l.take l.length) (b.take l.length) = sf f l b := by
  rw [List.take_length, List.take_of_length_le (by omega)]
theorem sf_zero {f : Du × Bool → Int} {l : List Du} {b : List Bool} : sf f (l.take 0) (b.take 0) = 0 := by simp [sf, M.sum]
/-- going up to k, by what holds at each -/
theorem sf_rec {f : Du × Bool → Int} {l : List Du} {b : List Bool} (hb : b.length = l.length) (p : Nat → Int → Prop) (h0 : p 0 0) (hs : ∀ k, k < l.length → ∀ x, p k x → p (k + 1) (x + f (l.getD k default, b.getD k default))) : ∀ k, k ≤ l.length → p k (sf f (l.take k) (b.take k))
  | 0, _ => by rw [sf_zero]; exact h0
  | k + 1, h => by rw [sf_snoc (by omega) hb]; exact hs k (by omega) _ (sf_rec hb p h0 hs k (by omega))
def gi (p : Int) (x : Du × Bool) : Int := if x.2 = true ∧ x.1.to = p then x.1.am else 0
def go (p : Int) (x : Du × Bool) : Int := if x.2 = true ∧ x.1.fr = p then x.1.am else 0
theorem flow_sf (p : Int) (l : List Du) (b : List Bool) : flow p l b = sf (fl p) l b := rfl
theorem flow_parts {p : Int} : ∀ {l : List Du} {b : List Bool}, flow p l b = sf (gi p) l b - sf (go p) l b
  | [], b => by simp [flow, sf, M.sum]
  | d :: r, [] => by simp [flow, sf, M.sum]
  | d :: r, v :: b => by
    have := flow_parts (p := p) (l := r) (b := b)
    have h : fl p (d, v) = gi p (d, v) - go p (d, v) := by
      unfold fl gi go; cases v <;> simp
    unfold flow sf at *
    simp only [List.zip_cons_cons, List.map_cons, M.sum]
    omega
theorem sf_le {f : Du × Bool → Int} : ∀ {l : List Du} {b c : List Bool}, b.length = l.length → c.length = l.length → (∀ i : Nat, i < l.length → f (l.getD i default, b.getD i default) ≤ f (l.getD i default, c.getD i default)) → sf f l b ≤ sf f l c
  | [], b, c, _, _, _ => by simp [sf]
  | d :: r, [], _, h, _, _ => by simp at h
  | d :: r, _ :: _, [], _, h, _ => by simp at h
  | d :: r, x :: b, y :: c, hb, hc, h => by
    have h1 := sf_le (f := f) (l := r) (b := b) (c := c) (by simpa using hb) (by simpa using hc) fun i hi => by
      have := h (i + 1) (by simpa using hi)
      simpa [List.getD] using this
    have h2 := h 0 (by simp)
    simp only [List.getD_cons_zero] at h2
    unfold sf at *
    simp only [List.zip_cons_cons, List.map_cons, M.sum]
    omega
theorem sf_bd {f : Du × Bool → Int} {l : List Du} {b : List Bool} (hb : b.length = l.length) (hf : ∀ d v, d ∈ l → 0 ≤ f (d, v) ∧ f (d, v) ≤ d.am) (k : Nat) (hk : k ≤ l.length) : 0 ≤ sf f (l.take k) (b.take k) ∧ sf f (l.take k) (b.take k) ≤ sumD (l.take k) :=
  sf_rec hb (fun k x => 0 ≤ x ∧ x ≤ sumD (l.take k)) (by simp [sumD, M.sum]) (fun k hk x hx => by
    have := hf _ (b.getD k default) (getD_mem hk)
    rw [sumD_snoc hk]; omega) k hk
theorem sumD_take {l : List Du} (ha : ∀ d ∈ l, 0 ≤ d.am) (k : Nat) : 0 ≤ sumD (l.take k) ∧ sumD (l.take k) ≤ sumD l ∧ (k < l.length → sumD (l.take k) + (l.getD k default).am ≤ sumD l) := by
  have e : ∀ k, sumD l = sumD (l.take k) + sumD (l.drop k) := fun k => by unfold sumD; rw [← M.sum_append, ← List.map_append, List.take_append_drop]
  have p : ∀ k, 0 ≤ sumD (l.drop k) := fun k => sumD_pos fun d hd => ha d (List.mem_of_mem_drop hd)
  refine ⟨sumD_pos fun d hd => ha d (List.mem_of_mem_take hd), by have := e k; have := p k; omega, fun hk => ?_⟩
  have := sumD_snoc hk
  have := e (k + 1); have := p (k + 1)
  omega
theorem gi_am {p : Int} {l : List Du} (ha : ∀ d ∈ l, 0 ≤ d.am) : ∀ d v, d ∈ l → 0 ≤ gi p (d, v) ∧ gi p (d, v) ≤ d.am := fun d v hd => by
  have := ha d hd; unfold gi; split <;> simp <;> omega
theorem go_am {p : Int} {l : List Du} (ha : ∀ d ∈ l, 0 ≤ d.am) : ∀ d v, d ∈ l → 0 ≤ go p (d, v) ∧ go p (d, v) ≤ d.am := fun d v hd => by
  have := ha d hd; unfold go; split <;> simp <;> omega
def outs (p : Int) (l : List Du) (b : List Bool) (k : Nat) : Int := sf (go p) (l.take k) (b.take k)
theorem outs_succ {p : Int} {l : List Du} {b : List Bool} {k : Nat} (hk : k < l.length) (hb : b.length = l.length) : outs p l b (k + 1) = outs p l b k + go p (l.getD k default, b.getD k default) := sf_snoc hk hb
theorem outs_mono {p : Int} {l : List Du} {b : List Bool} (hb : b.length = l.length) (ha : ∀ d ∈ l, 0 ≤ d.am) {i j : Nat} (hij : i ≤ j) (hj : j ≤ l.length) : outs p l b i ≤ outs p l b j := by
  induction j with
  | zero =>
    obtain rfl : i = 0 := by omega
    exact Int.le_refl _
  | succ j ih =>
    rcases Nat.lt_or_ge j i with q | q
    · obtain rfl : i = j + 1 := by omega
      exact Int.le_refl _
    · rw [outs_succ (by omega) hb]
      have := ih q (by omega)
      have h2 := ha _ (getD_mem (l := l) (k := j) (by omega))
      have : 0 ≤ go p (l.getD j default, b.getD j default) := by unfold go; split <;> omega
      omega
/-- what a party has, and gets -/
def inn (has : List Int) (p : Int) (l : List Du) (b : List Bool) : Int := has.getD p.toNat default + sf (gi p) l b
theorem gi_pos {l : List Du} {b : List Bool} {p : Int} (hb : b.length = l.length) (ha : ∀ d ∈ l, 0 ≤ d.am) : 0 ≤ sf (gi p) l b := by
  have := sf_rec (f := gi p) hb (fun _ x => 0 ≤ x) (Int.le_refl _) (fun k hk x hx => by
    have := ha _ (getD_mem hk)
    have : 0 ≤ gi p (l.getD k default, b.getD k default) := by unfold gi; split <;> omega
    omega) l.length (Nat.le_refl _)
  rw [sf_whole hb] at this; exact this
/-- one that stands yet behind a round -/
def keep (has : List Int) (l : List Du) (b : List Bool) (i : Nat) : Bool := b.getD i default && decide (outs (l.getD i default).fr l b (i + 1) ≤ inn has (l.getD i default).fr l b)
def nxt (has : List Int) (l : List Du) (b : List Bool) : List Bool := (List.range l.length).map (keep has l b)
theorem nxt_len (has : List Int) (l : List Du) (b : List Bool) : (nxt has l b).length = l.length := by simp [nxt]
theorem nxt_at {has : List Int} {l : List Du} {b : List Bool} {i : Nat} (h : i < l.length) : (nxt has l b).getD i default = keep has l b i := by
  rw [getD_at (by rw [nxt_len]; exact h)]; simp [nxt]
theorem aft_inn {has : List Int} {l : List Du} {b : List Bool} {p : Nat} (hb : b.length = l.length) (hp : p < 31) : (aft has l b).getD p default = inn has p l b - outs p l b l.length := by
  rw [aft_at hp, flow_parts]
  unfold inn outs
  rw [sf_whole hb]; simp only [Int.toNat_natCast]; omega
theorem inv_nxt {has : List Int} {l : List Du} {b : List Bool} (ok : Ok has l) (iv : Inv has l b) : Inv has l (nxt has l b) := by
  have ha := am_pos ok
  have ck := fun i (h : i < l.length) => N.ck_ok ((N.chk_ok ok.c).2 _ (getD_mem h))
  refine ⟨nxt_len _ _ _, fun i j hij hj hb hf => ?_, fun S hS i hi => ?_⟩
  · rw [nxt_at hj] at hb
    rw [nxt_at (by omega)]
    unfold keep at hb ⊢
    simp only [Bool.and_eq_true, decide_eq_true_eq] at hb ⊢
    refine ⟨iv.pre i j hij hj hb.1 hf, ?_⟩
    rw [hf]
    exact Int.le_trans (outs_mono iv.n ha (by omega) (by omega)) hb.2
  · have hil : i < l.length := by have := getB_lt hi; rw [hS.n] at this; exact this
    rw [nxt_at hil]
    unfold keep
    simp only [Bool.and_eq_true, decide_eq_true_eq]
    refine ⟨iv.all S hS i hi, ?_⟩
    have c := ck i hil
    have h1 := hS.pos (l.getD i default).fr.toNat (by omega)
    rw [aft_inn hS.n (by omega)] at h1
    rw [show (((l.getD i default).fr.toNat : Nat) : Int) = (l.getD i default).fr by omega] at h1
    generalize hfp : (l.getD i default).fr = p at *
    have h2 : inn has p l S ≤ inn has p l b := by
      unfold inn
      have := sf_le (f := gi p) hS.n iv.n fun j hj => by
        have := ha _ (getD_mem hj)
        unfold gi
        cases hs : S.getD j default
        · simp only [Bool.false_eq_true, false_and, if_false]; split <;> omega
        · rw [iv.all S hS j hs]; exact Int.le_refl _
      omega
    have h3 : outs p l S (i + 1) ≤ outs p l S l.length := outs_mono hS.n ha (by omega) (Nat.le_refl _)
    have h4 : outs p l b (i + 1) ≤ outs p l S (i + 1) := by
      have : ∀ k, k ≤ i + 1 → outs p l b k ≤ outs p l S k := fun k => by
        induction k with
        | zero => intro _; unfold outs; rw [sf_zero, sf_zero]; exact Int.le_refl _
        | succ k ih =>
          intro hk
          rw [outs_succ (by omega) iv.n, outs_succ (by omega) hS.n]
          have h5 := ih (by omega)
          have h6 := ha _ (getD_mem (l := l) (k := k) (by omega))
          have : go p (l.getD k default, b.getD k default) ≤ go p (l.getD k default, S.getD k default) := by
            unfold go
            by_cases hq : b.getD k default = true ∧ (l.getD k default).fr = p
            · have hk' : S.getD k default = true := by
                rcases Nat.lt_or_ge k i with q | q
                · exact hS.pre k i q hil hi (by rw [hq.2, hfp])
                · obtain rfl : k = i := by omega
                  exact hi
              rw [if_pos hq, if_pos ⟨hk', hq.2⟩]; exact Int.le_refl _
            · rw [if_neg hq]; split <;> omega
          omega
      exact this _ (Nat.le_refl _)
    omega
/-- who gives more than it has, and gets, does so at a due -/
theorem cross {p x : Int} {l : List Du} {b : List Bool} (hb : b.length = l.length) (hx : 0 ≤ x) : ∀ k, k ≤ l.length → x < outs p l b k → ∃ i : Nat, i < k ∧ b.getD i default = true ∧ (l.getD i default).fr = p ∧ x < outs p l b (i + 1)
  | 0, _, h => by unfold outs at h; rw [sf_zero] at h; omega
  | k + 1, hk, h => by
    by_cases q : x < outs p l b k
    · obtain ⟨i, h1, h2⟩ := cross hb hx k (by omega) q
      exact ⟨i, by omega, h2⟩
    · have h' := h
      rw [outs_succ (by omega) hb] at h'
      have : go p (l.getD k default, b.getD k default) ≠ 0 := by omega
      unfold go at this
      split at this
      · rename_i z; exact ⟨k, by omega, z.1, z.2, h⟩
      · exact absurd rfl this
theorem inn_pos {has : List Int} {l : List Du} {b : List Bool} (ok : Ok has l) (hb : b.length = l.length) {p : Int} (h0 : 0 ≤ p) (hp : p < 31) : 0 ≤ inn has p l b := by
  have h1 := gi_pos (p := p) hb (am_pos ok)
  have h2 := (ok.h _ (getD_mem (l := has) (k := p.toNat) (by rw [ok.n]; omega))).1
  unfold inn; omega
theorem great_nxt {has : List Int} {l : List Du} {b : List Bool} (ok : Ok has l) (iv : Inv has l b) (h : ∀ i : Nat, i < l.length → b.getD i default = true → keep has l b i = true) : Great has l b := by
  refine ⟨⟨iv.n, iv.pre, fun p hp => ?_⟩, iv.all⟩
  rw [aft_inn iv.n hp]
  rcases Int.lt_or_le (inn has p l b) (outs p l b l.length) with q | q
  · obtain ⟨i, h1, h2, h3, h4⟩ := cross iv.n (inn_pos ok iv.n (p := p) (by omega) (by omega)) l.length (Nat.le_refl _) q
    have := h i h1 h2
    unfold keep at this
    simp only [Bool.and_eq_true, decide_eq_true_eq] at this
    rw [h3] at this
    omega
  · omega
/-- a round, half way: party p's first k are done, and those of the parties ahead of it -/
def half (has : List Int) (l : List Du) (b : List Bool) (p k : Nat) : List Bool := (List.range l.length).map fun i => if (l.getD i default).fr < p ∨ ((l.getD i default).fr = p ∧ i < k) then keep has l b i else b.getD i default
theorem half_len (has : List Int) (l : List Du) (b : List Bool) (p k : Nat) : (half has l b p k).length = l.length := by simp [half]
theorem half_next {has : List Int} {l : List Du} {b : List Bool} {p : Nat} : half has l b p l.length = half has l b (p + 1) 0 := by
  unfold half
  apply List.map_congr_left
  intro i hi
  have hi := List.mem_range.1 hi
  simp only [hi, and_true, Nat.not_lt_zero, and_false, or_false]
  congr 1
  apply propext
  constructor
  · intro h; omega
  · intro h; omega
theorem half_start {has : List Int} {l : List Du} {b : List Bool} (hb : b.length = l.length) (ok : Ok has l) : half has l b 0 0 = b := by
  apply List.ext_getElem
  · rw [half_len, hb]
  · intro i h1 h2
    have c := N.ck_ok ((N.chk_ok ok.c).2 _ (getD_mem (l := l) (k := i) (by omega)))
    simp only [half, List.getElem_map, List.getElem_range]
    rw [if_neg (by omega), getD_at h2]
theorem half_end {has : List Int} {l : List Du} {b : List Bool} (ok : Ok has l) : half has l b 31 0 = nxt has l b := by
  unfold half nxt
  apply List.map_congr_left
  intro i hi
  have c := N.ck_ok ((N.chk_ok ok.c).2 _ (getD_mem (l := l) (k := i) (List.mem_range.1 hi)))
  rw [if_pos (by omega)]
theorem half_on {has : List Int} {l : List Du} {b : List Bool} {p k : Nat} (hk : k < l.length) (h : ¬ (b.getD k default = true ∧ (l.getD k default).fr = p) ∨ keep has l b k = true) : half has l b p (k + 1) = half has l b p k := by
  unfold half
  apply List.map_congr_left
  intro i hi
  by_cases e : i = k
  · subst e
    by_cases hf : (l.getD i default).fr = p
    · rw [if_pos (by omega), if_neg (by omega)]
      rcases h with q | q
      · have hb : b.getD i default = false := by
          cases hb : b.getD i default
          · rfl
          · exact absurd ⟨hb, hf⟩ q
        unfold keep; rw [hb]; rfl
      · unfold keep at q ⊢
        simp only [Bool.and_eq_true] at q
        rw [q.1, q.2]; rfl
    · congr 1
      apply propext
      constructor <;> intro h <;> omega
  · congr 1
    apply propext
    constructor <;> intro h <;> omega
theorem half_off {has : List Int} {l : List Du} {b : List Bool} {p k : Nat} (hk : k < l.length) (h1 : (l.getD k default).fr = p) (h2 : keep has l b k = false) : half has l b p (k + 1) = (half has l b p k).set k false := by
  apply List.ext_getElem
  · rw [List.length_set, half_len, half_len]
  · intro i h3 h4
    rw [List.getElem_set]
    simp only [half, List.getElem_map, List.getElem_range]
    by_cases e : k = i
    · subst e
      rw [if_pos rfl, if_pos (by omega), h2]
    · rw [if_neg e]
      congr 1
      apply propext
      constructor <;> intro h <;> omega
/-- does a round strike one? -/
def struck (has : List Int) (l : List Du) (b : List Bool) (p k : Nat) : Prop := ∃ i : Nat, i < l.length ∧ b.getD i default = true ∧ keep has l b i = false ∧ ((l.getD i default).fr < p ∨ ((l.getD i default).fr = p ∧ i < k))
theorem struck_no {has : List Int} {l : List Du} {b : List Bool} (ok : Ok has l) : ¬ struck has l b 0 0 := by
  rintro ⟨i, h1, _, _, h⟩
  have c := N.ck_ok ((N.chk_ok ok.c).2 _ (getD_mem (l := l) (k := i) h1))
  omega
theorem struck_next {has : List Int} {l : List Du} {b : List Bool} {p : Nat} : struck has l b p l.length ↔ struck has l b (p + 1) 0 := by
  constructor
  · rintro ⟨i, h1, h2, h3, h⟩; exact ⟨i, h1, h2, h3, by omega⟩
  · rintro ⟨i, h1, h2, h3, h⟩; exact ⟨i, h1, h2, h3, by omega⟩
theorem struck_on {has : List Int} {l : List Du} {b : List Bool} {p k : Nat} (hk : k < l.length) (h : ¬ (b.getD k default = true ∧ (l.getD k default).fr = p) ∨ keep has l b k = true) : struck has l b p (k + 1) ↔ struck has l b p k := by
  constructor
  · rintro ⟨i, h1, h2, h3, h4⟩
    refine ⟨i, h1, h2, h3, ?_⟩
    by_cases e : i = k
    · subst e
      rcases h with q | q
      · have : ¬ (l.getD i default).fr = p := fun z => q ⟨h2, z⟩
        omega
      · rw [h3] at q; cases q
    · omega
  · rintro ⟨i, h1, h2, h3, h4⟩; exact ⟨i, h1, h2, h3, by omega⟩
theorem struck_off {has : List Int} {l : List Du} {b : List Bool} {p k : Nat} (hk : k < l.length) (h0 : b.getD k default = true) (h1 : (l.getD k default).fr = p) (h2 : keep has l b k = false) : struck has l b p (k + 1) := ⟨k, hk, h0, h2, by omega⟩
theorem cnt_le : ∀ {b c : List Bool}, b.length = c.length → (∀ i : Nat, b.getD i default = true → c.getD i default = true) → cnt b ≤ cnt c ∧ ((∃ i : Nat, c.getD i default = true ∧ b.getD i default = false) → cnt b < cnt c)
  | [], [], _, _ => ⟨Nat.le_refl _, fun ⟨i, h, _⟩ => by simp [List.getD] at h⟩
  | [], _ :: _, h, _ => by simp at h
  | _ :: _, [], h, _ => by simp at h
  | x :: b, y :: c, hl, h => by
    obtain ⟨h1, h2⟩ := cnt_le (b := b) (c := c) (by simpa using hl) fun i hi => by
      have := h (i + 1) (by simpa [List.getD] using hi)
      simpa [List.getD] using this
    have h0 : x = true → y = true := fun q => by
      have := h 0 (by simpa [List.getD] using q)
      simpa [List.getD] using this
    constructor
    · simp only [cnt]
      cases x <;> cases y <;> simp at h0 ⊢ <;> omega
    · rintro ⟨i, q1, q2⟩
      simp only [cnt]
      cases i with
      | zero =>
        have q1 : y = true := by simpa [List.getD] using q1
        have q2 : x = false := by simpa [List.getD] using q2
        subst q1 q2
        simp; omega
      | succ i =>
        have := h2 ⟨i, by simpa [List.getD] using q1, by simpa [List.getD] using q2⟩
        cases x <;> cases y <;> simp at h0 ⊢ <;> omega
theorem nxt_sub {has : List Int} {l : List Du} {b : List Bool} : ∀ i : Nat, (nxt has l b).getD i default = true → b.getD i default = true := fun i h => by
  have hl := getB_lt h
  rw [nxt_len] at hl
  rw [nxt_at hl] at h
  unfold keep at h
  simp only [Bool.and_eq_true] at h
  exact h.1
theorem nxt_less {has : List Int} {l : List Du} {b : List Bool} (hb : b.length = l.length) (h : struck has l b 31 0) : cnt (nxt has l b) < cnt b := by
  obtain ⟨i, h1, h2, h3, _⟩ := h
  exact (cnt_le (by rw [nxt_len, hb]) nxt_sub).2 ⟨i, h2, by rw [nxt_at h1]; exact h3⟩
theorem nxt_same {has : List Int} {l : List Du} {b : List Bool} (ok : Ok has l) (hb : b.length = l.length) (h : ¬ struck has l b 31 0) : nxt has l b = b ∧ ∀ i : Nat, i < l.length → b.getD i default = true → keep has l b i = true := by
  have hk : ∀ i : Nat, i < l.length → b.getD i default = true → keep has l b i = true := fun i hi hbi => by
    cases hq : keep has l b i
    · have c := N.ck_ok ((N.chk_ok ok.c).2 _ (getD_mem (l := l) (k := i) hi))
      exact absurd ⟨i, hi, hbi, hq, .inl (by omega)⟩ h
    · rfl
  refine ⟨List.ext_getElem (by rw [nxt_len, hb]) fun i h1 h2 => ?_, hk⟩
  have hi : i < l.length := by rw [nxt_len] at h1; exact h1
  rw [← getD_at h1, ← getD_at h2, nxt_at hi]
  cases hq : b.getD i default
  · unfold keep; rw [hq]; rfl
  · exact hk i hi hq
end G
end Go.Proofs.Ytmbcdkgnlididaa
