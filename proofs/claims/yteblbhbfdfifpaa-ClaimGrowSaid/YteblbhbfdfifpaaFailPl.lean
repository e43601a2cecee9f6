/- Plain facts on fails: what the checks answer, what is left, that ids are found. -/
namespace Go.Proofs.Yteblbhbfdfifpaa

structure Fl where
  id : Int
  fr : Int
  to : Int
  cl : Int
  pa : Int
  day : Int
  un : Int
  de : Int
  bo : Int
  pd : Int

namespace F
def zero : Fl := ⟨0, 0, 0, 0, 0, 0, 0, 0, 0, 0⟩
instance : Inhabited Fl := ⟨zero⟩
def Kn (f : Fl) : Prop := (1 ≤ f.id ∧ f.id ≤ 1099511627776) ∧ (0 ≤ f.fr ∧ f.fr ≤ 30) ∧ (0 ≤ f.to ∧ f.to ≤ 30) ∧ (0 ≤ f.cl ∧ f.cl ≤ 5) ∧ (1 ≤ f.pa ∧ f.pa ≤ 20) ∧ (0 ≤ f.day ∧ f.day ≤ 3652058) ∧ (1 ≤ f.un ∧ f.un ≤ 1073741824)
instance (f : Fl) : Decidable (Kn f) := by unfold Kn; exact inferInstance
def Pt (f : Fl) : Prop := (0 ≤ f.de ∧ f.de ≤ f.un) ∧ (0 ≤ f.bo ∧ f.bo ≤ f.un) ∧ (0 ≤ f.pd ∧ f.pd ≤ f.un)
instance (f : Fl) : Decidable (Pt f) := by unfold Pt; exact inferInstance
def kn (f : Fl) : Bool := decide (Kn f)
def left (f : Fl) : Int := f.un - f.de - f.bo - f.pd
def chk (f : Fl) : Int := if ¬ Kn f then 3 else if f.fr = f.to then 1 else if ¬ Pt f then 3 else if f.un < f.de + f.bo + f.pd then 4 else 0
def Ok (f : Fl) : Prop := Kn f ∧ f.fr ≠ f.to ∧ Pt f ∧ f.de + f.bo + f.pd ≤ f.un
theorem chk_ok {f : Fl} (h : chk f = 0) : Ok f := by
  unfold chk at h
  by_cases a : Kn f
  · rw [if_neg (by simpa using a)] at h
    by_cases b : f.fr = f.to
    · rw [if_pos b] at h; omega
    · rw [if_neg b] at h
      by_cases c : Pt f
      · rw [if_neg (by simpa using c)] at h
        by_cases d : f.un < f.de + f.bo + f.pd
        · rw [if_pos d] at h; omega
        · exact ⟨a, b, c, by omega⟩
      · rw [if_pos c] at h; omega
  · rw [if_pos a] at h; omega
theorem chk_of {f : Fl} (h : Ok f) : chk f = 0 := by
  obtain ⟨a, b, c, d⟩ := h
  unfold chk
  rw [if_neg (by simpa using a), if_neg b, if_neg (by simpa using c), if_neg (by omega)]
theorem chk_range (f : Fl) : chk f = 0 ∨ chk f = 1 ∨ chk f = 3 ∨ chk f = 4 := by
  unfold chk; split
  · simp
  · split
    · simp
    · split
      · simp
      · split <;> simp
theorem chk_1 {f : Fl} (a : ¬ Kn f) : chk f = 3 := if_pos a
theorem chk_2 {f : Fl} (a : Kn f) (b : f.fr = f.to) : chk f = 1 := by unfold chk; rw [if_neg (by simpa using a), if_pos b]
theorem chk_3 {f : Fl} (a : Kn f) (b : f.fr ≠ f.to) (c : ¬ Pt f) : chk f = 3 := by unfold chk; rw [if_neg (by simpa using a), if_neg b, if_pos c]
theorem chk_4 {f : Fl} (a : Kn f) (b : f.fr ≠ f.to) (c : Pt f) (d : f.un < f.de + f.bo + f.pd) : chk f = 4 := by unfold chk; rw [if_neg (by simpa using a), if_neg b, if_neg (by simpa using c), if_pos d]

def opn (f : Fl) : Int := if chk f = 0 then left f else 0
theorem opn_yes {f : Fl} (h : chk f = 0) : opn f = left f := if_pos h
theorem opn_no {f : Fl} (h : ¬ chk f = 0) : opn f = 0 := if_neg h
def less (f : Fl) (u : Int) : Int := if chk f ≠ 0 then chk f else if ¬ (1 ≤ u ∧ u ≤ 1073741824) then 3 else if left f = 0 then 5 else if left f < u then 8 else 0
theorem less_1 {f : Fl} {u : Int} (h : chk f ≠ 0) : less f u = chk f := if_pos h
theorem less_2 {f : Fl} {u : Int} (h : chk f = 0) (a : ¬ (1 ≤ u ∧ u ≤ 1073741824)) : less f u = 3 := by unfold less; rw [if_neg (by simpa using h), if_pos a]
theorem less_3 {f : Fl} {u : Int} (h : chk f = 0) (a : 1 ≤ u ∧ u ≤ 1073741824) (b : left f = 0) : less f u = 5 := by unfold less; rw [if_neg (by simpa using h), if_neg (by simpa using a), if_pos b]
theorem less_4 {f : Fl} {u : Int} (h : chk f = 0) (a : 1 ≤ u ∧ u ≤ 1073741824) (b : left f ≠ 0) (c : left f < u) : less f u = 8 := by unfold less; rw [if_neg (by simpa using h), if_neg (by simpa using a), if_neg b, if_pos c]
theorem less_5 {f : Fl} {u : Int} (h : chk f = 0) (a : 1 ≤ u ∧ u ≤ 1073741824) (b : left f ≠ 0) (c : u ≤ left f) : less f u = 0 := by unfold less; rw [if_neg (by simpa using h), if_neg (by simpa using a), if_neg b, if_neg (by omega)]
theorem less_ok {f : Fl} {u : Int} (h : less f u = 0) : Ok f ∧ 1 ≤ u ∧ u ≤ 1073741824 ∧ u ≤ left f := by
  by_cases a : chk f = 0
  · by_cases b : 1 ≤ u ∧ u ≤ 1073741824
    · by_cases c : left f = 0
      · rw [less_3 a b c] at h; omega
      · by_cases d : left f < u
        · rw [less_4 a b c d] at h; omega
        · exact ⟨chk_ok a, b.1, b.2, by omega⟩
    · rw [less_2 a b] at h; omega
  · rw [less_1 a] at h; exact absurd h a

def addDe (f : Fl) (u : Int) : Fl := ⟨f.id, f.fr, f.to, f.cl, f.pa, f.day, f.un, f.de + u, f.bo, f.pd⟩
def addBo (f : Fl) (u : Int) : Fl := ⟨f.id, f.fr, f.to, f.cl, f.pa, f.day, f.un, f.de, f.bo + u, f.pd⟩
def addPd (f : Fl) (u : Int) : Fl := ⟨f.id, f.fr, f.to, f.cl, f.pa, f.day, f.un, f.de, f.bo, f.pd + u⟩
def deliver (f : Fl) (u : Int) : Fl := if less f u = 0 then addDe f u else zero
def buy (f : Fl) (u : Int) : Fl := if less f u = 0 then addBo f u else zero
def pay (f : Fl) : Fl := if less f 1 = 0 then addPd f (left f) else zero
def paid (f : Fl) : Int := if less f 1 = 0 then left f else 0
theorem ok_bounds {f : Fl} (h : Ok f) : 0 ≤ left f ∧ left f ≤ f.un ∧ f.un ≤ 1073741824 ∧ 0 ≤ f.de ∧ f.de ≤ 1073741824 ∧ 0 ≤ f.bo ∧ f.bo ≤ 1073741824 ∧ 0 ≤ f.pd ∧ f.pd ≤ 1073741824 := by
  obtain ⟨⟨_, _, _, _, _, _, k1, k2⟩, _, ⟨⟨p1, p2⟩, ⟨p3, p4⟩, p5, p6⟩, d⟩ := h
  unfold left; refine ⟨?_, ?_, ?_, ?_, ?_, ?_, ?_, ?_, ?_⟩ <;> omega

theorem deliver_yes {f : Fl} {u : Int} (h : less f u = 0) : deliver f u = addDe f u := if_pos h
theorem deliver_no {f : Fl} {u : Int} (h : ¬ less f u = 0) : deliver f u = zero := if_neg h
theorem buy_yes {f : Fl} {u : Int} (h : less f u = 0) : buy f u = addBo f u := if_pos h
theorem buy_no {f : Fl} {u : Int} (h : ¬ less f u = 0) : buy f u = zero := if_neg h
theorem pay_yes {f : Fl} (h : less f 1 = 0) : pay f = addPd f (left f) ∧ paid f = left f := ⟨if_pos h, if_pos h⟩
theorem pay_no {f : Fl} (h : ¬ less f 1 = 0) : pay f = zero ∧ paid f = 0 := ⟨if_neg h, if_neg h⟩
/-- the checks of a list, behind the ids that were seen -/
def ckFrom : List Int → List Fl → Int
  | _, [] => 0
  | seen, x :: r => if chk x ≠ 0 then chk x else if x.id ∈ seen then 6 else ckFrom (seen ++ [x.id]) r
def checks (l : List Fl) : Int := if 60 < l.length then 2 else ckFrom [] l
def idx (id : Int) : List Fl → Nat → Int
  | [], _ => -1
  | x :: r, k => if x.id = id then k else idx id r (k + 1)
theorem ckFrom_ok : ∀ {l : List Fl} {seen : List Int}, ckFrom seen l = 0 → (∀ x ∈ l, chk x = 0 ∧ x.id ∉ seen) ∧ (l.map (·.id)).Nodup
  | [], _, _ => ⟨by simp, by simp⟩
  | x :: r, seen, h => by
    unfold ckFrom at h
    by_cases a : chk x = 0
    · rw [if_neg (by simpa using a)] at h
      by_cases b : x.id ∈ seen
      · rw [if_pos b] at h; omega
      · rw [if_neg b] at h
        obtain ⟨h1, h2⟩ := ckFrom_ok h
        refine ⟨fun y hy => ?_, ?_⟩
        · rcases List.mem_cons.1 hy with rfl | hy
          · exact ⟨a, b⟩
          · obtain ⟨c, d⟩ := h1 y hy
            exact ⟨c, fun e => d (by simp [e])⟩
        · simp only [List.map_cons, List.nodup_cons]
          refine ⟨fun hm => ?_, h2⟩
          obtain ⟨y, hy, e⟩ := List.mem_map.1 hm
          exact (h1 y hy).2 (by simp [e])
    · rw [if_pos a] at h; exact absurd h a
theorem ckFrom_of : ∀ {l : List Fl} {seen : List Int}, (∀ x ∈ l, chk x = 0 ∧ x.id ∉ seen) → (l.map (·.id)).Nodup → ckFrom seen l = 0
  | [], _, _, _ => rfl
  | x :: r, seen, h1, h2 => by
    simp only [List.map_cons, List.nodup_cons] at h2
    obtain ⟨a, b⟩ := h1 x (by simp)
    unfold ckFrom
    rw [if_neg (by simpa using a), if_neg b]
    refine ckFrom_of (fun y hy => ?_) h2.2
    obtain ⟨c, d⟩ := h1 y (by simp [hy])
    refine ⟨c, fun e => ?_⟩
    rcases List.mem_append.1 e with e | e
    · exact d e
    · exact h2.1 (List.mem_map.2 ⟨y, hy, by simpa using e⟩)
theorem nodup_rev {l : List Int} (h : l.Nodup) : l.reverse.Nodup := by
  unfold List.Nodup at h ⊢
  rw [List.pairwise_reverse]
  rw [List.pairwise_iff_getElem] at h ⊢
  exact fun i j hi hj hij e => h i j hi hj hij e.symm
theorem checks_rev {l : List Fl} (h : checks l = 0) : checks l.reverse = 0 := by
  unfold checks at h ⊢
  by_cases a : 60 < l.length
  · rw [if_pos a] at h; omega
  · rw [if_neg a] at h
    rw [if_neg (by simpa using a)]
    obtain ⟨h1, h2⟩ := ckFrom_ok h
    refine ckFrom_of (fun x hx => ⟨(h1 x (by simpa using hx)).1, by simp⟩) ?_
    rw [List.map_reverse]
    exact nodup_rev h2
theorem checks_len {l : List Fl} (h : checks l ≠ 2) : l.length ≤ 60 := by
  unfold checks at h
  by_cases a : 60 < l.length
  · rw [if_pos a] at h; exact absurd rfl h
  · omega
theorem idx_at : ∀ {l : List Fl} {i k : Nat} (hi : i < l.length), (l.map (·.id)).Nodup → idx (l[i]).id l k = (k + i : Nat)
  | x :: r, 0, k, _, _ => by simp [idx]
  | x :: r, i + 1, k, hi, h => by
    simp only [List.map_cons, List.nodup_cons] at h
    have hi' : i < r.length := by simpa using hi
    have ne : ¬ x.id = (r[i]).id := fun e => h.1 (List.mem_map.2 ⟨r[i], List.getElem_mem hi', e.symm⟩)
    simp only [List.getElem_cons_succ, idx]
    rw [if_neg ne, idx_at hi' h.2]
    congr 1; omega
theorem find_at {l : List Fl} {i : Nat} (h : checks l = 0) (hi : i < l.length) : idx (l[i]).id l 0 = (i : Int) ∧ idx (l[i]).id l.reverse 0 = (l.length : Int) - 1 - i := by
  have hn : (l.map (·.id)).Nodup := by
    unfold checks at h
    by_cases a : 60 < l.length
    · rw [if_pos a] at h; omega
    · rw [if_neg a] at h; exact (ckFrom_ok h).2
  refine ⟨by have := idx_at (k := 0) hi hn; simpa using this, ?_⟩
  have hr : (l.reverse.map (·.id)).Nodup := by rw [List.map_reverse]; exact nodup_rev hn
  have hj : l.length - 1 - i < l.reverse.length := by simp; omega
  have e : l.reverse[l.length - 1 - i] = l[i] := by
    rw [List.getElem_reverse]; congr 1; omega
  have := idx_at (k := 0) hj hr
  rw [e] at this
  rw [this]; omega
theorem idx_lt : ∀ (id : Int) (l : List Fl) (k : Nat), idx id l k = -1 ∨ ((k : Int) ≤ idx id l k ∧ idx id l k < k + l.length)
  | _, [], _ => .inl rfl
  | id, x :: r, k => by
    unfold idx
    by_cases a : x.id = id
    · rw [if_pos a]; right; simp only [List.length_cons]; omega
    · rw [if_neg a]
      rcases idx_lt id r (k + 1) with h | h
      · exact .inl h
      · right; simp only [List.length_cons]; omega
theorem drop_at {l : List Fl} {k : Nat} (hk : k < l.length) : l.drop k = l[k] :: l.drop (k + 1) := List.drop_eq_getElem_cons hk
theorem ckStep_err {l : List Fl} {k : Nat} (hk : k < l.length) (S : List Int) (h : chk l[k] ≠ 0) : ckFrom S (l.drop k) = chk l[k] := by
  rw [drop_at hk]; unfold ckFrom; rw [if_pos h]
theorem ckStep_twice {l : List Fl} {k : Nat} (hk : k < l.length) (S : List Int) (h : chk l[k] = 0) (h2 : l[k].id ∈ S) : ckFrom S (l.drop k) = 6 := by
  rw [drop_at hk]; unfold ckFrom; rw [if_neg (by simpa using h), if_pos h2]
theorem ids_snoc {l : List Fl} {k : Nat} (hk : k < l.length) : (l.take (k + 1)).map (·.id) = (l.take k).map (·.id) ++ [l[k].id] := by
  rw [List.take_succ_eq_append_getElem hk, List.map_append]; rfl
theorem ckStep_on {l : List Fl} {k : Nat} (hk : k < l.length) (h : chk l[k] = 0) (h2 : l[k].id ∉ (l.take k).map (·.id)) : ckFrom ((l.take k).map (·.id)) (l.drop k) = ckFrom ((l.take (k + 1)).map (·.id)) (l.drop (k + 1)) := by
  rw [ids_snoc hk, drop_at hk]
  conv => lhs; unfold ckFrom
  rw [if_neg (by simpa using h), if_neg h2]
theorem ckEnd (l : List Fl) (S : List Int) : ckFrom S (l.drop l.length) = 0 := by rw [List.drop_length]; rfl
theorem idxStep {l : List Fl} {k : Nat} (hk : k < l.length) (id : Int) : idx id (l.drop k) k = if l[k].id = id then (k : Int) else idx id (l.drop (k + 1)) (k + 1) := by
  rw [drop_at hk]; rfl
theorem idxEnd (l : List Fl) (id : Int) (k : Nat) : idx id (l.drop l.length) k = -1 := by rw [List.drop_length]; rfl
theorem mem_take {l : List Fl} {j k : Nat} (hj : j < l.length) (h : j < k) {x : Int} (e : l[j].id = x) : x ∈ (l.take k).map (·.id) := by
  rw [List.mem_map]
  refine ⟨l[j], ?_, e⟩
  rw [List.mem_take_iff_getElem]
  exact ⟨j, by omega, rfl⟩
theorem not_snoc {l : List Fl} {j : Nat} (hj : j < l.length) {x : Int} (h : x ∉ (l.take j).map (·.id)) (ne : ¬ l[j].id = x) : x ∉ (l.take (j + 1)).map (·.id) := by
  rw [ids_snoc hj, List.mem_append]
  intro q
  rcases q with q | q
  · exact h q
  · exact ne (by simpa using Eq.symm (List.mem_singleton.1 q))
theorem checks_many {l : List Fl} (h : 60 < l.length) : checks l = 2 := if_pos h
theorem checks_few {l : List Fl} (h : l.length ≤ 60) : checks l = ckFrom ((l.take 0).map (·.id)) (l.drop 0) := by unfold checks; rw [if_neg (by omega)]; rfl
end F
end Go.Proofs.Yteblbhbfdfifpaa
