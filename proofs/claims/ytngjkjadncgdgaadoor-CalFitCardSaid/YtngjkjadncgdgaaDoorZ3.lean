/- Shared texts, one behind the other: FailPl, FailPl2, DatePl, VFail, CalPl, VCal, DateCk, DateW, DateRW, DateRM, VDate, CalPl2, VCal2, VNil, CalPl3, VCal3, VOpenI -/
import Derived.Test.YtngjkjadncgdgaaDoorZ1
import Derived.Test.YtngjkjadncgdgaaDoorZ2

/- Plain facts on fails: what the checks answer, what is left, that ids are found. -/
namespace Go.Proofs.YtngjkjadncgdgaaDoor

structure Fl where
  id : Int
  fr : Int
  to : Int
  cl : Int
  pa : Int
  day : Int
  un : Int
  de : Int
  bo : Int
  pd : Int

namespace F
def zero : Fl := ⟨0, 0, 0, 0, 0, 0, 0, 0, 0, 0⟩
instance : Inhabited Fl := ⟨zero⟩
def Kn (f : Fl) : Prop := (1 ≤ f.id ∧ f.id ≤ 1099511627776) ∧ (0 ≤ f.fr ∧ f.fr ≤ 30) ∧ (0 ≤ f.to ∧ f.to ≤ 30) ∧ (0 ≤ f.cl ∧ f.cl ≤ 5) ∧ (1 ≤ f.pa ∧ f.pa ≤ 20) ∧ (0 ≤ f.day ∧ f.day ≤ 3652058) ∧ (1 ≤ f.un ∧ f.un ≤ 1073741824)
instance (f : Fl) : Decidable (Kn f) := by unfold Kn; exact inferInstance
def Pt (f : Fl) : Prop := (0 ≤ f.de ∧ f.de ≤ f.un) ∧ (0 ≤ f.bo ∧ f.bo ≤ f.un) ∧ (0 ≤ f.pd ∧ f.pd ≤ f.un)
instance (f : Fl) : Decidable (Pt f) := by unfold Pt; exact inferInstance
def kn (f : Fl) : Bool := decide (Kn f)
def left (f : Fl) : Int := f.un - f.de - f.bo - f.pd
def chk (f : Fl) : Int := if ¬ Kn f then 3 else if f.fr = f.to then 1 else if ¬ Pt f then 3 else if f.un < f.de + f.bo + f.pd then 4 else 0
def Ok (f : Fl) : Prop := Kn f ∧ f.fr ≠ f.to ∧ Pt f ∧ f.de + f.bo + f.pd ≤ f.un
theorem chk_ok {f : Fl} (h : chk f = 0) : Ok f := by
  unfold chk at h
  by_cases a : Kn f
  · rw [if_neg (by simpa using a)] at h
    by_cases b : f.fr = f.to
    · rw [if_pos b] at h; omega
    · rw [if_neg b] at h
      by_cases c : Pt f
      · rw [if_neg (by simpa using c)] at h
        by_cases d : f.un < f.de + f.bo + f.pd
        · rw [if_pos d] at h; omega
        · exact ⟨a, b, c, by omega⟩
      · rw [if_pos c] at h; omega
  · rw [if_pos a] at h; omega
theorem chk_of {f : Fl} (h : Ok f) : chk f = 0 := by
  obtain ⟨a, b, c, d⟩ := h
  unfold chk
  rw [if_neg (by simpa using a), if_neg b, if_neg (by simpa using c), if_neg (by omega)]
theorem chk_range (f : Fl) : chk f = 0 ∨ chk f = 1 ∨ chk f = 3 ∨ chk f = 4 := by
  unfold chk; split
  · simp
  · split
    · simp
    · split
      · simp
      · split <;> simp
theorem chk_1 {f : Fl} (a : ¬ Kn f) : chk f = 3 := if_pos a
theorem chk_2 {f : Fl} (a : Kn f) (b : f.fr = f.to) : chk f = 1 := by unfold chk; rw [if_neg (by simpa using a), if_pos b]
theorem chk_3 {f : Fl} (a : Kn f) (b : f.fr ≠ f.to) (c : ¬ Pt f) : chk f = 3 := by unfold chk; rw [if_neg (by simpa using a), if_neg b, if_pos c]
theorem chk_4 {f : Fl} (a : Kn f) (b : f.fr ≠ f.to) (c : Pt f) (d : f.un < f.de + f.bo + f.pd) : chk f = 4 := by unfold chk; rw [if_neg (by simpa using a), if_neg b, if_neg (by simpa using c), if_pos d]

def opn (f : Fl) : Int := if chk f = 0 then left f else 0
theorem opn_yes {f : Fl} (h : chk f = 0) : opn f = left f := if_pos h
theorem opn_no {f : Fl} (h : ¬ chk f = 0) : opn f = 0 := if_neg h
def less (f : Fl) (u : Int) : Int := if chk f ≠ 0 then chk f else if ¬ (1 ≤ u ∧ u ≤ 1073741824) then 3 else if left f = 0 then 5 else if left f < u then 8 else 0
theorem less_1 {f : Fl} {u : Int} (h : chk f ≠ 0) : less f u = chk f := if_pos h
theorem less_2 {f : Fl} {u : Int} (h : chk f = 0) (a : ¬ (1 ≤ u ∧ u ≤ 1073741824)) : less f u = 3 := by unfold less; rw [if_neg (by simpa using h), if_pos a]
theorem less_3 {f : Fl} {u : Int} (h : chk f = 0) (a : 1 ≤ u ∧ u ≤ 1073741824) (b : left f = 0) : less f u = 5 := by unfold less; rw [if_neg (by simpa using h), if_neg (by simpa using a), if_pos b]
theorem less_4 {f : Fl} {u : Int} (h : chk f = 0) (a : 1 ≤ u ∧ u ≤ 1073741824) (b : left f ≠ 0) (c : left f < u) : less f u = 8 := by unfold less; rw [if_neg (by simpa using h), if_neg (by simpa using a), if_neg b, if_pos c]
theorem less_5 {f : Fl} {u : Int} (h : chk f = 0) (a : 1 ≤ u ∧ u ≤ 1073741824) (b : left f ≠ 0) (c : u ≤ left f) : less f u = 0 := by unfold less; rw [if_neg (by simpa using h), if_neg (by simpa using a), if_neg b, if_neg (by omega)]
theorem less_ok {f : Fl} {u : Int} (h : less f u = 0) : Ok f ∧ 1 ≤ u ∧ u ≤ 1073741824 ∧ u ≤ left f := by
  by_cases a : chk f = 0
  · by_cases b : 1 ≤ u ∧ u ≤ 1073741824
    · by_cases c : left f = 0
      · rw [less_3 a b c] at h; omega
      · by_cases d : left f < u
        · rw [less_4 a b c d] at h; omega
        · exact ⟨chk_ok a, b.1, b.2, by omega⟩
    · rw [less_2 a b] at h; omega
  · rw [less_1 a] at h; exact absurd h a

def addDe (f : Fl) (u : Int) : Fl := ⟨f.id, f.fr, f.to, f.cl, f.pa, f.day, f.un, f.de + u, f.bo, f.pd⟩
def addBo (f : Fl) (u : Int) : Fl := ⟨f.id, f.fr, f.to, f.cl, f.pa, f.day, f.un, f.de, f.bo + u, f.pd⟩
def addPd (f : Fl) (u : Int) : Fl := ⟨f.id, f.fr, f.to, f.cl, f.pa, f.day, f.un, f.de, f.bo, f.pd + u⟩
def deliver (f : Fl) (u : Int) : Fl := if less f u = 0 then addDe f u else zero
def buy (f : Fl) (u : Int) : Fl := if less f u = 0 then addBo f u else zero
def pay (f : Fl) : Fl := if less f 1 = 0 then addPd f (left f) else zero
def paid (f : Fl) : Int := if less f 1 = 0 then left f else 0
theorem ok_bounds {f : Fl} (h : Ok f) : 0 ≤ left f ∧ left f ≤ f.un ∧ f.un ≤ 1073741824 ∧ 0 ≤ f.de ∧ f.de ≤ 1073741824 ∧ 0 ≤ f.bo ∧ f.bo ≤ 1073741824 ∧ 0 ≤ f.pd ∧ f.pd ≤ 1073741824 := by
  obtain ⟨⟨_, _, _, _, _, _, k1, k2⟩, _, ⟨⟨p1, p2⟩, ⟨p3, p4⟩, p5, p6⟩, d⟩ := h
  unfold left; refine ⟨?_, ?_, ?_, ?_, ?_, ?_, ?_, ?_, ?_⟩ <;> omega

theorem deliver_yes {f : Fl} {u : Int} (h : less f u = 0) : deliver f u = addDe f u := if_pos h
theorem deliver_no {f : Fl} {u : Int} (h : ¬ less f u = 0) : deliver f u = zero := if_neg h
theorem buy_yes {f : Fl} {u : Int} (h : less f u = 0) : buy f u = addBo f u := if_pos h
theorem buy_no {f : Fl} {u : Int} (h : ¬ less f u = 0) : buy f u = zero := if_neg h
theorem pay_yes {f : Fl} (h : less f 1 = 0) : pay f = addPd f (left f) ∧ paid f = left f := ⟨if_pos h, if_pos h⟩
theorem pay_no {f : Fl} (h : ¬ less f 1 = 0) : pay f = zero ∧ paid f = 0 := ⟨if_neg h, if_neg h⟩
/-- the checks of a list, behind the ids that were seen -/
def ckFrom : List Int → List Fl → Int
  | _, [] => 0
  | seen, x :: r => if chk x ≠ 0 then chk x else if x.id ∈ seen then 6 else ckFrom (seen ++ [x.id]) r
def checks (l : List Fl) : Int := if 60 < l.length then 2 else ckFrom [] l
def idx (id : Int) : List Fl → Nat → Int
  | [], _ => -1
  | x :: r, k => if x.id = id then k else idx id r (k + 1)
theorem ckFrom_ok : ∀ {l : List Fl} {seen : List Int}, ckFrom seen l = 0 → (∀ x ∈ l, chk x = 0 ∧ x.id ∉ seen) ∧ (l.map (·.id)).Nodup
  | [], _, _ => ⟨by simp, by simp⟩
  | x :: r, seen, h => by
    unfold ckFrom at h
    by_cases a : chk x = 0
    · rw [if_neg (by simpa using a)] at h
      by_cases b : x.id ∈ seen
      · rw [if_pos b] at h; omega
      · rw [if_neg b] at h
        obtain ⟨h1, h2⟩ := ckFrom_ok h
        refine ⟨fun y hy => ?_, ?_⟩
        · rcases List.mem_cons.1 hy with rfl | hy
          · exact ⟨a, b⟩
          · obtain ⟨c, d⟩ := h1 y hy
            exact ⟨c, fun e => d (by simp [e])⟩
        · simp only [List.map_cons, List.nodup_cons]
          refine ⟨fun hm => ?_, h2⟩
          obtain ⟨y, hy, e⟩ := List.mem_map.1 hm
          exact (h1 y hy).2 (by simp [e])
    · rw [if_pos a] at h; exact absurd h a
theorem ckFrom_of : ∀ {l : List Fl} {seen : List Int}, (∀ x ∈ l, chk x = 0 ∧ x.id ∉ seen) → (l.map (·.id)).Nodup → ckFrom seen l = 0
  | [], _, _, _ => rfl
  | x :: r, seen, h1, h2 => by
    simp only [List.map_cons, List.nodup_cons] at h2
    obtain ⟨a, b⟩ := h1 x (by simp)
    unfold ckFrom
    rw [if_neg (by simpa using a), if_neg b]
    refine ckFrom_of (fun y hy => ?_) h2.2
    obtain ⟨c, d⟩ := h1 y (by simp [hy])
    refine ⟨c, fun e => ?_⟩
    rcases List.mem_append.1 e with e | e
    · exact d e
    · exact h2.1 (List.mem_map.2 ⟨y, hy, by simpa using e⟩)
theorem nodup_rev {l : List Int} (h : l.Nodup) : l.reverse.Nodup := by
  unfold List.Nodup at h ⊢
  rw [List.pairwise_reverse]
  rw [List.pairwise_iff_getElem] at h ⊢
  exact fun i j hi hj hij e => h i j hi hj hij e.symm
theorem checks_rev {l : List Fl} (h : checks l = 0) : checks l.reverse = 0 := by
  unfold checks at h ⊢
  by_cases a : 60 < l.length
  · rw [if_pos a] at h; omega
  · rw [if_neg a] at h
    rw [if_neg (by simpa using a)]
    obtain ⟨h1, h2⟩ := ckFrom_ok h
    refine ckFrom_of (fun x hx => ⟨(h1 x (by simpa using hx)).1, by simp⟩) ?_
    rw [List.map_reverse]
    exact nodup_rev h2
theorem checks_len {l : List Fl} (h : checks l ≠ 2) : l.length ≤ 60 := by
  unfold checks at h
  by_cases a : 60 < l.length
  · rw [if_pos a] at h; exact absurd rfl h
  · omega
theorem idx_at : ∀ {l : List Fl} {i k : Nat} (hi : i < l.length), (l.map (·.id)).Nodup → idx (l[i]).id l k = (k + i : Nat)
  | x :: r, 0, k, _, _ => by simp [idx]
  | x :: r, i + 1, k, hi, h => by
    simp only [List.map_cons, List.nodup_cons] at h
    have hi' : i < r.length := by simpa using hi
    have ne : ¬ x.id = (r[i]).id := fun e => h.1 (List.mem_map.2 ⟨r[i], List.getElem_mem hi', e.symm⟩)
    simp only [List.getElem_cons_succ, idx]
    rw [if_neg ne, idx_at hi' h.2]
    congr 1; omega
theorem find_at {l : List Fl} {i : Nat} (h : checks l = 0) (hi : i < l.length) : idx (l[i]).id l 0 = (i : Int) ∧ idx (l[i]).id l.reverse 0 = (l.length : Int) - 1 - i := by
  have hn : (l.map (·.id)).Nodup := by
    unfold checks at h
    by_cases a : 60 < l.length
    · rw [if_pos a] at h; omega
    · rw [if_neg a] at h; exact (ckFrom_ok h).2
  refine ⟨by have := idx_at (k := 0) hi hn; simpa using this, ?_⟩
  have hr : (l.reverse.map (·.id)).Nodup := by rw [List.map_reverse]; exact nodup_rev hn
  have hj : l.length - 1 - i < l.reverse.length := by simp; omega
  have e : l.reverse[l.length - 1 - i] = l[i] := by
    rw [List.getElem_reverse]; congr 1; omega
  have := idx_at (k := 0) hj hr
  rw [e] at this
  rw [this]; omega
theorem idx_lt : ∀ (id : Int) (l : List Fl) (k : Nat), idx id l k = -1 ∨ ((k : Int) ≤ idx id l k ∧ idx id l k < k + l.length)
  | _, [], _ => .inl rfl
  | id, x :: r, k => by
    unfold idx
    by_cases a : x.id = id
    · rw [if_pos a]; right; simp only [List.length_cons]; omega
    · rw [if_neg a]
      rcases idx_lt id r (k + 1) with h | h
      · exact .inl h
      · right; simp only [List.length_cons]; omega
theorem drop_at {l : List Fl} {k : Nat} (hk : k < l.length) : l.drop k = l[k] :: l.drop (k + 1) := List.drop_eq_getElem_cons hk
theorem ckStep_err {l : List Fl} {k : Nat} (hk : k < l.length) (S : List Int) (h : chk l[k] ≠ 0) : ckFrom S (l.drop k) = chk l[k] := by
  rw [drop_at hk]; unfold ckFrom; rw [if_pos h]
theorem ckStep_twice {l : List Fl} {k : Nat} (hk : k < l.length) (S : List Int) (h : chk l[k] = 0) (h2 : l[k].id ∈ S) : ckFrom S (l.drop k) = 6 := by
  rw [drop_at hk]; unfold ckFrom; rw [if_neg (by simpa using h), if_pos h2]
theorem ids_snoc {l : List Fl} {k : Nat} (hk : k < l.length) : (l.take (k + 1)).map (·.id) = (l.take k).map (·.id) ++ [l[k].id] := by
  rw [List.take_succ_eq_append_getElem hk, List.map_append]; rfl
theorem ckStep_on {l : List Fl} {k : Nat} (hk : k < l.length) (h : chk l[k] = 0) (h2 : l[k].id ∉ (l.take k).map (·.id)) : ckFrom ((l.take k).map (·.id)) (l.drop k) = ckFrom ((l.take (k + 1)).map (·.id)) (l.drop (k + 1)) := by
  rw [ids_snoc hk, drop_at hk]
  conv => lhs; unfold ckFrom
  rw [if_neg (by simpa using h), if_neg h2]
theorem ckEnd (l : List Fl) (S : List Int) : ckFrom S (l.drop l.length) = 0 := by rw [List.drop_length]; rfl
theorem idxStep {l : List Fl} {k : Nat} (hk : k < l.length) (id : Int) : idx id (l.drop k) k = if l[k].id = id then (k : Int) else idx id (l.drop (k + 1)) (k + 1) := by
  rw [drop_at hk]; rfl
theorem idxEnd (l : List Fl) (id : Int) (k : Nat) : idx id (l.drop l.length) k = -1 := by rw [List.drop_length]; rfl
theorem mem_take {l : List Fl} {j k : Nat} (hj : j < l.length) (h : j < k) {x : Int} (e : l[j].id = x) : x ∈ (l.take k).map (·.id) := by
  rw [List.mem_map]
  refine ⟨l[j], ?_, e⟩
  rw [List.mem_take_iff_getElem]
  exact ⟨j, by omega, rfl⟩
theorem not_snoc {l : List Fl} {j : Nat} (hj : j < l.length) {x : Int} (h : x ∉ (l.take j).map (·.id)) (ne : ¬ l[j].id = x) : x ∉ (l.take (j + 1)).map (·.id) := by
  rw [ids_snoc hj, List.mem_append]
  intro q
  rcases q with q | q
  · exact h q
  · exact ne (by simpa using Eq.symm (List.mem_singleton.1 q))
theorem checks_many {l : List Fl} (h : 60 < l.length) : checks l = 2 := if_pos h
theorem checks_few {l : List Fl} (h : l.length ≤ 60) : checks l = ckFrom ((l.take 0).map (·.id)) (l.drop 0) := by unfold checks; rw [if_neg (by omega)]; rfl
end F
end Go.Proofs.YtngjkjadncgdgaaDoor

/- Plain facts on fails that are looked for. -/
namespace Go.Proofs.YtngjkjadncgdgaaDoor.F
def fndV (id : Int) (l : List Fl) : Int := if checks l ≠ 0 then 0 else if idx id l 0 < 0 then 0 else idx id l 0
def fndE (id : Int) (l : List Fl) : Int := if checks l ≠ 0 then checks l else if idx id l 0 < 0 then 5 else 0
theorem fnd_1 {id : Int} {l : List Fl} (h : checks l ≠ 0) : fndV id l = 0 ∧ fndE id l = checks l := ⟨if_pos h, if_pos h⟩
theorem fnd_2 {id : Int} {l : List Fl} (h : checks l = 0) (k : idx id l 0 < 0) : fndV id l = 0 ∧ fndE id l = 5 := by
  unfold fndV fndE; rw [if_neg (by simpa using h), if_pos k, if_neg (by simpa using h), if_pos k]; exact ⟨rfl, rfl⟩
theorem fnd_3 {id : Int} {l : List Fl} (h : checks l = 0) (k : ¬ idx id l 0 < 0) : fndV id l = idx id l 0 ∧ fndE id l = 0 := by
  unfold fndV fndE; rw [if_neg (by simpa using h), if_neg k, if_neg (by simpa using h), if_neg k]; exact ⟨rfl, rfl⟩
end Go.Proofs.YtngjkjadncgdgaaDoor.F

/- Plain facts on dates: leap years, lengths of months, the number of a day, that each number has just one date. -/
namespace Go.Proofs.YtngjkjadncgdgaaDoor.D

def lp (y : Int) : Bool := y % 4 == 0 && (!(y % 100 == 0) || y % 400 == 0)
def L (y : Int) : Int := if y % 4 = 0 ∧ (¬ y % 100 = 0 ∨ y % 400 = 0) then 1 else 0
def ml (y m : Int) : Int := if m = 2 then 28 + L y else if m = 4 ∨ m = 6 ∨ m = 9 ∨ m = 11 then 30 else 31
def cum (y m : Int) : Int :=
  if m ≤ 1 then 0 else if m = 2 then 31 else (if m = 3 then 59 else if m = 4 then 90 else if m = 5 then 120 else if m = 6 then 151 else if m = 7 then 181 else if m = 8 then 212 else if m = 9 then 243 else if m = 10 then 273 else if m = 11 then 304 else 334) + L y
def dby (y : Int) : Int := 365 * (y - 1) + (y - 1) / 4 - (y - 1) / 100 + (y - 1) / 400
def raw (y m d : Int) : Int := dby y + cum y m + d - 1
def Valid (y m d : Int) : Prop := 1 ≤ y ∧ y ≤ 9999 ∧ 1 ≤ m ∧ m ≤ 12 ∧ 1 ≤ d ∧ d ≤ ml y m
instance (y m d : Int) : Decidable (Valid y m d) := by unfold Valid; exact inferInstance

theorem lp_eq (y : Int) : lp y = decide (L y = 1) := by
  unfold lp L
  by_cases a : y % 4 = 0 <;> by_cases b : y % 100 = 0 <;> by_cases c : y % 400 = 0 <;> simp [a, b, c]
theorem L_01 (y : Int) : 0 ≤ L y ∧ L y ≤ 1 := by unfold L; split <;> omega
theorem L_of {y : Int} (h : lp y = true) : L y = 1 := by rw [lp_eq] at h; simpa using h
theorem L_not {y : Int} (h : lp y = false) : L y = 0 := by rw [lp_eq] at h; have := L_01 y; have h : ¬ L y = 1 := by simpa using h
                                                           omega
theorem dby_succ (y : Int) : dby (y + 1) = dby y + 365 + L y := by unfold dby L; split <;> omega
theorem dby_mono {y z : Int} (h : y < z) : dby y + 365 + L y ≤ dby z := by
  rw [← dby_succ]; unfold dby; omega
theorem dby_one : dby 1 = 0 := by decide
theorem dby_bd (y : Int) (h0 : 1 ≤ y) (h : y ≤ 20000) : 0 ≤ dby y ∧ dby y ≤ 10000000 := by unfold dby; omega
theorem dby_400 (y : Int) : dby (y + 400) = dby y + 146097 := by unfold dby; omega
theorem L_400 (y : Int) : L (y + 400) = L y := by
  unfold L
  have a : (y + 400) % 4 = y % 4 := by omega
  have b : (y + 400) % 100 = y % 100 := by omega
  have c : (y + 400) % 400 = y % 400 := by omega
  rw [a, b, c]
theorem dby_max : dby 10000 = 3652059 := by decide
theorem ml_bd (y m : Int) : 28 ≤ ml y m ∧ ml y m ≤ 31 := by have := L_01 y; unfold ml; split <;> (try split) <;> omega
theorem cum_succ (y m : Int) (h1 : 1 ≤ m) (h2 : m ≤ 11) : cum y (m + 1) = cum y m + ml y m := by
  have h : m = 1 ∨ m = 2 ∨ m = 3 ∨ m = 4 ∨ m = 5 ∨ m = 6 ∨ m = 7 ∨ m = 8 ∨ m = 9 ∨ m = 10 ∨ m = 11 := by omega
  rcases h with rfl | rfl | rfl | rfl | rfl | rfl | rfl | rfl | rfl | rfl | rfl <;> simp [cum, ml] <;> omega
theorem cum_one (y : Int) : cum y 1 = 0 := by simp [cum]
theorem cum_12 (y : Int) : cum y 12 + ml y 12 = 365 + L y := by simp [cum, ml]; omega
theorem cum_bd (y m : Int) (h1 : 1 ≤ m) (h2 : m ≤ 12) : 0 ≤ cum y m ∧ cum y m + ml y m ≤ 365 + L y := by
  have h : m = 1 ∨ m = 2 ∨ m = 3 ∨ m = 4 ∨ m = 5 ∨ m = 6 ∨ m = 7 ∨ m = 8 ∨ m = 9 ∨ m = 10 ∨ m = 11 ∨ m = 12 := by omega
  have := L_01 y
  rcases h with rfl | rfl | rfl | rfl | rfl | rfl | rfl | rfl | rfl | rfl | rfl | rfl <;> simp [cum, ml] <;> omega
theorem cum_mono (y : Int) {m k : Int} (h1 : 1 ≤ m) (h : m < k) (h2 : k ≤ 12) : cum y m + ml y m ≤ cum y k := by
  have a : m = 1 ∨ m = 2 ∨ m = 3 ∨ m = 4 ∨ m = 5 ∨ m = 6 ∨ m = 7 ∨ m = 8 ∨ m = 9 ∨ m = 10 ∨ m = 11 := by omega
  have b : k = 2 ∨ k = 3 ∨ k = 4 ∨ k = 5 ∨ k = 6 ∨ k = 7 ∨ k = 8 ∨ k = 9 ∨ k = 10 ∨ k = 11 ∨ k = 12 := by omega
  have := L_01 y
  rcases a with rfl | rfl | rfl | rfl | rfl | rfl | rfl | rfl | rfl | rfl | rfl <;>
    rcases b with rfl | rfl | rfl | rfl | rfl | rfl | rfl | rfl | rfl | rfl | rfl <;>
    first | (exfalso; omega) | (simp [cum, ml]; try omega)
theorem ml_400 (y m : Int) : ml (y + 400) m = ml y m := by unfold ml; rw [L_400]
theorem cum_400 (y m : Int) : cum (y + 400) m = cum y m := by unfold cum; rw [L_400]

theorem raw_bd {y m d : Int} (h : Valid y m d) : 0 ≤ raw y m d ∧ raw y m d ≤ 3652058 := by
  obtain ⟨a, b, c, e, f, g⟩ := h
  have h1 := dby_bd y a (by omega)
  have h2 := cum_bd y m c e
  have h3 : dby y + 365 + L y ≤ 3652059 := by have := dby_mono (y := y) (z := 10000) (by omega); have := dby_max; omega
  unfold raw; omega

/-- later by year, month and day: a greater number -/
theorem raw_lt {y m d z k e : Int} (h : Valid y m d) (h' : Valid z k e) (hl : y < z ∨ (y = z ∧ (m < k ∨ (m = k ∧ d < e)))) : raw y m d < raw z k e := by
  obtain ⟨a1, b1, c1, e1, f1, g1⟩ := h
  obtain ⟨a2, b2, c2, e2, f2, g2⟩ := h'
  have q1 := cum_bd y m c1 e1
  have q2 := cum_bd z k c2 e2
  unfold raw
  rcases hl with hl | ⟨rfl, hl | ⟨rfl, hl⟩⟩
  · have := dby_mono hl; omega
  · have := cum_mono y c1 hl e2; omega
  · omega
theorem raw_inj {y m d z k e : Int} (h : Valid y m d) (h' : Valid z k e) (he : raw y m d = raw z k e) : y = z ∧ m = k ∧ d = e := by
  by_cases a : y < z
  · have := raw_lt h h' (.inl a); omega
  by_cases b : z < y
  · have := raw_lt h' h (.inl b); omega
  obtain rfl : y = z := by omega
  by_cases c : m < k
  · have := raw_lt h h' (.inr ⟨rfl, .inl c⟩); omega
  by_cases d' : k < m
  · have := raw_lt h' h (.inr ⟨rfl, .inl d'⟩); omega
  obtain rfl : m = k := by omega
  refine ⟨rfl, rfl, ?_⟩
  unfold raw at he; omega

/-- the next date -/
def next (t : Int × Int × Int) : Int × Int × Int :=
  if t.2.2 < ml t.1 t.2.1 then (t.1, t.2.1, t.2.2 + 1) else if t.2.1 < 12 then (t.1, t.2.1 + 1, 1) else (t.1 + 1, 1, 1)
def at' : Nat → Int × Int × Int
  | 0 => (1, 1, 1)
  | k + 1 => next (at' k)
theorem at'_ok (k : Nat) : (k : Int) ≤ 3652058 → Valid (at' k).1 (at' k).2.1 (at' k).2.2 ∧ raw (at' k).1 (at' k).2.1 (at' k).2.2 = k := by
  induction k with
  | zero => intro _; refine ⟨⟨by decide, by decide, by decide, by decide, by decide, by decide⟩, by decide⟩
  | succ k ih =>
    intro h
    obtain ⟨v, hr⟩ := ih (by omega)
    show Valid (next (at' k)).1 (next (at' k)).2.1 (next (at' k)).2.2 ∧ raw (next (at' k)).1 (next (at' k)).2.1 (next (at' k)).2.2 = _
    generalize at' k = t at v hr
    obtain ⟨y, m, d⟩ := t
    obtain ⟨a, b, c, e, f, g⟩ := v
    simp only at a b c e f g hr
    unfold next
    simp only
    unfold raw at hr
    split
    · rename_i hd
      refine ⟨⟨a, b, c, e, by simp only; omega, by simp only; omega⟩, ?_⟩
      unfold raw; simp only; omega
    · rename_i hd
      split
      · rename_i hm
        have := cum_succ y m c (by omega)
        have := ml_bd y (m + 1)
        refine ⟨⟨a, b, by simp only; omega, by simp only; omega, by simp only; omega, by simp only; omega⟩, ?_⟩
        unfold raw; simp only; omega
      · rename_i hm
        obtain rfl : m = 12 := by omega
        have h12 := cum_12 y
        have hs := dby_succ y
        have hy : y + 1 ≤ 9999 := by
          apply Classical.byContradiction; intro hc
          obtain rfl : y = 9999 := by omega
          have h1 := dby_max
          have h2 : dby (9999 + 1) = dby 10000 := rfl
          omega
        refine ⟨⟨by simp only; omega, by simp only; omega, by simp only; omega, by simp only; omega, by simp only; omega, by simp only; have := ml_bd (y + 1) 1; omega⟩, ?_⟩
        have h1 := cum_one (y + 1)
        unfold raw; simp only; omega
def yO (n : Int) : Int := (at' n.toNat).1
def mO (n : Int) : Int := (at' n.toNat).2.1
def dO (n : Int) : Int := (at' n.toNat).2.2
theorem of_ok (n : Int) (h0 : 0 ≤ n) (h : n ≤ 3652058) : Valid (yO n) (mO n) (dO n) ∧ raw (yO n) (mO n) (dO n) = n := by
  have := at'_ok n.toNat (by omega)
  rw [show ((n.toNat : Nat) : Int) = n from by omega] at this
  exact this
theorem of_uniq {n y m d : Int} (h : Valid y m d) (e : raw y m d = n) : yO n = y ∧ mO n = m ∧ dO n = d := by
  have hb := raw_bd h
  obtain ⟨v, r⟩ := of_ok n (by omega) (by omega)
  exact raw_inj v h (by omega)
def fromV (y m d : Int) : Int := if Valid y m d then raw y m d else 0
def fromE (y m d : Int) : Int := if Valid y m d then 0 else 3
theorem fromV_yes {y m d : Int} (h : Valid y m d) : fromV y m d = raw y m d := if_pos h
theorem fromV_no {y m d : Int} (h : ¬ Valid y m d) : fromV y m d = 0 := if_neg h
theorem fromE_yes {y m d : Int} (h : Valid y m d) : fromE y m d = 0 := if_pos h
theorem fromE_no {y m d : Int} (h : ¬ Valid y m d) : fromE y m d = 3 := if_neg h
def chk (n : Int) : Int := if 0 ≤ n ∧ n ≤ 3652058 then 0 else 3
theorem chk_yes {n : Int} (h : 0 ≤ n) (h' : n ≤ 3652058) : chk n = 0 := if_pos ⟨h, h'⟩
theorem chk_no {n : Int} (h : ¬ (0 ≤ n ∧ n ≤ 3652058)) : chk n = 3 := if_neg h
theorem of_bds {n : Int} (h0 : 0 ≤ n) (h : n ≤ 3652058) : 1 ≤ yO n ∧ yO n ≤ 9999 ∧ 1 ≤ mO n ∧ mO n ≤ 12 ∧ 1 ≤ dO n ∧ dO n ≤ ml (yO n) (mO n) ∧ n = dby (yO n) + cum (yO n) (mO n) + dO n - 1 ∧ dby (yO n) ≤ n ∧ n < dby (yO n + 1) := by
  obtain ⟨⟨a, b, c, e, f, g⟩, r⟩ := of_ok n h0 h
  have h1 := cum_bd (yO n) (mO n) c e
  have h2 := dby_succ (yO n)
  unfold raw at r
  refine ⟨a, b, c, e, f, g, by omega, by omega, by omega⟩
def yO' (n : Int) : Int := if 0 ≤ n ∧ n ≤ 3652058 then yO n else 0
def mO' (n : Int) : Int := if 0 ≤ n ∧ n ≤ 3652058 then mO n else 0
def dO' (n : Int) : Int := if 0 ≤ n ∧ n ≤ 3652058 then dO n else 0
theorem o_yes {n : Int} (h : 0 ≤ n ∧ n ≤ 3652058) : yO' n = yO n ∧ mO' n = mO n ∧ dO' n = dO n := ⟨if_pos h, if_pos h, if_pos h⟩
theorem o_no {n : Int} (h : ¬ (0 ≤ n ∧ n ≤ 3652058)) : yO' n = 0 ∧ mO' n = 0 ∧ dO' n = 0 := ⟨if_neg h, if_neg h, if_neg h⟩
theorem guess {n : Int} (h0 : 0 ≤ n) (h : n ≤ 3652058) : n / 366 + 1 ≤ yO n := by
  obtain ⟨a, b, _, _, _, _, _, _, h2⟩ := of_bds h0 h
  have : dby (yO n + 1) ≤ 366 * yO n := by unfold dby; omega
  omega
def wk (n : Int) : Int := if 0 ≤ n ∧ n ≤ 3652058 then n % 7 else 0
theorem wk_yes {n : Int} (h : 0 ≤ n ∧ n ≤ 3652058) : wk n = n % 7 := if_pos h
theorem wk_no {n : Int} (h : ¬ (0 ≤ n ∧ n ≤ 3652058)) : wk n = 0 := if_neg h
def leB (y : Int) : Bool := if 1 ≤ y ∧ y ≤ 9999 then lp y else false
def leE (y : Int) : Int := if 1 ≤ y ∧ y ≤ 9999 then 0 else 3
theorem leB_yes {y : Int} (h : 1 ≤ y ∧ y ≤ 9999) : leB y = lp y := if_pos h
theorem leB_no {y : Int} (h : ¬ (1 ≤ y ∧ y ≤ 9999)) : leB y = false := if_neg h
theorem leE_yes {y : Int} (h : 1 ≤ y ∧ y ≤ 9999) : leE y = 0 := if_pos h
theorem leE_no {y : Int} (h : ¬ (1 ≤ y ∧ y ≤ 9999)) : leE y = 3 := if_neg h
/-- months later: 'at': the months since the year 0 -/
def moV (n many : Int) : Int :=
  if ¬ (0 ≤ n ∧ n ≤ 3652058) then 0 else if many < -120000 ∨ 120000 < many then 0 else
  if 12 * yO n + mO n - 1 + many < 12 ∨ 120000 ≤ 12 * yO n + mO n - 1 + many then 0 else
  raw ((12 * yO n + mO n - 1 + many) / 12) ((12 * yO n + mO n - 1 + many) % 12 + 1) (min (dO n) (ml ((12 * yO n + mO n - 1 + many) / 12) ((12 * yO n + mO n - 1 + many) % 12 + 1)))
def moE (n many : Int) : Int :=
  if ¬ (0 ≤ n ∧ n ≤ 3652058) then 3 else if many < -120000 ∨ 120000 < many then 8 else
  if 12 * yO n + mO n - 1 + many < 12 ∨ 120000 ≤ 12 * yO n + mO n - 1 + many then 8 else 0
theorem mo_no {n many : Int} (h : ¬ (0 ≤ n ∧ n ≤ 3652058)) : moV n many = 0 ∧ moE n many = 3 := ⟨if_pos h, if_pos h⟩
theorem mo_wide1 {n many : Int} (h : 0 ≤ n ∧ n ≤ 3652058) (h2 : many < -120000 ∨ 120000 < many) : moV n many = 0 ∧ moE n many = 8 := by
  unfold moV moE; rw [if_neg (by simpa using h), if_pos h2, if_neg (by simpa using h), if_pos h2]; exact ⟨rfl, rfl⟩
theorem mo_yes {n many : Int} (h : 0 ≤ n ∧ n ≤ 3652058) (h2 : -120000 ≤ many) (h3 : many ≤ 120000) :
    (12 * yO n + mO n - 1 + many < 12 ∨ 120000 ≤ 12 * yO n + mO n - 1 + many → moV n many = 0 ∧ moE n many = 8) ∧
    (12 ≤ 12 * yO n + mO n - 1 + many ∧ 12 * yO n + mO n - 1 + many < 120000 → moV n many = raw ((12 * yO n + mO n - 1 + many) / 12) ((12 * yO n + mO n - 1 + many) % 12 + 1) (min (dO n) (ml ((12 * yO n + mO n - 1 + many) / 12) ((12 * yO n + mO n - 1 + many) % 12 + 1))) ∧ moE n many = 0) := by
  unfold moV moE
  have a1 : ¬ ¬ (0 ≤ n ∧ n ≤ 3652058) := by simpa using h
  have a2 : ¬ (many < -120000 ∨ 120000 < many) := by omega
  rw [if_neg a1, if_neg a2, if_neg a1, if_neg a2]
  exact ⟨fun q => by rw [if_pos q, if_pos q]; exact ⟨rfl, rfl⟩, fun q => by rw [if_neg (by omega), if_neg (by omega)]; exact ⟨rfl, rfl⟩⟩
theorem dby_start (y : Int) : dby ((y - 1) / 400 * 400 + 1) = (y - 1) / 400 * 146097 := by unfold dby; omega
theorem dby_4 (n : Int) : dby (1 + n / 146097 * 400) = n / 146097 * 146097 := by unfold dby; omega
theorem guess4 {n : Int} (h0 : 0 ≤ n) (h : n ≤ 3652058) : 1 + n / 146097 * 400 ≤ yO n := by
  obtain ⟨a, b, _, _, _, _, _, _, h2⟩ := of_bds h0 h
  have h3 := dby_4 n
  by_cases hc : 1 + n / 146097 * 400 ≤ yO n
  · exact hc
  · exfalso
    by_cases e : yO n + 1 = 1 + n / 146097 * 400
    · rw [e, h3] at h2; omega
    · have := dby_mono (y := yO n + 1) (z := 1 + n / 146097 * 400) (by omega); have := L_01 (yO n + 1); omega
theorem b1 : fromV 2026 11 16 = 739935 ∧ fromE 2026 11 16 = 0 := by decide
theorem b2 : yO' 739935 = 2026 ∧ mO' 739935 = 11 ∧ dO' 739935 = 16 ∧ chk 739935 = 0 := by
  obtain ⟨e1, e2, e3⟩ := o_yes (n := 739935) (by decide)
  obtain ⟨g1, g2, g3⟩ := of_uniq (n := 739935) (y := 2026) (m := 11) (d := 16) (by decide) (by decide)
  rw [e1, e2, e3]
  exact ⟨g1, g2, g3, by decide⟩
theorem b3 : wk 739935 = 0 := by decide
theorem b4 : leB 1900 = false ∧ leE 1900 = 0 := by decide
theorem b5 : moV 739935 3 = 740027 ∧ moE 739935 3 = 0 := by
  obtain ⟨g1, g2, g3⟩ := of_uniq (n := 739935) (y := 2026) (m := 11) (d := 16) (by decide) (by decide)
  have := (mo_yes (n := 739935) (many := 3) (by decide) (by decide) (by decide)).2 (by rw [g1, g2]; decide)
  rw [g1, g2, g3] at this
  rw [this.1, this.2]
  decide
theorem b6 : fromV 9999 12 31 = 3652058 ∧ fromE 9999 12 31 = 0 := by decide
theorem b7 : fromV 2023 2 29 = 0 ∧ fromE 2023 2 29 = 3 := by decide
theorem of_from {y m d : Int} (h : Valid y m d) : yO' (fromV y m d) = y ∧ mO' (fromV y m d) = m ∧ dO' (fromV y m d) = d ∧ chk (fromV y m d) = 0 := by
  rw [fromV_yes h]
  have hb := raw_bd h
  obtain ⟨e1, e2, e3⟩ := o_yes hb
  obtain ⟨g1, g2, g3⟩ := of_uniq h rfl
  exact ⟨e1.trans g1, e2.trans g2, e3.trans g3, chk_yes hb.1 hb.2⟩
theorem fromV_bd {y m d : Int} (h : Valid y m d) : 0 ≤ fromV y m d ∧ fromV y m d ≤ 3652058 := by rw [fromV_yes h]; exact raw_bd h
theorem from_of {n : Int} (h : 0 ≤ n ∧ n ≤ 3652058) : fromV (yO' n) (mO' n) (dO' n) = n ∧ fromE (yO' n) (mO' n) (dO' n) = 0 := by
  obtain ⟨e1, e2, e3⟩ := o_yes h
  obtain ⟨v, r⟩ := of_ok n h.1 h.2
  rw [e1, e2, e3, fromV_yes v, fromE_yes v]
  exact ⟨r, rfl⟩
theorem round {y m d : Int} (h : Valid y m d) (hy : y ≤ 9599) : fromV (y + 400) m d = fromV y m d + 146097 ∧ fromE (y + 400) m d = 0 ∧ chk (fromV y m d) = 0 ∧ chk (fromV y m d + 146097) = 0 ∧ wk (fromV y m d + 146097) = wk (fromV y m d) := by
  have h' : Valid (y + 400) m d := by
    obtain ⟨a, b, c, e, f, g⟩ := h
    exact ⟨by omega, by omega, c, e, f, by rw [ml_400]; exact g⟩
  have r : raw (y + 400) m d = raw y m d + 146097 := by unfold raw; rw [dby_400, cum_400]; omega
  have b1 := raw_bd h
  have b2 := raw_bd h'
  rw [fromV_yes h', fromE_yes h', fromV_yes h]
  refine ⟨r, rfl, chk_yes b1.1 b1.2, chk_yes (by omega) (by omega), ?_⟩
  rw [wk_yes (by omega), wk_yes b1]
  omega
theorem wk_next {n : Int} (h0 : 0 ≤ n) (h1 : n < 3652058) : wk (n + 1) = (wk n + 1) % 7 ∧ chk (n + 1) = 0 ∧ 0 ≤ wk n ∧ wk n ≤ 6 := by
  rw [wk_yes ⟨by omega, by omega⟩, wk_yes ⟨h0, by omega⟩]
  exact ⟨by omega, chk_yes (by omega) (by omega), by omega, by omega⟩
/-- two days, by year, month and day -/
theorem order {n k : Int} (hn : 0 ≤ n ∧ n ≤ 3652058) (hk : 0 ≤ k ∧ k ≤ 3652058) :
    (yO' n < yO' k ∧ n < k) ∨ (yO' k < yO' n ∧ k < n) ∨ (yO' k = yO' n ∧ mO' n < mO' k ∧ n < k) ∨ (yO' k = yO' n ∧ mO' k < mO' n ∧ k < n) ∨
    (yO' k = yO' n ∧ mO' k = mO' n ∧ dO' n < dO' k ∧ n < k) ∨ (yO' k = yO' n ∧ mO' k = mO' n ∧ dO' k ≤ dO' n ∧ k ≤ n) := by
  obtain ⟨a1, a2, a3⟩ := o_yes hn
  obtain ⟨b1, b2, b3⟩ := o_yes hk
  rw [a1, a2, a3, b1, b2, b3]
  obtain ⟨v, r⟩ := of_ok n hn.1 hn.2
  obtain ⟨v', r'⟩ := of_ok k hk.1 hk.2
  by_cases c1 : yO n < yO k
  · exact .inl ⟨c1, by rw [← r, ← r']; exact raw_lt v v' (.inl c1)⟩
  by_cases c2 : yO k < yO n
  · exact .inr (.inl ⟨c2, by rw [← r, ← r']; exact raw_lt v' v (.inl c2)⟩)
  have c3 : yO k = yO n := by omega
  by_cases c4 : mO n < mO k
  · exact .inr (.inr (.inl ⟨c3, c4, by rw [← r, ← r']; exact raw_lt v v' (.inr ⟨c3.symm, .inl c4⟩)⟩))
  by_cases c5 : mO k < mO n
  · exact .inr (.inr (.inr (.inl ⟨c3, c5, by rw [← r, ← r']; exact raw_lt v' v (.inr ⟨c3, .inl c5⟩)⟩)))
  have c6 : mO k = mO n := by omega
  by_cases c7 : dO n < dO k
  · exact .inr (.inr (.inr (.inr (.inl ⟨c3, c6, c7, by rw [← r, ← r']; exact raw_lt v v' (.inr ⟨c3.symm, .inr ⟨c6.symm, c7⟩⟩)⟩))))
  · refine .inr (.inr (.inr (.inr (.inr ⟨c3, c6, by omega, ?_⟩))))
    by_cases c8 : dO k < dO n
    · have := raw_lt v' v (.inr ⟨c3, .inr ⟨c6, c8⟩⟩); omega
    · have c9 : dO k = dO n := by omega
      rw [← r, ← r', c3, c6, c9]; omega
/-- months there and back -/
theorem back {n many : Int} (h : 0 ≤ n ∧ n ≤ 3652058) (h2 : -120000 ≤ many) (h3 : many ≤ 120000) (h4 : 12 ≤ 12 * yO n + mO n - 1 + many ∧ 12 * yO n + mO n - 1 + many < 120000) :
    moE n many = 0 ∧ chk (moV n many) = 0 ∧ (∃ q, mO' (moV n many) - mO' n - many = 12 * q ∧ -20000 ≤ q ∧ q ≤ 20000) ∧ dO' (moV n many) ≤ dO' n ∧ 1 ≤ dO' (moV n many) ∧ dO' n ≤ 31 ∧ 28 ≤ ml (yO' (moV n many)) (mO' (moV n many)) ∧
    (dO' (moV n many) < dO' n → dO' (moV n many) = ml (yO' (moV n many)) (mO' (moV n many))) ∧ 1 ≤ yO' (moV n many) ∧ yO' (moV n many) ≤ 9999 ∧ 1 ≤ mO' (moV n many) ∧ mO' (moV n many) ≤ 12 ∧ 1 ≤ mO' n ∧ mO' n ≤ 12 ∧
    moE (moV n many) (-many) = 0 ∧ moV (moV n many) (-many) = n - (dO' n - dO' (moV n many)) := by
  obtain ⟨e1, e2⟩ := (mo_yes (many := many) h h2 h3).2 h4
  obtain ⟨c1, c2, c3⟩ := o_yes h
  obtain ⟨b1, b2, b3, b4, b5, b6, b7, b8, b9⟩ := of_bds h.1 h.2
  have hml := ml_bd ((12 * yO n + mO n - 1 + many) / 12) ((12 * yO n + mO n - 1 + many) % 12 + 1)
  have hml2 := ml_bd (yO n) (mO n)
  have hv : Valid ((12 * yO n + mO n - 1 + many) / 12) ((12 * yO n + mO n - 1 + many) % 12 + 1) (min (dO n) (ml ((12 * yO n + mO n - 1 + many) / 12) ((12 * yO n + mO n - 1 + many) % 12 + 1))) := ⟨by omega, by omega, by omega, by omega, by omega, by omega⟩
  have hb := raw_bd hv
  rw [← e1] at hb
  obtain ⟨g1, g2, g3⟩ := of_uniq hv e1.symm
  obtain ⟨d1, d2, d3⟩ := o_yes hb
  have hat : 12 * yO (moV n many) + mO (moV n many) - 1 + -many = 12 * yO n + mO n - 1 := by rw [g1, g2]; omega
  obtain ⟨f1, f2⟩ := (mo_yes (many := -many) hb (by omega) (by omega)).2 (by rw [hat]; omega)
  rw [hat] at f1
  have y1 : (12 * yO n + mO n - 1) / 12 = yO n := by omega
  have m1 : (12 * yO n + mO n - 1) % 12 + 1 = mO n := by omega
  rw [y1, m1, g3] at f1
  rw [f1, f2, e2, d1, d2, d3, c2, c3, g1, g2, g3]
  refine ⟨rfl, chk_yes hb.1 hb.2, ⟨yO n - (12 * yO n + mO n - 1 + many) / 12, by omega, by omega, by omega⟩, by omega, by omega, by omega, hml.1, by omega, by omega, by omega, by omega, by omega, by omega, by omega, rfl, ?_⟩
  unfold raw
  omega
theorem mo_err {n many : Int} (h : 0 ≤ n ∧ n ≤ 3652058) (h4 : ¬ (-120000 ≤ many ∧ many ≤ 120000 ∧ 12 ≤ 12 * yO n + mO n - 1 + many ∧ 12 * yO n + mO n - 1 + many < 120000)) : moV n many = 0 ∧ moE n many = 8 := by
  by_cases h2 : many < -120000 ∨ 120000 < many
  · exact mo_wide1 h h2
  · exact (mo_yes h (by omega) (by omega)).1 (by omega)
theorem long_step (y : Int) (h0 : 1 ≤ y) (h1 : y ≤ 9999) : fromV y 1 1 = dby y ∧ fromE y 1 1 = 0 := by
  have hv : Valid y 1 1 := ⟨h0, h1, by decide, by decide, by decide, by have := ml_bd y 1; omega⟩
  rw [fromV_yes hv, fromE_yes hv]
  exact ⟨by unfold raw; rw [cum_one]; omega, rfl⟩
theorem long_end (y : Int) : dby (y + 8) - dby y - 2920 = 1 ∨ dby (y + 8) - dby y - 2920 = 2 := by unfold dby; omega
end Go.Proofs.YtngjkjadncgdgaaDoor.D

/- What the functions of the package 'fail' answer, one fail at a time. -/
namespace Go.Proofs.YtngjkjadncgdgaaDoor
open Go Go.RowKit V
set_option maxRecDepth 100000
theorem v_dcheck (n : Int) : V.Fn Tryd.prog 32 [] [.one (.val (.int .i64 n))] (.int .i64 (D.chk n)) := by
  refine V.Fn.mk_ V.Tok V.mixed Tryd.func32 rfl Tryd.ntmps32 (by kernel_rfl) rfl rfl ?_
  repeat' ((conv => whnf); first | refine V.NCond.mk ?_ | refine V.NIf.not_ ?_ | refine V.NIf.dec_ ?_ | refine V.NIf.no (by omega) ?_ | refine V.NIf.yes (by omega) ?_ | refine V.NIf.mk (fun _ => ?_) (fun _ => ?_) | refine V.NWrap.ok (by omega) (by omega) ?_ | refine V.NWrap.u64 (by omega) (by omega) ?_ | refine V.NLt.mk (by omega) ?_ | refine V.NBoth.mk ?_ ?_ | refine V.NTF.yes (by omega) ?_ | refine V.NTF.no (by omega) ?_ | refine V.NTF.dec ?_ | refine V.NDraw.q (by exact rfl) (by kernel_rfl) ?_ | refine V.NApp.one (by first | omega | (simp; omega)) (by first | omega | (simp; omega)) ?_ | (refine V.NDraw.any (by kernel_rfl) ?_) | fail)
  all_goals ((conv => whnf); refine congrArg _ ?_; unfold D.chk; (repeat' split) <;> first | rfl | omega | (exfalso; omega) | (simp_all; done) | (simp_all; omega))
end Go.Proofs.YtngjkjadncgdgaaDoor

/- Plain facts on calendars: business days, how many there are, and steps from one to another. -/
namespace Go.Proofs.YtngjkjadncgdgaaDoor
set_option linter.unusedVariables false
structure Cl where
  we : Int
  hs : List Int
namespace Ca
/-- the first error of so many -/
def fe (f : Nat → Int) (n : Nat) : Int := fb f (List.range n)
theorem fe_ok {f : Nat → Int} {n : Nat} (h : fe f n = 0) : ∀ j, j < n → f j = 0 := fun j hj => fb_ok h j (List.mem_range.2 hj)
theorem fe_end {f : Nat → Int} {n : Nat} (h : ∀ j, j < n → f j = 0) : fe f n = 0 := fb_yes fun d hd => h d (List.mem_range.1 hd)
theorem fe_get {f : Nat → Int} {n k : Nat} (hk : k < n) (h1 : ∀ j, j < k → f j = 0) (h : f k ≠ 0) : fe f n = f k := by
  have hl : k < (List.range n).length := by simpa using hk
  have e : (List.range n)[k] = k := by simp
  have := fb_at (f := f) hl (fun d hd => h1 d (by
    rw [List.take_range] at hd
    have := List.mem_range.1 hd
    omega)) (by rw [e]; exact h)
  rw [e] at this
  exact this
def Day (n : Int) : Prop := 0 ≤ n ∧ n ≤ 3652058
instance (n : Int) : Decidable (Day n) := by unfold Day; exact inferInstance
def Ok (c : Cl) : Prop := (0 ≤ c.we ∧ c.we ≤ 126) ∧ c.hs.length ≤ 60 ∧ (∀ n ∈ c.hs, Day n) ∧ c.hs.Pairwise (· < ·)
def eAt (hs : List Int) (k : Nat) : Int := if ¬ Day (hs.getD k default) then 3 else if 0 < k ∧ hs.getD k default = hs.getD (k - 1) default then 6 else if 0 < k ∧ hs.getD k default < hs.getD (k - 1) default then 4 else 0
def chk (c : Cl) : Int := if c.we < 0 ∨ 126 < c.we then 3 else if 60 < c.hs.length then 2 else fe (eAt c.hs) c.hs.length
theorem eAt_ok {hs : List Int} {k : Nat} (h : eAt hs k = 0) : Day (hs.getD k default) ∧ (0 < k → hs.getD (k - 1) default < hs.getD k default) := by
  unfold eAt at h
  split at h
  · omega
  · rename_i a
    split at h
    · omega
    · split at h
      · omega
      · exact ⟨Classical.not_not.1 a, fun hk => by omega⟩
theorem chk_ok {c : Cl} (h : chk c = 0) : Ok c := by
  unfold chk at h
  split at h
  · omega
  split at h
  · omega
  have a := fe_ok h
  refine ⟨by omega, by omega, fun n hn => ?_, List.pairwise_iff_getElem.2 fun i j hi hj hij => ?_⟩
  · obtain ⟨i, hi, rfl⟩ := List.getElem_of_mem hn
    have := (eAt_ok (a i hi)).1
    rwa [getD_at hi] at this
  · have st : ∀ m, i < m → m < c.hs.length → c.hs.getD i default < c.hs.getD m default := by
      intro m
      induction m with
      | zero => intro h; omega
      | succ m ih =>
        intro h1 h2
        have h3 := (eAt_ok (a (m + 1) h2)).2 (by omega)
        rw [Nat.add_sub_cancel] at h3
        by_cases e : i = m
        · subst e; exact h3
        · have := ih (by omega) (by omega); omega
    have := st j hij hj
    rwa [getD_at hi, getD_at hj] at this
theorem chk_1 {c : Cl} (h : c.we < 0 ∨ 126 < c.we) : chk c = 3 := if_pos h
theorem chk_2 {c : Cl} (h : ¬ (c.we < 0 ∨ 126 < c.we)) (k : 60 < c.hs.length) : chk c = 2 := (if_neg h).trans (if_pos k)
theorem chk_3 {c : Cl} (h : ¬ (c.we < 0 ∨ 126 < c.we)) (k : ¬ 60 < c.hs.length) : chk c = fe (eAt c.hs) c.hs.length := (if_neg h).trans (if_neg k)
theorem chk_of {c : Cl} (h : Ok c) : chk c = 0 := by
  obtain ⟨h1, h2, h3, h4⟩ := h
  rw [chk_3 (by omega) (by omega)]
  refine fe_end fun k hk => ?_
  have hd := h3 _ (getD_mem (l := c.hs) hk)
  unfold eAt
  rw [if_neg (fun q => q hd)]
  have lt : 0 < k → c.hs.getD (k - 1) default < c.hs.getD k default := fun h => by
    rw [getD_at hk, getD_at (l := c.hs) (k := k - 1) (by omega)]
    exact List.pairwise_iff_getElem.1 h4 (k - 1) k (by omega) hk (by omega)
  rw [if_neg (fun q => by have := lt q.1; omega), if_neg (fun q => by have := lt q.1; omega)]
/-- no day of the weekend; a business day -/
def wd (c : Cl) (n : Int) : Int := 1 - c.we / 2 ^ (n % 7).toNat % 2
def op (c : Cl) (n : Int) : Int := if n ∈ c.hs then 0 else wd c n
theorem wd_01 (c : Cl) (n : Int) : wd c n = 0 ∨ wd c n = 1 := by unfold wd; omega
theorem op_01 (c : Cl) (n : Int) : op c n = 0 ∨ op c n = 1 := by unfold op; split; · exact .inl rfl
                                                                 · exact wd_01 c n
theorem wd_7 (c : Cl) (n : Int) : wd c (n + 7) = wd c n := by unfold wd; rw [show (n + 7) % 7 = n % 7 by omega]
/-- sums over (a, a + k] -/
def sm (f : Int → Int) (a : Int) : Nat → Int
  | 0 => 0
  | k + 1 => sm f a k + f (a + k + 1)
theorem sm_add (f : Int → Int) (a : Int) (k : Nat) : ∀ m : Nat, sm f a (k + m) = sm f a k + sm f (a + k) m
  | 0 => by simp [sm]
  | m + 1 => by
    have := sm_add f a k m
    rw [← Nat.add_assoc]
    simp only [sm]
    rw [this, show a + ((k + m : Nat) : Int) + 1 = a + k + m + 1 by omega]; omega
def cnt (c : Cl) (a b : Int) : Int := sm (op c) a (b - a).toNat
theorem cnt_none {c : Cl} {a b : Int} (h : b ≤ a) : cnt c a b = 0 := by unfold cnt; rw [show (b - a).toNat = 0 by omega]; rfl
theorem cnt_succ {c : Cl} {a b : Int} (h : a ≤ b) : cnt c a (b + 1) = cnt c a b + op c (b + 1) := by
  unfold cnt
  rw [show (b + 1 - a).toNat = (b - a).toNat + 1 by omega]
  simp only [sm]
  rw [show a + ((b - a).toNat : Int) + 1 = b + 1 by omega]
theorem cnt_add {c : Cl} {a b d : Int} (h : a ≤ b) (k : b ≤ d) : cnt c a d = cnt c a b + cnt c b d := by
  unfold cnt
  rw [show (d - a).toNat = (b - a).toNat + (d - b).toNat by omega, sm_add, show a + ((b - a).toNat : Int) = b by omega]
theorem cnt_last {c : Cl} {a b : Int} (h : a < b) : cnt c a b = cnt c a (b - 1) + op c b := by
  have := cnt_succ (c := c) (a := a) (b := b - 1) (by omega)
  rwa [show b - 1 + 1 = b by omega] at this
theorem cnt_one (c : Cl) (a : Int) : cnt c a (a + 1) = op c (a + 1) := by rw [cnt_succ (Int.le_refl _), cnt_none (Int.le_refl _)]; omega
theorem cnt_first {c : Cl} {a b : Int} (h : a < b) : cnt c a b = op c (a + 1) + cnt c (a + 1) b := by
  rw [cnt_add (b := a + 1) (by omega) (by omega), cnt_one]
theorem sm_bd (c : Cl) (a : Int) : ∀ k : Nat, 0 ≤ sm (op c) a k ∧ sm (op c) a k ≤ k
  | 0 => by simp [sm]
  | k + 1 => by
    have := sm_bd c a k
    have := op_01 c (a + k + 1)
    simp only [sm]; omega
theorem cnt_bd (c : Cl) (a b : Int) : 0 ≤ cnt c a b ∧ (a ≤ b → cnt c a b ≤ b - a) := by
  have := sm_bd c a (b - a).toNat
  unfold cnt
  exact ⟨this.1, fun h => by omega⟩
theorem cnt_mono {c : Cl} {a b d : Int} (k : b ≤ d) : cnt c a b ≤ cnt c a d := by
  by_cases h : a ≤ b
  · have := cnt_add (c := c) h k; have := cnt_bd c b d; omega
  · rw [cnt_none (by omega)]; exact (cnt_bd c a d).1
theorem cnt_pos {c : Cl} {a b : Int} (h : a < b) (k : op c b = 1) : 1 ≤ cnt c a b := by
  rw [cnt_last h]; have := cnt_bd c a (b - 1); omega
/-- the m-th business day behind a -/
def Up (c : Cl) (a m d : Int) : Prop := a < d ∧ d ≤ 3652058 ∧ op c d = 1 ∧ cnt c a d = m
theorem up_one {c : Cl} {a m d e : Int} (h : Up c a m d) (k : Up c a m e) : d = e := by
  obtain ⟨h1, h2, h3, h4⟩ := h
  obtain ⟨k1, k2, k3, k4⟩ := k
  rcases Int.lt_trichotomy d e with q | q | q
  · have := cnt_add (c := c) (a := a) (b := d) (d := e) (by omega) (by omega); have := cnt_pos q k3; omega
  · exact q
  · have := cnt_add (c := c) (a := a) (b := e) (d := d) (by omega) (by omega); have := cnt_pos q h3; omega
open Classical in
noncomputable def stU (c : Cl) (a m : Int) : Int := if h : ∃ d, Up c a m d then h.choose else -1
theorem stU_is {c : Cl} {a m d : Int} (h : Up c a m d) : stU c a m = d := by
  have e : ∃ d, Up c a m d := ⟨d, h⟩
  unfold stU
  rw [dif_pos e]
  exact up_one e.choose_spec h
theorem stU_no {c : Cl} {a m : Int} (h : cnt c a 3652058 < m) : stU c a m = -1 := by
  unfold stU
  exact dif_neg fun ⟨d, _, h2, _, h4⟩ => by have := cnt_mono (c := c) (a := a) h2; omega
theorem stU_ok {c : Cl} {a m : Int} (h : 0 ≤ stU c a m) : Up c a m (stU c a m) := by
  by_cases e : ∃ d, Up c a m d
  · unfold stU; rw [dif_pos e]; exact e.choose_spec
  · unfold stU at h; rw [dif_neg e] at h; omega
theorem stU_cases {c : Cl} {a m : Int} (ha : -1 ≤ a) : stU c a m = -1 ∨ (0 ≤ stU c a m ∧ Up c a m (stU c a m)) := by
  by_cases e : ∃ d, Up c a m d
  · right
    have : Up c a m (stU c a m) := by unfold stU; rw [dif_pos e]; exact e.choose_spec
    exact ⟨by have := this.1; omega, this⟩
  · left; unfold stU; exact dif_neg e
/-- the m-th business day ahead of a -/
def Dn (c : Cl) (a m d : Int) : Prop := 0 ≤ d ∧ d < a ∧ op c d = 1 ∧ cnt c (d - 1) (a - 1) = m
theorem dn_one {c : Cl} {a m d e : Int} (h : Dn c a m d) (k : Dn c a m e) : d = e := by
  have key : ∀ d e, d < e → Dn c a m d → Dn c a m e → False := fun d e q ⟨h1, h2, h3, h4⟩ ⟨k1, k2, k3, k4⟩ => by
    have h5 := cnt_add (c := c) (a := d - 1) (b := e - 1) (d := a - 1) (by omega) (by omega)
    have h6 := cnt_first (c := c) (a := d - 1) (b := e - 1) (by omega)
    have h7 := cnt_bd c (d - 1 + 1) (e - 1)
    rw [show d - 1 + 1 = d by omega] at h6 h7
    omega
  rcases Int.lt_trichotomy d e with q | q | q
  · exact (key d e q h k).elim
  · exact q
  · exact (key e d q k h).elim
open Classical in
noncomputable def stD (c : Cl) (a m : Int) : Int := if h : ∃ d, Dn c a m d then h.choose else -1
theorem stD_is {c : Cl} {a m d : Int} (h : Dn c a m d) : stD c a m = d := by
  have e : ∃ d, Dn c a m d := ⟨d, h⟩
  unfold stD
  rw [dif_pos e]
  exact dn_one e.choose_spec h
theorem cnt_mono_l {c : Cl} {a b d : Int} (k : a ≤ b) : cnt c b d ≤ cnt c a d := by
  by_cases h : b ≤ d
  · have := cnt_add (c := c) k h; have := cnt_bd c a b; omega
  · rw [cnt_none (by omega)]; exact (cnt_bd c a d).1
theorem stD_no {c : Cl} {a m : Int} (h : cnt c (-1) (a - 1) < m) : stD c a m = -1 := by
  unfold stD
  exact dif_neg fun ⟨d, h1, h2, _, h4⟩ => by have := cnt_mono_l (c := c) (a := -1) (b := d - 1) (d := a - 1) (by omega); omega
theorem stD_cases (c : Cl) (a m : Int) : stD c a m = -1 ∨ (0 ≤ stD c a m ∧ Dn c a m (stD c a m)) := by
  by_cases e : ∃ d, Dn c a m d
  · right
    have : Dn c a m (stD c a m) := by unfold stD; rw [dif_pos e]; exact e.choose_spec
    exact ⟨this.1, this⟩
  · left; unfold stD; exact dif_neg e
/-- so many steps -/
noncomputable def stp (c : Cl) (n m : Int) : Int := if 0 < m then stU c n m else if m < 0 then stD c n (-m) else n
theorem stp_p {c : Cl} {n m : Int} (h : 0 < m) : stp c n m = stU c n m := if_pos h
theorem stp_n {c : Cl} {n m : Int} (h : m < 0) : stp c n m = stD c n (-m) := (if_neg (by omega)).trans (if_pos h)
theorem stp_0 {c : Cl} {n : Int} : stp c n 0 = n := (if_neg (by omega)).trans (if_neg (by omega))
theorem stp_cases {c : Cl} {n m : Int} (hn : Day n) : stp c n m = -1 ∨ Day (stp c n m) := by
  unfold Day at *
  by_cases h : 0 < m
  · rw [stp_p h]
    rcases stU_cases (c := c) (a := n) (m := m) (by omega) with q | ⟨q, _, r, _⟩
    · exact .inl q
    · exact .inr ⟨q, r⟩
  · by_cases k : m < 0
    · rw [stp_n k]
      rcases stD_cases c n (-m) with q | ⟨q, _, r, _⟩
      · exact .inl q
      · exact .inr ⟨q, by omega⟩
    · obtain rfl : m = 0 := by omega
      rw [stp_0]; exact .inr hn
/-! what the count of the program comes to -/
def hc (c : Cl) (a b : Int) : List Int → Int
  | [] => 0
  | h :: r => (if a < h ∧ h ≤ b ∧ wd c h = 1 then 1 else 0) + hc c a b r
theorem hc_snoc (c : Cl) (a b : Int) : ∀ (l : List Int) (x : Int), hc c a b (l ++ [x]) = hc c a b l + (if a < x ∧ x ≤ b ∧ wd c x = 1 then 1 else 0)
  | [], x => by simp [hc]
  | h :: r, x => by
    rw [List.cons_append]; simp only [hc]
    rw [hc_snoc c a b r x]; omega
theorem hc_same {c : Cl} {a b : Int} : ∀ {l : List Int}, b + 1 ∉ l → hc c a (b + 1) l = hc c a b l
  | [], _ => rfl
  | h :: r, q => by
    have h1 : h ≠ b + 1 := fun e => q (by simp [e])
    have := hc_same (c := c) (a := a) (b := b) (l := r) (fun e => q (by simp [e]))
    simp only [hc]
    rw [this]
    congr 1
    split <;> split <;> omega
theorem hc_succ {c : Cl} {a b : Int} (hab : a ≤ b) : ∀ {l : List Int}, l.Nodup → hc c a (b + 1) l = hc c a b l + (if b + 1 ∈ l then wd c (b + 1) else 0)
  | [], _ => by simp [hc]
  | h :: r, hn => by
    rw [List.nodup_cons] at hn
    simp only [hc]
    by_cases e : h = b + 1
    · subst e
      rw [hc_same hn.1, if_pos (by simp : b + 1 ∈ (b + 1) :: r), if_neg (by omega : ¬ (a < b + 1 ∧ b + 1 ≤ b ∧ wd c (b + 1) = 1))]
      rcases wd_01 c (b + 1) with w | w
      · rw [if_neg (by omega), w]; omega
      · rw [if_pos (by omega), w]; omega
    · rw [hc_succ hab hn.2]
      have m : (b + 1 ∈ h :: r) ↔ b + 1 ∈ r := by
        rw [List.mem_cons]
        exact ⟨fun q => q.resolve_left fun z => e z.symm, .inr⟩
      have i1 : (if a < h ∧ h ≤ b + 1 ∧ wd c h = 1 then (1 : Int) else 0) = (if a < h ∧ h ≤ b ∧ wd c h = 1 then 1 else 0) := by split <;> split <;> omega
      rw [i1]
      by_cases q : b + 1 ∈ r
      · rw [if_pos q, if_pos (m.2 q)]; omega
      · rw [if_neg q, if_neg (fun z => q (m.1 z))]; omega
theorem hc_none {c : Cl} {a b : Int} (h : b ≤ a) : ∀ l : List Int, hc c a b l = 0
  | [] => rfl
  | x :: r => by simp only [hc]; rw [hc_none h r, if_neg (by omega)]; rfl
theorem sm_op {c : Cl} (hn : c.hs.Nodup) (a : Int) : ∀ k : Nat, sm (op c) a k = sm (wd c) a k - hc c a (a + k) c.hs
  | 0 => by simp only [sm]; rw [hc_none (by omega)]; rfl
  | k + 1 => by
    have h1 := sm_op hn a k
    have h2 := hc_succ (c := c) (a := a) (b := a + k) (by omega) hn
    simp only [sm]
    rw [h1, show a + ((k + 1 : Nat) : Int) = a + k + 1 by omega, h2]
    unfold op
    split <;> omega
/-- business days of a week, but for holidays -/
def wk (c : Cl) : Int := sm (wd c) (-1) 7
theorem sm_wk (c : Cl) (a : Int) : sm (wd c) a 7 = wk c := by
  have per : ∀ x y : Int, x % 7 = y % 7 → wd c x = wd c y := fun x y h => by unfold wd; rw [h]
  have e : ∀ b, sm (wd c) b 7 = wd c (b + 1) + wd c (b + 2) + wd c (b + 3) + wd c (b + 4) + wd c (b + 5) + wd c (b + 6) + wd c (b + 7) := fun b => by
    simp only [sm, Int.zero_add]
    rw [show b + ((0 : Nat) : Int) + 1 = b + 1 by omega, show b + ((1 : Nat) : Int) + 1 = b + 2 by omega, show b + ((2 : Nat) : Int) + 1 = b + 3 by omega, show b + ((3 : Nat) : Int) + 1 = b + 4 by omega, show b + ((4 : Nat) : Int) + 1 = b + 5 by omega, show b + ((5 : Nat) : Int) + 1 = b + 6 by omega, show b + ((6 : Nat) : Int) + 1 = b + 7 by omega]
  have st : ∀ b, sm (wd c) (b + 1) 7 = sm (wd c) b 7 := fun b => by
    rw [e, e, show b + 1 + 7 = b + 1 + 7 from rfl, wd_7, show b + 1 + 1 = b + 2 by omega, show b + 1 + 2 = b + 3 by omega, show b + 1 + 3 = b + 4 by omega, show b + 1 + 4 = b + 5 by omega, show b + 1 + 5 = b + 6 by omega, show b + 1 + 6 = b + 7 by omega]
    omega
  have up : ∀ (k : Nat) b, sm (wd c) (b + k) 7 = sm (wd c) b 7 := by
    intro k
    induction k with
    | zero => intro b; rw [show b + ((0 : Nat) : Int) = b by omega]
    | succ k ih => intro b; rw [show b + ((k + 1 : Nat) : Int) = b + k + 1 by omega, st, ih]
  unfold wk
  by_cases h : -1 ≤ a
  · have := up (a + 1).toNat (-1)
    rwa [show -1 + ((a + 1).toNat : Int) = a by omega] at this
  · have := up (-1 - a).toNat a
    rw [show a + ((-1 - a).toNat : Int) = -1 by omega] at this
    exact this.symm
theorem sm_weeks (c : Cl) (a : Int) : ∀ q : Nat, sm (wd c) a (7 * q) = q * wk c
  | 0 => by simp [sm]
  | q + 1 => by
    rw [Nat.mul_succ, sm_add, sm_weeks c a q, sm_wk, Int.natCast_add, Int.add_mul]; omega
theorem count_is {c : Cl} (hn : c.hs.Nodup) {a b : Int} (h : a ≤ b) : cnt c a b = (b - a) / 7 * wk c + sm (wd c) (a + (b - a) / 7 * 7) ((b - a) % 7).toNat - hc c a b c.hs := by
  unfold cnt
  rw [sm_op hn, show a + ((b - a).toNat : Int) = b by omega, show (b - a).toNat = 7 * ((b - a) / 7).toNat + ((b - a) % 7).toNat by omega, sm_add, sm_weeks, show (((b - a) / 7).toNat : Int) = (b - a) / 7 by omega, show a + ((7 * ((b - a) / 7).toNat : Nat) : Int) = a + (b - a) / 7 * 7 by omega]
theorem ok_nodup {c : Cl} (h : Ok c) : c.hs.Nodup := h.2.2.2.imp (fun q => by omega)
/-! a binary search -/
def lb (l : List Int) (x : Int) : Nat := (l.takeWhile (fun y => decide (y < x))).length
theorem lb_is {l : List Int} {x : Int} {i : Nat} (hi : i ≤ l.length) (h1 : ∀ k, k < i → l.getD k default < x) (h2 : ∀ k, i ≤ k → k < l.length → ¬ l.getD k default < x) : lb l x = i := by
  have key : ∀ (l : List Int) (i : Nat), i ≤ l.length → (∀ k, k < i → l.getD k default < x) → (∀ k, i ≤ k → k < l.length → ¬ l.getD k default < x) → lb l x = i := by
    intro l
    induction l with
    | nil => intro i hi _ _; simp at hi; subst hi; rfl
    | cons a r ih =>
      intro i hi h1 h2
      unfold lb
      cases i with
      | zero =>
        have := h2 0 (by omega) (by simp)
        have e : ¬ a < x := by simpa using this
        rw [List.takeWhile_cons, if_neg (by simpa using e)]; rfl
      | succ i =>
        have := h1 0 (by omega)
        have e : a < x := by simpa using this
        rw [List.takeWhile_cons, if_pos (by simpa using e), List.length_cons]
        have := ih i (by simpa using hi) (fun k hk => by simpa using h1 (k + 1) (by omega)) (fun k h3 h4 => by simpa using h2 (k + 1) (by omega) (by simpa using h4))
        unfold lb at this
        rw [this]
  exact key l i hi h1 h2
theorem srt_lt {l : List Int} (h : l.Pairwise (· < ·)) {i j : Nat} (hij : i < j) (hj : j < l.length) : l.getD i default < l.getD j default := by
  rw [getD_at (by omega), getD_at hj]
  exact List.pairwise_iff_getElem.1 h i j (by omega) hj hij
/-- found, where it is -/
theorem found_is {l : List Int} {x : Int} {i : Nat} (h1 : ∀ k, k < i → l.getD k default < x) (h2 : ∀ k, i ≤ k → k < l.length → ¬ l.getD k default < x) (hs : l.Pairwise (· < ·)) : x ∈ l ↔ (i < l.length ∧ l.getD i default = x) := by
  constructor
  · intro h
    obtain ⟨k, hk, e⟩ := List.getElem_of_mem h
    have e : l.getD k default = x := by rw [getD_at hk]; exact e
    have hik : i ≤ k := by
      rcases Nat.lt_or_ge k i with q | q
      · have := h1 k q; omega
      · exact q
    refine ⟨by omega, ?_⟩
    by_cases q : i = k
    · subst q; exact e
    · have a := srt_lt hs (i := i) (j := k) (by omega) hk
      have b := h2 i (Nat.le_refl _) (by omega)
      omega
  · rintro ⟨a, b⟩
    rw [← b]; exact getD_mem a
/-! errors -/
def chks (c : Cl) (ds : List Int) : Int := if chk c ≠ 0 then chk c else fb D.chk ds
theorem chks_1 {c : Cl} {ds : List Int} (h : ¬ chk c = 0) : chks c ds = chk c := if_pos h
theorem chks_2 {c : Cl} {ds : List Int} (h : chk c = 0) : chks c ds = fb D.chk ds := if_neg (by omega)
def e1 (c : Cl) (n : Int) : Int := chks c [n]
theorem dchk (n : Int) : (D.chk n = 0 ∧ Day n) ∨ (D.chk n = 3 ∧ ¬ Day n) := by
  by_cases h : Day n
  · exact .inl ⟨D.chk_yes h.1 h.2, h⟩
  · exact .inr ⟨D.chk_no h, h⟩
theorem e1_ok {c : Cl} {n : Int} (h : e1 c n = 0) : Ok c ∧ Day n ∧ chk c = 0 := by
  unfold e1 at h
  by_cases a : chk c = 0
  · rw [chks_2 a] at h
    have := fb_ok h n (by simp)
    rcases dchk n with q | q
    · exact ⟨chk_ok a, q.2, a⟩
    · omega
  · rw [chks_1 a] at h; omega
theorem e1_of {c : Cl} {n : Int} (h : chk c = 0) (k : Day n) : e1 c n = 0 := by
  unfold e1
  rw [chks_2 h]
  exact fb_yes fun d hd => by rw [List.mem_singleton] at hd; subst hd; exact D.chk_yes k.1 k.2
theorem e1_1 {c : Cl} {n : Int} (h : ¬ chk c = 0) : e1 c n = chk c := chks_1 h
theorem e1_2 {c : Cl} {n : Int} (h : chk c = 0) (k : ¬ Day n) : e1 c n = 3 := by
  unfold e1
  rw [chks_2 h]
  have e := D.chk_no k
  show (if D.chk n ≠ 0 then D.chk n else _) = 3
  rw [if_pos (by omega), e]
/-- is it a business day? -/
def isV (c : Cl) (n : Int) : Bool := decide (e1 c n = 0 ∧ op c n = 1)
/-- what is told of a day, or that there is none -/
def toV (d : Int) : Int := if d < 0 then 0 else d
def toE (d : Int) : Int := if d < 0 then 8 else 0
noncomputable def neV (c : Cl) (n : Int) : Int := if e1 c n ≠ 0 then 0 else toV (stU c (n - 1) 1)
noncomputable def neE (c : Cl) (n : Int) : Int := if e1 c n ≠ 0 then e1 c n else toE (stU c (n - 1) 1)
def sE0 (c : Cl) (n m : Int) : Int := if e1 c n ≠ 0 then e1 c n else if m < -500 ∨ 500 < m then 3 else 0
theorem sE0_ok {c : Cl} {n m : Int} (h : sE0 c n m = 0) : e1 c n = 0 ∧ -500 ≤ m ∧ m ≤ 500 := by
  unfold sE0 at h
  split at h
  · exact absurd h ‹_›
  · split at h
    · omega
    · exact ⟨by omega, by omega, by omega⟩
noncomputable def sV (c : Cl) (n m : Int) : Int := if sE0 c n m ≠ 0 then 0 else toV (stp c n m)
noncomputable def sE (c : Cl) (n m : Int) : Int := if sE0 c n m ≠ 0 then sE0 c n m else toE (stp c n m)
def coE (c : Cl) (a b : Int) : Int := if chks c [a, b] ≠ 0 then chks c [a, b] else if b < a then 1 else 0
def coV (c : Cl) (a b : Int) : Int := if coE c a b = 0 then cnt c a b else 0
theorem chks2_ok {c : Cl} {a b : Int} (h : chks c [a, b] = 0) : chk c = 0 ∧ Day a ∧ Day b := by
  by_cases q : chk c = 0
  · rw [chks_2 q] at h
    have h1 := fb_ok h a (by simp)
    have h2 := fb_ok h b (by simp)
    rcases dchk a with x | x <;> rcases dchk b with y | y <;> first | exact ⟨q, x.2, y.2⟩ | omega
  · rw [chks_1 q] at h; omega
theorem coE_ok {c : Cl} {a b : Int} (h : coE c a b = 0) : chk c = 0 ∧ Day a ∧ Day b ∧ a ≤ b := by
  unfold coE at h
  split at h
  · exact absurd h ‹_›
  · split at h
    · omega
    · have := chks2_ok (c := c) (a := a) (b := b) (by omega)
      exact ⟨this.1, this.2.1, this.2.2, by omega⟩
theorem coE_of {c : Cl} {a b : Int} (h : chk c = 0) (ha : Day a) (hb : Day b) (hab : a ≤ b) : coE c a b = 0 := by
  have : chks c [a, b] = 0 := by
    rw [chks_2 h]
    exact fb_yes fun d hd => by
      simp only [List.mem_cons, List.not_mem_nil, or_false] at hd
      rcases hd with rfl | rfl
      · exact D.chk_yes ha.1 ha.2
      · exact D.chk_yes hb.1 hb.2
  unfold coE
  rw [if_neg (by omega), if_neg (by omega)]
theorem eAt_cases {hs : List Int} {k : Nat} {x last : Int} (hx : x = hs.getD k default) (hl : last = if k = 0 then -1 else hs.getD (k - 1) default) :
    (¬ Day x → eAt hs k = 3) ∧ (Day x → x = last → eAt hs k = 6) ∧ (Day x → ¬ x = last → x < last → eAt hs k = 4) ∧ (Day x → ¬ x = last → ¬ x < last → eAt hs k = 0) := by
  subst hx
  unfold eAt Day
  by_cases hk : k = 0
  · subst hk
    rw [if_pos rfl] at hl
    refine ⟨fun h => if_pos h, fun h e => by omega, fun h e q => by omega, fun h e q => ?_⟩
    rw [if_neg (fun z => z h), if_neg (by omega), if_neg (by omega)]
  · rw [if_neg hk] at hl
    refine ⟨fun h => if_pos h, fun h e => ?_, fun h e q => ?_, fun h e q => ?_⟩
    · rw [if_neg (fun z => z h), if_pos (by omega)]
    · rw [if_neg (fun z => z h), if_neg (by omega), if_pos (by omega)]
    · rw [if_neg (fun z => z h), if_neg (by omega), if_neg (by omega)]
theorem smw_bd (c : Cl) (a : Int) : ∀ k : Nat, 0 ≤ sm (wd c) a k ∧ sm (wd c) a k ≤ k
  | 0 => by simp [sm]
  | k + 1 => by
    have := smw_bd c a k
    have := wd_01 c (a + k + 1)
    simp only [sm]; omega
theorem hc_bd (c : Cl) (a b : Int) : ∀ l : List Int, 0 ≤ hc c a b l ∧ hc c a b l ≤ l.length
  | [] => by simp [hc]
  | x :: r => by
    have := hc_bd c a b r
    simp only [hc, List.length_cons]
    split <;> omega
end Ca
end Go.Proofs.YtngjkjadncgdgaaDoor

/- What the functions on calendars answer. -/
namespace Go.Proofs.YtngjkjadncgdgaaDoor
open Go Go.RowKit V
set_option maxRecDepth 100000
set_option linter.unusedVariables false
theorem _root_.Go.Proofs.YtngjkjadncgdgaaDoor.V.NBit.one {x : Int} {K : Int → Prop} (h0 : 0 ≤ x) (h1 : x ≤ 9223372036854775807) (hK : ∀ z, z = x % 2 → K z) : NBit .and .i64 x 1 K := by
  refine ⟨fun z hz => hK z ?_⟩
  have := hz default default
  rw [intBits_and, Sem.run_pure] at this
  injection this with this _
  injection this with _ this
  rw [← this]
  unfold bits
  simp only [BitVec.toNat_and, BitVec.toNat_ofInt, show IntKind.i64.bits = 64 from rfl]
  have e1 : ((1 : Int) % ((2 ^ 64 : Nat) : Int)).toNat = 1 := by decide
  have e2 : (x % ((2 ^ 64 : Nat) : Int)).toNat = x.toNat := by rw [Int.emod_eq_of_lt h0 (by simp; omega)]
  rw [e1, e2, Nat.and_one_is_mod]
  rw [IntWalk.i64_in _ ⟨by omega, by omega⟩]; omega
theorem _root_.Go.Proofs.YtngjkjadncgdgaaDoor.V.NShr.u64 {x y : Int} {K : Int → Prop} (n : Nat) (hy : y = n) (hn : n ≤ 64) (h1 : 0 ≤ x) (hK : ∀ z, z = x / 2 ^ n → 0 ≤ z → z ≤ x → K z) : NShr .u64 x y K := by
  subst hy
  have p : (0 : Int) ≤ 2 ^ n := Int.le_of_lt (Int.pow_pos (by omega))
  refine ⟨by omega, ?_⟩
  rw [Int.toNat_natCast, show IntKind.u64.bits = 64 from rfl, Nat.min_eq_left hn, Int.fdiv_eq_ediv_of_nonneg _ p]
  exact hK _ rfl (Int.ediv_nonneg h1 p) (Int.ediv_le_self _ h1)
theorem v_cisnan (x : Int) : V.Fn Tryd.prog 49 [] [.one (.val (.int .i64 x))] (.bool false) := by
  refine V.Fn.mk_ V.Tok V.mixed Tryd.func49 rfl Tryd.ntmps49 (by kernel_rfl) rfl rfl ?_
  repeat' ((conv => whnf); first | refine V.NCond.mk ?_ | refine V.NIf.not_ ?_ | refine V.NIf.dec_ ?_ | refine V.NIf.no (by omega) ?_ | refine V.NIf.yes (by omega) ?_ | refine V.NIf.mk (fun _ => ?_) (fun _ => ?_) | refine V.NWrap.ok (by omega) (by omega) ?_ | refine V.NWrap.u64 (by omega) (by omega) ?_ | refine V.NLt.mk (by omega) ?_ | refine V.NBoth.mk ?_ ?_ | refine V.NTF.yes (by omega) ?_ | refine V.NTF.no (by omega) ?_ | refine V.NTF.dec ?_ | refine V.NDraw.q (by exact rfl) (by kernel_rfl) ?_ | refine V.NApp.one (by first | omega | (simp; omega)) (by first | omega | (simp; omega)) ?_ | (refine V.NDraw.any (by kernel_rfl) ?_) | fail)
  exact ⟨_, rfl, by simp⟩
theorem v_sisnan (x : Int) : V.Fn Tryd.prog 47 [] [.one (.val (.int .i64 x))] (.bool false) := by
  refine V.Fn.mk_ V.Tok V.mixed Tryd.func47 rfl Tryd.ntmps47 (by kernel_rfl) rfl rfl ?_
  repeat' ((conv => whnf); first | refine V.NCond.mk ?_ | refine V.NIf.not_ ?_ | refine V.NIf.dec_ ?_ | refine V.NIf.no (by omega) ?_ | refine V.NIf.yes (by omega) ?_ | refine V.NIf.mk (fun _ => ?_) (fun _ => ?_) | refine V.NWrap.ok (by omega) (by omega) ?_ | refine V.NWrap.u64 (by omega) (by omega) ?_ | refine V.NLt.mk (by omega) ?_ | refine V.NBoth.mk ?_ ?_ | refine V.NTF.yes (by omega) ?_ | refine V.NTF.no (by omega) ?_ | refine V.NTF.dec ?_ | refine V.NDraw.q (by exact rfl) (by kernel_rfl) ?_ | refine V.NApp.one (by first | omega | (simp; omega)) (by first | omega | (simp; omega)) ?_ | (refine V.NDraw.any (by kernel_rfl) ?_) | fail)
  exact ⟨_, rfl, by simp⟩
theorem v_cless (x y : Int) : V.Fn Tryd.prog 46 [] [.one (.val (.int .i64 x)), .one (.val (.int .i64 y))] (.bool (decide (x < y))) := by
  refine V.Fn.mk_ V.Tok V.mixed Tryd.func46 rfl Tryd.ntmps46 (by kernel_rfl) rfl rfl ?_
  repeat' ((conv => whnf); first | refine V.NCond.mk ?_ | refine V.NIf.not_ ?_ | refine V.NIf.dec_ ?_ | refine V.NIf.no (by omega) ?_ | refine V.NIf.yes (by omega) ?_ | refine V.NIf.mk (fun _ => ?_) (fun _ => ?_) | refine V.NWrap.ok (by omega) (by omega) ?_ | refine V.NWrap.u64 (by omega) (by omega) ?_ | refine V.NLt.mk (by omega) ?_ | refine V.NBoth.mk ?_ ?_ | refine V.NTF.yes (by omega) ?_ | refine V.NTF.no (by omega) ?_ | refine V.NTF.dec ?_ | refine V.NDraw.q (by exact rfl) (by kernel_rfl) ?_ | refine V.NApp.one (by first | omega | (simp; omega)) (by first | omega | (simp; omega)) ?_ | (first | refine V.Fn.k0 (v_cisnan _) rfl ?_ | refine V.Fn.q0 (v_cisnan _) rfl ?_ | refine V.Fn.a0 (v_cisnan _) rfl ?_) | (refine V.NDraw.any (by kernel_rfl) ?_) | fail)
  all_goals (conv => whnf)
  all_goals (first | exact ⟨_, rfl, iff_of_true (by omega) rfl⟩ | (exfalso; omega) | exact ⟨_, rfl, by simp; omega⟩ | exact ⟨_, rfl, by simp⟩)
theorem v_bsearch (l : List Int) (x : Int) (hn : l.length ≤ 1000) (hs : l.Pairwise (· < ·)) : V.Fn Tryd.prog 38 [.arr 1 l.length (ga e1 l)] [.one (.ref 0), .one (.val (.int .i64 x))] (.tuple #[.int .i64 (Ca.lb l x), .bool (decide (x ∈ l))]) := by
  refine V.Fn.mk_ V.Tok V.mixed Tryd.func38 rfl Tryd.ntmps38 (by kernel_rfl) rfl rfl ?_
  repeat' ((conv => whnf); first | refine V.NCond.mk ?_ | refine V.NIf.not_ ?_ | refine V.NIf.dec_ ?_ | refine V.NIf.no (by omega) ?_ | refine V.NIf.yes (by omega) ?_ | refine V.NIf.mk (fun _ => ?_) (fun _ => ?_) | refine V.NWrap.ok (by omega) (by omega) ?_ | refine V.NWrap.u64 (by omega) (by omega) ?_ | refine V.NLt.mk (by omega) ?_ | refine V.NBoth.mk ?_ ?_ | refine V.NTF.yes (by omega) ?_ | refine V.NTF.no (by omega) ?_ | refine V.NTF.dec ?_ | refine V.NDraw.q (by exact rfl) (by kernel_rfl) ?_ | refine V.NApp.one (by first | omega | (simp; omega)) (by first | omega | (simp; omega)) ?_ | (refine V.NDraw.any (by kernel_rfl) ?_) | fail)
  refine V.NLoop.auto (fun (s : Nat × Nat) => [(7, .one (.val (.int .i64 s.1))), (8, .one (.val (.int .i64 s.2)))]) (fun (s : Nat × Nat) => []) [] [] (fun (s : Nat × Nat) => s.2 - s.1) (fun (s : Nat × Nat) => s.1 ≤ s.2 ∧ s.2 ≤ l.length ∧ (∀ k, k < s.1 → l.getD k default < x) ∧ (∀ k, s.2 ≤ k → k < l.length → ¬ l.getD k default < x)) (0, l.length) ⟨Nat.zero_le _, Nat.le_refl _, fun k h => absurd h (Nat.not_lt_zero _), fun k h1 h2 => absurd h2 (by dsimp only at h1; omega)⟩ (by repeat' (first | exact rfl | exact Iff.rfl | exact trivial | exact (fun _ _ => rfl) | exact (fun _ h => absurd h (Nat.not_lt_zero _)) | refine ⟨?_, ?_⟩ | exact Iff.rfl | exact congrArg (fun z => V.SV.one (V.At.val (Value.int .i64 z))) (by omega))) (by repeat' (first | exact rfl | exact Iff.rfl | exact trivial | exact (fun _ _ => rfl) | exact (fun _ h => absurd h (Nat.not_lt_zero _)) | refine ⟨?_, ?_⟩ | exact Iff.rfl | exact congrArg (fun z => V.SV.one (V.At.val (Value.int .i64 z))) (by omega))) (fun _ => ⟨rfl, rfl⟩) ?_; (conv => whnf); refine ⟨⟨rfl, rfl⟩, ?_⟩
  rintro s ⟨h1, h2, h3, h4⟩
  generalize s.1 = i at *
  generalize s.2 = j at *
  repeat' ((conv => whnf); first | refine V.NCond.mk ?_ | refine V.NIf.not_ ?_ | refine V.NIf.dec_ ?_ | refine V.NIf.no (by omega) ?_ | refine V.NIf.yes (by omega) ?_ | refine V.NIf.mk (fun _ => ?_) (fun _ => ?_) | refine V.NWrap.ok (by omega) (by omega) ?_ | refine V.NWrap.u64 (by omega) (by omega) ?_ | refine V.NLt.mk (by omega) ?_ | refine V.NBoth.mk ?_ ?_ | refine V.NTF.yes (by omega) ?_ | refine V.NTF.no (by omega) ?_ | refine V.NTF.dec ?_ | refine V.NDraw.q (by exact rfl) (by kernel_rfl) ?_ | refine V.NApp.one (by first | omega | (simp; omega)) (by first | omega | (simp; omega)) ?_ | (refine NShr.u64 1 rfl (by omega) (by omega) ?_; intro z hz hz0 hz1) | (refine NIdx.mk ⟨i, rfl, by omega, ?_⟩) | (refine NIdx.mk ⟨(i + j) / 2, by omega, by omega, ?_⟩) | (first | refine V.Fn.k0 (v_cless _ _) rfl ?_ | refine V.Fn.q0 (v_cless _ _) rfl ?_ | refine V.Fn.a0 (v_cless _ _) rfl ?_) | (first | refine V.Fn.k0 (v_sisnan _) rfl ?_ | refine V.Fn.q0 (v_sisnan _) rfl ?_ | refine V.Fn.a0 (v_sisnan _) rfl ?_) | (refine V.NDraw.any (by kernel_rfl) ?_) | fail)
  all_goals (conv => whnf)
  · refine V.NBack.at_ ((i + j) / 2 + 1, j) [] ⟨by dsimp only; omega, h2, fun k hk => ?_, h4⟩ (by dsimp only; omega) (by repeat' (first | exact rfl | exact Iff.rfl | exact trivial | exact (fun _ _ => rfl) | exact (fun _ h => absurd h (Nat.not_lt_zero _)) | refine ⟨?_, ?_⟩ | exact Iff.rfl | exact congrArg (fun z => V.SV.one (V.At.val (Value.int .i64 z))) (by omega))) rfl (by repeat' (first | exact rfl | exact Iff.rfl | exact trivial | exact (fun _ _ => rfl) | exact (fun _ h => absurd h (Nat.not_lt_zero _)) | refine ⟨?_, ?_⟩ | exact Iff.rfl | exact congrArg (fun z => V.SV.one (V.At.val (Value.int .i64 z))) (by omega))) (by repeat' (first | exact rfl | exact Iff.rfl | exact trivial | exact (fun _ _ => rfl) | exact (fun _ h => absurd h (Nat.not_lt_zero _)) | refine ⟨?_, ?_⟩ | exact Iff.rfl | exact congrArg (fun z => V.SV.one (V.At.val (Value.int .i64 z))) (by omega))) (by repeat' (first | exact rfl | exact Iff.rfl | exact trivial | exact (fun _ _ => rfl) | exact (fun _ h => absurd h (Nat.not_lt_zero _)) | refine ⟨?_, ?_⟩ | exact Iff.rfl | exact congrArg (fun z => V.SV.one (V.At.val (Value.int .i64 z))) (by omega)))
    by_cases e : k = (i + j) / 2
    · subst e; assumption
    · have := Ca.srt_lt hs (i := k) (j := (i + j) / 2) (by dsimp only at hk; omega) (by omega); omega
  · refine V.NBack.at_ (i, (i + j) / 2) [] ⟨by dsimp only; omega, by dsimp only; omega, h3, fun k h5 h6 => ?_⟩ (by dsimp only; omega) (by repeat' (first | exact rfl | exact Iff.rfl | exact trivial | exact (fun _ _ => rfl) | exact (fun _ h => absurd h (Nat.not_lt_zero _)) | refine ⟨?_, ?_⟩ | exact Iff.rfl | exact congrArg (fun z => V.SV.one (V.At.val (Value.int .i64 z))) (by omega))) rfl (by repeat' (first | exact rfl | exact Iff.rfl | exact trivial | exact (fun _ _ => rfl) | exact (fun _ h => absurd h (Nat.not_lt_zero _)) | refine ⟨?_, ?_⟩ | exact Iff.rfl | exact congrArg (fun z => V.SV.one (V.At.val (Value.int .i64 z))) (by omega))) (by repeat' (first | exact rfl | exact Iff.rfl | exact trivial | exact (fun _ _ => rfl) | exact (fun _ h => absurd h (Nat.not_lt_zero _)) | refine ⟨?_, ?_⟩ | exact Iff.rfl | exact congrArg (fun z => V.SV.one (V.At.val (Value.int .i64 z))) (by omega))) (by repeat' (first | exact rfl | exact Iff.rfl | exact trivial | exact (fun _ _ => rfl) | exact (fun _ h => absurd h (Nat.not_lt_zero _)) | refine ⟨?_, ?_⟩ | exact Iff.rfl | exact congrArg (fun z => V.SV.one (V.At.val (Value.int .i64 z))) (by omega)))
    by_cases e : k = (i + j) / 2
    · subst e; assumption
    · have := Ca.srt_lt hs (i := (i + j) / 2) (j := k) (by dsimp only at h5; omega) h6; omega
  all_goals
    obtain rfl : i = j := by omega
    have e1 := Ca.lb_is h2 h3 h4
    have e2 := Ca.found_is h3 h4 hs
    rw [e1]
    first
      | exact ⟨rfl, congrArg Value.bool (decide_eq_true (e2.2 ⟨by omega, by assumption⟩)).symm, trivial⟩
      | exact ⟨rfl, congrArg Value.bool (decide_eq_false (fun q => by have := e2.1 q; omega)).symm, trivial⟩
theorem v_caopen (c : Cl) (n : Int) (h : Ca.Ok c) (hn : Ca.Day n) : V.Fn Tryd.prog 25 [.arr 1 c.hs.length (ga e1 c.hs)] [.agg [.val (.int .i64 c.we), .ref 0], .one (.val (.int .i64 n))] (.bool (decide (Ca.op c n = 1))) := by
  obtain ⟨h1, h2, h3, h4⟩ := h
  have w01 := Ca.wd_01 c n
  have o1 : n ∈ c.hs → Ca.op c n = 0 := fun q => if_pos q
  have o2 : ¬ n ∈ c.hs → Ca.op c n = Ca.wd c n := fun q => if_neg q
  have ew : Ca.wd c n = 1 - c.we / 2 ^ (n % 7).toNat % 2 := rfl
  unfold Ca.Day at hn
  refine V.Fn.mk_ V.Tok V.mixed Tryd.func25 rfl Tryd.ntmps25 (by kernel_rfl) rfl rfl ?_
  repeat' ((conv => whnf); first | refine V.NCond.mk ?_ | refine V.NIf.not_ ?_ | refine V.NIf.dec_ ?_ | refine V.NIf.no (by omega) ?_ | refine V.NIf.yes (by omega) ?_ | refine V.NIf.mk (fun _ => ?_) (fun _ => ?_) | refine V.NWrap.ok (by omega) (by omega) ?_ | refine V.NWrap.u64 (by omega) (by omega) ?_ | refine V.NLt.mk (by omega) ?_ | refine V.NBoth.mk ?_ ?_ | refine V.NTF.yes (by omega) ?_ | refine V.NTF.no (by omega) ?_ | refine V.NTF.dec ?_ | refine V.NDraw.q (by exact rfl) (by kernel_rfl) ?_ | refine V.NApp.one (by first | omega | (simp; omega)) (by first | omega | (simp; omega)) ?_ | ((first | refine V.Fn.k (v_bsearch c.hs n (by omega) h4) [0] rfl ?_ ?_ | refine V.Fn.q (v_bsearch c.hs n (by omega) h4) [0] rfl ?_ ?_ | refine V.Fn.a (v_bsearch c.hs n (by omega) h4) [0] rfl ?_ ?_); · ((repeat' (first | exact rfl | exact Iff.rfl | exact trivial | exact (fun _ _ => rfl) | exact (fun _ h => absurd h (Nat.not_lt_zero _)) | refine ⟨?_, ?_⟩ | exact Iff.rfl | exact congrArg (fun z => V.SV.one (V.At.val (Value.int .i64 z))) (by omega))); done)) | (refine NRem.pos (by omega) (by omega) ?_; intro r hr hr0 hr1) | (refine NShr.i64 (n % 7).toNat (by omega) (by omega) (by omega) ?_; intro s hs hs0 hs1) | (refine NBit.one (by omega) (by omega) ?_; intro b hb) | (refine V.NDraw.any (by kernel_rfl) ?_) | fail)
  all_goals (conv => whnf)
  · exact congrArg Value.bool (decide_eq_false (by rw [o1 (by assumption)]; decide)).symm
  · have e := o2 (by assumption)
    exact ⟨_, rfl, by rw [decide_eq_true_eq, e, ew, ← hs]; omega⟩
theorem v_caCheck (c : Cl) (hn : c.hs.length ≤ 9223372036854775807) : V.Fn Tryd.prog 20 [.arr 1 c.hs.length (ga e1 c.hs)] [.agg [.val (.int .i64 c.we), .ref 0]] (.int .i64 (Ca.chk c)) := by
  have c1 := @Ca.chk_1 c
  have c2 := @Ca.chk_2 c
  have c3 := @Ca.chk_3 c
  refine V.Fn.mk_ V.Tok V.mixed Tryd.func20 rfl Tryd.ntmps20 (by kernel_rfl) rfl rfl ?_
  repeat' ((conv => whnf); first | refine V.NCond.mk ?_ | refine V.NIf.not_ ?_ | refine V.NIf.dec_ ?_ | refine V.NIf.no (by omega) ?_ | refine V.NIf.yes (by omega) ?_ | refine V.NIf.mk (fun _ => ?_) (fun _ => ?_) | refine V.NWrap.ok (by omega) (by omega) ?_ | refine V.NWrap.u64 (by omega) (by omega) ?_ | refine V.NLt.mk (by omega) ?_ | refine V.NBoth.mk ?_ ?_ | refine V.NTF.yes (by omega) ?_ | refine V.NTF.no (by omega) ?_ | refine V.NTF.dec ?_ | refine V.NDraw.q (by exact rfl) (by kernel_rfl) ?_ | refine V.NApp.one (by first | omega | (simp; omega)) (by first | omega | (simp; omega)) ?_ | (refine V.NDraw.any (by kernel_rfl) ?_) | fail)
  all_goals (conv => whnf)
  · exact V.fin1 (c1 (by omega))
  · exact V.fin1 (c1 (by omega))
  · exact V.fin1 (c2 (by omega) (by omega))
  have e := c3 (by omega) (by omega)
  refine V.NLoop.auto (fun (k : Nat) => [(23, .one (.val (.int .i64 k))), (3, .one (.val (.int .i64 (if k = 0 then -1 else c.hs.getD (k - 1) default))))]) (fun (k : Nat) => []) [] [] (fun (k : Nat) => c.hs.length - k) (fun (k : Nat) => k ≤ c.hs.length ∧ ∀ j, j < k → Ca.eAt c.hs j = 0) 0 ⟨Nat.zero_le _, fun j h => absurd h (Nat.not_lt_zero _)⟩ (by repeat' (first | exact rfl | exact Iff.rfl | exact trivial | exact (fun _ _ => rfl) | exact (fun _ h => absurd h (Nat.not_lt_zero _)) | refine ⟨?_, ?_⟩ | exact Iff.rfl | exact congrArg (fun z => V.SV.one (V.At.val (Value.int .i64 z))) (by omega))) (by repeat' (first | exact rfl | exact Iff.rfl | exact trivial | exact (fun _ _ => rfl) | exact (fun _ h => absurd h (Nat.not_lt_zero _)) | refine ⟨?_, ?_⟩ | exact Iff.rfl | exact congrArg (fun z => V.SV.one (V.At.val (Value.int .i64 z))) (by omega))) (fun _ => ⟨rfl, rfl⟩) ?_; (conv => whnf); refine ⟨⟨rfl, rfl⟩, ?_⟩
  rintro k ⟨hk, hJ⟩
  obtain ⟨a1, a2, a3, a4⟩ := Ca.eAt_cases (hs := c.hs) (k := k) rfl rfl
  have d := Ca.dchk (c.hs.getD k default)
  unfold Ca.Day at d a1 a2 a3 a4
  have ge : ∀ v, v ≠ 0 → k < c.hs.length → Ca.eAt c.hs k = v → Ca.chk c = v := fun v h1 h2 h3 => e.trans ((Ca.fe_get h2 hJ (by omega)).trans h3)
  repeat' ((conv => whnf); first | refine V.NCond.mk ?_ | refine V.NIf.not_ ?_ | refine V.NIf.dec_ ?_ | refine V.NIf.no (by omega) ?_ | refine V.NIf.yes (by omega) ?_ | refine V.NIf.mk (fun _ => ?_) (fun _ => ?_) | refine V.NWrap.ok (by omega) (by omega) ?_ | refine V.NWrap.u64 (by omega) (by omega) ?_ | refine V.NLt.mk (by omega) ?_ | refine V.NBoth.mk ?_ ?_ | refine V.NTF.yes (by omega) ?_ | refine V.NTF.no (by omega) ?_ | refine V.NTF.dec ?_ | refine V.NDraw.q (by exact rfl) (by kernel_rfl) ?_ | refine V.NApp.one (by first | omega | (simp; omega)) (by first | omega | (simp; omega)) ?_ | (refine NIdx.mk ⟨k, rfl, by omega, ?_⟩) | (first | refine V.Fn.k0 (v_dcheck _) rfl ?_ | refine V.Fn.q0 (v_dcheck _) rfl ?_ | refine V.Fn.a0 (v_dcheck _) rfl ?_) | (refine V.NDraw.any (by kernel_rfl) ?_) | fail)
  all_goals (conv => whnf)
  · exact V.fin1 (ge 6 (by decide) (by omega) (a2 (by omega) (by assumption)))
  · exact V.fin1 (ge 4 (by decide) (by omega) (a3 (by omega) (by assumption) (by assumption)))
  · refine V.NBack.at_ (k + 1) [] ⟨by omega, fun j hj => ?_⟩ (by omega) ⟨(by repeat' (first | exact rfl | exact Iff.rfl | exact trivial | exact (fun _ _ => rfl) | exact (fun _ h => absurd h (Nat.not_lt_zero _)) | refine ⟨?_, ?_⟩ | exact Iff.rfl | exact congrArg (fun z => V.SV.one (V.At.val (Value.int .i64 z))) (by omega))), congrArg (fun z => V.SV.one (V.At.val (Value.int .i64 z))) (if_neg (by omega)).symm, trivial⟩ rfl (by repeat' (first | exact rfl | exact Iff.rfl | exact trivial | exact (fun _ _ => rfl) | exact (fun _ h => absurd h (Nat.not_lt_zero _)) | refine ⟨?_, ?_⟩ | exact Iff.rfl | exact congrArg (fun z => V.SV.one (V.At.val (Value.int .i64 z))) (by omega))) (by repeat' (first | exact rfl | exact Iff.rfl | exact trivial | exact (fun _ _ => rfl) | exact (fun _ h => absurd h (Nat.not_lt_zero _)) | refine ⟨?_, ?_⟩ | exact Iff.rfl | exact congrArg (fun z => V.SV.one (V.At.val (Value.int .i64 z))) (by omega))) (by repeat' (first | exact rfl | exact Iff.rfl | exact trivial | exact (fun _ _ => rfl) | exact (fun _ h => absurd h (Nat.not_lt_zero _)) | refine ⟨?_, ?_⟩ | exact Iff.rfl | exact congrArg (fun z => V.SV.one (V.At.val (Value.int .i64 z))) (by omega)))
    by_cases q : j = k
    · subst q; exact a4 (by omega) (by assumption) (by assumption)
    · exact hJ j (by omega)
  · exact V.fin1 (ge 3 (by decide) (by omega) (a1 (by omega)))
  · obtain rfl : k = c.hs.length := by omega
    exact V.fin1 (e.trans (Ca.fe_end hJ))
theorem v_rcaCheck (c : Cl) (hn : c.hs.length ≤ 9223372036854775807) : V.Fn Tryd.prog 21 [.arr 1 c.hs.length (ga e1 c.hs)] [.agg [.val (.int .i64 c.we), .ref 0]] (.int .i64 (Ca.chk c)) := by
  have c1 := @Ca.chk_1 c
  have c2 := @Ca.chk_2 c
  have c3 := @Ca.chk_3 c
  refine V.Fn.mk_ V.Tok V.mixed Tryd.func21 rfl Tryd.ntmps21 (by kernel_rfl) rfl rfl ?_
  repeat' ((conv => whnf); first | refine V.NCond.mk ?_ | refine V.NIf.not_ ?_ | refine V.NIf.dec_ ?_ | refine V.NIf.no (by omega) ?_ | refine V.NIf.yes (by omega) ?_ | refine V.NIf.mk (fun _ => ?_) (fun _ => ?_) | refine V.NWrap.ok (by omega) (by omega) ?_ | refine V.NWrap.u64 (by omega) (by omega) ?_ | refine V.NLt.mk (by omega) ?_ | refine V.NBoth.mk ?_ ?_ | refine V.NTF.yes (by omega) ?_ | refine V.NTF.no (by omega) ?_ | refine V.NTF.dec ?_ | refine V.NDraw.q (by exact rfl) (by kernel_rfl) ?_ | refine V.NApp.one (by first | omega | (simp; omega)) (by first | omega | (simp; omega)) ?_ | (first | refine V.Fn.k0 (v_rbetween _ _ _) rfl ?_ | refine V.Fn.q0 (v_rbetween _ _ _) rfl ?_ | refine V.Fn.a0 (v_rbetween _ _ _) rfl ?_) | (refine V.NDraw.any (by kernel_rfl) ?_) | fail)
  all_goals (conv => whnf)
  · exact V.fin1 (c2 (by omega) (by omega))
  rotate_left
  · exact V.fin1 (c1 (by omega))
  have e := c3 (by omega) (by omega)
  refine V.NLoop.auto (fun (k : Nat) => [(3, .one (.val (.int .i64 k)))]) (fun (k : Nat) => []) [] [] (fun (k : Nat) => c.hs.length - k) (fun (k : Nat) => k ≤ c.hs.length ∧ ∀ j, j < k → Ca.eAt c.hs j = 0) 0 ⟨Nat.zero_le _, fun j h => absurd h (Nat.not_lt_zero _)⟩ (by repeat' (first | exact rfl | exact Iff.rfl | exact trivial | exact (fun _ _ => rfl) | exact (fun _ h => absurd h (Nat.not_lt_zero _)) | refine ⟨?_, ?_⟩ | exact Iff.rfl | exact congrArg (fun z => V.SV.one (V.At.val (Value.int .i64 z))) (by omega))) (by repeat' (first | exact rfl | exact Iff.rfl | exact trivial | exact (fun _ _ => rfl) | exact (fun _ h => absurd h (Nat.not_lt_zero _)) | refine ⟨?_, ?_⟩ | exact Iff.rfl | exact congrArg (fun z => V.SV.one (V.At.val (Value.int .i64 z))) (by omega))) (fun _ => ⟨rfl, rfl⟩) ?_; (conv => whnf); refine ⟨⟨rfl, rfl⟩, ?_⟩
  rintro k ⟨hk, hJ⟩
  have ge : ∀ v, v ≠ 0 → k < c.hs.length → Ca.eAt c.hs k = v → Ca.chk c = v := fun v h1 h2 h3 => e.trans ((Ca.fe_get h2 hJ (by omega)).trans h3)
  have ev : Ca.eAt c.hs k = if ¬ Ca.Day (c.hs.getD k default) then 3 else if 0 < k ∧ c.hs.getD k default = c.hs.getD (k - 1) default then 6 else if 0 < k ∧ c.hs.getD k default < c.hs.getD (k - 1) default then 4 else 0 := rfl
  have dd : Ca.Day (c.hs.getD k default) ↔ (0 ≤ c.hs.getD k default ∧ c.hs.getD k default ≤ 3652058) := Iff.rfl
  have on : k < c.hs.length → Ca.eAt c.hs k = 0 → ∀ j, j < k + 1 → Ca.eAt c.hs j = 0 := fun _ q j hj => by
    by_cases z : j = k
    · subst z; exact q
    · exact hJ j (by omega)
  repeat' ((conv => whnf); first | refine V.NCond.mk ?_ | refine V.NIf.not_ ?_ | refine V.NIf.dec_ ?_ | refine V.NIf.no (by omega) ?_ | refine V.NIf.yes (by omega) ?_ | refine V.NIf.mk (fun _ => ?_) (fun _ => ?_) | refine V.NWrap.ok (by omega) (by omega) ?_ | refine V.NWrap.u64 (by omega) (by omega) ?_ | refine V.NLt.mk (by omega) ?_ | refine V.NBoth.mk ?_ ?_ | refine V.NTF.yes (by omega) ?_ | refine V.NTF.no (by omega) ?_ | refine V.NTF.dec ?_ | refine V.NDraw.q (by exact rfl) (by kernel_rfl) ?_ | refine V.NApp.one (by first | omega | (simp; omega)) (by first | omega | (simp; omega)) ?_ | (refine NIdx.mk ⟨k, rfl, by omega, ?_⟩) | (refine NIdx.mk ⟨k - 1, by omega, by omega, ?_⟩) | (first | refine V.Fn.k0 (v_rbetween _ _ _) rfl ?_ | refine V.Fn.q0 (v_rbetween _ _ _) rfl ?_ | refine V.Fn.a0 (v_rbetween _ _ _) rfl ?_) | (refine V.NDraw.any (by kernel_rfl) ?_) | fail)
  all_goals (conv => whnf)
  · exact V.fin1 (ge 6 (by decide) (by omega) (by rw [ev, if_neg (fun z => z (dd.2 (by assumption))), if_pos ⟨by omega, by assumption⟩]))
  · exact V.fin1 (ge 4 (by decide) (by omega) (by rw [ev, if_neg (fun z => z (dd.2 (by assumption))), if_neg (by omega), if_pos ⟨by omega, by assumption⟩]))
  · exact V.NBack.at_ (k + 1) [] ⟨by omega, on (by omega) (by rw [ev, if_neg (fun z => z (dd.2 (by assumption))), if_neg (by omega), if_neg (by omega)])⟩ (by omega) (by repeat' (first | exact rfl | exact Iff.rfl | exact trivial | exact (fun _ _ => rfl) | exact (fun _ h => absurd h (Nat.not_lt_zero _)) | refine ⟨?_, ?_⟩ | exact Iff.rfl | exact congrArg (fun z => V.SV.one (V.At.val (Value.int .i64 z))) (by omega))) rfl (by repeat' (first | exact rfl | exact Iff.rfl | exact trivial | exact (fun _ _ => rfl) | exact (fun _ h => absurd h (Nat.not_lt_zero _)) | refine ⟨?_, ?_⟩ | exact Iff.rfl | exact congrArg (fun z => V.SV.one (V.At.val (Value.int .i64 z))) (by omega))) (by repeat' (first | exact rfl | exact Iff.rfl | exact trivial | exact (fun _ _ => rfl) | exact (fun _ h => absurd h (Nat.not_lt_zero _)) | refine ⟨?_, ?_⟩ | exact Iff.rfl | exact congrArg (fun z => V.SV.one (V.At.val (Value.int .i64 z))) (by omega))) (by repeat' (first | exact rfl | exact Iff.rfl | exact trivial | exact (fun _ _ => rfl) | exact (fun _ h => absurd h (Nat.not_lt_zero _)) | refine ⟨?_, ?_⟩ | exact Iff.rfl | exact congrArg (fun z => V.SV.one (V.At.val (Value.int .i64 z))) (by omega)))
  · exact V.NBack.at_ (k + 1) [] ⟨by omega, on (by omega) (by rw [ev, if_neg (fun z => z (dd.2 (by assumption))), if_neg (by omega), if_neg (by omega)])⟩ (by omega) (by repeat' (first | exact rfl | exact Iff.rfl | exact trivial | exact (fun _ _ => rfl) | exact (fun _ h => absurd h (Nat.not_lt_zero _)) | refine ⟨?_, ?_⟩ | exact Iff.rfl | exact congrArg (fun z => V.SV.one (V.At.val (Value.int .i64 z))) (by omega))) rfl (by repeat' (first | exact rfl | exact Iff.rfl | exact trivial | exact (fun _ _ => rfl) | exact (fun _ h => absurd h (Nat.not_lt_zero _)) | refine ⟨?_, ?_⟩ | exact Iff.rfl | exact congrArg (fun z => V.SV.one (V.At.val (Value.int .i64 z))) (by omega))) (by repeat' (first | exact rfl | exact Iff.rfl | exact trivial | exact (fun _ _ => rfl) | exact (fun _ h => absurd h (Nat.not_lt_zero _)) | refine ⟨?_, ?_⟩ | exact Iff.rfl | exact congrArg (fun z => V.SV.one (V.At.val (Value.int .i64 z))) (by omega))) (by repeat' (first | exact rfl | exact Iff.rfl | exact trivial | exact (fun _ _ => rfl) | exact (fun _ h => absurd h (Nat.not_lt_zero _)) | refine ⟨?_, ?_⟩ | exact Iff.rfl | exact congrArg (fun z => V.SV.one (V.At.val (Value.int .i64 z))) (by omega)))
  · exact V.fin1 (ge 3 (by decide) (by omega) (by rw [ev, if_pos (fun z => absurd (dd.1 z) (by assumption))]))
  · obtain rfl : k = c.hs.length := by omega
    exact V.fin1 (e.trans (Ca.fe_end hJ))
theorem v_caChecks (c : Cl) (ds : List Int) (hn : c.hs.length ≤ 9223372036854775807) (hd : ds.length ≤ 1000) : V.Fn Tryd.prog 24 [.arr 1 c.hs.length (ga e1 c.hs), .arr 1 ds.length (ga e1 ds)] [.agg [.val (.int .i64 c.we), .ref 0], .one (.ref 1)] (.int .i64 (Ca.chks c ds)) := by
  have c1 := @Ca.chks_1 c ds
  have c2 := @Ca.chks_2 c ds
  refine V.Fn.mk_ V.Tok V.mixed Tryd.func24 rfl Tryd.ntmps24 (by kernel_rfl) rfl rfl ?_
  repeat' ((conv => whnf); first | refine V.NCond.mk ?_ | refine V.NIf.not_ ?_ | refine V.NIf.dec_ ?_ | refine V.NIf.no (by omega) ?_ | refine V.NIf.yes (by omega) ?_ | refine V.NIf.mk (fun _ => ?_) (fun _ => ?_) | refine V.NWrap.ok (by omega) (by omega) ?_ | refine V.NWrap.u64 (by omega) (by omega) ?_ | refine V.NLt.mk (by omega) ?_ | refine V.NBoth.mk ?_ ?_ | refine V.NTF.yes (by omega) ?_ | refine V.NTF.no (by omega) ?_ | refine V.NTF.dec ?_ | refine V.NDraw.q (by exact rfl) (by kernel_rfl) ?_ | refine V.NApp.one (by first | omega | (simp; omega)) (by first | omega | (simp; omega)) ?_ | ((first | refine V.Fn.k (v_caCheck c hn) [0] rfl ?_ ?_ | refine V.Fn.q (v_caCheck c hn) [0] rfl ?_ ?_ | refine V.Fn.a (v_caCheck c hn) [0] rfl ?_ ?_); · ((repeat' (first | exact rfl | exact Iff.rfl | exact trivial | exact (fun _ _ => rfl) | exact (fun _ h => absurd h (Nat.not_lt_zero _)) | refine ⟨?_, ?_⟩ | exact Iff.rfl | exact congrArg (fun z => V.SV.one (V.At.val (Value.int .i64 z))) (by omega))); done)) | (refine V.NDraw.any (by kernel_rfl) ?_) | fail)
  all_goals (conv => whnf)
  rotate_left
  · exact V.fin1 (c1 (by assumption))
  have e := c2 (by assumption)
  refine V.NLoop.auto (fun (k : Nat) => [(16, .one (.val (.int .i64 k)))]) (fun (k : Nat) => []) [] [] (fun (k : Nat) => ds.length - k) (fun (k : Nat) => k ≤ ds.length ∧ ∀ d ∈ ds.take k, D.chk d = 0) 0 ⟨Nat.zero_le _, by simp⟩ (by repeat' (first | exact rfl | exact Iff.rfl | exact trivial | exact (fun _ _ => rfl) | exact (fun _ h => absurd h (Nat.not_lt_zero _)) | refine ⟨?_, ?_⟩ | exact Iff.rfl | exact congrArg (fun z => V.SV.one (V.At.val (Value.int .i64 z))) (by omega))) (by repeat' (first | exact rfl | exact Iff.rfl | exact trivial | exact (fun _ _ => rfl) | exact (fun _ h => absurd h (Nat.not_lt_zero _)) | refine ⟨?_, ?_⟩ | exact Iff.rfl | exact congrArg (fun z => V.SV.one (V.At.val (Value.int .i64 z))) (by omega))) (fun _ => ⟨rfl, rfl⟩) ?_; (conv => whnf); refine ⟨⟨rfl, rfl⟩, ?_⟩
  rintro k ⟨hk, hJ⟩
  repeat' ((conv => whnf); first | refine V.NCond.mk ?_ | refine V.NIf.not_ ?_ | refine V.NIf.dec_ ?_ | refine V.NIf.no (by omega) ?_ | refine V.NIf.yes (by omega) ?_ | refine V.NIf.mk (fun _ => ?_) (fun _ => ?_) | refine V.NWrap.ok (by omega) (by omega) ?_ | refine V.NWrap.u64 (by omega) (by omega) ?_ | refine V.NLt.mk (by omega) ?_ | refine V.NBoth.mk ?_ ?_ | refine V.NTF.yes (by omega) ?_ | refine V.NTF.no (by omega) ?_ | refine V.NTF.dec ?_ | refine V.NDraw.q (by exact rfl) (by kernel_rfl) ?_ | refine V.NApp.one (by first | omega | (simp; omega)) (by first | omega | (simp; omega)) ?_ | (refine NIdx.mk ⟨k, rfl, by omega, ?_⟩) | (first | refine V.Fn.k0 (v_dcheck _) rfl ?_ | refine V.Fn.q0 (v_dcheck _) rfl ?_ | refine V.Fn.a0 (v_dcheck _) rfl ?_) | (refine V.NDraw.any (by kernel_rfl) ?_) | fail)
  all_goals (conv => whnf)
  · exact V.NBack.at_ (k + 1) [] ⟨by omega, all_snoc (by omega) hJ (by assumption)⟩ (by omega) (by repeat' (first | exact rfl | exact Iff.rfl | exact trivial | exact (fun _ _ => rfl) | exact (fun _ h => absurd h (Nat.not_lt_zero _)) | refine ⟨?_, ?_⟩ | exact Iff.rfl | exact congrArg (fun z => V.SV.one (V.At.val (Value.int .i64 z))) (by omega))) rfl (by repeat' (first | exact rfl | exact Iff.rfl | exact trivial | exact (fun _ _ => rfl) | exact (fun _ h => absurd h (Nat.not_lt_zero _)) | refine ⟨?_, ?_⟩ | exact Iff.rfl | exact congrArg (fun z => V.SV.one (V.At.val (Value.int .i64 z))) (by omega))) (by repeat' (first | exact rfl | exact Iff.rfl | exact trivial | exact (fun _ _ => rfl) | exact (fun _ h => absurd h (Nat.not_lt_zero _)) | refine ⟨?_, ?_⟩ | exact Iff.rfl | exact congrArg (fun z => V.SV.one (V.At.val (Value.int .i64 z))) (by omega))) (by repeat' (first | exact rfl | exact Iff.rfl | exact trivial | exact (fun _ _ => rfl) | exact (fun _ h => absurd h (Nat.not_lt_zero _)) | refine ⟨?_, ?_⟩ | exact Iff.rfl | exact congrArg (fun z => V.SV.one (V.At.val (Value.int .i64 z))) (by omega)))
  · exact V.fin1 (e.trans (fb_get (by omega) hJ (by assumption)))
  · exact V.fin1 (e.trans (fb_end (by omega) hJ))
theorem v_rcaErr (c : Cl) (n : Int) (hn : c.hs.length ≤ 9223372036854775807) : V.Fn Tryd.prog 14 [.arr 1 c.hs.length (ga e1 c.hs)] [.agg [.val (.int .i64 c.we), .ref 0], .one (.val (.int .i64 n))] (.int .i64 (Ca.e1 c n)) := by
  have c1 := @Ca.e1_1 c n
  have c2 := @Ca.e1_2 c n
  have c3 := @Ca.e1_of c n
  unfold Ca.Day at c2 c3
  refine V.Fn.mk_ V.Tok V.mixed Tryd.func14 rfl Tryd.ntmps14 (by kernel_rfl) rfl rfl ?_
  repeat' ((conv => whnf); first | refine V.NCond.mk ?_ | refine V.NIf.not_ ?_ | refine V.NIf.dec_ ?_ | refine V.NIf.no (by omega) ?_ | refine V.NIf.yes (by omega) ?_ | refine V.NIf.mk (fun _ => ?_) (fun _ => ?_) | refine V.NWrap.ok (by omega) (by omega) ?_ | refine V.NWrap.u64 (by omega) (by omega) ?_ | refine V.NLt.mk (by omega) ?_ | refine V.NBoth.mk ?_ ?_ | refine V.NTF.yes (by omega) ?_ | refine V.NTF.no (by omega) ?_ | refine V.NTF.dec ?_ | refine V.NDraw.q (by exact rfl) (by kernel_rfl) ?_ | refine V.NApp.one (by first | omega | (simp; omega)) (by first | omega | (simp; omega)) ?_ | ((first | refine V.Fn.k (v_rcaCheck c hn) [0] rfl ?_ ?_ | refine V.Fn.q (v_rcaCheck c hn) [0] rfl ?_ ?_ | refine V.Fn.a (v_rcaCheck c hn) [0] rfl ?_ ?_); · ((repeat' (first | exact rfl | exact Iff.rfl | exact trivial | exact (fun _ _ => rfl) | exact (fun _ h => absurd h (Nat.not_lt_zero _)) | refine ⟨?_, ?_⟩ | exact Iff.rfl | exact congrArg (fun z => V.SV.one (V.At.val (Value.int .i64 z))) (by omega))); done)) | (first | refine V.Fn.k0 (v_rbetween _ _ _) rfl ?_ | refine V.Fn.q0 (v_rbetween _ _ _) rfl ?_ | refine V.Fn.a0 (v_rbetween _ _ _) rfl ?_) | (refine V.NDraw.any (by kernel_rfl) ?_) | fail)
  all_goals (conv => whnf)
  all_goals first
    | exact V.fin1 (c1 (by assumption))
    | exact V.fin1 (c2 (by assumption) (by assumption))
    | exact V.fin1 ((c3 (by assumption) (by assumption)).trans (by omega))
theorem v_caIs (c : Cl) (n : Int) (hn : c.hs.length ≤ 9223372036854775807) : V.Fn Tryd.prog 9 [.arr 1 c.hs.length (ga e1 c.hs)] [.agg [.val (.int .i64 c.we), .ref 0], .one (.val (.int .i64 n))] (.tuple #[.bool (Ca.isV c n), .int .i64 (Ca.e1 c n)]) := by
  have vo := fun h : Ca.e1 c n = 0 => v_caopen c n (Ca.e1_ok h).1 (Ca.e1_ok h).2.1
  have ck := v_caChecks c [n] hn (by simp)
  rw [show Ca.chks c [n] = Ca.e1 c n from rfl] at ck
  refine V.Fn.mk_ V.Tok V.mixed Tryd.func9 rfl Tryd.ntmps9 (by kernel_rfl) rfl rfl ?_
  repeat' ((conv => whnf); first | refine V.NCond.mk ?_ | refine V.NIf.not_ ?_ | refine V.NIf.dec_ ?_ | refine V.NIf.no (by omega) ?_ | refine V.NIf.yes (by omega) ?_ | refine V.NIf.mk (fun _ => ?_) (fun _ => ?_) | refine V.NWrap.ok (by omega) (by omega) ?_ | refine V.NWrap.u64 (by omega) (by omega) ?_ | refine V.NLt.mk (by omega) ?_ | refine V.NBoth.mk ?_ ?_ | refine V.NTF.yes (by omega) ?_ | refine V.NTF.no (by omega) ?_ | refine V.NTF.dec ?_ | refine V.NDraw.q (by exact rfl) (by kernel_rfl) ?_ | refine V.NApp.one (by first | omega | (simp; omega)) (by first | omega | (simp; omega)) ?_ | ((first | refine V.Fn.k (ck) [0, 2] rfl ?_ ?_ | refine V.Fn.q (ck) [0, 2] rfl ?_ ?_ | refine V.Fn.a (ck) [0, 2] rfl ?_ ?_); · ((repeat' (first | exact rfl | exact Iff.rfl | exact trivial | exact (fun _ _ => rfl) | exact (fun _ h => absurd h (Nat.not_lt_zero _)) | refine ⟨?_, ?_⟩ | exact Iff.rfl | exact congrArg (fun z => V.SV.one (V.At.val (Value.int .i64 z))) (by omega))); done)) | ((first | refine V.Fn.k (vo (by assumption)) [0] rfl ?_ ?_ | refine V.Fn.q (vo (by assumption)) [0] rfl ?_ ?_ | refine V.Fn.a (vo (by assumption)) [0] rfl ?_ ?_); · ((repeat' (first | exact rfl | exact Iff.rfl | exact trivial | exact (fun _ _ => rfl) | exact (fun _ h => absurd h (Nat.not_lt_zero _)) | refine ⟨?_, ?_⟩ | exact Iff.rfl | exact congrArg (fun z => V.SV.one (V.At.val (Value.int .i64 z))) (by omega))); done)) | (refine V.NDraw.any (by kernel_rfl) ?_) | fail)
  all_goals (conv => whnf)
  · exact ⟨congrArg Value.bool (decide_eq_decide.2 ⟨fun q => ⟨by assumption, q⟩, fun q => q.2⟩), V.fin1 (by assumption), trivial⟩
  · exact ⟨congrArg Value.bool (decide_eq_false fun q => absurd q.1 (by assumption)).symm, rfl, trivial⟩
theorem v_told (n : Int) : V.Fn Tryd.prog 26 [] [.one (.val (.int .i64 n))] (.tuple #[.int .i64 (Ca.toV n), .int .i64 (Ca.toE n)]) := by
  refine V.Fn.mk_ V.Tok V.mixed Tryd.func26 rfl Tryd.ntmps26 (by kernel_rfl) rfl rfl ?_
  repeat' ((conv => whnf); first | refine V.NCond.mk ?_ | refine V.NIf.not_ ?_ | refine V.NIf.dec_ ?_ | refine V.NIf.no (by omega) ?_ | refine V.NIf.yes (by omega) ?_ | refine V.NIf.mk (fun _ => ?_) (fun _ => ?_) | refine V.NWrap.ok (by omega) (by omega) ?_ | refine V.NWrap.u64 (by omega) (by omega) ?_ | refine V.NLt.mk (by omega) ?_ | refine V.NBoth.mk ?_ ?_ | refine V.NTF.yes (by omega) ?_ | refine V.NTF.no (by omega) ?_ | refine V.NTF.dec ?_ | refine V.NDraw.q (by exact rfl) (by kernel_rfl) ?_ | refine V.NApp.one (by first | omega | (simp; omega)) (by first | omega | (simp; omega)) ?_ | (refine V.NDraw.any (by kernel_rfl) ?_) | fail)
  all_goals (conv => whnf)
  · exact V.fin2 ⟨if_pos (by assumption), if_pos (by assumption)⟩
  · exact V.fin2 ⟨if_neg (by assumption), if_neg (by assumption)⟩
theorem v_business (c : Cl) (n : Int) (h : Ca.Ok c) : V.Fn Tryd.prog 15 [.arr 1 c.hs.length (ga e1 c.hs)] [.agg [.val (.int .i64 c.we), .ref 0], .one (.val (.int .i64 n))] (.bool (decide (Ca.Day n ∧ Ca.op c n = 1))) := by
  obtain ⟨h1, h2, h3, h4⟩ := h
  have w01 := Ca.wd_01 c n
  have o1 : n ∈ c.hs → Ca.op c n = 0 := fun q => if_pos q
  have o2 : ¬ n ∈ c.hs → Ca.op c n = Ca.wd c n := fun q => if_neg q
  have ew : Ca.wd c n = 1 - c.we / 2 ^ (n % 7).toNat % 2 := rfl
  have dd : Ca.Day n ↔ (0 ≤ n ∧ n ≤ 3652058) := Iff.rfl
  refine V.Fn.mk_ V.Tok V.mixed Tryd.func15 rfl Tryd.ntmps15 (by kernel_rfl) rfl rfl ?_
  repeat' ((conv => whnf); first | refine V.NCond.mk ?_ | refine V.NIf.not_ ?_ | refine V.NIf.dec_ ?_ | refine V.NIf.no (by omega) ?_ | refine V.NIf.yes (by omega) ?_ | refine V.NIf.mk (fun _ => ?_) (fun _ => ?_) | refine V.NWrap.ok (by omega) (by omega) ?_ | refine V.NWrap.u64 (by omega) (by omega) ?_ | refine V.NLt.mk (by omega) ?_ | refine V.NBoth.mk ?_ ?_ | refine V.NTF.yes (by omega) ?_ | refine V.NTF.no (by omega) ?_ | refine V.NTF.dec ?_ | refine V.NDraw.q (by exact rfl) (by kernel_rfl) ?_ | refine V.NApp.one (by first | omega | (simp; omega)) (by first | omega | (simp; omega)) ?_ | (refine V.NDraw.any (by kernel_rfl) ?_) | fail)
  all_goals (conv => whnf)
  · exact congrArg Value.bool (decide_eq_false (fun q => by have := dd.1 q.1; omega)).symm
  · exact congrArg Value.bool (decide_eq_false (fun q => by have := dd.1 q.1; omega)).symm
  refine V.NLoop.auto (fun (k : Nat) => [(5, .one (.val (.int .i64 k)))]) (fun (k : Nat) => []) [] [] (fun (k : Nat) => c.hs.length - k) (fun (k : Nat) => k ≤ c.hs.length ∧ ∀ d ∈ c.hs.take k, ¬ d = n) 0 ⟨Nat.zero_le _, by simp⟩ (by repeat' (first | exact rfl | exact Iff.rfl | exact trivial | exact (fun _ _ => rfl) | exact (fun _ h => absurd h (Nat.not_lt_zero _)) | refine ⟨?_, ?_⟩ | exact Iff.rfl | exact congrArg (fun z => V.SV.one (V.At.val (Value.int .i64 z))) (by omega))) (by repeat' (first | exact rfl | exact Iff.rfl | exact trivial | exact (fun _ _ => rfl) | exact (fun _ h => absurd h (Nat.not_lt_zero _)) | refine ⟨?_, ?_⟩ | exact Iff.rfl | exact congrArg (fun z => V.SV.one (V.At.val (Value.int .i64 z))) (by omega))) (fun _ => ⟨rfl, rfl⟩) ?_; (conv => whnf); refine ⟨⟨rfl, rfl⟩, ?_⟩
  rintro k ⟨hk, hJ⟩
  repeat' ((conv => whnf); first | refine V.NCond.mk ?_ | refine V.NIf.not_ ?_ | refine V.NIf.dec_ ?_ | refine V.NIf.no (by omega) ?_ | refine V.NIf.yes (by omega) ?_ | refine V.NIf.mk (fun _ => ?_) (fun _ => ?_) | refine V.NWrap.ok (by omega) (by omega) ?_ | refine V.NWrap.u64 (by omega) (by omega) ?_ | refine V.NLt.mk (by omega) ?_ | refine V.NBoth.mk ?_ ?_ | refine V.NTF.yes (by omega) ?_ | refine V.NTF.no (by omega) ?_ | refine V.NTF.dec ?_ | refine V.NDraw.q (by exact rfl) (by kernel_rfl) ?_ | refine V.NApp.one (by first | omega | (simp; omega)) (by first | omega | (simp; omega)) ?_ | (refine NIdx.mk ⟨k, rfl, by omega, ?_⟩) | (refine V.NDraw.any (by kernel_rfl) ?_) | fail)
  all_goals (conv => whnf)
  · have hm : n ∈ c.hs := by have q : c.hs.getD k default = n := by assumption
                             rw [← q]; exact getD_mem (by omega)
    exact congrArg Value.bool (decide_eq_false (fun q => by rw [o1 hm] at q; omega)).symm
  · exact V.NBack.at_ (k + 1) [] ⟨by omega, all_snoc (by omega) hJ (by assumption)⟩ (by omega) (by repeat' (first | exact rfl | exact Iff.rfl | exact trivial | exact (fun _ _ => rfl) | exact (fun _ h => absurd h (Nat.not_lt_zero _)) | refine ⟨?_, ?_⟩ | exact Iff.rfl | exact congrArg (fun z => V.SV.one (V.At.val (Value.int .i64 z))) (by omega))) rfl (by repeat' (first | exact rfl | exact Iff.rfl | exact trivial | exact (fun _ _ => rfl) | exact (fun _ h => absurd h (Nat.not_lt_zero _)) | refine ⟨?_, ?_⟩ | exact Iff.rfl | exact congrArg (fun z => V.SV.one (V.At.val (Value.int .i64 z))) (by omega))) (by repeat' (first | exact rfl | exact Iff.rfl | exact trivial | exact (fun _ _ => rfl) | exact (fun _ h => absurd h (Nat.not_lt_zero _)) | refine ⟨?_, ?_⟩ | exact Iff.rfl | exact congrArg (fun z => V.SV.one (V.At.val (Value.int .i64 z))) (by omega))) (by repeat' (first | exact rfl | exact Iff.rfl | exact trivial | exact (fun _ _ => rfl) | exact (fun _ h => absurd h (Nat.not_lt_zero _)) | refine ⟨?_, ?_⟩ | exact Iff.rfl | exact congrArg (fun z => V.SV.one (V.At.val (Value.int .i64 z))) (by omega)))
  have e := o2 fun q => all_whole (k := k) (by omega) hJ n q rfl
  have pw : ∀ i : Nat, (2 : Int) ^ (i + 1) = 2 ^ i * 2 := fun i => Int.pow_succ 2 i
  have p0 : ∀ i : Nat, (0 : Int) < 2 ^ i := fun i => Int.pow_pos (by omega)
  refine V.NLoop.auto (fun (i : Nat) => [(7, .one (.val (.int .i64 i))), (6, .one (.val (.int .i64 (c.we / 2 ^ i))))]) (fun (i : Nat) => []) [] [] (fun (i : Nat) => 7 - i) (fun (i : Nat) => (i : Int) ≤ n % 7) 0 (by omega) (by (conv => whnf); exact ⟨(by repeat' (first | exact rfl | exact Iff.rfl | exact trivial | exact (fun _ _ => rfl) | exact (fun _ h => absurd h (Nat.not_lt_zero _)) | refine ⟨?_, ?_⟩ | exact Iff.rfl | exact congrArg (fun z => V.SV.one (V.At.val (Value.int .i64 z))) (by omega))), congrArg (fun z => V.SV.one (V.At.val (Value.int .i64 z))) (show c.we = c.we / 2 ^ 0 by simp), trivial⟩) (by repeat' (first | exact rfl | exact Iff.rfl | exact trivial | exact (fun _ _ => rfl) | exact (fun _ h => absurd h (Nat.not_lt_zero _)) | refine ⟨?_, ?_⟩ | exact Iff.rfl | exact congrArg (fun z => V.SV.one (V.At.val (Value.int .i64 z))) (by omega))) (fun _ => ⟨rfl, rfl⟩) ?_; (conv => whnf); refine ⟨⟨rfl, rfl⟩, ?_⟩
  rintro i hi
  have dv : c.we / 2 ^ (i + 1) = c.we / 2 ^ i / 2 := by rw [pw, Int.ediv_ediv_of_nonneg (Int.le_of_lt (p0 i))]
  have dn : 0 ≤ c.we / 2 ^ i ∧ c.we / 2 ^ i ≤ c.we := ⟨Int.ediv_nonneg h1.1 (Int.le_of_lt (p0 i)), Int.ediv_le_self _ h1.1⟩
  repeat' ((conv => whnf); first | refine V.NCond.mk ?_ | refine V.NIf.not_ ?_ | refine V.NIf.dec_ ?_ | refine V.NIf.no (by omega) ?_ | refine V.NIf.yes (by omega) ?_ | refine V.NIf.mk (fun _ => ?_) (fun _ => ?_) | refine V.NWrap.ok (by omega) (by omega) ?_ | refine V.NWrap.u64 (by omega) (by omega) ?_ | refine V.NLt.mk (by omega) ?_ | refine V.NBoth.mk ?_ ?_ | refine V.NTF.yes (by omega) ?_ | refine V.NTF.no (by omega) ?_ | refine V.NTF.dec ?_ | refine V.NDraw.q (by exact rfl) (by kernel_rfl) ?_ | refine V.NApp.one (by first | omega | (simp; omega)) (by first | omega | (simp; omega)) ?_ | (refine NRem.pos (y := 7) (by omega) (by omega) ?_; intro r hr hr0 hr1) | (refine NQuo.pos (by omega) (by omega) (by omega) ?_; intro z hz hz0 hz1) | (refine NRem.pos (y := 2) (by omega) (by omega) ?_; intro r2 hr2 hr20 hr21) | (refine V.NDraw.any (by kernel_rfl) ?_) | fail)
  all_goals (conv => whnf)
  · exact V.NBack.at_ (i + 1) [] (by omega) (by omega) ⟨(by repeat' (first | exact rfl | exact Iff.rfl | exact trivial | exact (fun _ _ => rfl) | exact (fun _ h => absurd h (Nat.not_lt_zero _)) | refine ⟨?_, ?_⟩ | exact Iff.rfl | exact congrArg (fun z => V.SV.one (V.At.val (Value.int .i64 z))) (by omega))), congrArg (fun z => V.SV.one (V.At.val (Value.int .i64 z))) (hz.trans dv.symm), trivial⟩ rfl (by repeat' (first | exact rfl | exact Iff.rfl | exact trivial | exact (fun _ _ => rfl) | exact (fun _ h => absurd h (Nat.not_lt_zero _)) | refine ⟨?_, ?_⟩ | exact Iff.rfl | exact congrArg (fun z => V.SV.one (V.At.val (Value.int .i64 z))) (by omega))) (by repeat' (first | exact rfl | exact Iff.rfl | exact trivial | exact (fun _ _ => rfl) | exact (fun _ h => absurd h (Nat.not_lt_zero _)) | refine ⟨?_, ?_⟩ | exact Iff.rfl | exact congrArg (fun z => V.SV.one (V.At.val (Value.int .i64 z))) (by omega))) (by repeat' (first | exact rfl | exact Iff.rfl | exact trivial | exact (fun _ _ => rfl) | exact (fun _ h => absurd h (Nat.not_lt_zero _)) | refine ⟨?_, ?_⟩ | exact Iff.rfl | exact congrArg (fun z => V.SV.one (V.At.val (Value.int .i64 z))) (by omega)))
  · have hi' : (n % 7).toNat = i := by omega
    rw [hi'] at ew
    exact ⟨_, rfl, by rw [decide_eq_true_eq, e, ew]; exact ⟨fun q => ⟨dd.2 (by omega), by omega⟩, fun q => by omega⟩⟩
set_option maxHeartbeats 4000000 in
theorem v_nthU (c : Cl) (n many : Int) (h : Ca.Ok c) (hn : 0 ≤ n ∧ n ≤ 3652059) (hm : 1 ≤ many ∧ many ≤ 1000) : V.Fn Tryd.prog 27 [.arr 1 c.hs.length (ga e1 c.hs)] [.agg [.val (.int .i64 c.we), .ref 0], .one (.val (.int .i64 n)), .one (.val (.int .i64 1)), .one (.val (.int .i64 many))] (.int .i64 (Ca.stU c (n - 1) many)) := by
  refine V.Fn.mk_ V.Tok V.mixed Tryd.func27 rfl Tryd.ntmps27 (by kernel_rfl) rfl rfl ?_
  repeat' ((conv => whnf); first | refine V.NCond.mk ?_ | refine V.NIf.not_ ?_ | refine V.NIf.dec_ ?_ | refine V.NIf.no (by omega) ?_ | refine V.NIf.yes (by omega) ?_ | refine V.NIf.mk (fun _ => ?_) (fun _ => ?_) | refine V.NWrap.ok (by omega) (by omega) ?_ | refine V.NWrap.u64 (by omega) (by omega) ?_ | refine V.NLt.mk (by omega) ?_ | refine V.NBoth.mk ?_ ?_ | refine V.NTF.yes (by omega) ?_ | refine V.NTF.no (by omega) ?_ | refine V.NTF.dec ?_ | refine V.NDraw.q (by exact rfl) (by kernel_rfl) ?_ | refine V.NApp.one (by first | omega | (simp; omega)) (by first | omega | (simp; omega)) ?_ | (refine V.NCall.inl (f := 39) V.Tok V.mixed Tryd.func39 rfl Tryd.ntmps39 (by kernel_rfl) rfl ?_) | (refine V.NRange.inl V.Tok V.mixed Tryd.func48 rfl Tryd.ntmps48 (by kernel_rfl) [7, 8] [] ?_; (conv => whnf); refine V.NIs.mk rfl ?_; (conv => whnf); intro L hL) | (refine V.NDraw.any (by kernel_rfl) ?_) | fail)
  all_goals (conv => whnf)
  refine V.NLoop.auto (fun (i : Int) => []) (fun (i : Int) => [(5, .box 3 [.val (.int .i64 i)]), (2, .box 3 [.val (.int .i64 (many - Ca.cnt c (n - 1) (i - 1)))])]) [] [] (fun (i : Int) => (3652059 - i).toNat) (fun (i : Int) => n ≤ i ∧ i ≤ 3652059 ∧ Ca.cnt c (n - 1) (i - 1) < many) n ⟨Int.le_refl _, hn.2, by rw [Ca.cnt_none (Int.le_refl _)]; omega⟩ (by repeat' (first | exact rfl | exact Iff.rfl | exact trivial | exact (fun _ _ => rfl) | exact (fun _ h => absurd h (Nat.not_lt_zero _)) | refine ⟨?_, ?_⟩ | exact Iff.rfl | exact congrArg (fun z => V.SV.one (V.At.val (Value.int .i64 z))) (by omega))) (by (conv => whnf); exact ⟨rfl, congrArg (fun z => V.Ob.box _ [V.At.val (Value.int .i64 z)]) (by rw [Ca.cnt_none (Int.le_refl _)]; omega), trivial⟩) (fun _ => ⟨rfl, rfl⟩) ?_; (conv => whnf); refine ⟨⟨rfl, rfl⟩, ?_⟩
  rintro i ⟨h1, h2, h3⟩
  have cs := Ca.cnt_last (c := c) (a := n - 1) (b := i) (by omega)
  have c0 := (Ca.cnt_bd c (n - 1) (i - 1)).1
  have vo := fun q => v_caopen c i h q
  repeat' ((conv => whnf); first | refine V.NCond.mk ?_ | refine V.NIf.not_ ?_ | refine V.NIf.dec_ ?_ | refine V.NIf.no (by omega) ?_ | refine V.NIf.yes (by omega) ?_ | refine V.NIf.mk (fun _ => ?_) (fun _ => ?_) | refine V.NWrap.ok (by omega) (by omega) ?_ | refine V.NWrap.u64 (by omega) (by omega) ?_ | refine V.NLt.mk (by omega) ?_ | refine V.NBoth.mk ?_ ?_ | refine V.NTF.yes (by omega) ?_ | refine V.NTF.no (by omega) ?_ | refine V.NTF.dec ?_ | refine V.NDraw.q (by exact rfl) (by kernel_rfl) ?_ | refine V.NApp.one (by first | omega | (simp; omega)) (by first | omega | (simp; omega)) ?_ | ((first | refine V.Fn.k (vo ⟨by omega, by omega⟩) [0] rfl ?_ ?_ | refine V.Fn.q (vo ⟨by omega, by omega⟩) [0] rfl ?_ ?_ | refine V.Fn.a (vo ⟨by omega, by omega⟩) [0] rfl ?_ ?_); · ((repeat' (first | exact rfl | exact Iff.rfl | exact trivial | exact (fun _ _ => rfl) | exact (fun _ h => absurd h (Nat.not_lt_zero _)) | refine ⟨?_, ?_⟩ | exact Iff.rfl | exact congrArg (fun z => V.SV.one (V.At.val (Value.int .i64 z))) (by omega))); done)) | (refine V.NYield.mk_ V.Tok V.mixed hL rfl rfl ?_) | (refine V.NDraw.any (by kernel_rfl) ?_) | fail)
  all_goals (conv => whnf)
  · exact V.fin1 (Ca.stU_is ⟨by omega, by omega, by assumption, by omega⟩)
  · refine V.NBack.at_ (i + 1) [] ⟨by omega, by omega, by rw [show i + 1 - 1 = i by omega]; omega⟩ (by omega) (by repeat' (first | exact rfl | exact Iff.rfl | exact trivial | exact (fun _ _ => rfl) | exact (fun _ h => absurd h (Nat.not_lt_zero _)) | refine ⟨?_, ?_⟩ | exact Iff.rfl | exact congrArg (fun z => V.SV.one (V.At.val (Value.int .i64 z))) (by omega))) rfl ⟨rfl, congrArg (fun z => V.Ob.box _ [V.At.val (Value.int .i64 z)]) (by rw [show i + 1 - 1 = i by omega]; omega), trivial⟩ (by repeat' (first | exact rfl | exact Iff.rfl | exact trivial | exact (fun _ _ => rfl) | exact (fun _ h => absurd h (Nat.not_lt_zero _)) | refine ⟨?_, ?_⟩ | exact Iff.rfl | exact congrArg (fun z => V.SV.one (V.At.val (Value.int .i64 z))) (by omega))) (by repeat' (first | exact rfl | exact Iff.rfl | exact trivial | exact (fun _ _ => rfl) | exact (fun _ h => absurd h (Nat.not_lt_zero _)) | refine ⟨?_, ?_⟩ | exact Iff.rfl | exact congrArg (fun z => V.SV.one (V.At.val (Value.int .i64 z))) (by omega)))
  · have := Ca.op_01 c i
    refine V.NBack.at_ (i + 1) [] ⟨by omega, by omega, by rw [show i + 1 - 1 = i by omega]; omega⟩ (by omega) (by repeat' (first | exact rfl | exact Iff.rfl | exact trivial | exact (fun _ _ => rfl) | exact (fun _ h => absurd h (Nat.not_lt_zero _)) | refine ⟨?_, ?_⟩ | exact Iff.rfl | exact congrArg (fun z => V.SV.one (V.At.val (Value.int .i64 z))) (by omega))) rfl ⟨rfl, congrArg (fun z => V.Ob.box _ [V.At.val (Value.int .i64 z)]) (by rw [show i + 1 - 1 = i by omega]; omega), trivial⟩ (by repeat' (first | exact rfl | exact Iff.rfl | exact trivial | exact (fun _ _ => rfl) | exact (fun _ h => absurd h (Nat.not_lt_zero _)) | refine ⟨?_, ?_⟩ | exact Iff.rfl | exact congrArg (fun z => V.SV.one (V.At.val (Value.int .i64 z))) (by omega))) (by repeat' (first | exact rfl | exact Iff.rfl | exact trivial | exact (fun _ _ => rfl) | exact (fun _ h => absurd h (Nat.not_lt_zero _)) | refine ⟨?_, ?_⟩ | exact Iff.rfl | exact congrArg (fun z => V.SV.one (V.At.val (Value.int .i64 z))) (by omega)))
  · have e : i - 1 = 3652058 := by omega
    rw [e] at h3
    exact V.fin1 (Ca.stU_no h3)
set_option maxHeartbeats 4000000 in
theorem v_nthD (c : Cl) (n many : Int) (h : Ca.Ok c) (hn : -1 ≤ n ∧ n ≤ 3652058) (hm : 1 ≤ many ∧ many ≤ 1000) : V.Fn Tryd.prog 27 [.arr 1 c.hs.length (ga e1 c.hs)] [.agg [.val (.int .i64 c.we), .ref 0], .one (.val (.int .i64 n)), .one (.val (.int .i64 (-1))), .one (.val (.int .i64 many))] (.int .i64 (Ca.stD c (n + 1) many)) := by
  refine V.Fn.mk_ V.Tok V.mixed Tryd.func27 rfl Tryd.ntmps27 (by kernel_rfl) rfl rfl ?_
  repeat' ((conv => whnf); first | refine V.NCond.mk ?_ | refine V.NIf.not_ ?_ | refine V.NIf.dec_ ?_ | refine V.NIf.no (by omega) ?_ | refine V.NIf.yes (by omega) ?_ | refine V.NIf.mk (fun _ => ?_) (fun _ => ?_) | refine V.NWrap.ok (by omega) (by omega) ?_ | refine V.NWrap.u64 (by omega) (by omega) ?_ | refine V.NLt.mk (by omega) ?_ | refine V.NBoth.mk ?_ ?_ | refine V.NTF.yes (by omega) ?_ | refine V.NTF.no (by omega) ?_ | refine V.NTF.dec ?_ | refine V.NDraw.q (by exact rfl) (by kernel_rfl) ?_ | refine V.NApp.one (by first | omega | (simp; omega)) (by first | omega | (simp; omega)) ?_ | (refine V.NCall.inl (f := 39) V.Tok V.mixed Tryd.func39 rfl Tryd.ntmps39 (by kernel_rfl) rfl ?_) | (refine V.NRange.inl V.Tok V.mixed Tryd.func48 rfl Tryd.ntmps48 (by kernel_rfl) [7, 8] [] ?_; (conv => whnf); refine V.NIs.mk rfl ?_; (conv => whnf); intro L hL) | (refine V.NDraw.any (by kernel_rfl) ?_) | fail)
  all_goals (conv => whnf)
  refine V.NLoop.auto (fun (i : Int) => []) (fun (i : Int) => [(5, .box 3 [.val (.int .i64 i)]), (2, .box 3 [.val (.int .i64 (many - Ca.cnt c i n))])]) [] [] (fun (i : Int) => (i + 1).toNat) (fun (i : Int) => i ≤ n ∧ -1 ≤ i ∧ Ca.cnt c i n < many) n ⟨Int.le_refl _, hn.1, by rw [Ca.cnt_none (Int.le_refl _)]; omega⟩ (by repeat' (first | exact rfl | exact Iff.rfl | exact trivial | exact (fun _ _ => rfl) | exact (fun _ h => absurd h (Nat.not_lt_zero _)) | refine ⟨?_, ?_⟩ | exact Iff.rfl | exact congrArg (fun z => V.SV.one (V.At.val (Value.int .i64 z))) (by omega))) (by (conv => whnf); exact ⟨rfl, congrArg (fun z => V.Ob.box _ [V.At.val (Value.int .i64 z)]) (by rw [Ca.cnt_none (Int.le_refl _)]; omega), trivial⟩) (fun _ => ⟨rfl, rfl⟩) ?_; (conv => whnf); refine ⟨⟨rfl, rfl⟩, ?_⟩
  rintro i ⟨h1, h2, h3⟩
  have cs := Ca.cnt_first (c := c) (a := i - 1) (b := n) (by omega)
  rw [show i - 1 + 1 = i by omega] at cs
  have c0 := (Ca.cnt_bd c i n).1
  have vo := fun q => v_caopen c i h q
  repeat' ((conv => whnf); first | refine V.NCond.mk ?_ | refine V.NIf.not_ ?_ | refine V.NIf.dec_ ?_ | refine V.NIf.no (by omega) ?_ | refine V.NIf.yes (by omega) ?_ | refine V.NIf.mk (fun _ => ?_) (fun _ => ?_) | refine V.NWrap.ok (by omega) (by omega) ?_ | refine V.NWrap.u64 (by omega) (by omega) ?_ | refine V.NLt.mk (by omega) ?_ | refine V.NBoth.mk ?_ ?_ | refine V.NTF.yes (by omega) ?_ | refine V.NTF.no (by omega) ?_ | refine V.NTF.dec ?_ | refine V.NDraw.q (by exact rfl) (by kernel_rfl) ?_ | refine V.NApp.one (by first | omega | (simp; omega)) (by first | omega | (simp; omega)) ?_ | ((first | refine V.Fn.k (vo ⟨by omega, by omega⟩) [0] rfl ?_ ?_ | refine V.Fn.q (vo ⟨by omega, by omega⟩) [0] rfl ?_ ?_ | refine V.Fn.a (vo ⟨by omega, by omega⟩) [0] rfl ?_ ?_); · ((repeat' (first | exact rfl | exact Iff.rfl | exact trivial | exact (fun _ _ => rfl) | exact (fun _ h => absurd h (Nat.not_lt_zero _)) | refine ⟨?_, ?_⟩ | exact Iff.rfl | exact congrArg (fun z => V.SV.one (V.At.val (Value.int .i64 z))) (by omega))); done)) | (refine V.NYield.mk_ V.Tok V.mixed hL rfl rfl ?_) | (refine V.NDraw.any (by kernel_rfl) ?_) | fail)
  all_goals (conv => whnf)
  · exact V.fin1 (Ca.stD_is ⟨by omega, by omega, by assumption, by rw [show n + 1 - 1 = n by omega]; omega⟩)
  · exact V.NBack.at_ (i - 1) [] ⟨by omega, by omega, by omega⟩ (by omega) (by repeat' (first | exact rfl | exact Iff.rfl | exact trivial | exact (fun _ _ => rfl) | exact (fun _ h => absurd h (Nat.not_lt_zero _)) | refine ⟨?_, ?_⟩ | exact Iff.rfl | exact congrArg (fun z => V.SV.one (V.At.val (Value.int .i64 z))) (by omega))) rfl ⟨rfl, congrArg (fun z => V.Ob.box _ [V.At.val (Value.int .i64 z)]) (by omega), trivial⟩ (by repeat' (first | exact rfl | exact Iff.rfl | exact trivial | exact (fun _ _ => rfl) | exact (fun _ h => absurd h (Nat.not_lt_zero _)) | refine ⟨?_, ?_⟩ | exact Iff.rfl | exact congrArg (fun z => V.SV.one (V.At.val (Value.int .i64 z))) (by omega))) (by repeat' (first | exact rfl | exact Iff.rfl | exact trivial | exact (fun _ _ => rfl) | exact (fun _ h => absurd h (Nat.not_lt_zero _)) | refine ⟨?_, ?_⟩ | exact Iff.rfl | exact congrArg (fun z => V.SV.one (V.At.val (Value.int .i64 z))) (by omega)))
  · have := Ca.op_01 c i
    exact V.NBack.at_ (i - 1) [] ⟨by omega, by omega, by omega⟩ (by omega) (by repeat' (first | exact rfl | exact Iff.rfl | exact trivial | exact (fun _ _ => rfl) | exact (fun _ h => absurd h (Nat.not_lt_zero _)) | refine ⟨?_, ?_⟩ | exact Iff.rfl | exact congrArg (fun z => V.SV.one (V.At.val (Value.int .i64 z))) (by omega))) rfl ⟨rfl, congrArg (fun z => V.Ob.box _ [V.At.val (Value.int .i64 z)]) (by omega), trivial⟩ (by repeat' (first | exact rfl | exact Iff.rfl | exact trivial | exact (fun _ _ => rfl) | exact (fun _ h => absurd h (Nat.not_lt_zero _)) | refine ⟨?_, ?_⟩ | exact Iff.rfl | exact congrArg (fun z => V.SV.one (V.At.val (Value.int .i64 z))) (by omega))) (by repeat' (first | exact rfl | exact Iff.rfl | exact trivial | exact (fun _ _ => rfl) | exact (fun _ h => absurd h (Nat.not_lt_zero _)) | refine ⟨?_, ?_⟩ | exact Iff.rfl | exact congrArg (fun z => V.SV.one (V.At.val (Value.int .i64 z))) (by omega)))
  · have e : i = -1 := by omega
    rw [e] at h3
    exact V.fin1 (Ca.stD_no (by rw [show n + 1 - 1 = n by omega]; exact h3))
theorem v_caNext (c : Cl) (n : Int) (hn : c.hs.length ≤ 9223372036854775807) : V.Fn Tryd.prog 10 [.arr 1 c.hs.length (ga e1 c.hs)] [.agg [.val (.int .i64 c.we), .ref 0], .one (.val (.int .i64 n))] (.tuple #[.int .i64 (Ca.neV c n), .int .i64 (Ca.neE c n)]) := by
  have h0 : Ca.e1 c n = 0 → Ca.Ok c ∧ (0 ≤ n ∧ n ≤ 3652059) ∧ Ca.neV c n = Ca.toV (Ca.stU c (n - 1) 1) ∧ Ca.neE c n = Ca.toE (Ca.stU c (n - 1) 1) := fun h => by
    obtain ⟨a, b, _⟩ := Ca.e1_ok h
    unfold Ca.Day at b
    exact ⟨a, by omega, if_neg (by omega), if_neg (by omega)⟩
  have h1 : ¬ Ca.e1 c n = 0 → Ca.neV c n = 0 ∧ Ca.neE c n = Ca.e1 c n := fun h => ⟨if_pos h, if_pos h⟩
  have ck := v_caChecks c [n] hn (by simp)
  rw [show Ca.chks c [n] = Ca.e1 c n from rfl] at ck
  refine V.Fn.mk_ V.Tok V.mixed Tryd.func10 rfl Tryd.ntmps10 (by kernel_rfl) rfl rfl ?_
  repeat' ((conv => whnf); first | refine V.NCond.mk ?_ | refine V.NIf.not_ ?_ | refine V.NIf.dec_ ?_ | refine V.NIf.no (by omega) ?_ | refine V.NIf.yes (by omega) ?_ | refine V.NIf.mk (fun _ => ?_) (fun _ => ?_) | refine V.NWrap.ok (by omega) (by omega) ?_ | refine V.NWrap.u64 (by omega) (by omega) ?_ | refine V.NLt.mk (by omega) ?_ | refine V.NBoth.mk ?_ ?_ | refine V.NTF.yes (by omega) ?_ | refine V.NTF.no (by omega) ?_ | refine V.NTF.dec ?_ | refine V.NDraw.q (by exact rfl) (by kernel_rfl) ?_ | refine V.NApp.one (by first | omega | (simp; omega)) (by first | omega | (simp; omega)) ?_ | ((first | refine V.Fn.k (ck) [0, 2] rfl ?_ ?_ | refine V.Fn.q (ck) [0, 2] rfl ?_ ?_ | refine V.Fn.a (ck) [0, 2] rfl ?_ ?_); · ((repeat' (first | exact rfl | exact Iff.rfl | exact trivial | exact (fun _ _ => rfl) | exact (fun _ h => absurd h (Nat.not_lt_zero _)) | refine ⟨?_, ?_⟩ | exact Iff.rfl | exact congrArg (fun z => V.SV.one (V.At.val (Value.int .i64 z))) (by omega))); done)) | ((first | refine V.Fn.k (v_nthU c n 1 (h0 (by assumption)).1 (h0 (by assumption)).2.1 (by omega)) [0] rfl ?_ ?_ | refine V.Fn.q (v_nthU c n 1 (h0 (by assumption)).1 (h0 (by assumption)).2.1 (by omega)) [0] rfl ?_ ?_ | refine V.Fn.a (v_nthU c n 1 (h0 (by assumption)).1 (h0 (by assumption)).2.1 (by omega)) [0] rfl ?_ ?_); · ((repeat' (first | exact rfl | exact Iff.rfl | exact trivial | exact (fun _ _ => rfl) | exact (fun _ h => absurd h (Nat.not_lt_zero _)) | refine ⟨?_, ?_⟩ | exact Iff.rfl | exact congrArg (fun z => V.SV.one (V.At.val (Value.int .i64 z))) (by omega))); done)) | (first | refine V.Fn.k0 (v_told _) rfl ?_ | refine V.Fn.q0 (v_told _) rfl ?_ | refine V.Fn.a0 (v_told _) rfl ?_) | (refine V.NDraw.any (by kernel_rfl) ?_) | fail)
  all_goals (conv => whnf)
  · exact V.fin2 ⟨(h0 (by assumption)).2.2.1, (h0 (by assumption)).2.2.2⟩
  · exact V.fin2 (h1 (by assumption))
theorem v_caRaw (c : Cl) (n many : Int) (h : Ca.Ok c) (hn : Ca.Day n) (hm : -1000 ≤ many ∧ many ≤ 1000) : V.Fn Tryd.prog 28 [.arr 1 c.hs.length (ga e1 c.hs)] [.agg [.val (.int .i64 c.we), .ref 0], .one (.val (.int .i64 n)), .one (.val (.int .i64 many))] (.int .i64 (Ca.stp c n many)) := by
  unfold Ca.Day at hn
  have p := @Ca.stp_p c n many
  have m := @Ca.stp_n c n many
  have u := fun q r => v_nthU c (n + 1) many h q r
  have d := fun q r => v_nthD c (n - 1) (0 - many) h q r
  rw [show n + 1 - 1 = n by omega] at u
  rw [show n - 1 + 1 = n by omega] at d
  refine V.Fn.mk_ V.Tok V.mixed Tryd.func28 rfl Tryd.ntmps28 (by kernel_rfl) rfl rfl ?_
  repeat' ((conv => whnf); first | refine V.NCond.mk ?_ | refine V.NIf.not_ ?_ | refine V.NIf.dec_ ?_ | refine V.NIf.no (by omega) ?_ | refine V.NIf.yes (by omega) ?_ | refine V.NIf.mk (fun _ => ?_) (fun _ => ?_) | refine V.NWrap.ok (by omega) (by omega) ?_ | refine V.NWrap.u64 (by omega) (by omega) ?_ | refine V.NLt.mk (by omega) ?_ | refine V.NBoth.mk ?_ ?_ | refine V.NTF.yes (by omega) ?_ | refine V.NTF.no (by omega) ?_ | refine V.NTF.dec ?_ | refine V.NDraw.q (by exact rfl) (by kernel_rfl) ?_ | refine V.NApp.one (by first | omega | (simp; omega)) (by first | omega | (simp; omega)) ?_ | ((first | refine V.Fn.k (u (by omega) (by omega)) [0] rfl ?_ ?_ | refine V.Fn.q (u (by omega) (by omega)) [0] rfl ?_ ?_ | refine V.Fn.a (u (by omega) (by omega)) [0] rfl ?_ ?_); · ((repeat' (first | exact rfl | exact Iff.rfl | exact trivial | exact (fun _ _ => rfl) | exact (fun _ h => absurd h (Nat.not_lt_zero _)) | refine ⟨?_, ?_⟩ | exact Iff.rfl | exact congrArg (fun z => V.SV.one (V.At.val (Value.int .i64 z))) (by omega))); done)) | ((first | refine V.Fn.k (d (by omega) (by omega)) [0] rfl ?_ ?_ | refine V.Fn.q (d (by omega) (by omega)) [0] rfl ?_ ?_ | refine V.Fn.a (d (by omega) (by omega)) [0] rfl ?_ ?_); · ((repeat' (first | exact rfl | exact Iff.rfl | exact trivial | exact (fun _ _ => rfl) | exact (fun _ h => absurd h (Nat.not_lt_zero _)) | refine ⟨?_, ?_⟩ | exact Iff.rfl | exact congrArg (fun z => V.SV.one (V.At.val (Value.int .i64 z))) (by omega))); done)) | (refine V.NDraw.any (by kernel_rfl) ?_) | fail)
  all_goals (conv => whnf)
  · exact V.fin1 (p (by assumption))
  · exact V.fin1 ((m (by assumption)).trans (by rw [Int.zero_sub]))
  · obtain rfl : many = 0 := by omega
    exact V.fin1 Ca.stp_0
theorem v_caStep (c : Cl) (n many : Int) (hn : c.hs.length ≤ 9223372036854775807) : V.Fn Tryd.prog 11 [.arr 1 c.hs.length (ga e1 c.hs)] [.agg [.val (.int .i64 c.we), .ref 0], .one (.val (.int .i64 n)), .one (.val (.int .i64 many))] (.tuple #[.int .i64 (Ca.sV c n many), .int .i64 (Ca.sE c n many)]) := by
  have h0 : Ca.e1 c n = 0 → ¬ (many < -500 ∨ 500 < many) → Ca.Ok c ∧ Ca.Day n ∧ Ca.sV c n many = Ca.toV (Ca.stp c n many) ∧ Ca.sE c n many = Ca.toE (Ca.stp c n many) := fun h k => by
    obtain ⟨a, b, _⟩ := Ca.e1_ok h
    have e : Ca.sE0 c n many = 0 := by unfold Ca.sE0; rw [if_neg (by omega), if_neg k]
    exact ⟨a, b, if_neg (by omega), if_neg (by omega)⟩
  have h1 : ¬ Ca.e1 c n = 0 → Ca.sV c n many = 0 ∧ Ca.sE c n many = Ca.e1 c n := fun h => by
    have e : Ca.sE0 c n many = Ca.e1 c n := if_pos h
    exact ⟨if_pos (by omega), (if_pos (by omega)).trans e⟩
  have h2 : Ca.e1 c n = 0 → (many < -500 ∨ 500 < many) → Ca.sV c n many = 0 ∧ Ca.sE c n many = 3 := fun h k => by
    have e : Ca.sE0 c n many = 3 := (if_neg (by omega)).trans (if_pos k)
    exact ⟨if_pos (by omega), (if_pos (by omega)).trans e⟩
  have ck := v_caChecks c [n] hn (by simp)
  rw [show Ca.chks c [n] = Ca.e1 c n from rfl] at ck
  refine V.Fn.mk_ V.Tok V.mixed Tryd.func11 rfl Tryd.ntmps11 (by kernel_rfl) rfl rfl ?_
  repeat' ((conv => whnf); first | refine V.NCond.mk ?_ | refine V.NIf.not_ ?_ | refine V.NIf.dec_ ?_ | refine V.NIf.no (by omega) ?_ | refine V.NIf.yes (by omega) ?_ | refine V.NIf.mk (fun _ => ?_) (fun _ => ?_) | refine V.NWrap.ok (by omega) (by omega) ?_ | refine V.NWrap.u64 (by omega) (by omega) ?_ | refine V.NLt.mk (by omega) ?_ | refine V.NBoth.mk ?_ ?_ | refine V.NTF.yes (by omega) ?_ | refine V.NTF.no (by omega) ?_ | refine V.NTF.dec ?_ | refine V.NDraw.q (by exact rfl) (by kernel_rfl) ?_ | refine V.NApp.one (by first | omega | (simp; omega)) (by first | omega | (simp; omega)) ?_ | ((first | refine V.Fn.k (ck) [0, 2] rfl ?_ ?_ | refine V.Fn.q (ck) [0, 2] rfl ?_ ?_ | refine V.Fn.a (ck) [0, 2] rfl ?_ ?_); · ((repeat' (first | exact rfl | exact Iff.rfl | exact trivial | exact (fun _ _ => rfl) | exact (fun _ h => absurd h (Nat.not_lt_zero _)) | refine ⟨?_, ?_⟩ | exact Iff.rfl | exact congrArg (fun z => V.SV.one (V.At.val (Value.int .i64 z))) (by omega))); done)) | ((first | refine V.Fn.k (v_caRaw c n many (h0 (by assumption) (by omega)).1 (h0 (by assumption) (by omega)).2.1 (by omega)) [0] rfl ?_ ?_ | refine V.Fn.q (v_caRaw c n many (h0 (by assumption) (by omega)).1 (h0 (by assumption) (by omega)).2.1 (by omega)) [0] rfl ?_ ?_ | refine V.Fn.a (v_caRaw c n many (h0 (by assumption) (by omega)).1 (h0 (by assumption) (by omega)).2.1 (by omega)) [0] rfl ?_ ?_); · ((repeat' (first | exact rfl | exact Iff.rfl | exact trivial | exact (fun _ _ => rfl) | exact (fun _ h => absurd h (Nat.not_lt_zero _)) | refine ⟨?_, ?_⟩ | exact Iff.rfl | exact congrArg (fun z => V.SV.one (V.At.val (Value.int .i64 z))) (by omega))); done)) | (first | refine V.Fn.k0 (v_told _) rfl ?_ | refine V.Fn.q0 (v_told _) rfl ?_ | refine V.Fn.a0 (v_told _) rfl ?_) | (refine V.NDraw.any (by kernel_rfl) ?_) | fail)
  all_goals (conv => whnf)
  all_goals first
    | exact V.fin2 (h1 (by assumption))
    | exact V.fin2 (h2 (by assumption) (by omega))
    | exact V.fin2 (h0 (by assumption) (by omega)).2.2
    | trace_state
theorem v_caCount (c : Cl) (a b : Int) (hn : c.hs.length ≤ 9223372036854775807) : V.Fn Tryd.prog 12 [.arr 1 c.hs.length (ga e1 c.hs)] [.agg [.val (.int .i64 c.we), .ref 0], .one (.val (.int .i64 a)), .one (.val (.int .i64 b))] (.tuple #[.int .i64 (Ca.coV c a b), .int .i64 (Ca.coE c a b)]) := by
  have ck := v_caChecks c [a, b] hn (by simp)
  have h1 : ¬ Ca.chks c [a, b] = 0 → Ca.coV c a b = 0 ∧ Ca.coE c a b = Ca.chks c [a, b] := fun h => by
    have e : Ca.coE c a b = Ca.chks c [a, b] := if_pos h
    exact ⟨if_neg (by omega), e⟩
  have h2 : Ca.chks c [a, b] = 0 → b < a → Ca.coV c a b = 0 ∧ Ca.coE c a b = 1 := fun h k => by
    have e : Ca.coE c a b = 1 := (if_neg (by omega)).trans (if_pos k)
    exact ⟨if_neg (by omega), e⟩
  have h3 : Ca.chks c [a, b] = 0 → ¬ b < a → Ca.coV c a b = Ca.cnt c a b ∧ Ca.coE c a b = 0 := fun h k => by
    have e : Ca.coE c a b = 0 := (if_neg (by omega)).trans (if_neg k)
    exact ⟨if_pos e, e⟩
  refine V.Fn.mk_ V.Tok V.mixed Tryd.func12 rfl Tryd.ntmps12 (by kernel_rfl) rfl rfl ?_
  repeat' ((conv => whnf); first | refine V.NCond.mk ?_ | refine V.NIf.not_ ?_ | refine V.NIf.dec_ ?_ | refine V.NIf.no (by omega) ?_ | refine V.NIf.yes (by omega) ?_ | refine V.NIf.mk (fun _ => ?_) (fun _ => ?_) | refine V.NWrap.ok (by omega) (by omega) ?_ | refine V.NWrap.u64 (by omega) (by omega) ?_ | refine V.NLt.mk (by omega) ?_ | refine V.NBoth.mk ?_ ?_ | refine V.NTF.yes (by omega) ?_ | refine V.NTF.no (by omega) ?_ | refine V.NTF.dec ?_ | refine V.NDraw.q (by exact rfl) (by kernel_rfl) ?_ | refine V.NApp.one (by first | omega | (simp; omega)) (by first | omega | (simp; omega)) ?_ | ((first | refine V.Fn.k (ck) [0, 2] rfl ?_ ?_ | refine V.Fn.q (ck) [0, 2] rfl ?_ ?_ | refine V.Fn.a (ck) [0, 2] rfl ?_ ?_); · ((repeat' (first | exact rfl | exact Iff.rfl | exact trivial | exact (fun _ _ => rfl) | exact (fun _ h => absurd h (Nat.not_lt_zero _)) | refine ⟨?_, ?_⟩ | exact Iff.rfl | exact congrArg (fun z => V.SV.one (V.At.val (Value.int .i64 z))) (by omega))); done)) | (refine V.NDraw.any (by kernel_rfl) ?_) | fail)
  all_goals (conv => whnf)
  · exact V.fin2 (h2 (by assumption) (by assumption))
  rotate_left
  · exact V.fin2 (h1 (by assumption))
  obtain ⟨ev, ee⟩ := h3 (by assumption) (by assumption)
  obtain ⟨hc0, ha, hb⟩ := Ca.chks2_ok (c := c) (a := a) (b := b) (by assumption)
  have ok := Ca.chk_ok hc0
  have hab : a ≤ b := by omega
  have ci := Ca.count_is (Ca.ok_nodup ok) hab
  unfold Ca.wk at ci
  have we := ok.1
  have hday := ok.2.2.1
  have n60 := ok.2.1
  unfold Ca.Day at ha hb hday
  clear h1 h2 h3 ck ok
  refine V.NLoop.auto (fun (k : Nat) => [(28, .one (.val (.int .i64 k))), (8, .one (.val (.int .i64 (Ca.sm (Ca.wd c) (-1) k))))]) (fun (k : Nat) => []) [] [] (fun (k : Nat) => 7 - k) (fun (k : Nat) => k ≤ 7) 0 (by omega) (by repeat' (first | exact rfl | exact Iff.rfl | exact trivial | exact (fun _ _ => rfl) | exact (fun _ h => absurd h (Nat.not_lt_zero _)) | refine ⟨?_, ?_⟩ | exact Iff.rfl | exact congrArg (fun z => V.SV.one (V.At.val (Value.int .i64 z))) (by omega))) (by repeat' (first | exact rfl | exact Iff.rfl | exact trivial | exact (fun _ _ => rfl) | exact (fun _ h => absurd h (Nat.not_lt_zero _)) | refine ⟨?_, ?_⟩ | exact Iff.rfl | exact congrArg (fun z => V.SV.one (V.At.val (Value.int .i64 z))) (by omega))) (fun _ => ⟨rfl, rfl⟩) ?_; (conv => whnf); refine ⟨⟨rfl, rfl⟩, ?_⟩
  rintro k hk
  have sb := Ca.smw_bd c (-1) k
  by_cases hlt : k < 7
  · have es : Ca.sm (Ca.wd c) (-1) (k + 1) = Ca.sm (Ca.wd c) (-1) k + (1 - c.we / 2 ^ k % 2) := by
      simp only [Ca.sm, Ca.wd]
      rw [show ((-1 + (k : Int) + 1) % 7).toNat = k by omega]
    repeat' ((conv => whnf); first | refine V.NCond.mk ?_ | refine V.NIf.not_ ?_ | refine V.NIf.dec_ ?_ | refine V.NIf.no (by omega) ?_ | refine V.NIf.yes (by omega) ?_ | refine V.NIf.mk (fun _ => ?_) (fun _ => ?_) | refine V.NWrap.ok (by omega) (by omega) ?_ | refine V.NWrap.u64 (by omega) (by omega) ?_ | refine V.NLt.mk (by omega) ?_ | refine V.NBoth.mk ?_ ?_ | refine V.NTF.yes (by omega) ?_ | refine V.NTF.no (by omega) ?_ | refine V.NTF.dec ?_ | refine V.NDraw.q (by exact rfl) (by kernel_rfl) ?_ | refine V.NApp.one (by first | omega | (simp; omega)) (by first | omega | (simp; omega)) ?_ | (refine NShr.i64 k rfl (by omega) (by omega) ?_; intro s hs hs0 hs1) | (refine NBit.one (by omega) (by omega) ?_; intro b hb) | (refine V.NDraw.any (by kernel_rfl) ?_) | fail)
    all_goals (conv => whnf)
    exact V.NBack.at_ (k + 1) [] (by omega) (by omega) ⟨(by repeat' (first | exact rfl | exact Iff.rfl | exact trivial | exact (fun _ _ => rfl) | exact (fun _ h => absurd h (Nat.not_lt_zero _)) | refine ⟨?_, ?_⟩ | exact Iff.rfl | exact congrArg (fun z => V.SV.one (V.At.val (Value.int .i64 z))) (by omega))), congrArg (fun z => V.SV.one (V.At.val (Value.int .i64 z))) (by rw [es, hb, hs]), trivial⟩ rfl (by repeat' (first | exact rfl | exact Iff.rfl | exact trivial | exact (fun _ _ => rfl) | exact (fun _ h => absurd h (Nat.not_lt_zero _)) | refine ⟨?_, ?_⟩ | exact Iff.rfl | exact congrArg (fun z => V.SV.one (V.At.val (Value.int .i64 z))) (by omega))) (by repeat' (first | exact rfl | exact Iff.rfl | exact trivial | exact (fun _ _ => rfl) | exact (fun _ h => absurd h (Nat.not_lt_zero _)) | refine ⟨?_, ?_⟩ | exact Iff.rfl | exact congrArg (fun z => V.SV.one (V.At.val (Value.int .i64 z))) (by omega))) (by repeat' (first | exact rfl | exact Iff.rfl | exact trivial | exact (fun _ _ => rfl) | exact (fun _ h => absurd h (Nat.not_lt_zero _)) | refine ⟨?_, ?_⟩ | exact Iff.rfl | exact congrArg (fun z => V.SV.one (V.At.val (Value.int .i64 z))) (by omega)))
  obtain rfl : k = 7 := by omega
  clear hk hlt
  generalize Ca.sm (Ca.wd c) (-1) 7 = W at *
  have mb : 0 ≤ (b - a) / 7 * W ∧ (b - a) / 7 * W ≤ (b - a) / 7 * 7 := ⟨Int.mul_nonneg (by omega) sb.1, Int.mul_le_mul_of_nonneg_left (by omega) (by omega)⟩
  repeat' ((conv => whnf); first | refine V.NCond.mk ?_ | refine V.NIf.not_ ?_ | refine V.NIf.dec_ ?_ | refine V.NIf.no (by omega) ?_ | refine V.NIf.yes (by omega) ?_ | refine V.NIf.mk (fun _ => ?_) (fun _ => ?_) | refine V.NWrap.ok (by omega) (by omega) ?_ | refine V.NWrap.u64 (by omega) (by omega) ?_ | refine V.NLt.mk (by omega) ?_ | refine V.NBoth.mk ?_ ?_ | refine V.NTF.yes (by omega) ?_ | refine V.NTF.no (by omega) ?_ | refine V.NTF.dec ?_ | refine V.NDraw.q (by exact rfl) (by kernel_rfl) ?_ | refine V.NApp.one (by first | omega | (simp; omega)) (by first | omega | (simp; omega)) ?_ | (refine NQuo.pos (by omega) (by omega) (by omega) ?_; rintro z rfl hz0 hz1) | (refine V.NDraw.any (by kernel_rfl) ?_) | fail)
  all_goals (conv => whnf)
  generalize (b - a) / 7 * W = Q at *
  refine V.NLoop.auto (fun (j : Nat) => [(10, .one (.val (.int .i64 (a + (b - a) / 7 * 7 + 1 + j)))), (6, .one (.val (.int .i64 (Q + Ca.sm (Ca.wd c) (a + (b - a) / 7 * 7) j))))]) (fun (j : Nat) => []) [] [] (fun (j : Nat) => 7 - j) (fun (j : Nat) => (j : Int) ≤ (b - a) % 7) 0 (by omega) (by (conv => whnf); exact ⟨congrArg (fun z => V.SV.one (V.At.val (Value.int .i64 z))) (by omega), congrArg (fun z => V.SV.one (V.At.val (Value.int .i64 z))) (by simp [Ca.sm]), trivial⟩) (by repeat' (first | exact rfl | exact Iff.rfl | exact trivial | exact (fun _ _ => rfl) | exact (fun _ h => absurd h (Nat.not_lt_zero _)) | refine ⟨?_, ?_⟩ | exact Iff.rfl | exact congrArg (fun z => V.SV.one (V.At.val (Value.int .i64 z))) (by omega))) (fun _ => ⟨rfl, rfl⟩) ?_; (conv => whnf); refine ⟨⟨rfl, rfl⟩, ?_⟩
  rintro j hj
  have sj := Ca.smw_bd c (a + (b - a) / 7 * 7) j
  by_cases hlt : (j : Int) < (b - a) % 7
  · have es : Ca.sm (Ca.wd c) (a + (b - a) / 7 * 7) (j + 1) = Ca.sm (Ca.wd c) (a + (b - a) / 7 * 7) j + (1 - c.we / 2 ^ ((a + (b - a) / 7 * 7 + 1 + j) % 7).toNat % 2) := by
      simp only [Ca.sm, Ca.wd]
      rw [show a + (b - a) / 7 * 7 + (j : Int) + 1 = a + (b - a) / 7 * 7 + 1 + j by omega]
    repeat' ((conv => whnf); first | refine V.NCond.mk ?_ | refine V.NIf.not_ ?_ | refine V.NIf.dec_ ?_ | refine V.NIf.no (by omega) ?_ | refine V.NIf.yes (by omega) ?_ | refine V.NIf.mk (fun _ => ?_) (fun _ => ?_) | refine V.NWrap.ok (by omega) (by omega) ?_ | refine V.NWrap.u64 (by omega) (by omega) ?_ | refine V.NLt.mk (by omega) ?_ | refine V.NBoth.mk ?_ ?_ | refine V.NTF.yes (by omega) ?_ | refine V.NTF.no (by omega) ?_ | refine V.NTF.dec ?_ | refine V.NDraw.q (by exact rfl) (by kernel_rfl) ?_ | refine V.NApp.one (by first | omega | (simp; omega)) (by first | omega | (simp; omega)) ?_ | (refine NRem.pos (by omega) (by omega) ?_; rintro r hr hr0 hr1) | (refine NShr.i64 ((a + (b - a) / 7 * 7 + 1 + j) % 7).toNat (by omega) (by omega) (by omega) ?_; intro s hs hs0 hs1) | (refine NBit.one (by omega) (by omega) ?_; intro b hb) | (refine V.NDraw.any (by kernel_rfl) ?_) | fail)
    all_goals (conv => whnf)
    exact V.NBack.at_ (j + 1) [] (by omega) (by omega) ⟨congrArg (fun z => V.SV.one (V.At.val (Value.int .i64 z))) (by omega), congrArg (fun z => V.SV.one (V.At.val (Value.int .i64 z))) (by rw [es, hb, hs]; omega), trivial⟩ rfl (by repeat' (first | exact rfl | exact Iff.rfl | exact trivial | exact (fun _ _ => rfl) | exact (fun _ h => absurd h (Nat.not_lt_zero _)) | refine ⟨?_, ?_⟩ | exact Iff.rfl | exact congrArg (fun z => V.SV.one (V.At.val (Value.int .i64 z))) (by omega))) (by repeat' (first | exact rfl | exact Iff.rfl | exact trivial | exact (fun _ _ => rfl) | exact (fun _ h => absurd h (Nat.not_lt_zero _)) | refine ⟨?_, ?_⟩ | exact Iff.rfl | exact congrArg (fun z => V.SV.one (V.At.val (Value.int .i64 z))) (by omega))) (by repeat' (first | exact rfl | exact Iff.rfl | exact trivial | exact (fun _ _ => rfl) | exact (fun _ h => absurd h (Nat.not_lt_zero _)) | refine ⟨?_, ?_⟩ | exact Iff.rfl | exact congrArg (fun z => V.SV.one (V.At.val (Value.int .i64 z))) (by omega)))
  have ej : ((b - a) % 7).toNat = j := by omega
  rw [ej] at ci
  clear ej
  generalize Ca.sm (Ca.wd c) (a + (b - a) / 7 * 7) j = R at *
  repeat' ((conv => whnf); first | refine V.NCond.mk ?_ | refine V.NIf.not_ ?_ | refine V.NIf.dec_ ?_ | refine V.NIf.no (by omega) ?_ | refine V.NIf.yes (by omega) ?_ | refine V.NIf.mk (fun _ => ?_) (fun _ => ?_) | refine V.NWrap.ok (by omega) (by omega) ?_ | refine V.NWrap.u64 (by omega) (by omega) ?_ | refine V.NLt.mk (by omega) ?_ | refine V.NBoth.mk ?_ ?_ | refine V.NTF.yes (by omega) ?_ | refine V.NTF.no (by omega) ?_ | refine V.NTF.dec ?_ | refine V.NDraw.q (by exact rfl) (by kernel_rfl) ?_ | refine V.NApp.one (by first | omega | (simp; omega)) (by first | omega | (simp; omega)) ?_ | (refine V.NDraw.any (by kernel_rfl) ?_) | fail)
  all_goals (conv => whnf)
  refine V.NLoop.auto (fun (k : Nat) => [(71, .one (.val (.int .i64 k))), (6, .one (.val (.int .i64 (Q + R - Ca.hc c a b (c.hs.take k)))))]) (fun (k : Nat) => []) [] [] (fun (k : Nat) => c.hs.length - k) (fun (k : Nat) => k ≤ c.hs.length) 0 (Nat.zero_le _) (by (conv => whnf); exact ⟨(by repeat' (first | exact rfl | exact Iff.rfl | exact trivial | exact (fun _ _ => rfl) | exact (fun _ h => absurd h (Nat.not_lt_zero _)) | refine ⟨?_, ?_⟩ | exact Iff.rfl | exact congrArg (fun z => V.SV.one (V.At.val (Value.int .i64 z))) (by omega))), congrArg (fun z => V.SV.one (V.At.val (Value.int .i64 z))) (by simp [Ca.hc]), trivial⟩) (by repeat' (first | exact rfl | exact Iff.rfl | exact trivial | exact (fun _ _ => rfl) | exact (fun _ h => absurd h (Nat.not_lt_zero _)) | refine ⟨?_, ?_⟩ | exact Iff.rfl | exact congrArg (fun z => V.SV.one (V.At.val (Value.int .i64 z))) (by omega))) (fun _ => ⟨rfl, rfl⟩) ?_; (conv => whnf); refine ⟨⟨rfl, rfl⟩, ?_⟩
  rintro k hk
  have hbd := Ca.hc_bd c a b (c.hs.take k)
  rw [List.length_take] at hbd
  by_cases hlt : k < c.hs.length
  · have hd := hday _ (getD_mem hlt)
    have es : Ca.hc c a b (c.hs.take (k + 1)) = Ca.hc c a b (c.hs.take k) + (if a < c.hs.getD k default ∧ c.hs.getD k default ≤ b ∧ Ca.wd c (c.hs.getD k default) = 1 then 1 else 0) := by
      rw [List.take_succ_eq_append_getElem hlt, Ca.hc_snoc, ← getD_at hlt]
    have ew : Ca.wd c (c.hs.getD k default) = 1 - c.we / 2 ^ (c.hs.getD k default % 7).toNat % 2 := rfl
    repeat' ((conv => whnf); first | refine V.NCond.mk ?_ | refine V.NIf.not_ ?_ | refine V.NIf.dec_ ?_ | refine V.NIf.no (by omega) ?_ | refine V.NIf.yes (by omega) ?_ | refine V.NIf.mk (fun _ => ?_) (fun _ => ?_) | refine V.NWrap.ok (by omega) (by omega) ?_ | refine V.NWrap.u64 (by omega) (by omega) ?_ | refine V.NLt.mk (by omega) ?_ | refine V.NBoth.mk ?_ ?_ | refine V.NTF.yes (by omega) ?_ | refine V.NTF.no (by omega) ?_ | refine V.NTF.dec ?_ | refine V.NDraw.q (by exact rfl) (by kernel_rfl) ?_ | refine V.NApp.one (by first | omega | (simp; omega)) (by first | omega | (simp; omega)) ?_ | (refine NIdx.mk ⟨k, rfl, by omega, ?_⟩) | (refine NRem.pos (by omega) (by omega) ?_; rintro r hr hr0 hr1) | (refine NShr.i64 (c.hs.getD k default % 7).toNat (by omega) (by omega) (by omega) ?_; intro s hs hs0 hs1) | (refine NBit.one (by omega) (by omega) ?_; intro bt hbt) | (refine V.NDraw.any (by kernel_rfl) ?_) | fail)
    all_goals (conv => whnf)
    all_goals refine V.NBack.at_ (k + 1) [] (by omega) (by omega) ⟨(by repeat' (first | exact rfl | exact Iff.rfl | exact trivial | exact (fun _ _ => rfl) | exact (fun _ h => absurd h (Nat.not_lt_zero _)) | refine ⟨?_, ?_⟩ | exact Iff.rfl | exact congrArg (fun z => V.SV.one (V.At.val (Value.int .i64 z))) (by omega))), congrArg (fun z => V.SV.one (V.At.val (Value.int .i64 z))) ?_, trivial⟩ rfl (by repeat' (first | exact rfl | exact Iff.rfl | exact trivial | exact (fun _ _ => rfl) | exact (fun _ h => absurd h (Nat.not_lt_zero _)) | refine ⟨?_, ?_⟩ | exact Iff.rfl | exact congrArg (fun z => V.SV.one (V.At.val (Value.int .i64 z))) (by omega))) (by repeat' (first | exact rfl | exact Iff.rfl | exact trivial | exact (fun _ _ => rfl) | exact (fun _ h => absurd h (Nat.not_lt_zero _)) | refine ⟨?_, ?_⟩ | exact Iff.rfl | exact congrArg (fun z => V.SV.one (V.At.val (Value.int .i64 z))) (by omega))) (by repeat' (first | exact rfl | exact Iff.rfl | exact trivial | exact (fun _ _ => rfl) | exact (fun _ h => absurd h (Nat.not_lt_zero _)) | refine ⟨?_, ?_⟩ | exact Iff.rfl | exact congrArg (fun z => V.SV.one (V.At.val (Value.int .i64 z))) (by omega)))
    all_goals rw [es]
    all_goals first
      | (rw [if_neg (by omega)]; omega)
      | (rw [if_pos (by omega)]; omega)
      | (rw [if_pos ⟨by omega, by omega, by rw [ew, ← hs]; omega⟩]; omega)
      | (rw [if_neg (fun q => by have := q.2.2; rw [ew, ← hs] at this; omega)]; omega)
      | trace_state
  obtain rfl : k = c.hs.length := by omega
  rw [List.take_length] at *
  repeat' ((conv => whnf); first | refine V.NCond.mk ?_ | refine V.NIf.not_ ?_ | refine V.NIf.dec_ ?_ | refine V.NIf.no (by omega) ?_ | refine V.NIf.yes (by omega) ?_ | refine V.NIf.mk (fun _ => ?_) (fun _ => ?_) | refine V.NWrap.ok (by omega) (by omega) ?_ | refine V.NWrap.u64 (by omega) (by omega) ?_ | refine V.NLt.mk (by omega) ?_ | refine V.NBoth.mk ?_ ?_ | refine V.NTF.yes (by omega) ?_ | refine V.NTF.no (by omega) ?_ | refine V.NTF.dec ?_ | refine V.NDraw.q (by exact rfl) (by kernel_rfl) ?_ | refine V.NApp.one (by first | omega | (simp; omega)) (by first | omega | (simp; omega)) ?_ | (refine V.NDraw.any (by kernel_rfl) ?_) | fail)
  all_goals (conv => whnf)
  exact V.fin2 ⟨ev.trans ci, ee⟩
end Go.Proofs.YtngjkjadncgdgaaDoor

/- The walk of the check of a day. -/
namespace Go.Proofs.YtngjkjadncgdgaaDoor
open Go.RowKit
theorem check_any (n : Int) (w : World) : Calls Tryd.prog 32 #[.int .i64 n] w fun e w' => e = .returned (.int .i64 (D.chk n)) ∧ w = w' := by
  go_enter Tryd.func32, Tryd.ntmps32
  go_wp2
  all_goals go_ret
  all_goals first | (rw [D.chk_no (by omega)]; exact ⟨rfl, rfl⟩) | (rw [D.chk_yes (by omega) (by omega)]; exact ⟨rfl, rfl⟩)
end Go.Proofs.YtngjkjadncgdgaaDoor

/- The walks of the functions of the package 'date': what each computes. -/
namespace Go.Proofs.YtngjkjadncgdgaaDoor
open Go.RowKit
set_option maxRecDepth 100000

def longAt (m : Int) : Int := if m = 2 then 28 else if m = 4 ∨ m = 6 ∨ m = 9 ∨ m = 11 then 30 else 31
def LongIs (w : World) : Prop := ∀ m : Int, 1 ≤ m → m ≤ 12 → w.cell? ⟨0, m.toNat - 1, none⟩ = some (.int .i64 (longAt m))

theorem isYear_any (y : Int) (w : World) : Calls Tryd.prog 42 #[.int .i64 y] w fun e w' => e = .returned (.bool (decide (1 ≤ y ∧ y ≤ 9999))) ∧ w = w' := by
  go_enter Tryd.func42, Tryd.ntmps42
  go_wp2
  all_goals (go_ret; exact ⟨by simp [*] <;> omega, rfl⟩)

theorem leap_any (y : Int) (h0 : 1 ≤ y) (h1 : y ≤ 20000) (w : World) : Calls Tryd.prog 45 #[.int .i64 y] w fun e w' => e = .returned (.bool (D.lp y)) ∧ w = w' := by
  go_enter Tryd.func45, Tryd.ntmps45
  go_wp2
  all_goals (go_ret; exact ⟨by simp [D.lp, bne, *], rfl⟩)

theorem days_any (y m : Int) (h0 : 1 ≤ y) (h1 : y ≤ 20000) (hm0 : 1 ≤ m) (hm1 : m ≤ 12) (w : World) (hl : LongIs w) : Calls Tryd.prog 43 #[.int .i64 y, .int .i64 m] w fun e w' => e = .returned (.int .i64 (D.ml y m)) ∧ w = w' := by
  have hc := hl m hm0 hm1
  by_cases hm : m = 2
  · subst hm
    by_cases hy : D.lp y = true
    · have e := D.L_of hy
      go_enter Tryd.func43, Tryd.ntmps43
      go_wp2_with (go_at_call 45; refine (leap_any _ (by omega) (by omega) _).mono ?_; rintro e w' ⟨rfl, rfl⟩)
      go_ret
      exact ⟨by simp [D.ml, e], rfl⟩
    · have hy' : D.lp y = false := by simpa using hy
      have e := D.L_not hy'
      have hc : w.cell? ⟨0, 1, none⟩ = some (.int .i64 28) := hl 2 (by omega) (by omega)
      go_enter Tryd.func43, Tryd.ntmps43
      go_wp2_with (go_at_call 45; refine (leap_any _ (by omega) (by omega) _).mono ?_; rintro e w' ⟨rfl, rfl⟩)
      go_ret
      exact ⟨by simp [D.ml, e], rfl⟩
  · have hb : (m == 2) = false := by simpa using hm
    go_enter Tryd.func43, Tryd.ntmps43
    go_wp2
    go_ret
    exact ⟨by simp [D.ml, hm, longAt], rfl⟩

theorem raw_any (y m d : Int) (h0 : 1 ≤ y) (h1 : y ≤ 20000) (hm0 : 1 ≤ m) (hm1 : m ≤ 12) (hd0 : 0 ≤ d) (hd1 : d ≤ 400) (w : World) (hl : LongIs w) : Calls Tryd.prog 44 #[.int .i64 y, .int .i64 m, .int .i64 d] w fun e w' => e = .returned (.int .i64 (D.raw y m d)) ∧ w = w' := by
  have hb := D.dby_bd y h0 h1
  go_enter Tryd.func44, Tryd.ntmps44
  go_wp2
  go_loop [7, 8] (fun n i => ∃ k : Int, 1 ≤ k ∧ k ≤ m ∧ i = .int .i64 k ∧ n = .int .i64 (D.dby y + D.cum y k)) (fun _ i => (m - intOf i).toNat)
  case atStart => exact ⟨1, by omega, by omega, rfl, by rw [D.cum_one]; simp [D.dby]⟩
  case round =>
    obtain ⟨k, hk0, hk1, rfl, rfl⟩ := hrel
    have hcb := D.cum_bd y k hk0 (by omega)
    have hml := D.ml_bd y k
    have hL := D.L_01 y
    by_cases hlt : k < m
    · have hs := D.cum_succ y k hk0 (by omega)
      go_wp2_with (go_at_call 43; refine (days_any y k h0 h1 (by omega) (by omega) _ hl).mono ?_; rintro e w' ⟨rfl, rfl⟩)
      go_round
      case rel => exact ⟨k + 1, by omega, by omega, rfl, by rw [hs]; go_num⟩
      case measure => simp [intOf]; omega
    · obtain rfl : k = m := by omega
      go_wp2
      go_ret
      exact ⟨by simp [D.raw], rfl⟩

theorem from_any (y m d : Int) (w : World) (hl : LongIs w) : Calls Tryd.prog 33 #[.int .i64 y, .int .i64 m, .int .i64 d] w fun e w' => e = .returned (.tuple #[.int .i64 (D.fromV y m d), .int .i64 (D.fromE y m d)]) ∧ w = w' := by
  have hml := D.ml_bd y m
  go_enter Tryd.func33, Tryd.ntmps33
  go_wp2_with (first | (go_at_call 42; refine (isYear_any _ _).mono ?_; rintro e w' ⟨rfl, rfl⟩) | (go_at_call 43; refine (days_any _ _ (by omega) (by omega) (by omega) (by omega) _ hl).mono ?_; rintro e w' ⟨rfl, rfl⟩) | (go_at_call 44; refine (raw_any _ _ _ (by omega) (by omega) (by omega) (by omega) (by omega) (by omega) _ hl).mono ?_; rintro e w' ⟨rfl, rfl⟩))
  all_goals go_ret2
  all_goals first | (rw [D.fromV_no (by unfold D.Valid; omega), D.fromE_no (by unfold D.Valid; omega)]; exact ⟨rfl, rfl⟩) | (rw [D.fromV_yes (by unfold D.Valid; omega), D.fromE_yes (by unfold D.Valid; omega)]; exact ⟨rfl, rfl⟩)

theorem split_any (n : Int) (h0 : 0 ≤ n) (h1 : n ≤ 3652058) (w : World) (hl : LongIs w) : Calls Tryd.prog 37 #[.int .i64 n] w fun e w' => e = .returned (.tuple #[.int .i64 (D.yO n), .int .i64 (D.mO n), .int .i64 (D.dO n)]) ∧ w = w' := by
  have g := D.guess h0 h1
  obtain ⟨b1, b2, b3, b4, b5, b6, b7, b8, b9⟩ := D.of_bds h0 h1
  generalize D.yO n = Y, D.mO n = M, D.dO n = E' at *
  have B := hid b7
  have b71 : n ≤ D.dby Y + D.cum Y M + E' - 1 := by omega
  clear b7
  go_enter Tryd.func37, Tryd.ntmps37
  go_wp2
  go_loop [2] (fun t => ∃ y : Int, 1 ≤ y ∧ y ≤ Y ∧ t = .int .i64 y) (fun t => (Y - intOf t).toNat)
  case atStart => exact ⟨_, by omega, by omega, rfl⟩
  case round =>
    obtain ⟨y, hy0, hy1, rfl⟩ := hrel
    have hr : D.raw (y + 1) 1 1 = D.dby (y + 1) := by unfold D.raw; rw [D.cum_one]; omega
    have hb := D.dby_bd (y + 1) (by omega) (by omega)
    by_cases hlt : y < Y
    · have hle : D.raw (y + 1) 1 1 ≤ n := by
        rw [hr]
        by_cases e : y + 1 = Y
        · rw [e]; omega
        · have := D.dby_mono (y := y + 1) (z := Y) (by omega); have := D.L_01 (y + 1); omega
      clear hr
      go_wp2_with (go_at_call 44; refine (raw_any _ _ _ (by omega) (by omega) (by omega) (by omega) (by omega) (by omega) _ hl).mono ?_; rintro e w' ⟨rfl, rfl⟩)
      go_round
      case rel => exact ⟨y + 1, by omega, by omega, rfl⟩
      case measure => simp [intOf]; omega
    · obtain rfl : y = Y := by omega
      have hle : ¬ D.raw (y + 1) 1 1 ≤ n := by rw [hr]; omega
      have hr1 : D.raw y 1 1 = D.dby y := by unfold D.raw; rw [D.cum_one]; omega
      have hb1 := D.dby_bd y (by omega) (by omega)
      have hr2 : D.raw y 1 1 ≤ D.dby y := by omega
      have hr3 : D.dby y ≤ D.raw y 1 1 := by omega
      clear hr hr1 hb
      go_wp2_with (go_at_call 44; refine (raw_any _ _ _ (by omega) (by omega) (by omega) (by omega) (by omega) (by omega) _ hl).mono ?_; rintro e w' ⟨rfl, rfl⟩)
      go_loop [3, 4] (fun m d => ∃ k : Int, 1 ≤ k ∧ k ≤ M ∧ m = .int .i64 k ∧ d = .int .i64 (n - D.dby y - D.cum y k + 1)) (fun m _ => (M - intOf m).toNat)
      case atStart => exact ⟨1, by omega, by omega, rfl, by rw [D.cum_one]; have e1 : D.raw y 1 1 = D.dby y := by omega
                                                            rw [e1]; go_num⟩
      case round =>
        obtain ⟨k, hk0, hk1, rfl, rfl⟩ := hrel
        have hc := D.cum_bd y k hk0 (by omega)
        have hm := D.ml_bd y k
        have hL := D.L_01 y
        by_cases hlt : k < M
        · have hlt' : ¬ n - D.dby y - D.cum y k + 1 ≤ D.ml y k := by have := D.cum_mono y hk0 hlt b4; have := B.out; omega
          have hs := D.cum_succ y k hk0 (by omega)
          have HS := hid hs
          clear hs
          go_wp2_with (go_at_call 43; refine (days_any _ _ (by omega) (by omega) (by omega) (by omega) _ hl).mono ?_; rintro e w' ⟨rfl, rfl⟩)
          go_round
          case rel => exact ⟨k + 1, by omega, by omega, rfl, by rw [HS.out]; go_num⟩
          case measure => simp [intOf]; omega
        · obtain rfl : k = M := by omega
          have hge : n - D.dby y - D.cum y k + 1 ≤ D.ml y k := by have := B.out; omega
          go_wp2_with (go_at_call 43; refine (days_any _ _ (by omega) (by omega) (by omega) (by omega) _ hl).mono ?_; rintro e w' ⟨rfl, rfl⟩)
          go_ret3
          have e1 : n - D.dby y - D.cum y k + 1 = E' := by have := B.out; omega
          exact ⟨by rw [e1]; rfl, rfl⟩

theorem of_any (n : Int) (w : World) (hl : LongIs w) : Calls Tryd.prog 23 #[.int .i64 n] w fun e w' => e = .returned (.tuple #[.int .i64 (D.yO' n), .int .i64 (D.mO' n), .int .i64 (D.dO' n), .int .i64 (D.chk n)]) ∧ w = w' := by
  by_cases h : 0 ≤ n ∧ n ≤ 3652058
  · have hc := D.chk_yes h.1 h.2
    obtain ⟨e1, e2, e3⟩ := D.o_yes h
    have E1 := hid e1; have E2 := hid e2; have E3 := hid e3; clear e1 e2 e3
    go_enter Tryd.func23, Tryd.ntmps23
    go_wp2_with (first | (go_at_call 32; refine (check_any _ _).mono ?_; rintro e w' ⟨rfl, rfl⟩) | (go_at_call 37; refine (split_any _ (by omega) (by omega) _ hl).mono ?_; rintro e w' ⟨rfl, rfl⟩))
    refine bodyPost_ret (results_tmp4 rfl _ _ _) rfl ⟨?_, rfl⟩
    rw [E1.out, E2.out, E3.out, hc]; rfl
  · have hc := D.chk_no h
    obtain ⟨e1, e2, e3⟩ := D.o_no h
    go_enter Tryd.func23, Tryd.ntmps23
    go_wp2_with (first | (go_at_call 32; refine (check_any _ _).mono ?_; rintro e w' ⟨rfl, rfl⟩))
    refine bodyPost_ret (results_tmp4 rfl _ _ _) rfl ⟨?_, rfl⟩
    rw [e1, e2, e3, hc]; rfl

theorem week_any (n : Int) (w : World) : Calls Tryd.prog 34 #[.int .i64 n] w fun e w' => e = .returned (.tuple #[.int .i64 (D.wk n), .int .i64 (D.chk n)]) ∧ w = w' := by
  by_cases h : 0 ≤ n ∧ n ≤ 3652058
  · have hc := D.chk_yes h.1 h.2
    have E := hid (D.wk_yes h)
    go_enter Tryd.func34, Tryd.ntmps34
    go_wp2_with (go_at_call 32; refine (check_any _ _).mono ?_; rintro e w' ⟨rfl, rfl⟩)
    go_ret2
    exact ⟨by rw [E.out, hc]; rfl, rfl⟩
  · have hc := D.chk_no h
    have E := D.wk_no h
    go_enter Tryd.func34, Tryd.ntmps34
    go_wp2_with (go_at_call 32; refine (check_any _ _).mono ?_; rintro e w' ⟨rfl, rfl⟩)
    go_ret2
    exact ⟨by rw [E, hc]; rfl, rfl⟩

theorem Leap_any (y : Int) (w : World) : Calls Tryd.prog 35 #[.int .i64 y] w fun e w' => e = .returned (.tuple #[.bool (D.leB y), .int .i64 (D.leE y)]) ∧ w = w' := by
  by_cases h : 1 ≤ y ∧ y ≤ 9999
  · have E1 := hid (D.leB_yes h)
    have E2 := hid (D.leE_yes h)
    have h1 := h.1
    have h2 := h.2
    go_enter Tryd.func35, Tryd.ntmps35
    go_wp2_with (first | (go_at_call 42; refine (isYear_any _ _).mono ?_; rintro e w' ⟨rfl, rfl⟩) | (go_at_call 45; refine (leap_any _ (by omega) (by omega) _).mono ?_; rintro e w' ⟨rfl, rfl⟩))
    go_ret2
    exact ⟨by rw [E1.out, E2.out]; rfl, rfl⟩
  · have E1 := hid (D.leB_no h)
    have E2 := hid (D.leE_no h)
    have h3 : decide (1 ≤ y ∧ y ≤ 9999) = false := by simpa using h
    go_enter Tryd.func35, Tryd.ntmps35
    go_wp2_with (first | (go_at_call 42; refine (isYear_any _ _).mono ?_; rintro e w' ⟨rfl, rfl⟩))
    go_ret2
    exact ⟨by rw [E1.out, E2.out]; rfl, rfl⟩

theorem months_any (n many : Int) (hm0 : -9223372036854775808 ≤ many) (hm1 : many ≤ 9223372036854775807) (w : World) (hl : LongIs w) : Calls Tryd.prog 36 #[.int .i64 n, .int .i64 many] w fun e w' => e = .returned (.tuple #[.int .i64 (D.moV n many), .int .i64 (D.moE n many)]) ∧ w = w' := by
  by_cases h : 0 ≤ n ∧ n ≤ 3652058
  · have hc := D.chk_yes h.1 h.2
    by_cases h2 : many < -120000
    · have E1 := hid (D.mo_wide1 h (.inl h2)); 
      go_enter Tryd.func36, Tryd.ntmps36
      go_wp2_with (first | (go_at_call 32; refine (check_any _ _).mono ?_; rintro e w' ⟨rfl, rfl⟩))
      go_ret2
      exact ⟨by rw [E1.out.1, E1.out.2]; rfl, rfl⟩
    by_cases h3 : 120000 < many
    · have E1 := hid (D.mo_wide1 h (.inr h3)); 
      go_enter Tryd.func36, Tryd.ntmps36
      go_wp2_with (first | (go_at_call 32; refine (check_any _ _).mono ?_; rintro e w' ⟨rfl, rfl⟩))
      go_ret2
      exact ⟨by rw [E1.out.1, E1.out.2]; rfl, rfl⟩
    obtain ⟨b1, b2, b3, b4, b5, b6, b7, b8, b9⟩ := D.of_bds h.1 h.2
    have E0 := hid (D.mo_yes (many := many) h (by omega) (by omega))
    have HM := D.ml_bd (D.yO n) (D.mO n)
    clear b7 b8 b9
    have hml := D.ml_bd ((12 * D.yO n + D.mO n - 1 + many) / 12) ((12 * D.yO n + D.mO n - 1 + many) % 12 + 1)
    by_cases h4 : 12 * D.yO n + D.mO n - 1 + many < 12
    · have E1 := hid (E0.out.1 (.inl h4)); clear E0
      go_enter Tryd.func36, Tryd.ntmps36
      go_wp2_with (first | (go_at_call 32; refine (check_any _ _).mono ?_; rintro e w' ⟨rfl, rfl⟩) | (go_at_call 37; refine (split_any _ (by omega) (by omega) _ hl).mono ?_; rintro e w' ⟨rfl, rfl⟩) | (go_at_call 42; refine (isYear_any _ _).mono ?_; rintro e w' ⟨rfl, rfl⟩) | (go_at_call 43; refine (days_any _ _ (by omega) (by omega) (by omega) (by omega) _ hl).mono ?_; rintro e w' ⟨rfl, rfl⟩) | (go_at_call 44; refine (raw_any _ _ _ (by omega) (by omega) (by omega) (by omega) (by omega) (by omega) _ hl).mono ?_; rintro e w' ⟨rfl, rfl⟩))
      go_ret2
      exact ⟨by rw [E1.out.1, E1.out.2]; rfl, rfl⟩
    by_cases h5 : 120000 ≤ 12 * D.yO n + D.mO n - 1 + many
    · have h6 : decide (1 ≤ (12 * D.yO n + D.mO n - 1 + many) / 12 ∧ (12 * D.yO n + D.mO n - 1 + many) / 12 ≤ 9999) = false := by rw [decide_eq_false_iff_not]; omega
      have E1 := hid (E0.out.1 (.inr h5)); clear E0
      go_enter Tryd.func36, Tryd.ntmps36
      go_wp2_with (first | (go_at_call 32; refine (check_any _ _).mono ?_; rintro e w' ⟨rfl, rfl⟩) | (go_at_call 37; refine (split_any _ (by omega) (by omega) _ hl).mono ?_; rintro e w' ⟨rfl, rfl⟩) | (go_at_call 42; refine (isYear_any _ _).mono ?_; rintro e w' ⟨rfl, rfl⟩) | (go_at_call 43; refine (days_any _ _ (by omega) (by omega) (by omega) (by omega) _ hl).mono ?_; rintro e w' ⟨rfl, rfl⟩) | (go_at_call 44; refine (raw_any _ _ _ (by omega) (by omega) (by omega) (by omega) (by omega) (by omega) _ hl).mono ?_; rintro e w' ⟨rfl, rfl⟩))
      go_ret2
      exact ⟨by rw [E1.out.1, E1.out.2]; rfl, rfl⟩
    · have h6 : decide (1 ≤ (12 * D.yO n + D.mO n - 1 + many) / 12 ∧ (12 * D.yO n + D.mO n - 1 + many) / 12 ≤ 9999) = true := by rw [decide_eq_true_iff]; omega
      have E1 := hid (E0.out.2 ⟨by omega, by omega⟩); clear E0
      go_enter Tryd.func36, Tryd.ntmps36
      go_wp2_with (first | (go_at_call 32; refine (check_any _ _).mono ?_; rintro e w' ⟨rfl, rfl⟩) | (go_at_call 37; refine (split_any _ (by omega) (by omega) _ hl).mono ?_; rintro e w' ⟨rfl, rfl⟩) | (go_at_call 42; refine (isYear_any _ _).mono ?_; rintro e w' ⟨rfl, rfl⟩) | (go_at_call 43; refine (days_any _ _ (by omega) (by omega) (by omega) (by omega) _ hl).mono ?_; rintro e w' ⟨rfl, rfl⟩) | (go_at_call 44; refine (raw_any _ _ _ (by omega) (by omega) (by omega) (by omega) (by omega) (by omega) _ hl).mono ?_; rintro e w' ⟨rfl, rfl⟩))
      all_goals go_ret2
      all_goals refine ⟨?_, rfl⟩
      all_goals rw [E1.out.1, E1.out.2]
      all_goals first | (rw [Int.min_eq_left (by omega)]; rfl) | (rw [Int.min_eq_right (by omega)]; rfl)
  · have hc := D.chk_no h
    have E1 := hid (D.mo_no (many := many) h)
    go_enter Tryd.func36, Tryd.ntmps36
    go_wp2_with (first | (go_at_call 32; refine (check_any _ _).mono ?_; rintro e w' ⟨rfl, rfl⟩))
    go_ret2
    exact ⟨by rw [E1.out.1, E1.out.2]; rfl, rfl⟩
end Go.Proofs.YtngjkjadncgdgaaDoor

/- The walks of the document's own functions on dates, and of the law's own helper. -/
namespace Go.Proofs.YtngjkjadncgdgaaDoor
open Go.RowKit
set_option maxRecDepth 100000

theorem between_any (n a b : Int) (w : World) : Calls Tryd.prog 29 #[.int .i64 n, .int .i64 a, .int .i64 b] w fun e w' => e = .returned (.bool (decide (a ≤ n ∧ n ≤ b))) ∧ w = w' := by
  go_enter Tryd.func29, Tryd.ntmps29
  go_wp2
  all_goals (go_ret; exact ⟨by simp [*] <;> omega, rfl⟩)

theorem rleap_any (y : Int) (h0 : 1 ≤ y) (h1 : y ≤ 20000) (w : World) : Calls Tryd.prog 40 #[.int .i64 y] w fun e w' => e = .returned (.bool (D.lp y)) ∧ w = w' := by
  by_cases c : y % 400 = 0
  · have E := hid (show D.lp y = true by simp [D.lp, c]; omega)
    go_enter Tryd.func40, Tryd.ntmps40
    go_wp2
    go_ret
    exact ⟨by rw [E.out]; rfl, rfl⟩
  · have c' : (y % 400 == 0) = false := by simpa using c
    have E := hid (show D.lp y = (y % 4 == 0 && y % 100 != 0) by simp [D.lp, c', bne])
    go_enter Tryd.func40, Tryd.ntmps40
    go_wp2
    all_goals (go_ret; exact ⟨ret_bool (by rw [E.out]; simp [*]), rfl⟩)

theorem rml_any (y m : Int) (h0 : 1 ≤ y) (h1 : y ≤ 20000) (w : World) : Calls Tryd.prog 41 #[.int .i64 y, .int .i64 m] w fun e w' => e = .returned (.int .i64 (D.ml y m)) ∧ w = w' := by
  by_cases hm : m = 2
  · subst hm
    by_cases hy : D.lp y = true
    · have e := hid (D.L_of hy)
      go_enter Tryd.func41, Tryd.ntmps41
      go_wp2_with (go_at_call 40; refine (rleap_any _ (by omega) (by omega) _).mono ?_; rintro e w' ⟨rfl, rfl⟩)
      go_ret
      exact ⟨ret_int (by simp [D.ml, e.out]), rfl⟩
    · have hy' : D.lp y = false := by simpa using hy
      have e := hid (D.L_not hy')
      go_enter Tryd.func41, Tryd.ntmps41
      go_wp2_with (go_at_call 40; refine (rleap_any _ (by omega) (by omega) _).mono ?_; rintro e w' ⟨rfl, rfl⟩)
      go_ret
      exact ⟨ret_int (by simp [D.ml, e.out]), rfl⟩
  · have hb : (m == 2) = false := by simpa using hm
    by_cases h : m = 4 ∨ m = 6 ∨ m = 9 ∨ m = 11
    · have E := hid (show D.ml y m = 30 by unfold D.ml; rw [if_neg hm, if_pos h])
      rcases h with h | h | h | h <;> subst h <;> (go_enter Tryd.func41, Tryd.ntmps41; go_wp2; go_ret; exact ⟨ret_int (by rw [E.out]), rfl⟩)
    · have E := hid (show D.ml y m = 31 by unfold D.ml; rw [if_neg hm, if_neg h])
      have h4 : (m == 4) = false := by rw [beq_eq_false_iff_ne]; omega
      have h6 : (m == 6) = false := by rw [beq_eq_false_iff_ne]; omega
      have h9 : (m == 9) = false := by rw [beq_eq_false_iff_ne]; omega
      have h11 : (m == 11) = false := by rw [beq_eq_false_iff_ne]; omega
      go_enter Tryd.func41, Tryd.ntmps41
      go_wp2
      go_ret
      exact ⟨ret_int (by rw [E.out]), rfl⟩

theorem rof_any (n : Int) (w : World) : Calls Tryd.prog 30 #[.int .i64 n] w fun e w' => e = .returned (.tuple #[.int .i64 (D.yO' n), .int .i64 (D.mO' n), .int .i64 (D.dO' n), .int .i64 (D.chk n)]) ∧ w = w' := by
  by_cases h : 0 ≤ n ∧ n ≤ 3652058
  · have a1 : decide (0 ≤ n ∧ n ≤ 3652058) = true := by simpa using h
    have hc := hid (D.chk_yes h.1 h.2)
    obtain ⟨e1, e2, e3⟩ := D.o_yes h
    have E1 := hid e1; have E2 := hid e2; have E3 := hid e3; clear e1 e2 e3
    have g := D.guess4 h.1 h.2
    obtain ⟨b1, b2, b3, b4, b5, b6, b7, b8, b9⟩ := D.of_bds h.1 h.2
    have B := hid b7
    clear b7
    generalize hY : D.yO n = Y, D.mO n = M, D.dO n = E' at *
    clear hY
    go_enter Tryd.func30, Tryd.ntmps30
    go_wp2_with (first | (go_at_call 29; refine (between_any _ _ _ _).mono ?_; rintro e w' ⟨rfl, rfl⟩))
    go_loop [0, 6, 7] (fun t a _ => ∃ y : Int, 1 ≤ y ∧ y ≤ Y ∧ a = .int .i64 y ∧ t = .int .i64 (n - D.dby y)) (fun _ a _ => (Y - intOf a).toNat)
    case atStart => exact ⟨1 + n / 146097 * 400, by omega, by omega, rfl, by rw [D.dby_4]; congr 1; omega⟩
    case round =>
      obtain ⟨y, hy0, hy1, rfl, rfl⟩ := hrel
      have hs := hid (D.dby_succ y)
      have hb := D.dby_bd y hy0 (by omega)
      by_cases hlt : y < Y
      · have hle := D.dby_mono hlt
        by_cases hy : D.lp y = true
        · have e := D.L_of hy
          rw [e] at hle; have e := hid e
          go_wp2_with (first | (go_at_call 40; refine (rleap_any _ (by omega) (by omega) _).mono ?_; rintro e w' ⟨rfl, rfl⟩))
          go_round
          case rel => exact ⟨y + 1, by omega, by omega, rfl, by rw [hs.out, e.out]; first | done | go_num⟩
          case measure => simp [intOf]; omega
        · have hy' : D.lp y = false := by simpa using hy
          have e := D.L_not hy'
          rw [e] at hle; have e := hid e
          clear hy
          go_wp2_with (first | (go_at_call 40; refine (rleap_any _ (by omega) (by omega) _).mono ?_; rintro e w' ⟨rfl, rfl⟩))
          go_round
          case rel => exact ⟨y + 1, by omega, by omega, rfl, by rw [hs.out, e.out]; first | done | go_num⟩
          case measure => simp [intOf]; omega
      · obtain rfl : y = Y := by omega
        have hlt' : n - D.dby y < 365 + D.L y := by have := hs.out; omega
        have hlp := D.lp_eq y
        by_cases hy : D.lp y = true
        all_goals
          first | (have e := D.L_of hy; rw [e] at hlt'; have hlt2 : n - D.dby y < 366 := (by omega); clear e hlp hs hlt') | ((have hy' : D.lp y = false := by (simpa using hy)); have e := D.L_not hy'; rw [e] at hlt'; have hlt2 : n - D.dby y < 365 := (by omega); clear e hlp hs hy hlt')
          go_wp2_with (first | (go_at_call 40; refine (rleap_any _ (by omega) (by omega) _).mono ?_; rintro e w' ⟨rfl, rfl⟩))
          go_loop [0, 8] (fun t a => ∃ m : Int, 1 ≤ m ∧ m ≤ M ∧ a = .int .i64 m ∧ t = .int .i64 (n - D.dby y - D.cum y m)) (fun _ a => (M - intOf a).toNat)
          case atStart => exact ⟨1, by omega, by omega, rfl, by rw [D.cum_one]; go_num⟩
          case round =>
            obtain ⟨k, hk0, hk1, rfl, rfl⟩ := hrel
            have hcb := D.cum_bd y k hk0 (by omega)
            have hm := D.ml_bd y k
            have hL := D.L_01 y
            by_cases hlt : k < M
            · have hlt' : D.ml y k ≤ n - D.dby y - D.cum y k := by have := D.cum_mono y hk0 hlt b4; have := B.out; omega
              have HS := hid (D.cum_succ y k hk0 (by omega))
              go_wp2_with (first | (go_at_call 41; refine (rml_any _ _ (by omega) (by omega) _).mono ?_; rintro e w' ⟨rfl, rfl⟩))
              go_round
              case rel => exact ⟨k + 1, by omega, by omega, rfl, by rw [HS.out]; go_num⟩
              case measure => simp [intOf]; omega
            · obtain rfl : k = M := by omega
              have hge : ¬ D.ml y k ≤ n - D.dby y - D.cum y k := by have := B.out; omega
              go_wp2_with (first | (go_at_call 41; refine (rml_any _ _ (by omega) (by omega) _).mono ?_; rintro e w' ⟨rfl, rfl⟩))
              refine bodyPost_ret (results_tmp4 rfl _ _ _) rfl ⟨?_, rfl⟩
              have e1 : n - D.dby y - D.cum y k + 1 = E' := by have := B.out; omega
              rw [E1.out, E2.out, E3.out, hc.out, ← e1]
              rfl
  · have a1 : decide (0 ≤ n ∧ n ≤ 3652058) = false := by simpa using h
    have hc := hid (D.chk_no h)
    obtain ⟨e1, e2, e3⟩ := D.o_no h
    have E1 := hid e1; have E2 := hid e2; have E3 := hid e3; clear e1 e2 e3
    go_enter Tryd.func30, Tryd.ntmps30
    go_wp2_with (first | (go_at_call 29; refine (between_any _ _ _ _).mono ?_; rintro e w' ⟨rfl, rfl⟩))
    refine bodyPost_ret (results_tmp4 rfl _ _ _) rfl ⟨?_, rfl⟩
    rw [E1.out, E2.out, E3.out, hc.out]
    rfl

end Go.Proofs.YtngjkjadncgdgaaDoor

/- The walk of the document's function on months, and of the law's own helper. -/
namespace Go.Proofs.YtngjkjadncgdgaaDoor
open Go.RowKit
set_option maxRecDepth 100000

theorem dbegun_any (w : World) (hl : LongIs w) : Calls Tryd.prog 22 #[] w fun e w' => e = .returned (.bool true) ∧ w = w' := by
  have f1 := D.b1
  have f2 := D.b2
  have f3 := D.b3
  have f4 := D.b4
  have f5 := D.b5
  have f6 := D.b6
  have f7 := D.b7
  go_enter Tryd.func22, Tryd.ntmps22
  go_wp2_with (first | (go_at_call 33; refine (from_any _ _ _ _ hl).mono ?_; rintro e w' ⟨rfl, rfl⟩) | (go_at_call 23; refine (of_any _ _ hl).mono ?_; rintro e w' ⟨rfl, rfl⟩) | (go_at_call 34; refine (week_any _ _).mono ?_; rintro e w' ⟨rfl, rfl⟩) | (go_at_call 35; refine (Leap_any _ _).mono ?_; rintro e w' ⟨rfl, rfl⟩) | (go_at_call 36; refine (months_any _ _ (by omega) (by omega) _ hl).mono ?_; rintro e w' ⟨rfl, rfl⟩))
  go_ret
  exact ⟨rfl, rfl⟩
end Go.Proofs.YtngjkjadncgdgaaDoor

/- The elder contracts of the functions on dates, as contracts for the walk by verification conditions. -/
namespace Go.Proofs.YtngjkjadncgdgaaDoor
open Go Go.RowKit V
set_option maxRecDepth 100000
set_option linter.unusedVariables false
namespace V
theorem Svs.vals_ {ρ : Rho} : ∀ {vs xs : List Value}, Svs ρ (vs.map fun v => SV.one (.val v)) xs → xs = vs
  | [], _, h => h
  | v :: l, _, ⟨x, r, e, hv, hr⟩ => by
    have : x = v := hv
    subst this
    rw [e, Svs.vals_ hr]
/-- an elder contract -/
theorem Fn.old {P : Program} {f : FuncId} {os : List Ob} {x : Value} (vs : List Value) (hb : hasBody P f = true) (h : ∀ w, (∀ (i : Nat) o, os[i]? = some o → ∃ v, Ro w v o) → Calls P f vs.toArray w fun e w' => e = .returned x ∧ w = w') : Fn P f os (vs.map fun v => SV.one (.val v)) x :=
  ⟨hb, fun w ρ xs ho hs => by
    rw [Svs.vals_ hs]
    refine (h w fun i o e => by obtain ⟨v, _, q⟩ := ho i o e; exact ⟨v, q⟩).mono ?_
    rintro e w' ⟨rfl, rfl⟩
    exact ⟨rfl, Below.refl _ _⟩⟩
end V
/-- the package's table of the months' lengths -/
def dtL : List Value := [31, 28, 31, 30, 31, 30, 31, 31, 30, 31, 30, 31].map (Value.int .i64)
def dt : V.Ob := .tab 0 dtL
theorem long_of_tab {w : World} (h : TabIs w 0 dtL) : LongIs w := by
  intro m h1 h2
  obtain ⟨_, h⟩ := h
  have hm : m = 1 ∨ m = 2 ∨ m = 3 ∨ m = 4 ∨ m = 5 ∨ m = 6 ∨ m = 7 ∨ m = 8 ∨ m = 9 ∨ m = 10 ∨ m = 11 ∨ m = 12 := by omega
  rcases hm with rfl | rfl | rfl | rfl | rfl | rfl | rfl | rfl | rfl | rfl | rfl | rfl <;> exact h _ _ rfl
theorem tab_of_long {w : World} (h : LongIs w) : TabIs w 0 dtL := by
  have h0 := h 1 (by omega) (by omega)
  refine ⟨?_, fun j u hu => ?_⟩
  · rcases Nat.lt_or_ge 0 w.heap.size with hlt | hge
    · exact hlt
    · unfold World.cell? at h0; rw [Array.getElem?_eq_none hge] at h0; cases h0
  · have hj : j < 12 := (List.getElem?_eq_some_iff.1 hu).1
    have e := h (j + 1) (by omega) (by omega)
    rw [show ((j : Int) + 1).toNat - 1 = j by omega] at e
    rw [e, ← hu]
    have hm : j = 0 ∨ j = 1 ∨ j = 2 ∨ j = 3 ∨ j = 4 ∨ j = 5 ∨ j = 6 ∨ j = 7 ∨ j = 8 ∨ j = 9 ∨ j = 10 ∨ j = 11 := by omega
    rcases hm with rfl | rfl | rfl | rfl | rfl | rfl | rfl | rfl | rfl | rfl | rfl | rfl <;> rfl
theorem long_ro {w : World} (h : ∀ (i : Nat) o, [dt][i]? = some o → ∃ v, V.Ro w v o) : LongIs w := by
  obtain ⟨v, _, q⟩ := h 0 _ rfl
  exact long_of_tab q
theorem v_dOf (n : Int) : V.Fn Tryd.prog 23 [dt] [.one (.val (.int .i64 n))] (.tuple #[.int .i64 (D.yO' n), .int .i64 (D.mO' n), .int .i64 (D.dO' n), .int .i64 (D.chk n)]) :=
  V.Fn.old [.int .i64 n] (by kernel_rfl) fun w h => of_any n w (long_ro h)
theorem v_dFrom (y m d : Int) : V.Fn Tryd.prog 33 [dt] [.one (.val (.int .i64 y)), .one (.val (.int .i64 m)), .one (.val (.int .i64 d))] (.tuple #[.int .i64 (D.fromV y m d), .int .i64 (D.fromE y m d)]) :=
  V.Fn.old [.int .i64 y, .int .i64 m, .int .i64 d] (by kernel_rfl) fun w h => from_any y m d w (long_ro h)
theorem v_dMonths (n many : Int) (h0 : -9223372036854775808 ≤ many) (h1 : many ≤ 9223372036854775807) : V.Fn Tryd.prog 36 [dt] [.one (.val (.int .i64 n)), .one (.val (.int .i64 many))] (.tuple #[.int .i64 (D.moV n many), .int .i64 (D.moE n many)]) :=
  V.Fn.old [.int .i64 n, .int .i64 many] (by kernel_rfl) fun w h => months_any n many h0 h1 w (long_ro h)
theorem v_rOf (n : Int) : V.Fn Tryd.prog 30 [] [.one (.val (.int .i64 n))] (.tuple #[.int .i64 (D.yO' n), .int .i64 (D.mO' n), .int .i64 (D.dO' n), .int .i64 (D.chk n)]) :=
  V.Fn.old [.int .i64 n] (by kernel_rfl) fun w h => rof_any n w
theorem v_rLong (y m : Int) (h0 : 1 ≤ y) (h1 : y ≤ 20000) : V.Fn Tryd.prog 41 [] [.one (.val (.int .i64 y)), .one (.val (.int .i64 m))] (.int .i64 (D.ml y m)) :=
  V.Fn.old [.int .i64 y, .int .i64 m] (by kernel_rfl) fun w h => rml_any y m h0 h1 w
theorem v_rLeap (y : Int) (h0 : 1 ≤ y) (h1 : y ≤ 20000) : V.Fn Tryd.prog 40 [] [.one (.val (.int .i64 y))] (.bool (D.lp y)) :=
  V.Fn.old [.int .i64 y] (by kernel_rfl) fun w h => rleap_any y h0 h1 w
theorem v_dBegun : V.Fn Tryd.prog 22 [dt] [] (.bool true) :=
  V.Fn.old [] (by kernel_rfl) fun w h => dbegun_any w (long_ro h)
end Go.Proofs.YtngjkjadncgdgaaDoor

/- Plain facts on calendars: the day that is fitted; what the laws say. -/
namespace Go.Proofs.YtngjkjadncgdgaaDoor
set_option linter.unusedVariables false
namespace Ca
theorem stU_congr {c c' : Cl} {a a' m m' : Int} (h : ∀ d, Up c a m d ↔ Up c' a' m' d) : stU c a m = stU c' a' m' := by
  by_cases e : ∃ d, Up c a m d
  · obtain ⟨d, hd⟩ := e
    rw [stU_is hd, stU_is ((h d).1 hd)]
  · have e' : ¬ ∃ d, Up c' a' m' d := fun ⟨d, hd⟩ => e ⟨d, (h d).2 hd⟩
    unfold stU
    rw [dif_neg e, dif_neg e']
theorem stD_congr {c c' : Cl} {a a' m m' : Int} (h : ∀ d, Dn c a m d ↔ Dn c' a' m' d) : stD c a m = stD c' a' m' := by
  by_cases e : ∃ d, Dn c a m d
  · obtain ⟨d, hd⟩ := e
    rw [stD_is hd, stD_is ((h d).1 hd)]
  · have e' : ¬ ∃ d, Dn c' a' m' d := fun ⟨d, hd⟩ => e ⟨d, (h d).2 hd⟩
    unfold stD
    rw [dif_neg e, dif_neg e']
/-- the next one, of a business day and of another -/
theorem nx_here {c : Cl} {n : Int} (h : Day n) (k : op c n = 1) : stU c (n - 1) 1 = n :=
  stU_is ⟨by omega, h.2, k, by
    have := cnt_one c (n - 1)
    rw [show n - 1 + 1 = n by omega] at this
    omega⟩
theorem nx_on {c : Cl} {n : Int} (k : ¬ op c n = 1) : stU c (n - 1) 1 = stU c n 1 := by
  have o := op_01 c n
  refine stU_congr fun d => ⟨fun ⟨h1, h2, h3, h4⟩ => ?_, fun ⟨h1, h2, h3, h4⟩ => ?_⟩
  · have e : d ≠ n := fun e => k (e ▸ h3)
    have f := cnt_first (c := c) (a := n - 1) (b := d) h1
    rw [show n - 1 + 1 = n by omega] at f
    exact ⟨by omega, h2, h3, by omega⟩
  · have f := cnt_first (c := c) (a := n - 1) (b := d) (by omega)
    rw [show n - 1 + 1 = n by omega] at f
    exact ⟨by omega, h2, h3, by omega⟩
theorem pv_on {c : Cl} {n : Int} (k : ¬ op c n = 1) : stD c (n + 1) 1 = stD c n 1 := by
  have o := op_01 c n
  refine stD_congr fun d => ⟨fun ⟨h1, h2, h3, h4⟩ => ?_, fun ⟨h1, h2, h3, h4⟩ => ?_⟩
  · have e : d ≠ n := fun e => k (e ▸ h3)
    have f := cnt_last (c := c) (a := d - 1) (b := n) (by omega)
    rw [show n + 1 - 1 = n by omega] at h4
    exact ⟨h1, by omega, h3, by omega⟩
  · have f := cnt_last (c := c) (a := d - 1) (b := n) (by omega)
    exact ⟨h1, by omega, h3, by rw [show n + 1 - 1 = n by omega]; omega⟩
/-- of the same month -/
def Mo (k n : Int) : Prop := 0 ≤ k ∧ D.yO k = D.yO n ∧ D.mO k = D.mO n
instance (k n : Int) : Decidable (Mo k n) := by unfold Mo; exact inferInstance
/-- a day fitted into its month -/
noncomputable def fk (c : Cl) (n : Int) : Int := if Mo (stU c (n - 1) 1) n then stU c (n - 1) 1 else stD c (n + 1) 1
theorem fk_1 {c : Cl} {n : Int} (h : Mo (stU c (n - 1) 1) n) : fk c n = stU c (n - 1) 1 := if_pos h
theorem fk_2 {c : Cl} {n : Int} (h : ¬ Mo (stU c (n - 1) 1) n) : fk c n = stD c (n + 1) 1 := if_neg h
noncomputable def fiV (c : Cl) (n : Int) : Int := if e1 c n ≠ 0 then 0 else toV (fk c n)
noncomputable def fiE (c : Cl) (n : Int) : Int := if e1 c n ≠ 0 then e1 c n else toE (fk c n)
theorem toV_pos {d : Int} (h : 0 ≤ d) : toV d = d ∧ toE d = 0 := ⟨if_neg (by omega), if_neg (by omega)⟩
theorem toV_neg {d : Int} (h : d < 0) : toV d = 0 ∧ toE d = 8 := ⟨if_pos h, if_pos h⟩
theorem toE_ok {d : Int} (h : toE d = 0) : 0 ≤ d ∧ toV d = d := by
  unfold toE at h
  split at h
  · omega
  · exact ⟨by omega, if_neg ‹_›⟩
theorem toE_no {d : Int} (h : ¬ toE d = 0) : toV d = 0 := by
  unfold toE at h
  split at h
  · exact if_pos ‹_›
  · omega
/-! steps -/
theorem sE_no {c : Cl} {n m : Int} (h : ¬ sE c n m = 0) : sV c n m = 0 := by
  unfold sE at h
  unfold sV
  split at h
  · exact if_pos ‹_›
  · rw [if_neg ‹_›]; exact toE_no h
theorem sE_ok {c : Cl} {n m : Int} (h : sE c n m = 0) : chk c = 0 ∧ Day n ∧ (-500 ≤ m ∧ m ≤ 500) ∧ sV c n m = stp c n m ∧ Day (stp c n m) := by
  unfold sE at h
  split at h
  · exact absurd h ‹_›
  · rename_i q
    obtain ⟨a, b, d⟩ := sE0_ok (by omega : sE0 c n m = 0)
    obtain ⟨k, hd, hk⟩ := e1_ok a
    obtain ⟨u, v⟩ := toE_ok h
    refine ⟨hk, hd, ⟨b, d⟩, (if_neg q).trans v, ?_⟩
    rcases stp_cases (c := c) (m := m) hd with z | z
    · omega
    · exact z
theorem sE_of {c : Cl} {n m : Int} (h : chk c = 0) (hn : Day n) (hm : -500 ≤ m ∧ m ≤ 500) (hs : 0 ≤ stp c n m) : sE c n m = 0 ∧ sV c n m = stp c n m := by
  have e : sE0 c n m = 0 := by unfold sE0; rw [if_neg (by rw [e1_of h hn]; omega), if_neg (by omega)]
  have := toV_pos hs
  exact ⟨(if_neg (by omega)).trans this.2, (if_neg (by omega)).trans this.1⟩
theorem stp_is {c : Cl} {n m : Int} (hn : Day n) (h : 0 ≤ stp c n m) : (0 < m → Up c n m (stp c n m)) ∧ (m < 0 → Dn c n (-m) (stp c n m)) ∧ (m = 0 → stp c n m = n) := by
  refine ⟨fun q => ?_, fun q => ?_, fun q => by rw [q]; exact stp_0⟩
  · rw [stp_p q] at h ⊢
    exact stU_ok h
  · rw [stp_n q] at h ⊢
    rcases stD_cases c n (-m) with z | z
    · omega
    · exact z.2
theorem back {c : Cl} {n m : Int} (h : sE c n m = 0) :
    chk c = 0 ∧ Day n ∧ Day (sV c n m) ∧ (m = 0 → sV c n m = n) ∧ (m ≠ 0 → op c (sV c n m) = 1) ∧ (0 < m → coE c n (sV c n m) = 0 ∧ coV c n (sV c n m) = m) ∧ (op c n = 1 → sE c (sV c n m) (-m) = 0 ∧ sV c (sV c n m) (-m) = n) := by
  obtain ⟨h1, h2, h3, h4, h5⟩ := sE_ok h
  obtain ⟨u, d, z⟩ := stp_is h2 h5.1
  rw [h4]
  generalize stp c n m = k at *
  have hn := h2
  have hk := h5
  unfold Day at h2 h5
  refine ⟨h1, hn, hk, z, fun q => ?_, fun q => ?_, fun q => ?_⟩
  · rcases Int.lt_or_gt_of_ne q with q | q
    · exact (d q).2.2.1
    · exact (u q).2.2.1
  · obtain ⟨a, _, _, b⟩ := u q
    have e := coE_of h1 hn hk (by omega)
    exact ⟨e, (if_pos e).trans b⟩
  · by_cases m0 : m = 0
    · subst m0
      obtain rfl := z rfl
      have e0 : stp c k (-0) = k := stp_0
      have := sE_of (m := -0) h1 hn (by omega) (by rw [e0]; omega)
      rw [e0] at this
      exact this
    · by_cases mp : 0 < m
      · obtain ⟨a, _, b, e⟩ := u mp
        have f := cnt_first (c := c) (a := n - 1) (b := k - 1) (by omega)
        have g := cnt_last (c := c) (a := n) (b := k) a
        rw [show n - 1 + 1 = n by omega] at f
        have dn : Dn c k m n := ⟨by omega, a, q, by omega⟩
        have e0 : stp c k (-m) = n := by rw [stp_n (by omega), Int.neg_neg]; exact stD_is dn
        have := sE_of (m := -m) h1 hk (by omega) (by rw [e0]; omega)
        rw [e0] at this
        exact this
      · obtain ⟨a, b, e, f⟩ := d (by omega)
        have g := cnt_first (c := c) (a := k - 1) (b := n) (by omega)
        have i := cnt_last (c := c) (a := k - 1) (b := n) (by omega)
        rw [show k - 1 + 1 = k by omega] at g
        have up : Up c k (-m) n := ⟨b, by omega, q, by omega⟩
        have e0 : stp c k (-m) = n := by rw [stp_p (by omega)]; exact stU_is up
        have := sE_of (m := -m) h1 hk (by omega) (by rw [e0]; omega)
        rw [e0] at this
        exact this
theorem parts1 {c : Cl} {n a b : Int} (h : sE c n a = 0) (k : sE c (sV c n a) b = 0) (ha : 0 ≤ a) (hb : 0 ≤ b) (hab : a + b ≤ 500) : sE c n (a + b) = 0 ∧ sV c n (a + b) = sV c (sV c n a) b := by
  obtain ⟨h1, h2, h3, h4, h5⟩ := sE_ok h
  obtain ⟨_, k2, k3, k4, k5⟩ := sE_ok k
  obtain ⟨u, _, z⟩ := stp_is h2 h5.1
  rw [k4]
  rw [h4] at k4 k5 k2 ⊢
  obtain ⟨u', _, z'⟩ := stp_is k2 k5.1
  generalize stp c n a = x at *
  generalize stp c x b = y at *
  have e : stp c n (a + b) = y := by
    by_cases a0 : a = 0
    · subst a0
      obtain rfl := z rfl
      rw [Int.zero_add]
      by_cases b0 : b = 0
      · subst b0; rw [z' rfl]; exact stp_0
      · rw [stp_p (by omega)]; exact stU_is (u' (by omega))
    · by_cases b0 : b = 0
      · subst b0; rw [z' rfl, Int.add_zero, stp_p (by omega)]; exact stU_is (u (by omega))
      · obtain ⟨p1, p2, p3, p4⟩ := u (by omega)
        obtain ⟨q1, q2, q3, q4⟩ := u' (by omega)
        have := cnt_add (c := c) (a := n) (b := x) (d := y) (by omega) (by omega)
        rw [stp_p (by omega)]
        exact stU_is ⟨by omega, q2, q3, by omega⟩
  have := sE_of (m := a + b) h1 h2 (by omega) (by rw [e]; exact k5.1)
  rwa [e] at this
theorem parts2 {c : Cl} {n x t : Int} (h : chk c = 0) (hn : Day n) (hx : n ≤ x) (ht : x ≤ t) (k : coE c x t = 0) : coE c n x = 0 ∧ coE c n t = 0 ∧ coV c n t = coV c n x + coV c x t := by
  obtain ⟨_, a, b, _⟩ := coE_ok k
  have e1 := coE_of h hn a hx
  have e2 := coE_of h hn b (by omega)
  refine ⟨e1, e2, ?_⟩
  unfold coV
  rw [if_pos e1, if_pos e2, if_pos k, cnt_add hx ht]
/-! the next one -/
theorem neE_no {c : Cl} {n : Int} (h : ¬ neE c n = 0) : neV c n = 0 := by
  unfold neE at h
  unfold neV
  split at h
  · exact if_pos ‹_›
  · rw [if_neg ‹_›]; exact toE_no h
theorem neE_ok {c : Cl} {n : Int} (h : neE c n = 0) : chk c = 0 ∧ Day n ∧ neV c n = stU c (n - 1) 1 ∧ Up c (n - 1) 1 (stU c (n - 1) 1) ∧ Day (stU c (n - 1) 1) := by
  unfold neE at h
  split at h
  · exact absurd h ‹_›
  · rename_i q
    obtain ⟨k, hd, hk⟩ := e1_ok (by omega : e1 c n = 0)
    obtain ⟨u, v⟩ := toE_ok h
    have up := stU_ok u
    exact ⟨hk, hd, (if_neg q).trans v, up, u, up.2.1⟩
theorem neE_of {c : Cl} {n : Int} (h : chk c = 0) (hn : Day n) (hs : 0 ≤ stU c (n - 1) 1) : neE c n = 0 ∧ neV c n = stU c (n - 1) 1 := by
  have e := e1_of h hn
  have := toV_pos hs
  exact ⟨(if_neg (by omega)).trans this.2, (if_neg (by omega)).trans this.1⟩
theorem isV_yes {c : Cl} {n : Int} (h : chk c = 0) (hn : Day n) : isV c n = decide (op c n = 1) := by
  unfold isV
  rw [decide_eq_decide]
  exact ⟨fun q => q.2, fun q => ⟨e1_of h hn, q⟩⟩
theorem next {c : Cl} {n : Int} (h : neE c n = 0) :
    chk c = 0 ∧ Day n ∧ Day (neV c n) ∧ n ≤ neV c n ∧ op c (neV c n) = 1 ∧ neE c (neV c n) = 0 ∧ neV c (neV c n) = neV c n ∧ (n < neV c n → coE c n (neV c n - 1) = 0 ∧ coV c n (neV c n - 1) = 0) ∧ ∀ l, n ≤ l → neE c l = 0 → neV c n ≤ neV c l := by
  obtain ⟨h1, h2, h3, h4, h5⟩ := neE_ok h
  rw [h3]
  generalize stU c (n - 1) 1 = k at *
  have hk := h5
  have hn := h2
  unfold Day at h2 h5
  obtain ⟨a1, a2, a3, a4⟩ := h4
  have nh := nx_here hk a3
  obtain ⟨b1, b2⟩ := neE_of h1 hk (by rw [nh]; omega)
  rw [nh] at b2
  have f := cnt_first (c := c) (a := n - 1) (b := k) a1
  rw [show n - 1 + 1 = n by omega] at f
  refine ⟨h1, hn, hk, by omega, a3, b1, b2, fun q => ?_, fun l hl hl2 => ?_⟩
  · have g := cnt_last (c := c) (a := n) (b := k) q
    have e := coE_of (c := c) (a := n) (b := k - 1) h1 hn ⟨by omega, by omega⟩ (by omega)
    have o := op_01 c n
    have bd := (cnt_bd c n (k - 1)).1
    exact ⟨e, (if_pos e).trans (by omega)⟩
  · obtain ⟨_, g2, g3, ⟨u1, u2, u3, u4⟩, _⟩ := neE_ok hl2
    rw [g3]
    generalize stU c (l - 1) 1 = y at *
    rcases Int.lt_or_le y k with z | z
    · have g := cnt_last (c := c) (a := n - 1) (b := k) a1
      have p := cnt_pos (c := c) (a := n - 1) (b := y) (by omega) u3
      have m := cnt_mono (c := c) (a := n - 1) (b := y) (d := k - 1) (by omega)
      omega
    · exact z
/-! fitted -/
theorem fiE_no {c : Cl} {n : Int} (h : ¬ fiE c n = 0) : fiV c n = 0 := by
  unfold fiE at h
  unfold fiV
  split at h
  · exact if_pos ‹_›
  · rw [if_neg ‹_›]; exact toE_no h
theorem fiE_ok {c : Cl} {n : Int} (h : fiE c n = 0) : chk c = 0 ∧ Day n ∧ fiV c n = fk c n ∧ 0 ≤ fk c n := by
  unfold fiE at h
  split at h
  · exact absurd h ‹_›
  · rename_i q
    obtain ⟨k, hd, hk⟩ := e1_ok (by omega : e1 c n = 0)
    obtain ⟨u, v⟩ := toE_ok h
    exact ⟨hk, hd, (if_neg q).trans v, u⟩
theorem fits {c : Cl} {n : Int} (h : fiE c n = 0) :
    chk c = 0 ∧ Day n ∧ Day (fiV c n) ∧ op c (fiV c n) = 1 ∧ (n ≤ fiV c n → neE c n = 0 ∧ neV c n = fiV c n ∧ D.yO (fiV c n) = D.yO n ∧ D.mO (fiV c n) = D.mO n) ∧
    (fiV c n < n → coE c (fiV c n) n = 0 ∧ coV c (fiV c n) n = 0 ∧ (neE c n = 0 → Day (neV c n) ∧ ¬ (D.yO (neV c n) = D.yO n ∧ D.mO (neV c n) = D.mO n))) := by
  obtain ⟨h1, h2, h3, h4⟩ := fiE_ok h
  rw [h3]
  by_cases q : Mo (stU c (n - 1) 1) n
  · rw [fk_1 q] at h4 ⊢
    obtain ⟨b1, b2⟩ := neE_of h1 h2 h4
    have up := stU_ok h4
    exact ⟨h1, h2, ⟨h4, up.2.1⟩, up.2.2.1, fun _ => ⟨b1, b2, q.2.1, q.2.2⟩, fun z => by have := up.1; omega⟩
  · rw [fk_2 q] at h4 ⊢
    have hd := h2
    unfold Day at h2
    rcases stD_cases c (n + 1) 1 with z | ⟨_, d1, d2, d3, d4⟩
    · omega
    · have dk : Day (stD c (n + 1) 1) := ⟨d1, by omega⟩
      generalize stD c (n + 1) 1 = k at *
      refine ⟨h1, hd, dk, d3, fun z => ?_, fun z => ?_⟩
      · obtain rfl : k = n := by omega
        exact (q (by rw [nx_here hd d3]; exact ⟨d1, rfl, rfl⟩)).elim
      · have e := coE_of h1 dk hd (by omega)
        have f := cnt_first (c := c) (a := k - 1) (b := n) (by omega)
        rw [show k - 1 + 1 = k by omega] at f
        rw [show n + 1 - 1 = n by omega] at d4
        refine ⟨e, (if_pos e).trans (by omega), fun w => ?_⟩
        obtain ⟨_, _, w3, w4, w5⟩ := neE_ok w
        rw [w3]
        exact ⟨w5, fun y => q ⟨w5.1, y.1, y.2⟩⟩
/-! a holiday less -/
def less (c : Cl) (i : Nat) : Cl := ⟨c.we, c.hs.take i ++ c.hs.drop (i + 1)⟩
theorem parts_at {l : List Int} {i : Nat} (h : i < l.length) : l = l.take i ++ l.getD i default :: l.drop (i + 1) := by
  rw [getD_at h, ← List.drop_eq_getElem_cons h, List.take_append_drop]
theorem less_mem {c : Cl} {i : Nat} (hn : c.hs.Nodup) (h : i < c.hs.length) (n : Int) : n ∈ (less c i).hs ↔ n ∈ c.hs ∧ n ≠ c.hs.getD i default := by
  have e := parts_at h
  generalize c.hs.getD i default = d at *
  unfold less
  dsimp only
  rw [e, List.nodup_append] at hn
  obtain ⟨_, n2, n3⟩ := hn
  rw [List.nodup_cons] at n2
  constructor
  · intro q
    rw [List.mem_append] at q
    refine ⟨by rw [e]; rcases q with q | q <;> simp [q], fun z => ?_⟩
    subst z
    rcases q with q | q
    · exact n3 _ q _ (by simp) rfl
    · exact n2.1 q
  · rintro ⟨q, z⟩
    rw [e] at q
    simp only [List.mem_append, List.mem_cons] at q ⊢
    rcases q with q | q | q
    · exact .inl q
    · exact absurd q z
    · exact .inr q
theorem less_ok {c : Cl} {i : Nat} (h : Ok c) (hi : i < c.hs.length) : Ok (less c i) := by
  obtain ⟨h1, h2, h3, h4⟩ := h
  have sub : (less c i).hs.Sublist c.hs := by
    have e := parts_at hi
    unfold less
    dsimp only
    conv => rhs; rw [e]
    exact (List.Sublist.refl _).append (List.sublist_cons_self _ _)
  exact ⟨h1, Nat.le_trans sub.length_le h2, fun n hn => h3 n (sub.subset hn), h4.sublist sub⟩
theorem less_wd (c : Cl) (i : Nat) (n : Int) : wd (less c i) n = wd c n := rfl
theorem less_op {c : Cl} {i : Nat} (h : Ok c) (hi : i < c.hs.length) {n : Int} (hn : n ≠ c.hs.getD i default) : op (less c i) n = op c n := by
  unfold op
  have := less_mem (ok_nodup h) hi n
  by_cases q : n ∈ c.hs
  · rw [if_pos (this.2 ⟨q, hn⟩), if_pos q]
  · rw [if_neg (fun z => q (this.1 z).1), if_neg q, less_wd]
theorem less_day {c : Cl} {i : Nat} (hi : i < c.hs.length) : op c (c.hs.getD i default) = 0 := if_pos (getD_mem hi)
theorem less_sm {c : Cl} {i : Nat} (h : Ok c) (hi : i < c.hs.length) (a : Int) : ∀ k : Nat, sm (op (less c i)) a k = sm (op c) a k + (if a < c.hs.getD i default ∧ c.hs.getD i default ≤ a + k then op (less c i) (c.hs.getD i default) else 0)
  | 0 => by simp only [sm]; rw [if_neg (by omega)]; omega
  | k + 1 => by
    have := less_sm h hi a k
    have o := less_day hi
    simp only [sm]
    rw [this]
    by_cases e : a + k + 1 = c.hs.getD i default
    · rw [e, o, if_neg (by omega), if_pos (by omega)]
    · rw [less_op h hi e]
      by_cases q : a < c.hs.getD i default ∧ c.hs.getD i default ≤ a + k
      · rw [if_pos q, if_pos (by omega)]; omega
      · rw [if_neg q, if_neg (by omega)]; omega
theorem holiday {c : Cl} {i : Nat} (h : chk c = 0) (hi : i < c.hs.length) :
    e1 (less c i) (c.hs.getD i default) = 0 ∧ e1 c (c.hs.getD i default) = 0 ∧ isV c (c.hs.getD i default) = false ∧ (∀ n, e1 (less c i) n = e1 c n ∧ (n ≠ c.hs.getD i default → isV (less c i) n = isV c n)) ∧
    ∀ a b, coE (less c i) a b = coE c a b ∧ (coE (less c i) a b = 0 → coV (less c i) a b = coV c a b + (if isV (less c i) (c.hs.getD i default) = true ∧ a < c.hs.getD i default ∧ c.hs.getD i default ≤ b then 1 else 0)) := by
  have ok := chk_ok h
  have hl := chk_of (less_ok ok hi)
  have hd := ok.2.2.1 _ (getD_mem (l := c.hs) hi)
  have o := less_day hi
  have ee : ∀ n, e1 (less c i) n = e1 c n := fun n => by unfold e1; rw [chks_2 hl, chks_2 h]
  have ec : ∀ a b, coE (less c i) a b = coE c a b := fun a b => by unfold coE; rw [chks_2 hl, chks_2 h]
  refine ⟨e1_of hl hd, e1_of h hd, ?_, fun n => ⟨ee n, fun q => ?_⟩, fun a b => ⟨ec a b, fun q => ?_⟩⟩
  · rw [isV_yes h hd, o]; rfl
  · unfold isV
    rw [ee n, less_op ok hi q]
  · have q2 := q
    rw [ec] at q2
    obtain ⟨_, _, _, hab⟩ := coE_ok q2
    have s := less_sm ok hi a (b - a).toNat
    rw [show a + ((b - a).toNat : Int) = b by omega] at s
    unfold coV
    rw [if_pos q, if_pos q2, isV_yes hl hd]
    unfold cnt
    rw [s]
    have o1 := op_01 (less c i) (c.hs.getD i default)
    congr 1
    by_cases z : a < c.hs.getD i default ∧ c.hs.getD i default ≤ b
    · rw [if_pos z]
      rcases o1 with o1 | o1
      · rw [o1, if_neg (by simp)]
      · rw [o1, if_pos ⟨by simp, z⟩]
    · rw [if_neg z, if_neg (fun y => z y.2)]
end Ca
end Go.Proofs.YtngjkjadncgdgaaDoor

/- The document's own steps over business days; a day fitted; what holds in any case. -/
namespace Go.Proofs.YtngjkjadncgdgaaDoor
open Go Go.RowKit V
set_option maxRecDepth 100000
set_option linter.unusedVariables false
theorem v_rcaStepU (c : Cl) (n m : Int) (h : Ca.Ok c) (hn : Ca.Day n) (hm : 0 < m ∧ m ≤ 9223372036854775807) : V.Fn Tryd.prog 17 [.arr 1 c.hs.length (ga e1 c.hs)] [.agg [.val (.int .i64 c.we), .ref 0], .one (.val (.int .i64 n)), .one (.val (.int .i64 m))] (.int .i64 (Ca.stU c n m)) := by
  unfold Ca.Day at hn
  refine V.Fn.mk_ V.Tok V.mixed Tryd.func17 rfl Tryd.ntmps17 (by kernel_rfl) rfl rfl ?_
  repeat' ((conv => whnf); first | refine V.NCond.mk ?_ | refine V.NIf.not_ ?_ | refine V.NIf.dec_ ?_ | refine V.NIf.no (by omega) ?_ | refine V.NIf.yes (by omega) ?_ | refine V.NIf.mk (fun _ => ?_) (fun _ => ?_) | refine V.NWrap.ok (by omega) (by omega) ?_ | refine V.NWrap.u64 (by omega) (by omega) ?_ | refine V.NLt.mk (by omega) ?_ | refine V.NBoth.mk ?_ ?_ | refine V.NTF.yes (by omega) ?_ | refine V.NTF.no (by omega) ?_ | refine V.NTF.dec ?_ | refine V.NDraw.q (by exact rfl) (by kernel_rfl) ?_ | refine V.NApp.one (by first | omega | (simp; omega)) (by first | omega | (simp; omega)) ?_ | (refine V.NDraw.any (by kernel_rfl) ?_) | fail)
  refine V.NLoop.auto (fun (d : Int) => [(1, .one (.val (.int .i64 d))), (2, .one (.val (.int .i64 (m - Ca.cnt c n d))))]) (fun (d : Int) => []) [] [] (fun (d : Int) => (3652058 - d).toNat) (fun (d : Int) => n ≤ d ∧ d ≤ 3652058 ∧ Ca.cnt c n d ≤ m ∧ (Ca.cnt c n d = m → Ca.Up c n m d)) n ⟨Int.le_refl _, hn.2, by rw [Ca.cnt_none (Int.le_refl _)]; omega, fun q => by rw [Ca.cnt_none (Int.le_refl _)] at q; omega⟩ (by (conv => whnf); exact ⟨(by repeat' (first | exact rfl | exact Iff.rfl | exact trivial | exact (fun _ _ => rfl) | exact (fun _ h => absurd h (Nat.not_lt_zero _)) | refine ⟨?_, ?_⟩ | exact Iff.rfl | exact congrArg (fun z => V.SV.one (V.At.val (Value.int .i64 z))) (by omega))), congrArg (fun z => V.SV.one (V.At.val (Value.int .i64 z))) (by rw [Ca.cnt_none (Int.le_refl _)]; omega), trivial⟩) (by repeat' (first | exact rfl | exact Iff.rfl | exact trivial | exact (fun _ _ => rfl) | exact (fun _ h => absurd h (Nat.not_lt_zero _)) | refine ⟨?_, ?_⟩ | exact Iff.rfl | exact congrArg (fun z => V.SV.one (V.At.val (Value.int .i64 z))) (by omega))) (fun _ => ⟨rfl, rfl⟩) ?_; (conv => whnf); refine ⟨⟨rfl, rfl⟩, ?_⟩
  rintro d ⟨h1, h2, h3, h4⟩
  have c0 := (Ca.cnt_bd c n d).1
  have cs := Ca.cnt_succ (c := c) h1
  have vb := v_business c (d + 1) h
  unfold Ca.Day at vb
  have o := Ca.op_01 c (d + 1)
  repeat' ((conv => whnf); first | refine V.NCond.mk ?_ | refine V.NIf.not_ ?_ | refine V.NIf.dec_ ?_ | refine V.NIf.no (by omega) ?_ | refine V.NIf.yes (by omega) ?_ | refine V.NIf.mk (fun _ => ?_) (fun _ => ?_) | refine V.NWrap.ok (by omega) (by omega) ?_ | refine V.NWrap.u64 (by omega) (by omega) ?_ | refine V.NLt.mk (by omega) ?_ | refine V.NBoth.mk ?_ ?_ | refine V.NTF.yes (by omega) ?_ | refine V.NTF.no (by omega) ?_ | refine V.NTF.dec ?_ | refine V.NDraw.q (by exact rfl) (by kernel_rfl) ?_ | refine V.NApp.one (by first | omega | (simp; omega)) (by first | omega | (simp; omega)) ?_ | (first | refine V.Fn.k0 (v_rbetween _ _ _) rfl ?_ | refine V.Fn.q0 (v_rbetween _ _ _) rfl ?_ | refine V.Fn.a0 (v_rbetween _ _ _) rfl ?_) | ((first | refine V.Fn.k (vb) [0] rfl ?_ ?_ | refine V.Fn.q (vb) [0] rfl ?_ ?_ | refine V.Fn.a (vb) [0] rfl ?_ ?_); · ((repeat' (first | exact rfl | exact Iff.rfl | exact trivial | exact (fun _ _ => rfl) | exact (fun _ h => absurd h (Nat.not_lt_zero _)) | refine ⟨?_, ?_⟩ | exact Iff.rfl | exact congrArg (fun z => V.SV.one (V.At.val (Value.int .i64 z))) (by omega))); done)) | (refine V.NDraw.any (by kernel_rfl) ?_) | fail)
  all_goals (conv => whnf)
  all_goals first
    | exact V.fin1 (Ca.stU_is (h4 (by omega)))
    | (obtain rfl : d = 3652058 := by omega
       exact V.fin1 (Ca.stU_no (by omega)))
    | (have ho : Ca.op c (d + 1) = 1 := by omega
       exact V.NBack.at_ (d + 1) [] ⟨by omega, by omega, by omega, fun q => ⟨by omega, by omega, ho, q⟩⟩ (by omega) ⟨(by repeat' (first | exact rfl | exact Iff.rfl | exact trivial | exact (fun _ _ => rfl) | exact (fun _ h => absurd h (Nat.not_lt_zero _)) | refine ⟨?_, ?_⟩ | exact Iff.rfl | exact congrArg (fun z => V.SV.one (V.At.val (Value.int .i64 z))) (by omega))), congrArg (fun z => V.SV.one (V.At.val (Value.int .i64 z))) (by omega), trivial⟩ rfl (by repeat' (first | exact rfl | exact Iff.rfl | exact trivial | exact (fun _ _ => rfl) | exact (fun _ h => absurd h (Nat.not_lt_zero _)) | refine ⟨?_, ?_⟩ | exact Iff.rfl | exact congrArg (fun z => V.SV.one (V.At.val (Value.int .i64 z))) (by omega))) (by repeat' (first | exact rfl | exact Iff.rfl | exact trivial | exact (fun _ _ => rfl) | exact (fun _ h => absurd h (Nat.not_lt_zero _)) | refine ⟨?_, ?_⟩ | exact Iff.rfl | exact congrArg (fun z => V.SV.one (V.At.val (Value.int .i64 z))) (by omega))) (by repeat' (first | exact rfl | exact Iff.rfl | exact trivial | exact (fun _ _ => rfl) | exact (fun _ h => absurd h (Nat.not_lt_zero _)) | refine ⟨?_, ?_⟩ | exact Iff.rfl | exact congrArg (fun z => V.SV.one (V.At.val (Value.int .i64 z))) (by omega))))
    | (have ho : Ca.op c (d + 1) = 0 := by omega
       exact V.NBack.at_ (d + 1) [] ⟨by omega, by omega, by omega, fun q => by omega⟩ (by omega) ⟨(by repeat' (first | exact rfl | exact Iff.rfl | exact trivial | exact (fun _ _ => rfl) | exact (fun _ h => absurd h (Nat.not_lt_zero _)) | refine ⟨?_, ?_⟩ | exact Iff.rfl | exact congrArg (fun z => V.SV.one (V.At.val (Value.int .i64 z))) (by omega))), congrArg (fun z => V.SV.one (V.At.val (Value.int .i64 z))) (by omega), trivial⟩ rfl (by repeat' (first | exact rfl | exact Iff.rfl | exact trivial | exact (fun _ _ => rfl) | exact (fun _ h => absurd h (Nat.not_lt_zero _)) | refine ⟨?_, ?_⟩ | exact Iff.rfl | exact congrArg (fun z => V.SV.one (V.At.val (Value.int .i64 z))) (by omega))) (by repeat' (first | exact rfl | exact Iff.rfl | exact trivial | exact (fun _ _ => rfl) | exact (fun _ h => absurd h (Nat.not_lt_zero _)) | refine ⟨?_, ?_⟩ | exact Iff.rfl | exact congrArg (fun z => V.SV.one (V.At.val (Value.int .i64 z))) (by omega))) (by repeat' (first | exact rfl | exact Iff.rfl | exact trivial | exact (fun _ _ => rfl) | exact (fun _ h => absurd h (Nat.not_lt_zero _)) | refine ⟨?_, ?_⟩ | exact Iff.rfl | exact congrArg (fun z => V.SV.one (V.At.val (Value.int .i64 z))) (by omega))))
theorem v_rcaStepD (c : Cl) (n m : Int) (h : Ca.Ok c) (hn : Ca.Day n) (hm : 0 < m ∧ m ≤ 9223372036854775807) : V.Fn Tryd.prog 17 [.arr 1 c.hs.length (ga e1 c.hs)] [.agg [.val (.int .i64 c.we), .ref 0], .one (.val (.int .i64 n)), .one (.val (.int .i64 (-m)))] (.int .i64 (Ca.stD c n m)) := by
  unfold Ca.Day at hn
  refine V.Fn.mk_ V.Tok V.mixed Tryd.func17 rfl Tryd.ntmps17 (by kernel_rfl) rfl rfl ?_
  repeat' ((conv => whnf); first | refine V.NCond.mk ?_ | refine V.NIf.not_ ?_ | refine V.NIf.dec_ ?_ | refine V.NIf.no (by omega) ?_ | refine V.NIf.yes (by omega) ?_ | refine V.NIf.mk (fun _ => ?_) (fun _ => ?_) | refine V.NWrap.ok (by omega) (by omega) ?_ | refine V.NWrap.u64 (by omega) (by omega) ?_ | refine V.NLt.mk (by omega) ?_ | refine V.NBoth.mk ?_ ?_ | refine V.NTF.yes (by omega) ?_ | refine V.NTF.no (by omega) ?_ | refine V.NTF.dec ?_ | refine V.NDraw.q (by exact rfl) (by kernel_rfl) ?_ | refine V.NApp.one (by first | omega | (simp; omega)) (by first | omega | (simp; omega)) ?_ | (refine V.NDraw.any (by kernel_rfl) ?_) | fail)
  refine V.NLoop.auto (fun (d : Int) => [(1, .one (.val (.int .i64 d))), (2, .one (.val (.int .i64 (-(m - Ca.cnt c (d - 1) (n - 1))))))]) (fun (d : Int) => []) [] [] (fun (d : Int) => d.toNat) (fun (d : Int) => d ≤ n ∧ 0 ≤ d ∧ Ca.cnt c (d - 1) (n - 1) ≤ m ∧ (Ca.cnt c (d - 1) (n - 1) = m → Ca.Dn c n m d)) n ⟨Int.le_refl _, hn.1, by rw [Ca.cnt_none (Int.le_refl _)]; omega, fun q => by rw [Ca.cnt_none (Int.le_refl _)] at q; omega⟩ (by (conv => whnf); exact ⟨(by repeat' (first | exact rfl | exact Iff.rfl | exact trivial | exact (fun _ _ => rfl) | exact (fun _ h => absurd h (Nat.not_lt_zero _)) | refine ⟨?_, ?_⟩ | exact Iff.rfl | exact congrArg (fun z => V.SV.one (V.At.val (Value.int .i64 z))) (by omega))), congrArg (fun z => V.SV.one (V.At.val (Value.int .i64 z))) (by rw [Ca.cnt_none (Int.le_refl _)]; omega), trivial⟩) (by repeat' (first | exact rfl | exact Iff.rfl | exact trivial | exact (fun _ _ => rfl) | exact (fun _ h => absurd h (Nat.not_lt_zero _)) | refine ⟨?_, ?_⟩ | exact Iff.rfl | exact congrArg (fun z => V.SV.one (V.At.val (Value.int .i64 z))) (by omega))) (fun _ => ⟨rfl, rfl⟩) ?_; (conv => whnf); refine ⟨⟨rfl, rfl⟩, ?_⟩
  rintro d ⟨h1, h2, h3, h4⟩
  have c0 := (Ca.cnt_bd c (d - 1) (n - 1)).1
  have cs := fun q => Ca.cnt_first (c := c) (a := d - 1 - 1) (b := n - 1) q
  rw [show d - 1 - 1 + 1 = d - 1 by omega] at cs
  have vb := v_business c (d - 1) h
  unfold Ca.Day at vb
  have o := Ca.op_01 c (d - 1)
  repeat' ((conv => whnf); first | refine V.NCond.mk ?_ | refine V.NIf.not_ ?_ | refine V.NIf.dec_ ?_ | refine V.NIf.no (by omega) ?_ | refine V.NIf.yes (by omega) ?_ | refine V.NIf.mk (fun _ => ?_) (fun _ => ?_) | refine V.NWrap.ok (by omega) (by omega) ?_ | refine V.NWrap.u64 (by omega) (by omega) ?_ | refine V.NLt.mk (by omega) ?_ | refine V.NBoth.mk ?_ ?_ | refine V.NTF.yes (by omega) ?_ | refine V.NTF.no (by omega) ?_ | refine V.NTF.dec ?_ | refine V.NDraw.q (by exact rfl) (by kernel_rfl) ?_ | refine V.NApp.one (by first | omega | (simp; omega)) (by first | omega | (simp; omega)) ?_ | (first | refine V.Fn.k0 (v_rbetween _ _ _) rfl ?_ | refine V.Fn.q0 (v_rbetween _ _ _) rfl ?_ | refine V.Fn.a0 (v_rbetween _ _ _) rfl ?_) | ((first | refine V.Fn.k (vb) [0] rfl ?_ ?_ | refine V.Fn.q (vb) [0] rfl ?_ ?_ | refine V.Fn.a (vb) [0] rfl ?_ ?_); · ((repeat' (first | exact rfl | exact Iff.rfl | exact trivial | exact (fun _ _ => rfl) | exact (fun _ h => absurd h (Nat.not_lt_zero _)) | refine ⟨?_, ?_⟩ | exact Iff.rfl | exact congrArg (fun z => V.SV.one (V.At.val (Value.int .i64 z))) (by omega))); done)) | (refine V.NDraw.any (by kernel_rfl) ?_) | fail)
  all_goals (conv => whnf)
  all_goals first
    | exact V.fin1 (Ca.stD_is (h4 (by omega)))
    | (obtain rfl : d = 0 := by omega
       exact V.fin1 (Ca.stD_no (by rw [show (-1 : Int) = 0 - 1 from rfl]; omega)))
    | (have ho : Ca.op c (d - 1) = 1 := by omega
       have cs := cs (by omega)
       exact V.NBack.at_ (d - 1) [] ⟨by omega, by omega, by omega, fun q => ⟨by omega, by omega, ho, q⟩⟩ (by omega) ⟨(by repeat' (first | exact rfl | exact Iff.rfl | exact trivial | exact (fun _ _ => rfl) | exact (fun _ h => absurd h (Nat.not_lt_zero _)) | refine ⟨?_, ?_⟩ | exact Iff.rfl | exact congrArg (fun z => V.SV.one (V.At.val (Value.int .i64 z))) (by omega))), congrArg (fun z => V.SV.one (V.At.val (Value.int .i64 z))) (by omega), trivial⟩ rfl (by repeat' (first | exact rfl | exact Iff.rfl | exact trivial | exact (fun _ _ => rfl) | exact (fun _ h => absurd h (Nat.not_lt_zero _)) | refine ⟨?_, ?_⟩ | exact Iff.rfl | exact congrArg (fun z => V.SV.one (V.At.val (Value.int .i64 z))) (by omega))) (by repeat' (first | exact rfl | exact Iff.rfl | exact trivial | exact (fun _ _ => rfl) | exact (fun _ h => absurd h (Nat.not_lt_zero _)) | refine ⟨?_, ?_⟩ | exact Iff.rfl | exact congrArg (fun z => V.SV.one (V.At.val (Value.int .i64 z))) (by omega))) (by repeat' (first | exact rfl | exact Iff.rfl | exact trivial | exact (fun _ _ => rfl) | exact (fun _ h => absurd h (Nat.not_lt_zero _)) | refine ⟨?_, ?_⟩ | exact Iff.rfl | exact congrArg (fun z => V.SV.one (V.At.val (Value.int .i64 z))) (by omega))))
    | (have ho : Ca.op c (d - 1) = 0 := by omega
       have cs := cs (by omega)
       exact V.NBack.at_ (d - 1) [] ⟨by omega, by omega, by omega, fun q => by omega⟩ (by omega) ⟨(by repeat' (first | exact rfl | exact Iff.rfl | exact trivial | exact (fun _ _ => rfl) | exact (fun _ h => absurd h (Nat.not_lt_zero _)) | refine ⟨?_, ?_⟩ | exact Iff.rfl | exact congrArg (fun z => V.SV.one (V.At.val (Value.int .i64 z))) (by omega))), congrArg (fun z => V.SV.one (V.At.val (Value.int .i64 z))) (by omega), trivial⟩ rfl (by repeat' (first | exact rfl | exact Iff.rfl | exact trivial | exact (fun _ _ => rfl) | exact (fun _ h => absurd h (Nat.not_lt_zero _)) | refine ⟨?_, ?_⟩ | exact Iff.rfl | exact congrArg (fun z => V.SV.one (V.At.val (Value.int .i64 z))) (by omega))) (by repeat' (first | exact rfl | exact Iff.rfl | exact trivial | exact (fun _ _ => rfl) | exact (fun _ h => absurd h (Nat.not_lt_zero _)) | refine ⟨?_, ?_⟩ | exact Iff.rfl | exact congrArg (fun z => V.SV.one (V.At.val (Value.int .i64 z))) (by omega))) (by repeat' (first | exact rfl | exact Iff.rfl | exact trivial | exact (fun _ _ => rfl) | exact (fun _ h => absurd h (Nat.not_lt_zero _)) | refine ⟨?_, ?_⟩ | exact Iff.rfl | exact congrArg (fun z => V.SV.one (V.At.val (Value.int .i64 z))) (by omega))))
theorem v_rcaStep0 (c : Cl) (n : Int) : V.Fn Tryd.prog 17 [.arr 1 c.hs.length (ga e1 c.hs)] [.agg [.val (.int .i64 c.we), .ref 0], .one (.val (.int .i64 n)), .one (.val (.int .i64 0))] (.int .i64 n) := by
  refine V.Fn.mk_ V.Tok V.mixed Tryd.func17 rfl Tryd.ntmps17 (by kernel_rfl) rfl rfl ?_
  repeat' ((conv => whnf); first | refine V.NCond.mk ?_ | refine V.NIf.not_ ?_ | refine V.NIf.dec_ ?_ | refine V.NIf.no (by omega) ?_ | refine V.NIf.yes (by omega) ?_ | refine V.NIf.mk (fun _ => ?_) (fun _ => ?_) | refine V.NWrap.ok (by omega) (by omega) ?_ | refine V.NWrap.u64 (by omega) (by omega) ?_ | refine V.NLt.mk (by omega) ?_ | refine V.NBoth.mk ?_ ?_ | refine V.NTF.yes (by omega) ?_ | refine V.NTF.no (by omega) ?_ | refine V.NTF.dec ?_ | refine V.NDraw.q (by exact rfl) (by kernel_rfl) ?_ | refine V.NApp.one (by first | omega | (simp; omega)) (by first | omega | (simp; omega)) ?_ | (refine V.NDraw.any (by kernel_rfl) ?_) | fail)
  refine V.NLoop.auto (fun (d : Nat) => [(1, .one (.val (.int .i64 n))), (2, .one (.val (.int .i64 0)))]) (fun (d : Nat) => []) [] [] (fun (d : Nat) => d) (fun (d : Nat) => True) 0 trivial (by repeat' (first | exact rfl | exact Iff.rfl | exact trivial | exact (fun _ _ => rfl) | exact (fun _ h => absurd h (Nat.not_lt_zero _)) | refine ⟨?_, ?_⟩ | exact Iff.rfl | exact congrArg (fun z => V.SV.one (V.At.val (Value.int .i64 z))) (by omega))) (by repeat' (first | exact rfl | exact Iff.rfl | exact trivial | exact (fun _ _ => rfl) | exact (fun _ h => absurd h (Nat.not_lt_zero _)) | refine ⟨?_, ?_⟩ | exact Iff.rfl | exact congrArg (fun z => V.SV.one (V.At.val (Value.int .i64 z))) (by omega))) (fun _ => ⟨rfl, rfl⟩) ?_; (conv => whnf); refine ⟨⟨rfl, rfl⟩, ?_⟩
  rintro d -
  repeat' ((conv => whnf); first | refine V.NCond.mk ?_ | refine V.NIf.not_ ?_ | refine V.NIf.dec_ ?_ | refine V.NIf.no (by omega) ?_ | refine V.NIf.yes (by omega) ?_ | refine V.NIf.mk (fun _ => ?_) (fun _ => ?_) | refine V.NWrap.ok (by omega) (by omega) ?_ | refine V.NWrap.u64 (by omega) (by omega) ?_ | refine V.NLt.mk (by omega) ?_ | refine V.NBoth.mk ?_ ?_ | refine V.NTF.yes (by omega) ?_ | refine V.NTF.no (by omega) ?_ | refine V.NTF.dec ?_ | refine V.NDraw.q (by exact rfl) (by kernel_rfl) ?_ | refine V.NApp.one (by first | omega | (simp; omega)) (by first | omega | (simp; omega)) ?_ | (refine V.NDraw.any (by kernel_rfl) ?_) | fail)
  exact V.fin1 rfl
theorem v_rcaStep (c : Cl) (n m : Int) (h : Ca.Ok c) (hn : Ca.Day n) (hm : -500 ≤ m ∧ m ≤ 500) : V.Fn Tryd.prog 17 [.arr 1 c.hs.length (ga e1 c.hs)] [.agg [.val (.int .i64 c.we), .ref 0], .one (.val (.int .i64 n)), .one (.val (.int .i64 m))] (.int .i64 (Ca.stp c n m)) := by
  rcases Int.lt_trichotomy m 0 with q | rfl | q
  · have := v_rcaStepD c n (-m) h hn (by omega)
    rwa [Int.neg_neg, ← Ca.stp_n q] at this
  · have := v_rcaStep0 c n
    rwa [show n = Ca.stp c n 0 from Ca.stp_0.symm] at this
  · have := v_rcaStepU c n m h hn (by omega)
    rwa [← Ca.stp_p q] at this
theorem v_rcaNext (c : Cl) (n : Int) (h : Ca.Ok c) (hn : Ca.Day n) : V.Fn Tryd.prog 16 [.arr 1 c.hs.length (ga e1 c.hs)] [.agg [.val (.int .i64 c.we), .ref 0], .one (.val (.int .i64 n))] (.int .i64 (Ca.stU c (n - 1) 1)) := by
  have a1 := fun q => Ca.nx_here (c := c) hn q
  have a2 := fun q => Ca.nx_on (c := c) (n := n) q
  refine V.Fn.mk_ V.Tok V.mixed Tryd.func16 rfl Tryd.ntmps16 (by kernel_rfl) rfl rfl ?_
  repeat' ((conv => whnf); first | refine V.NCond.mk ?_ | refine V.NIf.not_ ?_ | refine V.NIf.dec_ ?_ | refine V.NIf.no (by omega) ?_ | refine V.NIf.yes (by omega) ?_ | refine V.NIf.mk (fun _ => ?_) (fun _ => ?_) | refine V.NWrap.ok (by omega) (by omega) ?_ | refine V.NWrap.u64 (by omega) (by omega) ?_ | refine V.NLt.mk (by omega) ?_ | refine V.NBoth.mk ?_ ?_ | refine V.NTF.yes (by omega) ?_ | refine V.NTF.no (by omega) ?_ | refine V.NTF.dec ?_ | refine V.NDraw.q (by exact rfl) (by kernel_rfl) ?_ | refine V.NApp.one (by first | omega | (simp; omega)) (by first | omega | (simp; omega)) ?_ | ((first | refine V.Fn.k (v_business c n h) [0] rfl ?_ ?_ | refine V.Fn.q (v_business c n h) [0] rfl ?_ ?_ | refine V.Fn.a (v_business c n h) [0] rfl ?_ ?_); · ((repeat' (first | exact rfl | exact Iff.rfl | exact trivial | exact (fun _ _ => rfl) | exact (fun _ h => absurd h (Nat.not_lt_zero _)) | refine ⟨?_, ?_⟩ | exact Iff.rfl | exact congrArg (fun z => V.SV.one (V.At.val (Value.int .i64 z))) (by omega))); done)) | ((first | refine V.Fn.k (v_rcaStepU c n 1 h hn (by omega)) [0] rfl ?_ ?_ | refine V.Fn.q (v_rcaStepU c n 1 h hn (by omega)) [0] rfl ?_ ?_ | refine V.Fn.a (v_rcaStepU c n 1 h hn (by omega)) [0] rfl ?_ ?_); · ((repeat' (first | exact rfl | exact Iff.rfl | exact trivial | exact (fun _ _ => rfl) | exact (fun _ h => absurd h (Nat.not_lt_zero _)) | refine ⟨?_, ?_⟩ | exact Iff.rfl | exact congrArg (fun z => V.SV.one (V.At.val (Value.int .i64 z))) (by omega))); done)) | (refine V.NDraw.any (by kernel_rfl) ?_) | fail)
  all_goals (conv => whnf)
  all_goals first
    | exact V.fin1 (a1 (by have q := ‹Ca.Day n ∧ Ca.op c n = 1›; exact q.2))
    | exact V.fin1 (a2 (fun q => by have z := ‹¬ (Ca.Day n ∧ Ca.op c n = 1)›; exact z ⟨hn, q⟩))
theorem v_rcaFit (c : Cl) (n : Int) (h : Ca.Ok c) (hn : Ca.Day n) : V.Fn Tryd.prog 18 [.arr 1 c.hs.length (ga e1 c.hs)] [.agg [.val (.int .i64 c.we), .ref 0], .one (.val (.int .i64 n))] (.int .i64 (Ca.fk c n)) := by
  have f1 := @Ca.fk_1 c n
  have f2 := @Ca.fk_2 c n
  have nh := fun q => Ca.nx_here (c := c) hn q
  have po := fun q => Ca.pv_on (c := c) (n := n) q
  have st := v_rcaStepD c n 1 h hn (by omega)
  have ot := v_rOf n
  rw [(D.o_yes hn).1, (D.o_yes hn).2.1] at ot
  have sd := Ca.stU_cases (c := c) (a := n - 1) (m := 1) (by unfold Ca.Day at hn; omega)
  have ou := v_rOf (Ca.stU c (n - 1) 1)
  have ks : 0 ≤ Ca.stU c (n - 1) 1 → D.yO' (Ca.stU c (n - 1) 1) = D.yO (Ca.stU c (n - 1) 1) ∧ D.mO' (Ca.stU c (n - 1) 1) = D.mO (Ca.stU c (n - 1) 1) := fun q => by
    have y := Ca.stU_ok q
    have z := D.o_yes (n := Ca.stU c (n - 1) 1) ⟨q, y.2.1⟩
    exact ⟨z.1, z.2.1⟩
  have nb : ¬ Ca.Mo (Ca.stU c (n - 1) 1) n → Ca.stD c n 1 = Ca.fk c n := fun q => by
    rw [f2 q, po (fun z => q (by rw [nh z]; exact ⟨hn.1, rfl, rfl⟩))]
  have mo : Ca.Mo (Ca.stU c (n - 1) 1) n ↔ (0 ≤ Ca.stU c (n - 1) 1 ∧ D.yO (Ca.stU c (n - 1) 1) = D.yO n ∧ D.mO (Ca.stU c (n - 1) 1) = D.mO n) := Iff.rfl
  refine V.Fn.mk_ V.Tok V.mixed Tryd.func18 rfl Tryd.ntmps18 (by kernel_rfl) rfl rfl ?_
  repeat' ((conv => whnf); first | refine V.NCond.mk ?_ | refine V.NIf.not_ ?_ | refine V.NIf.dec_ ?_ | refine V.NIf.no (by omega) ?_ | refine V.NIf.yes (by omega) ?_ | refine V.NIf.mk (fun _ => ?_) (fun _ => ?_) | refine V.NWrap.ok (by omega) (by omega) ?_ | refine V.NWrap.u64 (by omega) (by omega) ?_ | refine V.NLt.mk (by omega) ?_ | refine V.NBoth.mk ?_ ?_ | refine V.NTF.yes (by omega) ?_ | refine V.NTF.no (by omega) ?_ | refine V.NTF.dec ?_ | refine V.NDraw.q (by exact rfl) (by kernel_rfl) ?_ | refine V.NApp.one (by first | omega | (simp; omega)) (by first | omega | (simp; omega)) ?_ | ((first | refine V.Fn.k (v_rcaNext c n h hn) [0] rfl ?_ ?_ | refine V.Fn.q (v_rcaNext c n h hn) [0] rfl ?_ ?_ | refine V.Fn.a (v_rcaNext c n h hn) [0] rfl ?_ ?_); · ((repeat' (first | exact rfl | exact Iff.rfl | exact trivial | exact (fun _ _ => rfl) | exact (fun _ h => absurd h (Nat.not_lt_zero _)) | refine ⟨?_, ?_⟩ | exact Iff.rfl | exact congrArg (fun z => V.SV.one (V.At.val (Value.int .i64 z))) (by omega))); done)) | (first | refine V.Fn.k0 (ot) rfl ?_ | refine V.Fn.q0 (ot) rfl ?_ | refine V.Fn.a0 (ot) rfl ?_) | (first | refine V.Fn.k0 (ou) rfl ?_ | refine V.Fn.q0 (ou) rfl ?_ | refine V.Fn.a0 (ou) rfl ?_) | ((first | refine V.Fn.k (st) [0] rfl ?_ ?_ | refine V.Fn.q (st) [0] rfl ?_ ?_ | refine V.Fn.a (st) [0] rfl ?_ ?_); · ((repeat' (first | exact rfl | exact Iff.rfl | exact trivial | exact (fun _ _ => rfl) | exact (fun _ h => absurd h (Nat.not_lt_zero _)) | refine ⟨?_, ?_⟩ | exact Iff.rfl | exact congrArg (fun z => V.SV.one (V.At.val (Value.int .i64 z))) (by omega))); done)) | (refine V.NDraw.any (by kernel_rfl) ?_) | fail)
  all_goals (conv => whnf)
  all_goals first
    | exact V.fin1 (f1 (mo.2 (by have := ks (by assumption); omega)))
    | exact V.fin1 (nb (fun q => by have := mo.1 q; have := ks this.1; omega)).symm
theorem v_caFit (c : Cl) (n : Int) (hc : c.hs.length ≤ 9223372036854775807) : V.Fn Tryd.prog 13 [.arr 1 c.hs.length (ga e1 c.hs), dt] [.agg [.val (.int .i64 c.we), .ref 0], .one (.val (.int .i64 n))] (.tuple #[.int .i64 (Ca.fiV c n), .int .i64 (Ca.fiE c n)]) := by
  have ck := v_caChecks c [n] hc (by simp)
  rw [show Ca.chks c [n] = Ca.e1 c n from rfl] at ck
  have h1 : ¬ Ca.e1 c n = 0 → Ca.fiV c n = 0 ∧ Ca.fiE c n = Ca.e1 c n := fun h => ⟨if_pos h, if_pos h⟩
  by_cases h0 : Ca.e1 c n = 0
  · obtain ⟨h, hn, _⟩ := Ca.e1_ok h0
    have v0 : Ca.fiV c n = Ca.toV (Ca.fk c n) := if_neg (by omega)
    have e0 : Ca.fiE c n = Ca.toE (Ca.fk c n) := if_neg (by omega)
    have f1 := @Ca.fk_1 c n
    have f2 := @Ca.fk_2 c n
    have ot := v_dOf n
    rw [(D.o_yes hn).1, (D.o_yes hn).2.1] at ot
    have hd := hn
    unfold Ca.Day at hd
    have ou := v_dOf (Ca.stU c (n - 1) 1)
    have nu := v_nthU c n 1 h (by omega) (by omega)
    have nd := v_nthD c n 1 h (by omega) (by omega)
    have ks : 0 ≤ Ca.stU c (n - 1) 1 → D.yO' (Ca.stU c (n - 1) 1) = D.yO (Ca.stU c (n - 1) 1) ∧ D.mO' (Ca.stU c (n - 1) 1) = D.mO (Ca.stU c (n - 1) 1) := fun q => by
      have y := Ca.stU_ok q
      have z := D.o_yes (n := Ca.stU c (n - 1) 1) ⟨q, y.2.1⟩
      exact ⟨z.1, z.2.1⟩
    have mo : Ca.Mo (Ca.stU c (n - 1) 1) n ↔ (0 ≤ Ca.stU c (n - 1) 1 ∧ D.yO (Ca.stU c (n - 1) 1) = D.yO n ∧ D.mO (Ca.stU c (n - 1) 1) = D.mO n) := Iff.rfl
    have r1 : Ca.Mo (Ca.stU c (n - 1) 1) n → Ca.fiV c n = Ca.stU c (n - 1) 1 ∧ Ca.fiE c n = 0 := fun q => by
      rw [v0, e0, f1 q]
      exact Ca.toV_pos q.1
    have r2 : ¬ Ca.Mo (Ca.stU c (n - 1) 1) n → Ca.fiV c n = Ca.toV (Ca.stD c (n + 1) 1) ∧ Ca.fiE c n = Ca.toE (Ca.stD c (n + 1) 1) := fun q => by
      rw [v0, e0, f2 q]
      exact ⟨rfl, rfl⟩
    refine V.Fn.mk_ V.Tok V.mixed Tryd.func13 rfl Tryd.ntmps13 (by kernel_rfl) rfl rfl ?_
    repeat' ((conv => whnf); first | refine V.NCond.mk ?_ | refine V.NIf.not_ ?_ | refine V.NIf.dec_ ?_ | refine V.NIf.no (by omega) ?_ | refine V.NIf.yes (by omega) ?_ | refine V.NIf.mk (fun _ => ?_) (fun _ => ?_) | refine V.NWrap.ok (by omega) (by omega) ?_ | refine V.NWrap.u64 (by omega) (by omega) ?_ | refine V.NLt.mk (by omega) ?_ | refine V.NBoth.mk ?_ ?_ | refine V.NTF.yes (by omega) ?_ | refine V.NTF.no (by omega) ?_ | refine V.NTF.dec ?_ | refine V.NDraw.q (by exact rfl) (by kernel_rfl) ?_ | refine V.NApp.one (by first | omega | (simp; omega)) (by first | omega | (simp; omega)) ?_ | ((first | refine V.Fn.k (ck) [0, 3] rfl ?_ ?_ | refine V.Fn.q (ck) [0, 3] rfl ?_ ?_ | refine V.Fn.a (ck) [0, 3] rfl ?_ ?_); · ((repeat' (first | exact rfl | exact Iff.rfl | exact trivial | exact (fun _ _ => rfl) | exact (fun _ h => absurd h (Nat.not_lt_zero _)) | refine ⟨?_, ?_⟩ | exact Iff.rfl | exact congrArg (fun z => V.SV.one (V.At.val (Value.int .i64 z))) (by omega))); done)) | ((first | refine V.Fn.k (ot) [1] rfl ?_ ?_ | refine V.Fn.q (ot) [1] rfl ?_ ?_ | refine V.Fn.a (ot) [1] rfl ?_ ?_); · ((repeat' (first | exact rfl | exact Iff.rfl | exact trivial | exact (fun _ _ => rfl) | exact (fun _ h => absurd h (Nat.not_lt_zero _)) | refine ⟨?_, ?_⟩ | exact Iff.rfl | exact congrArg (fun z => V.SV.one (V.At.val (Value.int .i64 z))) (by omega))); done)) | ((first | refine V.Fn.k (ou) [1] rfl ?_ ?_ | refine V.Fn.q (ou) [1] rfl ?_ ?_ | refine V.Fn.a (ou) [1] rfl ?_ ?_); · ((repeat' (first | exact rfl | exact Iff.rfl | exact trivial | exact (fun _ _ => rfl) | exact (fun _ h => absurd h (Nat.not_lt_zero _)) | refine ⟨?_, ?_⟩ | exact Iff.rfl | exact congrArg (fun z => V.SV.one (V.At.val (Value.int .i64 z))) (by omega))); done)) | ((first | refine V.Fn.k (nu) [0] rfl ?_ ?_ | refine V.Fn.q (nu) [0] rfl ?_ ?_ | refine V.Fn.a (nu) [0] rfl ?_ ?_); · ((repeat' (first | exact rfl | exact Iff.rfl | exact trivial | exact (fun _ _ => rfl) | exact (fun _ h => absurd h (Nat.not_lt_zero _)) | refine ⟨?_, ?_⟩ | exact Iff.rfl | exact congrArg (fun z => V.SV.one (V.At.val (Value.int .i64 z))) (by omega))); done)) | ((first | refine V.Fn.k (nd) [0] rfl ?_ ?_ | refine V.Fn.q (nd) [0] rfl ?_ ?_ | refine V.Fn.a (nd) [0] rfl ?_ ?_); · ((repeat' (first | exact rfl | exact Iff.rfl | exact trivial | exact (fun _ _ => rfl) | exact (fun _ h => absurd h (Nat.not_lt_zero _)) | refine ⟨?_, ?_⟩ | exact Iff.rfl | exact congrArg (fun z => V.SV.one (V.At.val (Value.int .i64 z))) (by omega))); done)) | (first | refine V.Fn.k0 (v_told _) rfl ?_ | refine V.Fn.q0 (v_told _) rfl ?_ | refine V.Fn.a0 (v_told _) rfl ?_) | (refine V.NDraw.any (by kernel_rfl) ?_) | fail)
    all_goals (conv => whnf)
    all_goals first
      | exact V.fin2 (r1 (mo.2 (by have := ks (by assumption); omega)))
      | exact V.fin2 (r2 (fun q => by have := mo.1 q; have := ks this.1; omega))
      | (exfalso; omega)
  · refine V.Fn.mk_ V.Tok V.mixed Tryd.func13 rfl Tryd.ntmps13 (by kernel_rfl) rfl rfl ?_
    repeat' ((conv => whnf); first | refine V.NCond.mk ?_ | refine V.NIf.not_ ?_ | refine V.NIf.dec_ ?_ | refine V.NIf.no (by omega) ?_ | refine V.NIf.yes (by omega) ?_ | refine V.NIf.mk (fun _ => ?_) (fun _ => ?_) | refine V.NWrap.ok (by omega) (by omega) ?_ | refine V.NWrap.u64 (by omega) (by omega) ?_ | refine V.NLt.mk (by omega) ?_ | refine V.NBoth.mk ?_ ?_ | refine V.NTF.yes (by omega) ?_ | refine V.NTF.no (by omega) ?_ | refine V.NTF.dec ?_ | refine V.NDraw.q (by exact rfl) (by kernel_rfl) ?_ | refine V.NApp.one (by first | omega | (simp; omega)) (by first | omega | (simp; omega)) ?_ | ((first | refine V.Fn.k (ck) [0, 3] rfl ?_ ?_ | refine V.Fn.q (ck) [0, 3] rfl ?_ ?_ | refine V.Fn.a (ck) [0, 3] rfl ?_ ?_); · ((repeat' (first | exact rfl | exact Iff.rfl | exact trivial | exact (fun _ _ => rfl) | exact (fun _ h => absurd h (Nat.not_lt_zero _)) | refine ⟨?_, ?_⟩ | exact Iff.rfl | exact congrArg (fun z => V.SV.one (V.At.val (Value.int .i64 z))) (by omega))); done)) | (refine V.NDraw.any (by kernel_rfl) ?_) | fail)
    all_goals (conv => whnf)
    all_goals first
      | exact V.fin2 (h1 (by assumption))
end Go.Proofs.YtngjkjadncgdgaaDoor

/- A contract over an empty list, of a call that is handed nil. -/
namespace Go.Proofs.YtngjkjadncgdgaaDoor.V
open Go Go.RowKit
set_option linter.unusedVariables false
/-- nil in the place of object n -/
def aN (n : Nat) : At → At
  | .ref j => if j = n then .val (.slice none 0 0) else .ref j
  | a => a
def aNok (n : Nat) : At → Bool
  | .ptr i _ _ _ => i != n
  | .clo _ _ => false
  | _ => true
def sN (n : Nat) : SV → SV
  | .one a => .one (aN n a)
  | .agg l => .agg (l.map (aN n))
  | .tup l => .tup l
def sNok (n : Nat) : SV → Bool
  | .one a => aNok n a
  | .agg l => l.all (aNok n)
  | .tup _ => false
def rN (n : Nat) (ρ : Rho) : Rho := fun i => if i = n then some (.slice none 0 0) else ρ i
theorem At.nil_ {n : Nat} {ρ : Rho} {a : At} {x : Value} (hk : aNok n a = true) (h : (aN n a).is ρ x) : a.is (rN n ρ) x := by
  cases a with
  | val v => exact h
  | tf b => exact h
  | prop p => exact h
  | clo f c => cases hk
  | ptr i k j s =>
    have hne : i ≠ n := by simpa [aNok] using hk
    obtain ⟨b, e, q⟩ := h
    refine ⟨b, ?_, q⟩
    unfold base rN at *
    rw [if_neg hne]; exact e
  | ref i =>
    by_cases e : i = n
    · have h : (aN n (.ref i)).is ρ x := h
      rw [show aN n (.ref i) = .val (.slice none 0 0) from if_pos e] at h
      have h : x = .slice none 0 0 := h
      subst h
      exact ⟨if_pos e, rfl⟩
    · have h : (aN n (.ref i)).is ρ x := h
      rw [show aN n (.ref i) = .ref i from if_neg e] at h
      exact ⟨(if_neg e).trans h.1, h.2⟩
theorem Ats.nil_ {n : Nat} {ρ : Rho} : ∀ {l : List At} {xs : List Value}, l.all (aNok n) = true → Ats ρ (l.map (aN n)) xs → Ats (rN n ρ) l xs
  | [], _, _, h => h
  | a :: l, _, hk, ⟨x, r, e, h, hr⟩ => by
    simp only [List.all_cons, Bool.and_eq_true] at hk
    exact ⟨x, r, e, At.nil_ hk.1 h, Ats.nil_ hk.2 hr⟩
theorem Svs.nilv {n : Nat} {ρ : Rho} : ∀ {l : List SV} {xs : List Value}, l.all (sNok n) = true → Svs ρ (l.map (sN n)) xs → Svs (rN n ρ) l xs
  | [], _, _, h => h
  | a :: l, _, hk, ⟨x, r, e, h, hr⟩ => by
    simp only [List.all_cons, Bool.and_eq_true] at hk
    refine ⟨x, r, e, ?_, Svs.nilv hk.2 hr⟩
    cases a with
    | one a => exact At.nil_ (n := n) hk.1 h
    | agg c => obtain ⟨cs, hc, e⟩ := h; exact ⟨cs, Ats.nil_ hk.1 hc, e⟩
    | tup c => exact h
/-- the last of the objects: nil -/
theorem Fn.nilv {P : Program} {f : FuncId} {os : List Ob} {args : List SV} {x : Value} {s : Nat} {g : Nat → List Value} (h : Fn P f (os ++ [.arr s 0 g]) args x) (hk : args.all (sNok os.length) = true) : Fn P f os (args.map (sN os.length)) x :=
  ⟨h.b, fun w ρ xs ho hs => h.c w (rN os.length ρ) xs (fun i o e => by
    rcases Nat.lt_trichotomy i os.length with q | q | q
    · rw [List.getElem?_append_left q] at e
      obtain ⟨v, hv, r⟩ := ho i o e
      exact ⟨v, (if_neg (by omega)).trans hv, r⟩
    · subst q
      rw [List.getElem?_append_right (Nat.le_refl _), Nat.sub_self] at e
      obtain rfl := Option.some.inj e
      exact ⟨_, if_pos rfl, none, 0, rfl, by omega, by omega, fun k hk => by omega⟩
    · rw [List.getElem?_eq_none (by simp; omega)] at e; cases e) (Svs.nilv hk hs)⟩
/-- an append, told as a list -/
theorem NApp.to_ {α : Type} [Inhabited α] {en : α → List Value} {n m : Nat} (l' : List α) {get news : Nat → List Value} {bytes : Nat} {K : Nat → (Nat → List Value) → Prop} (h : n + m = l'.length) (hb : l'.length ≤ 9223372036854775807) (hr : l'.length * bytes ≤ 140737488355328) (h1 : ∀ k, k < n → ga en l' k = get k) (h2 : ∀ k, k < m → ga en l' (n + k) = news k) (hK : K l'.length (ga en l')) : NApp n m get news bytes K :=
  ⟨⟨_, _, h.symm, hb, hr, h1, h2, hK⟩⟩
theorem ga_take {α : Type} [Inhabited α] {en : α → List Value} {l : List α} {i k : Nat} (h : k < i) (hl : i ≤ l.length) : ga en (l.take i) k = ga en l k := by
  rw [ga_at (by rw [List.length_take]; omega), ga_at (by omega), List.getElem_take]
theorem ga_left {α : Type} [Inhabited α] {en : α → List Value} {l r : List α} {k : Nat} (h : k < l.length) : ga en (l ++ r) k = ga en l k := by
  rw [ga_at (by simp; omega), ga_at h, List.getElem_append_left h]
theorem ga_right {α : Type} [Inhabited α] {en : α → List Value} {l r : List α} {n k : Nat} (hn : n = l.length) (h : k < r.length) : ga en (l ++ r) (n + k) = ga en r k := by
  subst hn
  rw [ga_at (by simp; omega), ga_at h, List.getElem_append_right (by omega)]
  congr 2
  omega
theorem ga_drop {α : Type} [Inhabited α] {en : α → List Value} {l : List α} {i k : Nat} (h : i + k < l.length) : ga en (l.drop i) k = ga en l (i + k) := by
  rw [ga_at (by simp; omega), ga_at h, List.getElem_drop]
end Go.Proofs.YtngjkjadncgdgaaDoor.V

/- What must be in any case, of calendars. -/
namespace Go.Proofs.YtngjkjadncgdgaaDoor
namespace Ca
def W : Cl := ⟨96, [739936]⟩
theorem w0 : chk W = 0 := by decide
theorem w1 : isV W 739936 = false ∧ e1 W 739936 = 0 := by decide
theorem w2 : neV W 739936 = 739937 ∧ neE W 739936 = 0 := by
  have s : stU W (739936 - 1) 1 = 739937 := stU_is (by unfold Up; decide)
  obtain ⟨a, b⟩ := neE_of (c := W) (n := 739936) w0 (by decide) (by rw [s]; decide)
  exact ⟨b.trans s, a⟩
theorem w3 : sV W 739935 4 = 739942 ∧ sE W 739935 4 = 0 := by
  have s : stp W 739935 4 = 739942 := (stp_p (by decide)).trans (stU_is (by unfold Up; decide))
  obtain ⟨a, b⟩ := sE_of (c := W) (n := 739935) (m := 4) w0 (by decide) (by decide) (by rw [s]; decide)
  exact ⟨b.trans s, a⟩
theorem w4 : sV W 739937 (-2) = 739932 ∧ sE W 739937 (-2) = 0 := by
  have s : stp W 739937 (-2) = 739932 := (stp_n (by decide)).trans (stD_is (by unfold Dn; decide))
  obtain ⟨a, b⟩ := sE_of (c := W) (n := 739937) (m := -2) w0 (by decide) (by decide) (by rw [s]; decide)
  exact ⟨b.trans s, a⟩
theorem w5 : coV W 739935 739942 = 4 ∧ coE W 739935 739942 = 0 := by decide
theorem w6 : fiV W 739949 = 739949 ∧ fiE W 739949 = 0 := by
  have s : stU W (739949 - 1) 1 = 739949 := nx_here (by decide) (by decide)
  have f : fk W 739949 = 739949 := (fk_1 (by rw [s]; exact ⟨by decide, rfl, rfl⟩)).trans s
  have e : e1 W 739949 = 0 := by decide
  have t := toV_pos (d := fk W 739949) (by rw [f]; decide)
  exact ⟨((if_neg (by omega)).trans t.1).trans f, (if_neg (by omega)).trans t.2⟩
theorem w7 : chk ⟨127, []⟩ = 3 := by decide
theorem w8 : chk ⟨0, [2, 1]⟩ = 4 := by decide
/-! errors of two days -/
theorem ch2_1 {c : Cl} {n t : Int} (h : ¬ e1 c n = 0) : chks c [n, t] = e1 c n := by
  by_cases k : chk c = 0
  · rcases dchk n with q | q
    · exact absurd (e1_of k q.2) h
    · rw [e1_2 k q.2, chks_2 k]
      show (if D.chk n ≠ 0 then D.chk n else _) = 3
      rw [if_pos (by omega), q.1]
  · rw [e1_1 k, chks_1 k]
theorem ch2_2 {c : Cl} {n t : Int} (h : e1 c n = 0) (k : ¬ Day t) : chks c [n, t] = 3 := by
  obtain ⟨_, a, b⟩ := e1_ok h
  rw [chks_2 b]
  have e := D.chk_yes a.1 a.2
  have f := D.chk_no k
  show (if D.chk n ≠ 0 then D.chk n else (if D.chk t ≠ 0 then D.chk t else _)) = 3
  rw [if_neg (by omega), if_pos (by omega), f]
theorem ch2_3 {c : Cl} {n t : Int} (h : e1 c n = 0) (k : Day t) : chks c [n, t] = 0 := by
  obtain ⟨_, a, b⟩ := e1_ok h
  rw [chks_2 b]
  have e := D.chk_yes a.1 a.2
  have f := D.chk_yes k.1 k.2
  show (if D.chk n ≠ 0 then D.chk n else (if D.chk t ≠ 0 then D.chk t else 0)) = 0
  rw [if_neg (by omega), if_neg (by omega)]
/-- what is answered where the calendar or the day is wrong -/
theorem no_all {c : Cl} {n : Int} (h : ¬ e1 c n = 0) (m t : Int) : isV c n = false ∧ neV c n = 0 ∧ neE c n = e1 c n ∧ sV c n m = 0 ∧ sE c n m = e1 c n ∧ coV c n t = 0 ∧ coE c n t = e1 c n ∧ fiV c n = 0 ∧ fiE c n = e1 c n := by
  have s0 : sE0 c n m = e1 c n := if_pos h
  have c0 : coE c n t = e1 c n := by unfold coE; rw [ch2_1 h, if_pos h]
  exact ⟨decide_eq_false (fun q => h q.1), if_pos h, if_pos h, if_pos (by omega), (if_pos (by omega)).trans s0, if_neg (by omega), c0, if_pos h, if_pos h⟩
theorem to_cases (d : Int) : (d < 0 ∧ toV d = 0 ∧ toE d = 8) ∨ (0 ≤ d ∧ toV d = d ∧ toE d = 0) := by
  by_cases h : d < 0
  · exact .inl ⟨h, toV_neg h⟩
  · exact .inr ⟨by omega, toV_pos (by omega)⟩
/-- .. and where they are right -/
theorem yes_all {c : Cl} {n : Int} (h : e1 c n = 0) (m t : Int) : isV c n = decide (Day n ∧ op c n = 1) ∧
    ((stU c (n - 1) 1 < 0 ∧ neV c n = 0 ∧ neE c n = 8) ∨ (0 ≤ stU c (n - 1) 1 ∧ neV c n = stU c (n - 1) 1 ∧ neE c n = 0)) ∧
    (((m < -500 ∨ 500 < m) ∧ sV c n m = 0 ∧ sE c n m = 3) ∨ ((-500 ≤ m ∧ m ≤ 500) ∧ stp c n m < 0 ∧ sV c n m = 0 ∧ sE c n m = 8) ∨ ((-500 ≤ m ∧ m ≤ 500) ∧ 0 ≤ stp c n m ∧ sV c n m = stp c n m ∧ sE c n m = 0)) ∧
    (((t < 0 ∨ 3652058 < t) ∧ coV c n t = 0 ∧ coE c n t = 3) ∨ (0 ≤ t ∧ t ≤ 3652058 ∧ t < n ∧ coV c n t = 0 ∧ coE c n t = 1) ∨ (0 ≤ t ∧ t ≤ 3652058 ∧ n ≤ t ∧ coV c n t = cnt c n t ∧ coE c n t = 0)) ∧
    ((fk c n < 0 ∧ fiV c n = 0 ∧ fiE c n = 8) ∨ (0 ≤ fk c n ∧ fiV c n = fk c n ∧ fiE c n = 0)) := by
  obtain ⟨_, hd, hk⟩ := e1_ok h
  have nh : ¬ e1 c n ≠ 0 := fun q => q h
  refine ⟨?_, ?_, ?_, ?_, ?_⟩
  · unfold isV; rw [decide_eq_decide]; exact ⟨fun q => ⟨hd, q.2⟩, fun q => ⟨h, q.2⟩⟩
  · unfold neV neE
    rw [if_neg nh, if_neg nh]
    exact to_cases _
  · by_cases q : m < -500 ∨ 500 < m
    · have s : sE0 c n m = 3 := (if_neg nh).trans (if_pos q)
      exact .inl ⟨q, if_pos (by omega), (if_pos (by omega)).trans s⟩
    · have s : ¬ sE0 c n m ≠ 0 := fun z => z ((if_neg nh).trans (if_neg q))
      unfold sV sE
      rw [if_neg s, if_neg s]
      rcases to_cases (stp c n m) with z | z
      · exact .inr (.inl ⟨by omega, z⟩)
      · exact .inr (.inr ⟨by omega, z⟩)
  · by_cases q : Day t
    · have s := ch2_3 h q
      unfold Day at q
      by_cases r : t < n
      · have e : coE c n t = 1 := (if_neg (by omega)).trans (if_pos r)
        exact .inr (.inl ⟨q.1, q.2, r, if_neg (by omega), e⟩)
      · have e : coE c n t = 0 := (if_neg (by omega)).trans (if_neg r)
        exact .inr (.inr ⟨q.1, q.2, by omega, if_pos e, e⟩)
    · have s := ch2_2 h q
      unfold Day at q
      have e : coE c n t = 3 := (if_pos (by omega)).trans s
      exact .inl ⟨by omega, if_neg (by omega), e⟩
  · unfold fiV fiE
    rw [if_neg nh, if_neg nh]
    exact to_cases _
end Ca
end Go.Proofs.YtngjkjadncgdgaaDoor

/- What must be in any case, of calendars. -/
namespace Go.Proofs.YtngjkjadncgdgaaDoor
open Go Go.RowKit V
set_option maxRecDepth 100000
set_option linter.unusedVariables false
theorem v_caCheckNil : V.Fn Tryd.prog 20 [] [.agg [.val (.int .i64 127), .val (.slice none 0 0)]] (.int .i64 3) :=
  V.Fn.nilv (os := []) (s := 1) (g := ga e1 []) (v_caCheck ⟨127, []⟩ (by decide)) rfl
theorem v_calBegun : V.Fn Tryd.prog 19 [dt] [] (.bool true) := by
  have c1 := v_caIs Ca.W 739936 (by decide)
  rw [Ca.w1.1, Ca.w1.2] at c1
  have c2 := v_caNext Ca.W 739936 (by decide)
  rw [Ca.w2.1, Ca.w2.2] at c2
  have c3 := v_caStep Ca.W 739935 4 (by decide)
  rw [Ca.w3.1, Ca.w3.2] at c3
  have c4 := v_caStep Ca.W 739937 (-2) (by decide)
  rw [Ca.w4.1, Ca.w4.2] at c4
  have c5 := v_caCount Ca.W 739935 739942 (by decide)
  rw [Ca.w5.1, Ca.w5.2] at c5
  have c6 := v_caFit Ca.W 739949 (by decide)
  rw [Ca.w6.1, Ca.w6.2] at c6
  have c8 := v_caCheck ⟨0, [2, 1]⟩ (by decide)
  rw [Ca.w8] at c8
  refine V.Fn.mk_ V.Tok V.mixed Tryd.func19 rfl Tryd.ntmps19 (by kernel_rfl) rfl rfl ?_
  repeat' ((conv => whnf); first | (refine V.NIf.yes ?_ ?_; · (decide; done)) | (refine V.NIf.no ?_ ?_; · (decide; done)) | refine V.NCond.mk ?_ | refine V.NIf.not_ ?_ | refine V.NIf.dec_ ?_ | refine V.NIf.no (by omega) ?_ | refine V.NIf.yes (by omega) ?_ | refine V.NIf.mk (fun _ => ?_) (fun _ => ?_) | refine V.NWrap.ok (by omega) (by omega) ?_ | refine V.NWrap.u64 (by omega) (by omega) ?_ | refine V.NLt.mk (by omega) ?_ | refine V.NBoth.mk ?_ ?_ | refine V.NTF.yes (by omega) ?_ | refine V.NTF.no (by omega) ?_ | refine V.NTF.dec ?_ | refine V.NDraw.q (by exact rfl) (by kernel_rfl) ?_ | refine V.NApp.one (by first | omega | (simp; omega)) (by first | omega | (simp; omega)) ?_ | (refine V.NCall.inl (f := 31) V.Tok V.mixed Tryd.func31 rfl Tryd.ntmps31 (by kernel_rfl) rfl ?_) | ((first | refine V.Fn.k (c1) [2] rfl ?_ ?_ | refine V.Fn.q (c1) [2] rfl ?_ ?_ | refine V.Fn.a (c1) [2] rfl ?_ ?_); · ((repeat' (first | exact rfl | exact Iff.rfl | exact trivial | exact (fun _ _ => rfl) | exact (fun _ h => absurd h (Nat.not_lt_zero _)) | refine ⟨?_, ?_⟩ | exact Iff.rfl | exact congrArg (fun z => V.SV.one (V.At.val (Value.int .i64 z))) (by omega))); done)) | ((first | refine V.Fn.k (c2) [4] rfl ?_ ?_ | refine V.Fn.q (c2) [4] rfl ?_ ?_ | refine V.Fn.a (c2) [4] rfl ?_ ?_); · ((repeat' (first | exact rfl | exact Iff.rfl | exact trivial | exact (fun _ _ => rfl) | exact (fun _ h => absurd h (Nat.not_lt_zero _)) | refine ⟨?_, ?_⟩ | exact Iff.rfl | exact congrArg (fun z => V.SV.one (V.At.val (Value.int .i64 z))) (by omega))); done)) | ((first | refine V.Fn.k (c3) [6] rfl ?_ ?_ | refine V.Fn.q (c3) [6] rfl ?_ ?_ | refine V.Fn.a (c3) [6] rfl ?_ ?_); · ((repeat' (first | exact rfl | exact Iff.rfl | exact trivial | exact (fun _ _ => rfl) | exact (fun _ h => absurd h (Nat.not_lt_zero _)) | refine ⟨?_, ?_⟩ | exact Iff.rfl | exact congrArg (fun z => V.SV.one (V.At.val (Value.int .i64 z))) (by omega))); done)) | ((first | refine V.Fn.k (c4) [8] rfl ?_ ?_ | refine V.Fn.q (c4) [8] rfl ?_ ?_ | refine V.Fn.a (c4) [8] rfl ?_ ?_); · ((repeat' (first | exact rfl | exact Iff.rfl | exact trivial | exact (fun _ _ => rfl) | exact (fun _ h => absurd h (Nat.not_lt_zero _)) | refine ⟨?_, ?_⟩ | exact Iff.rfl | exact congrArg (fun z => V.SV.one (V.At.val (Value.int .i64 z))) (by omega))); done)) | ((first | refine V.Fn.k (c5) [10] rfl ?_ ?_ | refine V.Fn.q (c5) [10] rfl ?_ ?_ | refine V.Fn.a (c5) [10] rfl ?_ ?_); · ((repeat' (first | exact rfl | exact Iff.rfl | exact trivial | exact (fun _ _ => rfl) | exact (fun _ h => absurd h (Nat.not_lt_zero _)) | refine ⟨?_, ?_⟩ | exact Iff.rfl | exact congrArg (fun z => V.SV.one (V.At.val (Value.int .i64 z))) (by omega))); done)) | ((first | refine V.Fn.k (c6) [12, 0] rfl ?_ ?_ | refine V.Fn.q (c6) [12, 0] rfl ?_ ?_ | refine V.Fn.a (c6) [12, 0] rfl ?_ ?_); · ((repeat' (first | exact rfl | exact Iff.rfl | exact trivial | exact (fun _ _ => rfl) | exact (fun _ h => absurd h (Nat.not_lt_zero _)) | refine ⟨?_, ?_⟩ | exact Iff.rfl | exact congrArg (fun z => V.SV.one (V.At.val (Value.int .i64 z))) (by omega))); done)) | ((first | refine V.Fn.k (c8) [13] rfl ?_ ?_ | refine V.Fn.q (c8) [13] rfl ?_ ?_ | refine V.Fn.a (c8) [13] rfl ?_ ?_); · ((repeat' (first | exact rfl | exact Iff.rfl | exact trivial | exact (fun _ _ => rfl) | exact (fun _ h => absurd h (Nat.not_lt_zero _)) | refine ⟨?_, ?_⟩ | exact Iff.rfl | exact congrArg (fun z => V.SV.one (V.At.val (Value.int .i64 z))) (by omega))); done)) | (first | refine V.Fn.k0 (v_caCheckNil) rfl ?_ | refine V.Fn.q0 (v_caCheckNil) rfl ?_ | refine V.Fn.a0 (v_caCheckNil) rfl ?_) | (refine V.NDraw.any (by kernel_rfl) ?_) | fail)
  (conv => whnf)
  exact ⟨true, rfl, iff_of_true rfl rfl⟩
end Go.Proofs.YtngjkjadncgdgaaDoor

/- How a list of numbers is read off an argument. -/
namespace Go.Proofs.YtngjkjadncgdgaaDoor
set_option maxRecDepth 100000
open Go Go.RowKit Go.ChangeShapes Go.WideShapes Go.Deep V
theorem intCells : Tryd.prog.cellsOf 3 = 1 := by kernel_rfl
theorem open_il {H : Type} {enc : TypeId × Value → H} {W : World} {base : Nat} {spare : Nat → Bool} {held : Bool} {r : Reach} {b0 : Nat} {v : Value} {d : DataW H} {p : List MemPlace} (hv : Value.okWide Tryd.prog W r b0 22 v) (h : DataW.Trod enc Tryd.prog W base spare held 22 v d p) :
    ∃ l : List Int, ArrIs W v 1 l.length (ga e1 l) ∧ ∀ f ∈ l, (Lit.int .i64 f).wf = true :=
  open_ints_ Tryd.underlying22 Tryd.underlying3 intCells hv h
end Go.Proofs.YtngjkjadncgdgaaDoor
