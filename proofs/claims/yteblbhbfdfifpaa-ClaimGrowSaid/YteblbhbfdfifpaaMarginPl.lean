/- Plain facts on what is put down. -/
import Derived.Test.YteblbhbfdfifpaaPricePl
import Derived.Test.YteblbhbfdfifpaaFailPl
import Derived.Test.YteblbhbfdfifpaaMoneyPl2
namespace Go.Proofs.Yteblbhbfdfifpaa
set_option linter.unusedVariables false
structure St where
  pa : Int
  un : Int
  ct : Int
instance : Inhabited St := ⟨⟨0, 0, 0⟩⟩
namespace K
def Ok (s : St) : Prop := (1 ≤ s.pa ∧ s.pa ≤ 20) ∧ (1 ≤ s.un ∧ s.un ≤ 1073741824) ∧ (0 ≤ s.ct ∧ s.ct ≤ 10000)
instance (s : St) : Decidable (Ok s) := by unfold Ok; exact inferInstance
def chk (l : List St) : Int := if 40 < l.length then 2 else if ∀ s ∈ l, Ok s then 0 else 3
theorem chk_ok {l : List St} (h : chk l = 0) : l.length ≤ 40 ∧ ∀ s ∈ l, Ok s := by
  unfold chk at h
  split at h
  · omega
  · split at h
    · exact ⟨by omega, by assumption⟩
    · omega
theorem chk_of {l : List St} (h1 : l.length ≤ 40) (h2 : ∀ s ∈ l, Ok s) : chk l = 0 := by
  unfold chk; rw [if_neg (by omega), if_pos h2]
theorem chk_bad {l : List St} (h1 : l.length ≤ 40) {s : St} (hs : s ∈ l) (h2 : ¬ Ok s) : chk l = 3 := by
  unfold chk; rw [if_neg (by omega), if_neg fun q => h2 (q s hs)]
/-- what so many units of a stake count -/
def cnt (ps : List Int) (s : St) (u : Int) : Int := P.cost u (P.pr ps s.pa) * s.ct / 10000
theorem cnt_bd {ps : List Int} {s : St} {u : Int} (h : P.chks ps = 0) (hs : Ok s) (hu : 0 ≤ u ∧ u ≤ 1073741824) : 0 ≤ cnt ps s u ∧ cnt ps s u ≤ 118059162071741130 := by
  have h1 := P.cost_bd hu (P.pr_ok h hs.1)
  have h2 := P.rate_bd h1.1 hs.2.2
  unfold cnt; omega
theorem cnt_mono {ps : List Int} {s : St} {u v : Int} (h : P.chks ps = 0) (hs : Ok s) (huv : u ≤ v) : cnt ps s u ≤ cnt ps s v :=
  P.rate_mono (P.cost_mono huv (P.pr_ok h hs.1)) hs.2.2.1
theorem cnt_zero (ps : List Int) (s : St) : cnt ps s 0 = 0 := by unfold cnt P.cost; simp
/-- stakes, and prices -/
def ck (l : List St) (ps : List Int) : Int := if chk l ≠ 0 then chk l else P.chks ps
theorem ck_ok {l : List St} {ps : List Int} (h : ck l ps = 0) : chk l = 0 ∧ P.chks ps = 0 := by
  unfold ck at h
  split at h
  · exact absurd h ‹_›
  · exact ⟨by omega, h⟩
theorem ck_of {l : List St} {ps : List Int} (h1 : chk l = 0) (h2 : P.chks ps = 0) : ck l ps = 0 := by
  unfold ck; rw [if_neg (by omega), h2]
theorem ck_1 {l : List St} {ps : List Int} (h : ¬ chk l = 0) : ck l ps = chk l := if_pos h
theorem ck_2 {l : List St} {ps : List Int} (h : chk l = 0) : ck l ps = P.chks ps := if_neg (by omega)
/-- what all count -/
def cts (ps : List Int) (l : List St) : List Int := l.map fun s => cnt ps s s.un
def val (ps : List Int) (l : List St) : Int := M.sum (cts ps l)
theorem val_snoc {ps : List Int} {l : List St} {k : Nat} (h : k < l.length) : val ps (l.take (k + 1)) = val ps (l.take k) + cnt ps (l.getD k default) (l.getD k default).un := by
  unfold val cts
  rw [List.take_succ_eq_append_getElem h, List.map_append, M.sum_append, getD_at h]; simp [M.sum]
theorem val_app {ps : List Int} {l m : List St} : val ps (l ++ m) = val ps l + val ps m := by
  unfold val cts; rw [List.map_append, M.sum_append]
theorem val_bd {ps : List Int} {l : List St} (h : P.chks ps = 0) (hs : ∀ s ∈ l, Ok s) (hl : l.length ≤ 80) : 0 ≤ val ps l ∧ val ps l ≤ 118059162071741130 * (l.length : Int) := by
  induction l with
  | nil => simp [val, cts, M.sum]
  | cons s l ih =>
    have h1 := ih (fun x hx => hs x (by simp [hx])) (by simp at hl; omega)
    have h2 := cnt_bd (u := s.un) h (hs s (by simp)) (by have := (hs s (by simp)).2.1; omega)
    simp only [val, cts, List.map_cons, M.sum, List.length_cons, Int.natCast_add, Int.mul_add] at *
    omega
theorem val_take {ps : List Int} {l : List St} (h : P.chks ps = 0) (hs : ∀ s ∈ l, Ok s) (hl : l.length ≤ 80) (k : Nat) : val ps (l.take k) ≤ val ps l := by
  have e : val ps l = val ps (l.take k) + val ps (l.drop k) := by rw [← val_app, List.take_append_drop]
  have := val_bd h (fun s hs' => hs s (List.mem_of_mem_drop hs')) (l := l.drop k) (by simp; omega)
  omega
theorem one_le {ps : List Int} {l : List St} (h : P.chks ps = 0) (hs : ∀ s ∈ l, Ok s) (hl : l.length ≤ 80) {i : Nat} (hi : i < l.length) : cnt ps (l.getD i default) (l.getD i default).un ≤ val ps l := by
  have h1 := val_take h hs hl (i + 1)
  have h2 := val_snoc (ps := ps) hi
  have h3 := val_bd h (fun s hs' => hs s (List.mem_of_mem_take hs')) (l := l.take i) (by simp; omega)
  omega
def vE (l : List St) (ps : List Int) : Int := if ck l ps ≠ 0 then ck l ps else if 1152921504606846976 < val ps l then 8 else 0
def vV (l : List St) (ps : List Int) : Int := if vE l ps = 0 then val ps l else 0
theorem v_1 {l : List St} {ps : List Int} (h : ¬ ck l ps = 0) : vE l ps = ck l ps ∧ vV l ps = 0 := by
  have e : vE l ps = ck l ps := if_pos h
  exact ⟨e, if_neg (by omega)⟩
theorem v_2 {l : List St} {ps : List Int} (h : ck l ps = 0) (k : 1152921504606846976 < val ps l) : vE l ps = 8 ∧ vV l ps = 0 := by
  have e : vE l ps = 8 := by unfold vE; rw [if_neg (by omega), if_pos k]
  exact ⟨e, if_neg (by omega)⟩
theorem v_3 {l : List St} {ps : List Int} (h : ck l ps = 0) (k : ¬ 1152921504606846976 < val ps l) : vE l ps = 0 ∧ vV l ps = val ps l := by
  have e : vE l ps = 0 := by unfold vE; rw [if_neg (by omega), if_neg k]
  exact ⟨e, if_pos e⟩
theorem v_ok {l : List St} {ps : List Int} (h : vE l ps = 0) : ck l ps = 0 ∧ val ps l ≤ 1152921504606846976 ∧ vV l ps = val ps l := by
  by_cases a : ck l ps = 0
  · by_cases b : 1152921504606846976 < val ps l
    · rw [(v_2 a b).1] at h; omega
    · exact ⟨a, by omega, (v_3 a b).2⟩
  · rw [(v_1 a).1] at h; exact absurd h a
def vl (ps : List Int) (l : List St) : Int := if 1152921504606846976 < val ps l then 0 else val ps l
theorem vl_yes {ps : List Int} {l : List St} (h : ¬ 1152921504606846976 < val ps l) : vl ps l = val ps l := if_neg h
theorem vl_no {ps : List Int} {l : List St} (h : 1152921504606846976 < val ps l) : vl ps l = 0 := if_pos h
theorem vV_bd {l : List St} {ps : List Int} (h : vE l ps = 0) : 0 ≤ vV l ps ∧ vV l ps ≤ 1152921504606846976 := by
  obtain ⟨a1, a2, a3⟩ := v_ok h
  obtain ⟨c1, c2⟩ := ck_ok a1
  obtain ⟨c3, c4⟩ := chk_ok c1
  have := val_bd c2 c4 (by omega)
  omega
/-- two lists -/
theorem two {l m : List St} {ps : List Int} (h1 : vE l ps = 0) (h2 : vE m ps = 0) : vE (l ++ m) ps = 2 ∨ vE (l ++ m) ps = 8 ∨ (vE (l ++ m) ps = 0 ∧ vV (l ++ m) ps = vV l ps + vV m ps) := by
  obtain ⟨a1, a2, a3⟩ := v_ok h1
  obtain ⟨b1, b2, b3⟩ := v_ok h2
  obtain ⟨c1, c2⟩ := ck_ok a1
  obtain ⟨d1, _⟩ := ck_ok b1
  obtain ⟨c3, c4⟩ := chk_ok c1
  obtain ⟨d3, d4⟩ := chk_ok d1
  by_cases q : 40 < (l ++ m).length
  · left
    have e : chk (l ++ m) = 2 := if_pos q
    exact (v_1 (by rw [ck_1 (by omega)]; omega)).1.trans ((ck_1 (by omega)).trans e)
  · have e : chk (l ++ m) = 0 := chk_of (by omega) fun s hs => by
      rcases List.mem_append.1 hs with h | h
      · exact c4 s h
      · exact d4 s h
    have ek := ck_of e c2
    by_cases k : 1152921504606846976 < val ps (l ++ m)
    · exact .inr (.inl (v_2 ek k).1)
    · obtain ⟨x, y⟩ := v_3 ek k
      exact .inr (.inr ⟨x, by rw [y, val_app, a3, b3]⟩)
/-- stakes that count nothing -/
def noth (l : List St) (k : Nat) : List St := (l.take k).map fun s => ⟨s.pa, s.un, 0⟩
theorem noth_succ {l : List St} {k : Nat} (h : k < l.length) : noth l (k + 1) = noth l k ++ [⟨(l.getD k default).pa, (l.getD k default).un, 0⟩] := by
  unfold noth; rw [List.take_succ_eq_append_getElem h, List.map_append, getD_at h]; rfl
theorem noth_v {l : List St} {ps : List Int} (h : vE l ps = 0) : vE (noth l l.length) ps = 0 ∧ vV (noth l l.length) ps = 0 := by
  obtain ⟨a1, _, _⟩ := v_ok h
  obtain ⟨c1, c2⟩ := ck_ok a1
  obtain ⟨c3, c4⟩ := chk_ok c1
  have e : chk (noth l l.length) = 0 := chk_of (by simp [noth]; omega) fun s hs => by
    unfold noth at hs
    obtain ⟨x, hx, rfl⟩ := List.mem_map.1 hs
    obtain ⟨h1, h2, h3⟩ := c4 x (List.mem_of_mem_take hx)
    exact ⟨h1, h2, Int.le_refl _, (by decide : (0 : Int) ≤ 10000)⟩
  have ev : val ps (noth l l.length) = 0 := by
    unfold val cts noth
    generalize l.take l.length = m
    induction m with
    | nil => rfl
    | cons s m ih =>
      simp only [List.map_cons, M.sum]
      rw [ih]
      show P.cost s.un (P.pr ps s.pa) * 0 / 10000 + 0 = 0
      rw [Int.mul_zero]; rfl
  obtain ⟨x, y⟩ := v_3 (ck_of e c2) (by rw [ev]; decide)
  exact ⟨x, y.trans ev⟩
/-- calls -/
def caE (has need least : Int) : Int := if ¬ ((0 ≤ has ∧ has ≤ 1152921504606846976) ∧ (0 ≤ need ∧ need ≤ 1152921504606846976) ∧ (0 ≤ least ∧ least ≤ 1152921504606846976)) then 3 else 0
def caV (has need least : Int) : Int := if caE has need least = 0 ∧ has < need ∧ least ≤ need - has then need - has else 0
/-- what must stay -/
structure Stay (ps : List Int) (s : St) (oth need m : Int) : Prop where
  b : 0 ≤ m ∧ m ≤ s.un
  y : need ≤ oth + cnt ps s m
  n : m = 0 ∨ oth + cnt ps s (m - 1) < need
theorem stay_one {ps : List Int} {s : St} {oth need m k : Int} (h : P.chks ps = 0) (hs : Ok s) (a : Stay ps s oth need m) (b : Stay ps s oth need k) : m = k := by
  have key : ∀ {m k : Int}, Stay ps s oth need m → Stay ps s oth need k → ¬ m < k := fun {m k} a b q => by
    rcases b.n with e | e
    · have := a.b; omega
    · have := cnt_mono h hs (show m ≤ k - 1 by omega)
      have := a.y; omega
  have h1 := key a b
  have h2 := key b a
  omega
noncomputable def stay (ps : List Int) (s : St) (oth need : Int) : Int := Classical.epsilon (Stay ps s oth need)
theorem stay_is {ps : List Int} {s : St} {oth need m : Int} (h : P.chks ps = 0) (hs : Ok s) (a : Stay ps s oth need m) : stay ps s oth need = m :=
  stay_one h hs (Classical.epsilon_spec ⟨m, a⟩) a
def oth (ps : List Int) (l : List St) (at_ : Nat) : Int := val ps l - cnt ps (l.getD at_ default) (l.getD at_ default).un
def spE (l : List St) (ps : List Int) (need at_ : Int) : Int :=
  if ck l ps ≠ 0 then ck l ps else if ¬ (0 ≤ need ∧ need ≤ 1152921504606846976) then 3 else if at_ < 0 ∨ l.length ≤ at_ then 5 else if 1152921504606846976 < val ps l then 8 else if val ps l < need then 4 else 0
noncomputable def spV (l : List St) (ps : List Int) (need at_ : Int) : Int :=
  if spE l ps need at_ = 0 then (l.getD at_.toNat default).un - stay ps (l.getD at_.toNat default) (oth ps l at_.toNat) need else 0
theorem sp_bad {l : List St} {ps : List Int} {need at_ c : Int} (h : spE l ps need at_ = c) (hc : c ≠ 0) : spV l ps need at_ = 0 ∧ spE l ps need at_ = c := ⟨if_neg (by omega), h⟩
theorem sp_1 {l : List St} {ps : List Int} {need at_ : Int} (h : ¬ ck l ps = 0) : spE l ps need at_ = ck l ps := if_pos h
theorem sp_2 {l : List St} {ps : List Int} {need at_ : Int} (h : ck l ps = 0) (h2 : ¬ (0 ≤ need ∧ need ≤ 1152921504606846976)) : spE l ps need at_ = 3 := (if_neg (by omega)).trans (if_pos h2)
theorem sp_3 {l : List St} {ps : List Int} {need at_ : Int} (h : ck l ps = 0) (h2 : 0 ≤ need ∧ need ≤ 1152921504606846976) (h3 : at_ < 0 ∨ l.length ≤ at_) : spE l ps need at_ = 5 := ((if_neg (by omega)).trans (if_neg (fun q => q h2))).trans (if_pos h3)
theorem sp_4 {l : List St} {ps : List Int} {need at_ : Int} (h : ck l ps = 0) (h2 : 0 ≤ need ∧ need ≤ 1152921504606846976) (h3 : ¬ (at_ < 0 ∨ l.length ≤ at_)) (h4 : 1152921504606846976 < val ps l) : spE l ps need at_ = 8 := (((if_neg (by omega)).trans (if_neg (fun q => q h2))).trans (if_neg h3)).trans (if_pos h4)
theorem sp_5 {l : List St} {ps : List Int} {need at_ : Int} (h : ck l ps = 0) (h2 : 0 ≤ need ∧ need ≤ 1152921504606846976) (h3 : ¬ (at_ < 0 ∨ l.length ≤ at_)) (h4 : ¬ 1152921504606846976 < val ps l) (h5 : val ps l < need) : spE l ps need at_ = 4 := ((((if_neg (by omega)).trans (if_neg (fun q => q h2))).trans (if_neg h3)).trans (if_neg h4)).trans (if_pos h5)
theorem sp_6 {l : List St} {ps : List Int} {need at_ : Int} (h : ck l ps = 0) (h2 : 0 ≤ need ∧ need ≤ 1152921504606846976) (h3 : ¬ (at_ < 0 ∨ l.length ≤ at_)) (h4 : ¬ 1152921504606846976 < val ps l) (h5 : ¬ val ps l < need) : spE l ps need at_ = 0 := ((((if_neg (by omega)).trans (if_neg (fun q => q h2))).trans (if_neg h3)).trans (if_neg h4)).trans (if_neg h5)
theorem sp_no {l : List St} {ps : List Int} {need at_ : Int} (h : ¬ spE l ps need at_ = 0) : spV l ps need at_ = 0 := if_neg h
theorem sp_ok {l : List St} {ps : List Int} {need at_ : Int} (h : spE l ps need at_ = 0) : ck l ps = 0 ∧ (0 ≤ need ∧ need ≤ 1152921504606846976) ∧ (0 ≤ at_ ∧ at_ < l.length) ∧ need ≤ val ps l ∧ val ps l ≤ 1152921504606846976 := by
  unfold spE at h
  split at h
  · exact absurd h ‹_›
  split at h
  · omega
  split at h
  · omega
  split at h
  · omega
  split at h
  · omega
  omega
theorem stay_ex {l : List St} {ps : List Int} {need at_ : Int} (h : spE l ps need at_ = 0) : Stay ps (l.getD at_.toNat default) (oth ps l at_.toNat) need (stay ps (l.getD at_.toNat default) (oth ps l at_.toNat) need) := by
  obtain ⟨h1, h2, h3, h4, h5⟩ := sp_ok h
  obtain ⟨c1, c2⟩ := ck_ok h1
  obtain ⟨c3, c4⟩ := chk_ok c1
  have hs := c4 _ (getD_mem (l := l) (k := at_.toNat) (by omega))
  have ho : oth ps l at_.toNat + cnt ps (l.getD at_.toNat default) (l.getD at_.toNat default).un = val ps l := by unfold oth; omega
  generalize l.getD at_.toNat default = s at *
  have key : ∀ n : Nat, (n : Int) ≤ s.un → need ≤ oth ps l at_.toNat + cnt ps s n → ∃ m, Stay ps s (oth ps l at_.toNat) need m := by
    intro n
    induction n with
    | zero => intro hn hq; exact ⟨0, ⟨by omega, by simpa using hq, .inl rfl⟩⟩
    | succ n ih =>
      intro hn hq
      by_cases q : need ≤ oth ps l at_.toNat + cnt ps s n
      · exact ih (by omega) q
      · exact ⟨((n + 1 : Nat) : Int), ⟨by omega, hq, .inr (by rw [show ((n + 1 : Nat) : Int) - 1 = n by omega]; omega)⟩⟩
  have e : ((s.un.toNat : Nat) : Int) = s.un := Int.toNat_of_nonneg (by have := hs.2.1; omega)
  obtain ⟨m, hm⟩ := key s.un.toNat (by omega) (by
    rw [e]; omega)
  exact Classical.epsilon_spec ⟨m, hm⟩
/-- what a party must put down -/
def nds (fs : List Fl) (ps : List Int) (party : Int) : List Int := (fs.filter fun f => decide (f.fr = party)).map fun f => P.cost (F.left f) (P.pr ps f.pa)
def need (fs : List Fl) (ps : List Int) (party : Int) : Int := M.sum (nds fs ps party)
def nE (fs : List Fl) (ps : List Int) (party rate : Int) : Int :=
  if F.checks fs ≠ 0 then F.checks fs else if P.chks ps ≠ 0 then P.chks ps else if ¬ ((0 ≤ party ∧ party ≤ 30) ∧ (0 ≤ rate ∧ rate ≤ 10000)) then 3 else if 1152921504606846976 < need fs ps party then 8 else 0
def nV (fs : List Fl) (ps : List Int) (party rate : Int) : Int := if nE fs ps party rate = 0 then need fs ps party * rate / 10000 else 0
theorem checks_all {fs : List Fl} (h : F.checks fs = 0) : fs.length ≤ 60 ∧ (∀ f ∈ fs, F.Ok f) ∧ (fs.map (·.id)).Nodup := by
  have h60 : fs.length ≤ 60 := F.checks_len (by omega)
  unfold F.checks at h
  rw [if_neg (by omega)] at h
  obtain ⟨a, b⟩ := F.ckFrom_ok h
  exact ⟨h60, fun f hf => F.chk_ok (a f hf).1, b⟩
theorem checks_of {fs : List Fl} (h : fs.length ≤ 60) (a : ∀ f ∈ fs, F.Ok f) (b : (fs.map (·.id)).Nodup) : F.checks fs = 0 := by
  unfold F.checks
  rw [if_neg (by omega)]
  exact F.ckFrom_of (fun f hf => ⟨F.chk_of (a f hf), by simp⟩) b
theorem left_bd {f : Fl} (h : F.Ok f) : 0 ≤ F.left f ∧ F.left f ≤ 1073741824 := by
  have := F.ok_bounds h; omega
theorem ask_bd {ps : List Int} {f : Fl} (h : P.chks ps = 0) (hf : F.Ok f) : 0 ≤ P.cost (F.left f) (P.pr ps f.pa) ∧ P.cost (F.left f) (P.pr ps f.pa) ≤ 118059162071741130 :=
  P.cost_bd (left_bd hf) (P.pr_ok h hf.1.2.2.2.2.1)
theorem need_snoc {fs : List Fl} {ps : List Int} {party : Int} {k : Nat} (h : k < fs.length) : need (fs.take (k + 1)) ps party = need (fs.take k) ps party + if (fs.getD k default).fr = party then P.cost (F.left (fs.getD k default)) (P.pr ps (fs.getD k default).pa) else 0 := by
  unfold need nds
  rw [List.take_succ_eq_append_getElem h, List.filter_append, List.map_append, M.sum_append, getD_at h]
  by_cases q : fs[k].fr = party <;> simp [q, M.sum]
theorem need_bd {ps : List Int} {party : Int} {fs : List Fl} (h : P.chks ps = 0) (hf : ∀ f ∈ fs, F.Ok f) : 0 ≤ need fs ps party ∧ need fs ps party ≤ 118059162071741130 * (fs.length : Int) := by
  induction fs with
  | nil => simp [need, nds, M.sum]
  | cons f fs ih =>
    have h1 := ih (fun x hx => hf x (by simp [hx]))
    have h2 := ask_bd h (hf f (by simp))
    have e : need (f :: fs) ps party = (if f.fr = party then P.cost (F.left f) (P.pr ps f.pa) else 0) + need fs ps party := by
      unfold need nds
      by_cases q : f.fr = party <;> simp [q, M.sum]
    rw [e, List.length_cons]
    simp only [Int.natCast_add, Int.mul_add]
    split <;> omega
theorem n_1 {fs : List Fl} {ps : List Int} {party rate : Int} (h : ¬ F.checks fs = 0) : nE fs ps party rate = F.checks fs ∧ nV fs ps party rate = 0 := by
  have e : nE fs ps party rate = F.checks fs := if_pos h
  exact ⟨e, if_neg (by omega)⟩
theorem n_2 {fs : List Fl} {ps : List Int} {party rate : Int} (h : F.checks fs = 0) (h2 : ¬ P.chks ps = 0) : nE fs ps party rate = P.chks ps ∧ nV fs ps party rate = 0 := by
  have e : nE fs ps party rate = P.chks ps := (if_neg (by omega)).trans (if_pos h2)
  exact ⟨e, if_neg (by omega)⟩
theorem n_3 {fs : List Fl} {ps : List Int} {party rate : Int} (h : F.checks fs = 0) (h2 : P.chks ps = 0) (h3 : ¬ ((0 ≤ party ∧ party ≤ 30) ∧ (0 ≤ rate ∧ rate ≤ 10000))) : nE fs ps party rate = 3 ∧ nV fs ps party rate = 0 := by
  have e : nE fs ps party rate = 3 := ((if_neg (by omega)).trans (if_neg (by omega))).trans (if_pos h3)
  exact ⟨e, if_neg (by omega)⟩
theorem n_4 {fs : List Fl} {ps : List Int} {party rate : Int} (h : F.checks fs = 0) (h2 : P.chks ps = 0) (h3 : (0 ≤ party ∧ party ≤ 30) ∧ (0 ≤ rate ∧ rate ≤ 10000)) (h4 : 1152921504606846976 < need fs ps party) : nE fs ps party rate = 8 ∧ nV fs ps party rate = 0 := by
  have e : nE fs ps party rate = 8 := (((if_neg (by omega)).trans (if_neg (by omega))).trans (if_neg (fun q => q h3))).trans (if_pos h4)
  exact ⟨e, if_neg (by omega)⟩
theorem n_5 {fs : List Fl} {ps : List Int} {party rate : Int} (h : F.checks fs = 0) (h2 : P.chks ps = 0) (h3 : (0 ≤ party ∧ party ≤ 30) ∧ (0 ≤ rate ∧ rate ≤ 10000)) (h4 : ¬ 1152921504606846976 < need fs ps party) : nE fs ps party rate = 0 ∧ nV fs ps party rate = need fs ps party * rate / 10000 := by
  have e : nE fs ps party rate = 0 := (((if_neg (by omega)).trans (if_neg (by omega))).trans (if_neg (fun q => q h3))).trans (if_neg h4)
  exact ⟨e, if_pos e⟩
theorem n_no {fs : List Fl} {ps : List Int} {party rate : Int} (h : ¬ nE fs ps party rate = 0) : nV fs ps party rate = 0 := if_neg h
theorem n_ok {fs : List Fl} {ps : List Int} {party rate : Int} (h : nE fs ps party rate = 0) : F.checks fs = 0 ∧ P.chks ps = 0 ∧ (0 ≤ party ∧ party ≤ 30) ∧ (0 ≤ rate ∧ rate ≤ 10000) ∧ need fs ps party ≤ 1152921504606846976 ∧ nV fs ps party rate = need fs ps party * rate / 10000 := by
  have e : nV fs ps party rate = need fs ps party * rate / 10000 := if_pos h
  unfold nE at h
  split at h
  · exact absurd h ‹_›
  split at h
  · exact absurd h ‹_›
  split at h
  · omega
  split at h
  · omega
  rename_i a b c d
  exact ⟨Classical.not_not.1 a, Classical.not_not.1 b, by omega, by omega, by omega, e⟩
end K
end Go.Proofs.Yteblbhbfdfifpaa
