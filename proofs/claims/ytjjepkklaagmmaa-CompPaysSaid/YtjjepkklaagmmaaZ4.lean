/- Shared texts, one behind the other: ClaimPl, CalPl, BookPl, CompPl, VComp, VSort, VCompM, VFailB, LotPl, VSame, VFam, VCompB, VOpenF, VOpenI, StPl, StQ, StQ2, StQ3, StQ4, StQ5, StQ6, StQ7 -/
import Derived.Test.YtjjepkklaagmmaaShelf
import Derived.Sort.OwnSortedInts
import Derived.Sort.LotA
import Derived.Test.YtjjepkklaagmmaaZ1
import Derived.Test.YtjjepkklaagmmaaZ2
import Derived.Test.YtjjepkklaagmmaaZ3

/- Plain facts on what papers bring. -/
namespace Go.Proofs.Ytjjepkklaagmmaa
set_option linter.unusedVariables false
structure Ev where
  pa : Int
  ca : Int
  gi : Int
  fo : Int
structure Po where
  ac : Int
  ut : Int
  am : Int
instance : Inhabited Ev := ⟨⟨0, 0, 0, 0⟩⟩
def encE (p : Ev) : List Go.Value := [.int .i64 p.pa, .int .i64 p.ca, .int .i64 p.gi, .int .i64 p.fo]
instance : Inhabited Po := ⟨⟨0, 0, 0⟩⟩
def encP (p : Po) : List Go.Value := [.int .i64 p.ac, .int .i64 p.ut, .int .i64 p.am]
namespace C
def Ok (v : Ev) : Prop := (1 ≤ v.pa ∧ v.pa ≤ 20) ∧ P.Ok v.ca ∧ (0 ≤ v.gi ∧ v.gi ≤ 1000) ∧ (0 ≤ v.fo ∧ v.fo ≤ 1000)
instance (v : Ev) : Decidable (Ok v) := by unfold Ok; exact inferInstance
def Odd (v : Ev) : Prop := ¬ (v.gi = 0 ↔ v.fo = 0) ∨ (v.gi = 0 ∧ v.ca = 0)
instance (v : Ev) : Decidable (Odd v) := by unfold Odd; exact inferInstance
def ev (v : Ev) : Int := if ¬ Ok v then 3 else if Odd v then 1 else 0
theorem ev_ok {v : Ev} (h : ev v = 0) : Ok v ∧ (v.gi = 0 ↔ v.fo = 0) ∧ ¬ (v.gi = 0 ∧ v.ca = 0) := by
  unfold ev at h
  split at h
  · omega
  · split at h
    · omega
    · rename_i a b
      unfold Odd at b
      exact ⟨Classical.not_not.1 a, Classical.not_not.1 fun q => b (.inl q), fun q => b (.inr q)⟩
theorem ev_1 {v : Ev} (h : ¬ Ok v) : ev v = 3 := if_pos h
theorem ev_2 {v : Ev} (h : Ok v) (k : Odd v) : ev v = 1 := (if_neg (fun q => q h)).trans (if_pos k)
theorem ev_3 {v : Ev} (h : Ok v) (k : ¬ Odd v) : ev v = 0 := (if_neg (fun q => q h)).trans (if_neg k)
def uE (v : Ev) (u : Int) : Int := if ev v ≠ 0 then ev v else if ¬ (0 ≤ u ∧ u ≤ 1073741824) then 3 else 0
theorem uE_ok {v : Ev} {u : Int} (h : uE v u = 0) : ev v = 0 ∧ 0 ≤ u ∧ u ≤ 1073741824 := by
  unfold uE at h
  split at h
  · exact absurd h ‹_›
  · split at h
    · omega
    · exact ⟨by omega, by omega, by omega⟩
theorem uE_1 {v : Ev} {u : Int} (h : ¬ ev v = 0) : uE v u = ev v := if_pos h
theorem uE_2 {v : Ev} {u : Int} (h : ev v = 0) (k : ¬ (0 ≤ u ∧ u ≤ 1073741824)) : uE v u = 3 := (if_neg (by omega)).trans (if_pos k)
theorem uE_3 {v : Ev} {u : Int} (h : ev v = 0) (k : 0 ≤ u ∧ u ≤ 1073741824) : uE v u = 0 := (if_neg (by omega)).trans (if_neg (fun q => q k))
def cash (v : Ev) (u : Int) : Int := P.cost u v.ca
def cV (v : Ev) (u : Int) : Int := if uE v u = 0 then cash v u else 0
def fr (v : Ev) (u : Int) : Int := if v.fo = 0 then 0 else u * v.gi / v.fo
def le (v : Ev) (u : Int) : Int := if v.fo = 0 then 0 else u * v.gi % v.fo
def fV (v : Ev) (u : Int) : Int := if uE v u = 0 then fr v u else 0
def lV (v : Ev) (u : Int) : Int := if uE v u = 0 then le v u else 0
theorem mul_bd {v : Ev} {u : Int} (h : Ok v) (hu : 0 ≤ u ∧ u ≤ 1073741824) : 0 ≤ u * v.gi ∧ u * v.gi ≤ 1073741824000 := by
  obtain ⟨_, _, h3, _⟩ := h
  have h1 := Int.mul_nonneg hu.1 h3.1
  have h2 := Int.mul_le_mul hu.2 h3.2 h3.1 (show (0 : Int) ≤ 1073741824 by omega)
  omega
theorem fr_bd {v : Ev} {u : Int} (h : Ok v) (hu : 0 ≤ u ∧ u ≤ 1073741824) : 0 ≤ fr v u ∧ fr v u ≤ 1073741824000 := by
  have hm := mul_bd h hu
  have h4 := h.2.2.2
  unfold fr
  split
  · omega
  · have h1 := Int.ediv_nonneg hm.1 h4.1
    have h2 := Int.ediv_le_self v.fo hm.1
    omega
theorem le_bd {v : Ev} {u : Int} (h : Ok v) : 0 ≤ le v u ∧ le v u ≤ 1000 := by
  have h4 := h.2.2.2
  unfold le
  split
  · omega
  · have h1 := Int.emod_nonneg (u * v.gi) (show v.fo ≠ 0 by assumption)
    have h2 := Int.emod_lt_of_pos (u * v.gi) (show 0 < v.fo by omega)
    omega
theorem fr_zero (v : Ev) : fr v 0 = 0 := by unfold fr; split <;> simp
theorem cash_zero (v : Ev) : cash v 0 = 0 := by unfold cash P.cost; simp
theorem cash_bd {v : Ev} {u : Int} (h : Ok v) (hu : 0 ≤ u ∧ u ≤ 1073741824) : 0 ≤ cash v u ∧ cash v u ≤ 118059162071741130 := P.cost_bd hu h.2.1
def xE (v : Ev) (fs : List Fl) : Int := if ev v ≠ 0 then ev v else F.checks fs
theorem xE_1 {v : Ev} {fs : List Fl} (h : ¬ ev v = 0) : xE v fs = ev v := if_pos h
theorem xE_2 {v : Ev} {fs : List Fl} (h : ev v = 0) : xE v fs = F.checks fs := if_neg (by omega)
theorem xE_ok {v : Ev} {fs : List Fl} (h : xE v fs = 0) : ev v = 0 ∧ F.checks fs = 0 := by
  unfold xE at h
  split at h
  · exact absurd h ‹_›
  · exact ⟨by omega, h⟩
/-- what one brings -/
def duO (v : Ev) (f : Fl) : List Du := if f.pa = v.pa ∧ 0 < F.left f ∧ 0 < cash v (F.left f) then [⟨f.fr, f.to, cash v (F.left f)⟩] else []
def poO (v : Ev) (f : Fl) : List Po := if f.pa = v.pa ∧ 0 < F.left f ∧ 0 < fr v (F.left f) then [⟨f.fr, v.pa, -fr v (F.left f)⟩, ⟨f.to, v.pa, fr v (F.left f)⟩] else []
def dus (v : Ev) (fs : List Fl) : List Du := fs.flatMap (duO v)
def pos (v : Ev) (fs : List Fl) : List Po := fs.flatMap (poO v)
theorem dus_snoc {v : Ev} {fs : List Fl} {k : Nat} (h : k < fs.length) : dus v (fs.take (k + 1)) = dus v (fs.take k) ++ duO v (fs.getD k default) := by
  unfold dus
  rw [List.take_succ_eq_append_getElem h, List.flatMap_append, getD_at h]; simp
theorem pos_snoc {v : Ev} {fs : List Fl} {k : Nat} (h : k < fs.length) : pos v (fs.take (k + 1)) = pos v (fs.take k) ++ poO v (fs.getD k default) := by
  unfold pos
  rw [List.take_succ_eq_append_getElem h, List.flatMap_append, getD_at h]; simp
theorem duO_len (v : Ev) (f : Fl) : (duO v f).length ≤ 1 := by unfold duO; split <;> simp
theorem poO_len (v : Ev) (f : Fl) : (poO v f).length ≤ 2 := by unfold poO; split <;> simp
theorem dus_len (v : Ev) : ∀ fs : List Fl, (dus v fs).length ≤ fs.length
  | [] => Nat.le_refl _
  | f :: fs => by
    have := dus_len v fs
    have := duO_len v f
    unfold dus at *
    rw [List.flatMap_cons, List.length_append, List.length_cons]; omega
theorem pos_len (v : Ev) : ∀ fs : List Fl, (pos v fs).length ≤ 2 * fs.length
  | [] => Nat.le_refl _
  | f :: fs => by
    have := pos_len v fs
    have := poO_len v f
    unfold pos at *
    rw [List.flatMap_cons, List.length_append, List.length_cons]; omega
def dV (v : Ev) (fs : List Fl) : List Du := if xE v fs = 0 then dus v fs else []
def pV (v : Ev) (fs : List Fl) : List Po := if xE v fs = 0 then pos v fs else []
/-- what grows -/
def up (f : Fl) (n : Int) : Fl := ⟨f.id, f.fr, f.to, f.cl, f.pa, f.day, f.un + n, f.de, f.bo, f.pd⟩
def gr (v : Ev) (f : Fl) : Fl := if f.pa = v.pa then up f (fr v (F.left f)) else f
def big (v : Ev) (fs : List Fl) : Prop := ∃ f ∈ fs, 1073741824 < (gr v f).un
noncomputable def gE (v : Ev) (fs : List Fl) : Int := open Classical in if xE v fs ≠ 0 then xE v fs else if big v fs then 8 else 0
noncomputable def gV (v : Ev) (fs : List Fl) : List Fl := if gE v fs = 0 then fs.map (gr v) else []
theorem g_1 {v : Ev} {fs : List Fl} (h : ¬ xE v fs = 0) : gE v fs = xE v fs ∧ gV v fs = [] := by
  have e : gE v fs = xE v fs := if_pos h
  exact ⟨e, if_neg (by omega)⟩
theorem g_2 {v : Ev} {fs : List Fl} (h : xE v fs = 0) (k : big v fs) : gE v fs = 8 ∧ gV v fs = [] := by
  have e : gE v fs = 8 := by unfold gE; rw [if_neg (by omega), if_pos k]
  exact ⟨e, if_neg (by omega)⟩
theorem g_3 {v : Ev} {fs : List Fl} (h : xE v fs = 0) (k : ¬ big v fs) : gE v fs = 0 ∧ gV v fs = fs.map (gr v) := by
  have e : gE v fs = 0 := by unfold gE; rw [if_neg (by omega), if_neg k]
  exact ⟨e, if_pos e⟩
theorem g_ok {v : Ev} {fs : List Fl} (h : gE v fs = 0) : xE v fs = 0 ∧ ¬ big v fs ∧ gV v fs = fs.map (gr v) := by
  by_cases a : xE v fs = 0
  · by_cases b : big v fs
    · rw [(g_2 a b).1] at h; omega
    · exact ⟨a, b, (g_3 a b).2⟩
  · rw [(g_1 a).1] at h; exact absurd h a
def grk (v : Ev) (fs : List Fl) (k : Nat) : List Fl := (fs.take k).map (gr v) ++ fs.drop k
theorem grk_len (v : Ev) (fs : List Fl) (k : Nat) : (grk v fs k).length = fs.length := by simp [grk]; omega
theorem grk_at {v : Ev} {fs : List Fl} {k : Nat} (h : k < fs.length) : (grk v fs k).getD k default = fs.getD k default := by
  unfold grk
  rw [List.getD_eq_getElem?_getD, List.getElem?_append_right (by simp; omega), List.getElem?_drop, List.getD_eq_getElem?_getD]
  congr 2
  simp; omega
theorem grk_succ {v : Ev} {fs : List Fl} {k : Nat} (h : k < fs.length) : (grk v fs k).set k (gr v (fs.getD k default)) = grk v fs (k + 1) := by
  unfold grk
  rw [List.set_append_right _ _ (by simp; omega), List.drop_eq_getElem_cons h, List.take_succ_eq_append_getElem h, List.map_append, List.append_assoc, getD_at h]
  congr 1
  have e : k - ((fs.take k).map (gr v)).length = 0 := by simp; omega
  rw [e]; rfl
theorem grk_same {v : Ev} {fs : List Fl} {k : Nat} (h : k < fs.length) (e : gr v (fs.getD k default) = fs.getD k default) : grk v fs (k + 1) = grk v fs k := by
  unfold grk
  rw [List.take_succ_eq_append_getElem h, List.map_append, List.append_assoc, List.drop_eq_getElem_cons h, ← getD_at h, List.map_cons, e]
  rfl
theorem grk_end (v : Ev) (fs : List Fl) : grk v fs fs.length = fs.map (gr v) := by simp [grk]
theorem gr_zero {v : Ev} {f : Fl} (h : ¬ (f.pa = v.pa ∧ 0 < F.left f)) (h2 : 0 ≤ F.left f) : gr v f = f := by
  unfold gr
  split
  · have e : F.left f = 0 := by omega
    rw [e, fr_zero]
    unfold up; rw [Int.add_zero]
  · rfl
theorem gr_pos {v : Ev} {f : Fl} (h : f.pa = v.pa) : gr v f = up f (fr v (F.left f)) := if_pos h
theorem dus_no {v : Ev} {fs : List Fl} (h : ∀ f ∈ fs, duO v f = []) : dus v fs = [] := List.flatMap_eq_nil_iff.2 h
theorem pos_no {v : Ev} {fs : List Fl} (h : ∀ f ∈ fs, poO v f = []) : pos v fs = [] := List.flatMap_eq_nil_iff.2 h
theorem map_same {v : Ev} : ∀ {fs : List Fl}, (∀ f ∈ fs, gr v f = f) → fs.map (gr v) = fs
  | [], _ => rfl
  | f :: fs, h => by rw [List.map_cons, h f (by simp), map_same fun g hg => h g (by simp [hg])]
/-- where no fail grows -/
theorem g_same {v : Ev} {fs : List Fl} (hx : xE v fs = 0) (h : ∀ f ∈ fs, gr v f = f) : gE v fs = 0 ∧ gV v fs = fs := by
  obtain ⟨_, hall, _⟩ := K.checks_all (xE_ok hx).2
  obtain ⟨a, b⟩ := g_3 hx fun ⟨f, h1, h2⟩ => by
    rw [h f h1] at h2
    have := (F.ok_bounds (hall f h1)).2.2.1
    omega
  exact ⟨a, b.trans (map_same h)⟩
theorem no_cash {v : Ev} (h : v.ca = 0) (f : Fl) : duO v f = [] := if_neg fun q => by
  have e : cash v (F.left f) = 0 := by unfold cash P.cost; rw [h]; simp
  omega
theorem no_fresh {v : Ev} (h : v.fo = 0) (u : Int) : fr v u = 0 := if_pos h
theorem no_pos {v : Ev} (h : v.fo = 0) (f : Fl) : poO v f = [] := if_neg fun q => by rw [no_fresh h] at q; omega
theorem no_gr {v : Ev} (h : v.fo = 0) (f : Fl) : gr v f = f := by
  unfold gr up; rw [no_fresh h, Int.add_zero]; split <;> rfl
theorem oth_du {v : Ev} {f : Fl} (h : ¬ f.pa = v.pa) : duO v f = [] := if_neg fun q => h q.1
theorem oth_po {v : Ev} {f : Fl} (h : ¬ f.pa = v.pa) : poO v f = [] := if_neg fun q => h q.1
theorem oth_gr {v : Ev} {f : Fl} (h : ¬ f.pa = v.pa) : gr v f = f := if_neg h
theorem up_left (f : Fl) (n : Int) : F.left (up f n) = F.left f + n := by unfold F.left up; dsimp only; omega
theorem up_ok {f : Fl} {n : Int} (h : F.Ok f) (hn : 0 ≤ n) (hb : ¬ 1073741824 < f.un + n) : F.Ok (up f n) := by
  have hb := F.ok_bounds h
  unfold F.Ok F.Kn F.Pt up at *
  dsimp only at *
  omega
theorem gr_id (v : Ev) (f : Fl) : (gr v f).id = f.id := by unfold gr up; split <;> rfl
theorem gr_ok {v : Ev} {f : Fl} (hv : Ok v) (h : F.Ok f) (hb : ¬ 1073741824 < (gr v f).un) : F.Ok (gr v f) := by
  unfold gr at *
  split
  · rw [if_pos (by assumption)] at hb
    exact up_ok h (fr_bd hv (K.left_bd h)).1 hb
  · exact h
/-- what has grown can be checked -/
theorem grown_checks {v : Ev} {fs : List Fl} (h : gE v fs = 0) : F.checks (fs.map (gr v)) = 0 := by
  obtain ⟨hx, hb, _⟩ := g_ok h
  obtain ⟨hv, hF⟩ := xE_ok hx
  obtain ⟨n60, hall, hn⟩ := K.checks_all hF
  refine K.checks_of (by simpa using n60) (fun g hg => ?_) ?_
  · obtain ⟨f, hf, rfl⟩ := List.mem_map.1 hg
    exact gr_ok (ev_ok hv).1 (hall f hf) fun q => hb ⟨f, hf, q⟩
  · rw [List.map_map]
    have e : ((fun x : Fl => x.id) ∘ gr v) = fun x => x.id := funext fun f => gr_id v f
    rw [e]; exact hn
end C
end Go.Proofs.Ytjjepkklaagmmaa

/- Plain facts on calendars: business days, how many there are, and steps from one to another. -/
namespace Go.Proofs.Ytjjepkklaagmmaa
set_option linter.unusedVariables false
structure Cl where
  we : Int
  hs : List Int
namespace Ca
/-- the first error of so many -/
def fe (f : Nat → Int) (n : Nat) : Int := fb f (List.range n)
theorem fe_ok {f : Nat → Int} {n : Nat} (h : fe f n = 0) : ∀ j, j < n → f j = 0 := fun j hj => fb_ok h j (List.mem_range.2 hj)
theorem fe_end {f : Nat → Int} {n : Nat} (h : ∀ j, j < n → f j = 0) : fe f n = 0 := fb_yes fun d hd => h d (List.mem_range.1 hd)
theorem fe_get {f : Nat → Int} {n k : Nat} (hk : k < n) (h1 : ∀ j, j < k → f j = 0) (h : f k ≠ 0) : fe f n = f k := by
  have hl : k < (List.range n).length := by simpa using hk
  have e : (List.range n)[k] = k := by simp
  have := fb_at (f := f) hl (fun d hd => h1 d (by
    rw [List.take_range] at hd
    have := List.mem_range.1 hd
    omega)) (by rw [e]; exact h)
  rw [e] at this
  exact this
def Day (n : Int) : Prop := 0 ≤ n ∧ n ≤ 3652058
instance (n : Int) : Decidable (Day n) := by unfold Day; exact inferInstance
def Ok (c : Cl) : Prop := (0 ≤ c.we ∧ c.we ≤ 126) ∧ c.hs.length ≤ 60 ∧ (∀ n ∈ c.hs, Day n) ∧ c.hs.Pairwise (· < ·)
def eAt (hs : List Int) (k : Nat) : Int := if ¬ Day (hs.getD k default) then 3 else if 0 < k ∧ hs.getD k default = hs.getD (k - 1) default then 6 else if 0 < k ∧ hs.getD k default < hs.getD (k - 1) default then 4 else 0
def chk (c : Cl) : Int := if c.we < 0 ∨ 126 < c.we then 3 else if 60 < c.hs.length then 2 else fe (eAt c.hs) c.hs.length
theorem eAt_ok {hs : List Int} {k : Nat} (h : eAt hs k = 0) : Day (hs.getD k default) ∧ (0 < k → hs.getD (k - 1) default < hs.getD k default) := by
  unfold eAt at h
  split at h
  · omega
  · rename_i a
    split at h
    · omega
    · split at h
      · omega
      · exact ⟨Classical.not_not.1 a, fun hk => by omega⟩
theorem chk_ok {c : Cl} (h : chk c = 0) : Ok c := by
  unfold chk at h
  split at h
  · omega
  split at h
  · omega
  have a := fe_ok h
  refine ⟨by omega, by omega, fun n hn => ?_, List.pairwise_iff_getElem.2 fun i j hi hj hij => ?_⟩
  · obtain ⟨i, hi, rfl⟩ := List.getElem_of_mem hn
    have := (eAt_ok (a i hi)).1
    rwa [getD_at hi] at this
  · have st : ∀ m, i < m → m < c.hs.length → c.hs.getD i default < c.hs.getD m default := by
      intro m
      induction m with
      | zero => intro h; omega
      | succ m ih =>
        intro h1 h2
        have h3 := (eAt_ok (a (m + 1) h2)).2 (by omega)
        rw [Nat.add_sub_cancel] at h3
        by_cases e : i = m
        · subst e; exact h3
        · have := ih (by omega) (by omega); omega
    have := st j hij hj
    rwa [getD_at hi, getD_at hj] at this
theorem chk_1 {c : Cl} (h : c.we < 0 ∨ 126 < c.we) : chk c = 3 := if_pos h
theorem chk_2 {c : Cl} (h : ¬ (c.we < 0 ∨ 126 < c.we)) (k : 60 < c.hs.length) : chk c = 2 := (if_neg h).trans (if_pos k)
theorem chk_3 {c : Cl} (h : ¬ (c.we < 0 ∨ 126 < c.we)) (k : ¬ 60 < c.hs.length) : chk c = fe (eAt c.hs) c.hs.length := (if_neg h).trans (if_neg k)
theorem chk_of {c : Cl} (h : Ok c) : chk c = 0 := by
  obtain ⟨h1, h2, h3, h4⟩ := h
  rw [chk_3 (by omega) (by omega)]
  refine fe_end fun k hk => ?_
  have hd := h3 _ (getD_mem (l := c.hs) hk)
  unfold eAt
  rw [if_neg (fun q => q hd)]
  have lt : 0 < k → c.hs.getD (k - 1) default < c.hs.getD k default := fun h => by
    rw [getD_at hk, getD_at (l := c.hs) (k := k - 1) (by omega)]
    exact List.pairwise_iff_getElem.1 h4 (k - 1) k (by omega) hk (by omega)
  rw [if_neg (fun q => by have := lt q.1; omega), if_neg (fun q => by have := lt q.1; omega)]
/-- no day of the weekend; a business day -/
def wd (c : Cl) (n : Int) : Int := 1 - c.we / 2 ^ (n % 7).toNat % 2
def op (c : Cl) (n : Int) : Int := if n ∈ c.hs then 0 else wd c n
theorem wd_01 (c : Cl) (n : Int) : wd c n = 0 ∨ wd c n = 1 := by unfold wd; omega
theorem op_01 (c : Cl) (n : Int) : op c n = 0 ∨ op c n = 1 := by unfold op; split; · exact .inl rfl
                                                                 · exact wd_01 c n
theorem wd_7 (c : Cl) (n : Int) : wd c (n + 7) = wd c n := by unfold wd; rw [show (n + 7) % 7 = n % 7 by omega]
/-- sums over (a, a + k] -/
def sm (f : Int → Int) (a : Int) : Nat → Int
  | 0 => 0
  | k + 1 => sm f a k + f (a + k + 1)
theorem sm_add (f : Int → Int) (a : Int) (k : Nat) : ∀ m : Nat, sm f a (k + m) = sm f a k + sm f (a + k) m
  | 0 => by simp [sm]
  | m + 1 => by
    have := sm_add f a k m
    rw [← Nat.add_assoc]
    simp only [sm]
    rw [this, show a + ((k + m : Nat) : Int) + 1 = a + k + m + 1 by omega]; omega
def cnt (c : Cl) (a b : Int) : Int := sm (op c) a (b - a).toNat
theorem cnt_none {c : Cl} {a b : Int} (h : b ≤ a) : cnt c a b = 0 := by unfold cnt; rw [show (b - a).toNat = 0 by omega]; rfl
theorem cnt_succ {c : Cl} {a b : Int} (h : a ≤ b) : cnt c a (b + 1) = cnt c a b + op c (b + 1) := by
  unfold cnt
  rw [show (b + 1 - a).toNat = (b - a).toNat + 1 by omega]
  simp only [sm]
  rw [show a + ((b - a).toNat : Int) + 1 = b + 1 by omega]
theorem cnt_add {c : Cl} {a b d : Int} (h : a ≤ b) (k : b ≤ d) : cnt c a d = cnt c a b + cnt c b d := by
  unfold cnt
  rw [show (d - a).toNat = (b - a).toNat + (d - b).toNat by omega, sm_add, show a + ((b - a).toNat : Int) = b by omega]
theorem cnt_last {c : Cl} {a b : Int} (h : a < b) : cnt c a b = cnt c a (b - 1) + op c b := by
  have := cnt_succ (c := c) (a := a) (b := b - 1) (by omega)
  rwa [show b - 1 + 1 = b by omega] at this
theorem cnt_one (c : Cl) (a : Int) : cnt c a (a + 1) = op c (a + 1) := by rw [cnt_succ (Int.le_refl _), cnt_none (Int.le_refl _)]; omega
theorem cnt_first {c : Cl} {a b : Int} (h : a < b) : cnt c a b = op c (a + 1) + cnt c (a + 1) b := by
  rw [cnt_add (b := a + 1) (by omega) (by omega), cnt_one]
theorem sm_bd (c : Cl) (a : Int) : ∀ k : Nat, 0 ≤ sm (op c) a k ∧ sm (op c) a k ≤ k
  | 0 => by simp [sm]
  | k + 1 => by
    have := sm_bd c a k
    have := op_01 c (a + k + 1)
    simp only [sm]; omega
theorem cnt_bd (c : Cl) (a b : Int) : 0 ≤ cnt c a b ∧ (a ≤ b → cnt c a b ≤ b - a) := by
  have := sm_bd c a (b - a).toNat
  unfold cnt
  exact ⟨this.1, fun h => by omega⟩
theorem cnt_mono {c : Cl} {a b d : Int} (k : b ≤ d) : cnt c a b ≤ cnt c a d := by
  by_cases h : a ≤ b
  · have := cnt_add (c := c) h k; have := cnt_bd c b d; omega
  · rw [cnt_none (by omega)]; exact (cnt_bd c a d).1
theorem cnt_pos {c : Cl} {a b : Int} (h : a < b) (k : op c b = 1) : 1 ≤ cnt c a b := by
  rw [cnt_last h]; have := cnt_bd c a (b - 1); omega
/-- the m-th business day behind a -/
def Up (c : Cl) (a m d : Int) : Prop := a < d ∧ d ≤ 3652058 ∧ op c d = 1 ∧ cnt c a d = m
theorem up_one {c : Cl} {a m d e : Int} (h : Up c a m d) (k : Up c a m e) : d = e := by
  obtain ⟨h1, h2, h3, h4⟩ := h
  obtain ⟨k1, k2, k3, k4⟩ := k
  rcases Int.lt_trichotomy d e with q | q | q
  · have := cnt_add (c := c) (a := a) (b := d) (d := e) (by omega) (by omega); have := cnt_pos q k3; omega
  · exact q
  · have := cnt_add (c := c) (a := a) (b := e) (d := d) (by omega) (by omega); have := cnt_pos q h3; omega
open Classical in
noncomputable def stU (c : Cl) (a m : Int) : Int := if h : ∃ d, Up c a m d then h.choose else -1
theorem stU_is {c : Cl} {a m d : Int} (h : Up c a m d) : stU c a m = d := by
  have e : ∃ d, Up c a m d := ⟨d, h⟩
  unfold stU
  rw [dif_pos e]
  exact up_one e.choose_spec h
theorem stU_no {c : Cl} {a m : Int} (h : cnt c a 3652058 < m) : stU c a m = -1 := by
  unfold stU
  exact dif_neg fun ⟨d, _, h2, _, h4⟩ => by have := cnt_mono (c := c) (a := a) h2; omega
theorem stU_ok {c : Cl} {a m : Int} (h : 0 ≤ stU c a m) : Up c a m (stU c a m) := by
  by_cases e : ∃ d, Up c a m d
  · unfold stU; rw [dif_pos e]; exact e.choose_spec
  · unfold stU at h; rw [dif_neg e] at h; omega
theorem stU_cases {c : Cl} {a m : Int} (ha : -1 ≤ a) : stU c a m = -1 ∨ (0 ≤ stU c a m ∧ Up c a m (stU c a m)) := by
  by_cases e : ∃ d, Up c a m d
  · right
    have : Up c a m (stU c a m) := by unfold stU; rw [dif_pos e]; exact e.choose_spec
    exact ⟨by have := this.1; omega, this⟩
  · left; unfold stU; exact dif_neg e
/-- the m-th business day ahead of a -/
def Dn (c : Cl) (a m d : Int) : Prop := 0 ≤ d ∧ d < a ∧ op c d = 1 ∧ cnt c (d - 1) (a - 1) = m
theorem dn_one {c : Cl} {a m d e : Int} (h : Dn c a m d) (k : Dn c a m e) : d = e := by
  have key : ∀ d e, d < e → Dn c a m d → Dn c a m e → False := fun d e q ⟨h1, h2, h3, h4⟩ ⟨k1, k2, k3, k4⟩ => by
    have h5 := cnt_add (c := c) (a := d - 1) (b := e - 1) (d := a - 1) (by omega) (by omega)
    have h6 := cnt_first (c := c) (a := d - 1) (b := e - 1) (by omega)
    have h7 := cnt_bd c (d - 1 + 1) (e - 1)
    rw [show d - 1 + 1 = d by omega] at h6 h7
    omega
  rcases Int.lt_trichotomy d e with q | q | q
  · exact (key d e q h k).elim
  · exact q
  · exact (key e d q k h).elim
open Classical in
noncomputable def stD (c : Cl) (a m : Int) : Int := if h : ∃ d, Dn c a m d then h.choose else -1
theorem stD_is {c : Cl} {a m d : Int} (h : Dn c a m d) : stD c a m = d := by
  have e : ∃ d, Dn c a m d := ⟨d, h⟩
  unfold stD
  rw [dif_pos e]
  exact dn_one e.choose_spec h
theorem cnt_mono_l {c : Cl} {a b d : Int} (k : a ≤ b) : cnt c b d ≤ cnt c a d := by
  by_cases h : b ≤ d
  · have := cnt_add (c := c) k h; have := cnt_bd c a b; omega
  · rw [cnt_none (by omega)]; exact (cnt_bd c a d).1
theorem stD_no {c : Cl} {a m : Int} (h : cnt c (-1) (a - 1) < m) : stD c a m = -1 := by
  unfold stD
  exact dif_neg fun ⟨d, h1, h2, _, h4⟩ => by have := cnt_mono_l (c := c) (a := -1) (b := d - 1) (d := a - 1) (by omega); omega
theorem stD_cases (c : Cl) (a m : Int) : stD c a m = -1 ∨ (0 ≤ stD c a m ∧ Dn c a m (stD c a m)) := by
  by_cases e : ∃ d, Dn c a m d
  · right
    have : Dn c a m (stD c a m) := by unfold stD; rw [dif_pos e]; exact e.choose_spec
    exact ⟨this.1, this⟩
  · left; unfold stD; exact dif_neg e
/-- so many steps -/
noncomputable def stp (c : Cl) (n m : Int) : Int := if 0 < m then stU c n m else if m < 0 then stD c n (-m) else n
theorem stp_p {c : Cl} {n m : Int} (h : 0 < m) : stp c n m = stU c n m := if_pos h
theorem stp_n {c : Cl} {n m : Int} (h : m < 0) : stp c n m = stD c n (-m) := (if_neg (by omega)).trans (if_pos h)
theorem stp_0 {c : Cl} {n : Int} : stp c n 0 = n := (if_neg (by omega)).trans (if_neg (by omega))
theorem stp_cases {c : Cl} {n m : Int} (hn : Day n) : stp c n m = -1 ∨ Day (stp c n m) := by
  unfold Day at *
  by_cases h : 0 < m
  · rw [stp_p h]
    rcases stU_cases (c := c) (a := n) (m := m) (by omega) with q | ⟨q, _, r, _⟩
    · exact .inl q
    · exact .inr ⟨q, r⟩
  · by_cases k : m < 0
    · rw [stp_n k]
      rcases stD_cases c n (-m) with q | ⟨q, _, r, _⟩
      · exact .inl q
      · exact .inr ⟨q, by omega⟩
    · obtain rfl : m = 0 := by omega
      rw [stp_0]; exact .inr hn
/-! what the count of the program comes to -/
def hc (c : Cl) (a b : Int) : List Int → Int
  | [] => 0
  | h :: r => (if a < h ∧ h ≤ b ∧ wd c h = 1 then 1 else 0) + hc c a b r
theorem hc_snoc (c : Cl) (a b : Int) : ∀ (l : List Int) (x : Int), hc c a b (l ++ [x]) = hc c a b l + (if a < x ∧ x ≤ b ∧ wd c x = 1 then 1 else 0)
  | [], x => by simp [hc]
  | h :: r, x => by
    rw [List.cons_append]; simp only [hc]
    rw [hc_snoc c a b r x]; omega
theorem hc_same {c : Cl} {a b : Int} : ∀ {l : List Int}, b + 1 ∉ l → hc c a (b + 1) l = hc c a b l
  | [], _ => rfl
  | h :: r, q => by
    have h1 : h ≠ b + 1 := fun e => q (by simp [e])
    have := hc_same (c := c) (a := a) (b := b) (l := r) (fun e => q (by simp [e]))
    simp only [hc]
    rw [this]
    congr 1
    split <;> split <;> omega
theorem hc_succ {c : Cl} {a b : Int} (hab : a ≤ b) : ∀ {l : List Int}, l.Nodup → hc c a (b + 1) l = hc c a b l + (if b + 1 ∈ l then wd c (b + 1) else 0)
  | [], _ => by simp [hc]
  | h :: r, hn => by
    rw [List.nodup_cons] at hn
    simp only [hc]
    by_cases e : h = b + 1
    · subst e
      rw [hc_same hn.1, if_pos (by simp : b + 1 ∈ (b + 1) :: r), if_neg (by omega : ¬ (a < b + 1 ∧ b + 1 ≤ b ∧ wd c (b + 1) = 1))]
      rcases wd_01 c (b + 1) with w | w
      · rw [if_neg (by omega), w]; omega
      · rw [if_pos (by omega), w]; omega
    · rw [hc_succ hab hn.2]
      have m : (b + 1 ∈ h :: r) ↔ b + 1 ∈ r := by
        rw [List.mem_cons]
        exact ⟨fun q => q.resolve_left fun z => e z.symm, .inr⟩
      have i1 : (if a < h ∧ h ≤ b + 1 ∧ wd c h = 1 then (1 : Int) else 0) = (if a < h ∧ h ≤ b ∧ wd c h = 1 then 1 else 0) := by split <;> split <;> omega
      rw [i1]
      by_cases q : b + 1 ∈ r
      · rw [if_pos q, if_pos (m.2 q)]; omega
      · rw [if_neg q, if_neg (fun z => q (m.1 z))]; omega
theorem hc_none {c : Cl} {a b : Int} (h : b ≤ a) : ∀ l : List Int, hc c a b l = 0
  | [] => rfl
  | x :: r => by simp only [hc]; rw [hc_none h r, if_neg (by omega)]; rfl
theorem sm_op {c : Cl} (hn : c.hs.Nodup) (a : Int) : ∀ k : Nat, sm (op c) a k = sm (wd c) a k - hc c a (a + k) c.hs
  | 0 => by simp only [sm]; rw [hc_none (by omega)]; rfl
  | k + 1 => by
    have h1 := sm_op hn a k
    have h2 := hc_succ (c := c) (a := a) (b := a + k) (by omega) hn
    simp only [sm]
    rw [h1, show a + ((k + 1 : Nat) : Int) = a + k + 1 by omega, h2]
    unfold op
    split <;> omega
/-- business days of a week, but for holidays -/
def wk (c : Cl) : Int := sm (wd c) (-1) 7
theorem sm_wk (c : Cl) (a : Int) : sm (wd c) a 7 = wk c := by
  have per : ∀ x y : Int, x % 7 = y % 7 → wd c x = wd c y := fun x y h => by unfold wd; rw [h]
  have e : ∀ b, sm (wd c) b 7 = wd c (b + 1) + wd c (b + 2) + wd c (b + 3) + wd c (b + 4) + wd c (b + 5) + wd c (b + 6) + wd c (b + 7) := fun b => by
    simp only [sm, Int.zero_add]
    rw [show b + ((0 : Nat) : Int) + 1 = b + 1 by omega, show b + ((1 : Nat) : Int) + 1 = b + 2 by omega, show b + ((2 : Nat) : Int) + 1 = b + 3 by omega, show b + ((3 : Nat) : Int) + 1 = b + 4 by omega, show b + ((4 : Nat) : Int) + 1 = b + 5 by omega, show b + ((5 : Nat) : Int) + 1 = b + 6 by omega, show b + ((6 : Nat) : Int) + 1 = b + 7 by omega]
  have st : ∀ b, sm (wd c) (b + 1) 7 = sm (wd c) b 7 := fun b => by
    rw [e, e, show b + 1 + 7 = b + 1 + 7 from rfl, wd_7, show b + 1 + 1 = b + 2 by omega, show b + 1 + 2 = b + 3 by omega, show b + 1 + 3 = b + 4 by omega, show b + 1 + 4 = b + 5 by omega, show b + 1 + 5 = b + 6 by omega, show b + 1 + 6 = b + 7 by omega]
    omega
  have up : ∀ (k : Nat) b, sm (wd c) (b + k) 7 = sm (wd c) b 7 := by
    intro k
    induction k with
    | zero => intro b; rw [show b + ((0 : Nat) : Int) = b by omega]
    | succ k ih => intro b; rw [show b + ((k + 1 : Nat) : Int) = b + k + 1 by omega, st, ih]
  unfold wk
  by_cases h : -1 ≤ a
  · have := up (a + 1).toNat (-1)
    rwa [show -1 + ((a + 1).toNat : Int) = a by omega] at this
  · have := up (-1 - a).toNat a
    rw [show a + ((-1 - a).toNat : Int) = -1 by omega] at this
    exact this.symm
theorem sm_weeks (c : Cl) (a : Int) : ∀ q : Nat, sm (wd c) a (7 * q) = q * wk c
  | 0 => by simp [sm]
  | q + 1 => by
    rw [Nat.mul_succ, sm_add, sm_weeks c a q, sm_wk, Int.natCast_add, Int.add_mul]; omega
theorem count_is {c : Cl} (hn : c.hs.Nodup) {a b : Int} (h : a ≤ b) : cnt c a b = (b - a) / 7 * wk c + sm (wd c) (a + (b - a) / 7 * 7) ((b - a) % 7).toNat - hc c a b c.hs := by
  unfold cnt
  rw [sm_op hn, show a + ((b - a).toNat : Int) = b by omega, show (b - a).toNat = 7 * ((b - a) / 7).toNat + ((b - a) % 7).toNat by omega, sm_add, sm_weeks, show (((b - a) / 7).toNat : Int) = (b - a) / 7 by omega, show a + ((7 * ((b - a) / 7).toNat : Nat) : Int) = a + (b - a) / 7 * 7 by omega]
theorem ok_nodup {c : Cl} (h : Ok c) : c.hs.Nodup := h.2.2.2.imp (fun q => by omega)
/-! a binary search -/
def lb (l : List Int) (x : Int) : Nat := (l.takeWhile (fun y => decide (y < x))).length
theorem lb_is {l : List Int} {x : Int} {i : Nat} (hi : i ≤ l.length) (h1 : ∀ k, k < i → l.getD k default < x) (h2 : ∀ k, i ≤ k → k < l.length → ¬ l.getD k default < x) : lb l x = i := by
  have key : ∀ (l : List Int) (i : Nat), i ≤ l.length → (∀ k, k < i → l.getD k default < x) → (∀ k, i ≤ k → k < l.length → ¬ l.getD k default < x) → lb l x = i := by
    intro l
    induction l with
    | nil => intro i hi _ _; simp at hi; subst hi; rfl
    | cons a r ih =>
      intro i hi h1 h2
      unfold lb
      cases i with
      | zero =>
        have := h2 0 (by omega) (by simp)
        have e : ¬ a < x := by simpa using this
        rw [List.takeWhile_cons, if_neg (by simpa using e)]; rfl
      | succ i =>
        have := h1 0 (by omega)
        have e : a < x := by simpa using this
        rw [List.takeWhile_cons, if_pos (by simpa using e), List.length_cons]
        have := ih i (by simpa using hi) (fun k hk => by simpa using h1 (k + 1) (by omega)) (fun k h3 h4 => by simpa using h2 (k + 1) (by omega) (by simpa using h4))
        unfold lb at this
        rw [this]
  exact key l i hi h1 h2
theorem srt_lt {l : List Int} (h : l.Pairwise (· < ·)) {i j : Nat} (hij : i < j) (hj : j < l.length) : l.getD i default < l.getD j default := by
  rw [getD_at (by omega), getD_at hj]
  exact List.pairwise_iff_getElem.1 h i j (by omega) hj hij
/-- found, where it is -/
theorem found_is {l : List Int} {x : Int} {i : Nat} (h1 : ∀ k, k < i → l.getD k default < x) (h2 : ∀ k, i ≤ k → k < l.length → ¬ l.getD k default < x) (hs : l.Pairwise (· < ·)) : x ∈ l ↔ (i < l.length ∧ l.getD i default = x) := by
  constructor
  · intro h
    obtain ⟨k, hk, e⟩ := List.getElem_of_mem h
    have e : l.getD k default = x := by rw [getD_at hk]; exact e
    have hik : i ≤ k := by
      rcases Nat.lt_or_ge k i with q | q
      · have := h1 k q; omega
      · exact q
    refine ⟨by omega, ?_⟩
    by_cases q : i = k
    · subst q; exact e
    · have a := srt_lt hs (i := i) (j := k) (by omega) hk
      have b := h2 i (Nat.le_refl _) (by omega)
      omega
  · rintro ⟨a, b⟩
    rw [← b]; exact getD_mem a
/-! errors -/
def chks (c : Cl) (ds : List Int) : Int := if chk c ≠ 0 then chk c else fb D.chk ds
theorem chks_1 {c : Cl} {ds : List Int} (h : ¬ chk c = 0) : chks c ds = chk c := if_pos h
theorem chks_2 {c : Cl} {ds : List Int} (h : chk c = 0) : chks c ds = fb D.chk ds := if_neg (by omega)
def e1 (c : Cl) (n : Int) : Int := chks c [n]
theorem dchk (n : Int) : (D.chk n = 0 ∧ Day n) ∨ (D.chk n = 3 ∧ ¬ Day n) := by
  by_cases h : Day n
  · exact .inl ⟨D.chk_yes h.1 h.2, h⟩
  · exact .inr ⟨D.chk_no h, h⟩
theorem e1_ok {c : Cl} {n : Int} (h : e1 c n = 0) : Ok c ∧ Day n ∧ chk c = 0 := by
  unfold e1 at h
  by_cases a : chk c = 0
  · rw [chks_2 a] at h
    have := fb_ok h n (by simp)
    rcases dchk n with q | q
    · exact ⟨chk_ok a, q.2, a⟩
    · omega
  · rw [chks_1 a] at h; omega
theorem e1_of {c : Cl} {n : Int} (h : chk c = 0) (k : Day n) : e1 c n = 0 := by
  unfold e1
  rw [chks_2 h]
  exact fb_yes fun d hd => by rw [List.mem_singleton] at hd; subst hd; exact D.chk_yes k.1 k.2
theorem e1_1 {c : Cl} {n : Int} (h : ¬ chk c = 0) : e1 c n = chk c := chks_1 h
theorem e1_2 {c : Cl} {n : Int} (h : chk c = 0) (k : ¬ Day n) : e1 c n = 3 := by
  unfold e1
  rw [chks_2 h]
  have e := D.chk_no k
  show (if D.chk n ≠ 0 then D.chk n else _) = 3
  rw [if_pos (by omega), e]
/-- is it a business day? -/
def isV (c : Cl) (n : Int) : Bool := decide (e1 c n = 0 ∧ op c n = 1)
/-- what is told of a day, or that there is none -/
def toV (d : Int) : Int := if d < 0 then 0 else d
def toE (d : Int) : Int := if d < 0 then 8 else 0
noncomputable def neV (c : Cl) (n : Int) : Int := if e1 c n ≠ 0 then 0 else toV (stU c (n - 1) 1)
noncomputable def neE (c : Cl) (n : Int) : Int := if e1 c n ≠ 0 then e1 c n else toE (stU c (n - 1) 1)
def sE0 (c : Cl) (n m : Int) : Int := if e1 c n ≠ 0 then e1 c n else if m < -500 ∨ 500 < m then 3 else 0
theorem sE0_ok {c : Cl} {n m : Int} (h : sE0 c n m = 0) : e1 c n = 0 ∧ -500 ≤ m ∧ m ≤ 500 := by
  unfold sE0 at h
  split at h
  · exact absurd h ‹_›
  · split at h
    · omega
    · exact ⟨by omega, by omega, by omega⟩
noncomputable def sV (c : Cl) (n m : Int) : Int := if sE0 c n m ≠ 0 then 0 else toV (stp c n m)
noncomputable def sE (c : Cl) (n m : Int) : Int := if sE0 c n m ≠ 0 then sE0 c n m else toE (stp c n m)
def coE (c : Cl) (a b : Int) : Int := if chks c [a, b] ≠ 0 then chks c [a, b] else if b < a then 1 else 0
def coV (c : Cl) (a b : Int) : Int := if coE c a b = 0 then cnt c a b else 0
theorem chks2_ok {c : Cl} {a b : Int} (h : chks c [a, b] = 0) : chk c = 0 ∧ Day a ∧ Day b := by
  by_cases q : chk c = 0
  · rw [chks_2 q] at h
    have h1 := fb_ok h a (by simp)
    have h2 := fb_ok h b (by simp)
    rcases dchk a with x | x <;> rcases dchk b with y | y <;> first | exact ⟨q, x.2, y.2⟩ | omega
  · rw [chks_1 q] at h; omega
theorem coE_ok {c : Cl} {a b : Int} (h : coE c a b = 0) : chk c = 0 ∧ Day a ∧ Day b ∧ a ≤ b := by
  unfold coE at h
  split at h
  · exact absurd h ‹_›
  · split at h
    · omega
    · have := chks2_ok (c := c) (a := a) (b := b) (by omega)
      exact ⟨this.1, this.2.1, this.2.2, by omega⟩
theorem coE_of {c : Cl} {a b : Int} (h : chk c = 0) (ha : Day a) (hb : Day b) (hab : a ≤ b) : coE c a b = 0 := by
  have : chks c [a, b] = 0 := by
    rw [chks_2 h]
    exact fb_yes fun d hd => by
      simp only [List.mem_cons, List.not_mem_nil, or_false] at hd
      rcases hd with rfl | rfl
      · exact D.chk_yes ha.1 ha.2
      · exact D.chk_yes hb.1 hb.2
  unfold coE
  rw [if_neg (by omega), if_neg (by omega)]
theorem eAt_cases {hs : List Int} {k : Nat} {x last : Int} (hx : x = hs.getD k default) (hl : last = if k = 0 then -1 else hs.getD (k - 1) default) :
    (¬ Day x → eAt hs k = 3) ∧ (Day x → x = last → eAt hs k = 6) ∧ (Day x → ¬ x = last → x < last → eAt hs k = 4) ∧ (Day x → ¬ x = last → ¬ x < last → eAt hs k = 0) := by
  subst hx
  unfold eAt Day
  by_cases hk : k = 0
  · subst hk
    rw [if_pos rfl] at hl
    refine ⟨fun h => if_pos h, fun h e => by omega, fun h e q => by omega, fun h e q => ?_⟩
    rw [if_neg (fun z => z h), if_neg (by omega), if_neg (by omega)]
  · rw [if_neg hk] at hl
    refine ⟨fun h => if_pos h, fun h e => ?_, fun h e q => ?_, fun h e q => ?_⟩
    · rw [if_neg (fun z => z h), if_pos (by omega)]
    · rw [if_neg (fun z => z h), if_neg (by omega), if_pos (by omega)]
    · rw [if_neg (fun z => z h), if_neg (by omega), if_neg (by omega)]
theorem smw_bd (c : Cl) (a : Int) : ∀ k : Nat, 0 ≤ sm (wd c) a k ∧ sm (wd c) a k ≤ k
  | 0 => by simp [sm]
  | k + 1 => by
    have := smw_bd c a k
    have := wd_01 c (a + k + 1)
    simp only [sm]; omega
theorem hc_bd (c : Cl) (a b : Int) : ∀ l : List Int, 0 ≤ hc c a b l ∧ hc c a b l ≤ l.length
  | [] => by simp [hc]
  | x :: r => by
    have := hc_bd c a b r
    simp only [hc, List.length_cons]
    split <;> omega
end Ca
end Go.Proofs.Ytjjepkklaagmmaa

/- Plain facts on books: wide sums, keys, totals. -/
namespace Go.Proofs.Ytjjepkklaagmmaa
set_option linter.unusedVariables false
set_option linter.unusedSimpArgs false
namespace Bk
/-! wide sums -/
def wadd (s : Int × Int) (n : Int) : Int × Int := (s.1 + (s.2 + n).tdiv 1152921504606846976, (s.2 + n).tmod 1152921504606846976)
def wst (l : List Int) : Int × Int := l.foldl wadd (0, 0)
theorem wst_snoc (l : List Int) (n : Int) : wst (l ++ [n]) = wadd (wst l) n := by unfold wst; rw [List.foldl_append]; rfl
theorem tdm (x : Int) : x.tdiv 1152921504606846976 * 1152921504606846976 + x.tmod 1152921504606846976 = x ∧ -1152921504606846976 < x.tmod 1152921504606846976 ∧ x.tmod 1152921504606846976 < 1152921504606846976 ∧ (0 ≤ x → 0 ≤ x.tmod 1152921504606846976) ∧ (x ≤ 0 → x.tmod 1152921504606846976 ≤ 0) := by
  refine ⟨by have := Int.mul_tdiv_add_tmod x 1152921504606846976; omega, ?_, ?_, fun h => Int.tmod_nonneg _ h, fun h => ?_⟩
  · have := Int.lt_tmod_of_pos x (show (0 : Int) < 1152921504606846976 by decide); omega
  · exact Int.tmod_lt_of_pos x (by decide)
  · have := Int.tmod_nonneg (a := -x) 1152921504606846976 (by omega)
    rw [Int.neg_tmod] at this
    omega
theorem wadd_spec {s : Int × Int} {n : Int} (h1 : -1152921504606846976 < s.2 ∧ s.2 < 1152921504606846976) (hn : M.Amt n) : (wadd s n).1 * 1152921504606846976 + (wadd s n).2 = s.1 * 1152921504606846976 + s.2 + n ∧ (-1152921504606846976 < (wadd s n).2 ∧ (wadd s n).2 < 1152921504606846976) ∧ s.1 - 1 ≤ (wadd s n).1 ∧ (wadd s n).1 ≤ s.1 + 1 := by
  have d := tdm (s.2 + n)
  unfold M.Amt at hn
  unfold wadd
  simp only
  generalize (s.2 + n).tdiv 1152921504606846976 = q at *
  generalize (s.2 + n).tmod 1152921504606846976 = r at *
  omega
theorem wfold : ∀ (l : List Int) (s : Int × Int), (-1152921504606846976 < s.2 ∧ s.2 < 1152921504606846976) → (∀ a ∈ l, M.Amt a) → (l.foldl wadd s).1 * 1152921504606846976 + (l.foldl wadd s).2 = s.1 * 1152921504606846976 + s.2 + M.sum l ∧ (-1152921504606846976 < (l.foldl wadd s).2 ∧ (l.foldl wadd s).2 < 1152921504606846976) ∧ s.1 - l.length ≤ (l.foldl wadd s).1 ∧ (l.foldl wadd s).1 ≤ s.1 + l.length
  | [], s, h, _ => by simp [M.sum]; omega
  | a :: r, s, h, ha => by
    obtain ⟨w1, w2, w3⟩ := wadd_spec h (ha a (by simp))
    obtain ⟨i1, i2, i3⟩ := wfold r (wadd s a) w2 fun x hx => ha x (by simp [hx])
    simp only [List.foldl_cons, M.sum, List.length_cons]
    refine ⟨by omega, i2, by omega, by omega⟩
theorem wst_spec (l : List Int) (h : ∀ a ∈ l, M.Amt a) : (wst l).1 * 1152921504606846976 + (wst l).2 = M.sum l ∧ (-1152921504606846976 < (wst l).2 ∧ (wst l).2 < 1152921504606846976) ∧ -(l.length : Int) ≤ (wst l).1 ∧ (wst l).1 ≤ l.length := by
  obtain ⟨a, b, c⟩ := wfold l (0, 0) (by decide) h
  refine ⟨by unfold wst; simpa using a, b, ?_⟩
  unfold wst
  simp only at c
  omega
/-! postings -/
def Right (p : Po) : Prop := ((0 ≤ p.ac ∧ p.ac ≤ 100) ∧ (0 ≤ p.ut ∧ p.ut ≤ 20)) ∧ M.Amt p.am ∧ p.am ≠ 0
instance (p : Po) : Decidable (Right p) := by unfold Right M.Amt; exact inferInstance
/-- amounts of a unit -/
def amu (l : List Po) (u : Nat) : List Int := (l.filter fun p => decide (p.ut = (u : Int))).map (·.am)
theorem amu_snoc (l : List Po) (p : Po) (u : Nat) : amu (l ++ [p]) u = amu l u ++ if p.ut = (u : Int) then [p.am] else [] := by
  unfold amu
  rw [List.filter_append, List.map_append]
  congr 1
  by_cases h : p.ut = (u : Int)
  · rw [if_pos h]; simp [h]
  · rw [if_neg h]; simp [h]
theorem amu_amt {l : List Po} (h : ∀ p ∈ l, Right p) (u : Nat) : ∀ a ∈ amu l u, M.Amt a := fun a ha => by
  obtain ⟨p, hp, rfl⟩ := List.mem_map.1 ha
  exact (h p (List.mem_filter.1 hp).1).2.1
theorem amu_len (l : List Po) (u : Nat) : (amu l u).length ≤ l.length := by
  unfold amu
  rw [List.length_map]
  exact List.length_filter_le _ _
def even (l : List Po) : Bool := (List.range 21).all fun u => decide (M.sum (amu l u) = 0)
theorem even_iff (l : List Po) : even l = true ↔ ∀ u, u < 21 → M.sum (amu l u) = 0 := by
  unfold even
  rw [List.all_eq_true]
  exact ⟨fun h u hu => by simpa using h u (List.mem_range.2 hu), fun h u hu => by simpa using h u (List.mem_range.1 hu)⟩
def bad (p : Po) : Bool := !decide (Right p)
def chk (l : List Po) : Int := if l.length = 0 then 1 else if 60 < l.length then 2 else if 0 ≤ ixf bad l then 3 else if even l = true then 0 else 4
theorem chk_cases (l : List Po) : (l.length = 0 ∧ chk l = 1) ∨ (60 < l.length ∧ chk l = 2) ∨ ((0 < l.length ∧ l.length ≤ 60) ∧ 0 ≤ ixf bad l ∧ chk l = 3) ∨ ((0 < l.length ∧ l.length ≤ 60) ∧ ixf bad l < 0 ∧ (∀ p ∈ l, Right p) ∧ even l = false ∧ chk l = 4) ∨ ((0 < l.length ∧ l.length ≤ 60) ∧ ixf bad l < 0 ∧ (∀ p ∈ l, Right p) ∧ even l = true ∧ chk l = 0) := by
  unfold chk
  by_cases h1 : l.length = 0
  · rw [if_pos h1]; exact .inl ⟨h1, rfl⟩
  rw [if_neg h1]
  by_cases h2 : 60 < l.length
  · rw [if_pos h2]; exact .inr (.inl ⟨h2, rfl⟩)
  rw [if_neg h2]
  by_cases h3 : 0 ≤ ixf bad l
  · rw [if_pos h3]; exact .inr (.inr (.inl ⟨by omega, h3, rfl⟩))
  rw [if_neg h3]
  have hr : ∀ p ∈ l, Right p := fun p hp => by
    rcases ixf_cases bad l with ⟨_, a⟩ | ⟨k, e, _⟩
    · have := a p hp
      unfold bad at this
      simpa using this
    · omega
  cases h4 : even l
  · rw [if_neg (by decide)]; exact .inr (.inr (.inr (.inl ⟨by omega, by omega, hr, rfl, rfl⟩)))
  · rw [if_pos rfl]; exact .inr (.inr (.inr (.inr ⟨by omega, by omega, hr, rfl, rfl⟩)))
/-- the order of lines -/
def lx (p q : Po) : Bool := decide (p.ac < q.ac ∨ (p.ac = q.ac ∧ p.ut < q.ut))
def eAt (b : List Po) (k : Nat) : Int := if ¬ Right (b.getD k default) then 3 else if 0 < k ∧ lx (b.getD (k - 1) default) (b.getD k default) = false then 4 else 0
def lines (b : List Po) : Int := if 400 < b.length then 2 else if Ca.fe (eAt b) b.length ≠ 0 then Ca.fe (eAt b) b.length else if even b = true then 0 else 4
structure Lines (b : List Po) : Prop where
  le : b.length ≤ 400
  r : ∀ p ∈ b, Right p
  s : b.Pairwise fun p q => lx p q = true
theorem lx_trans {p q r : Po} (h1 : lx p q = true) (h2 : lx q r = true) : lx p r = true := by
  unfold lx at *
  simp only [decide_eq_true_eq] at *
  omega
theorem fe_ok {b : List Po} (n : b.length ≤ 400) (h : Ca.fe (eAt b) b.length = 0) : Lines b := by
  have a := Ca.fe_ok h
  have e : ∀ k, k < b.length → Right (b.getD k default) ∧ (0 < k → lx (b.getD (k - 1) default) (b.getD k default) = true) := fun k hk => by
    have := a k hk
    unfold eAt at this
    split at this
    · omega
    · rename_i q
      split at this
      · omega
      · rename_i r
        refine ⟨Classical.not_not.1 q, fun h0 => ?_⟩
        cases z : lx (b.getD (k - 1) default) (b.getD k default)
        · exact absurd ⟨h0, z⟩ r
        · rfl
  refine ⟨n, fun p hp => ?_, List.pairwise_iff_getElem.2 fun i j hi hj hij => ?_⟩
  · obtain ⟨i, hi, rfl⟩ := List.getElem_of_mem hp
    rw [← getD_at hi]
    exact (e i hi).1
  · have st : ∀ m, i < m → m < b.length → lx (b.getD i default) (b.getD m default) = true := by
      intro m
      induction m with
      | zero => intro h; omega
      | succ m ih =>
        intro h1 h2
        have h3 := (e (m + 1) h2).2 (by omega)
        rw [Nat.add_sub_cancel] at h3
        by_cases z : i = m
        · subst z; exact h3
        · exact lx_trans (ih (by omega) (by omega)) h3
    have := st j hij hj
    rwa [getD_at hi, getD_at hj] at this
theorem ok_fe {b : List Po} (h : Lines b) : Ca.fe (eAt b) b.length = 0 := Ca.fe_end fun k hk => by
  unfold eAt
  rw [if_neg (fun z => z (h.r _ (getD_mem hk))), if_neg]
  rintro ⟨h0, h1⟩
  have := List.pairwise_iff_getElem.1 h.s (k - 1) k (by omega) hk (by omega)
  rw [← getD_at (l := b) (k := k - 1) (by omega), ← getD_at hk, h1] at this
  cases this
theorem lines_cases (b : List Po) : (400 < b.length ∧ lines b = 2) ∨ (b.length ≤ 400 ∧ Ca.fe (eAt b) b.length ≠ 0 ∧ lines b = Ca.fe (eAt b) b.length) ∨ (Ca.fe (eAt b) b.length = 0 ∧ Lines b ∧ even b = false ∧ lines b = 4) ∨ (Ca.fe (eAt b) b.length = 0 ∧ Lines b ∧ even b = true ∧ lines b = 0) := by
  unfold lines
  by_cases h1 : 400 < b.length
  · rw [if_pos h1]; exact .inl ⟨h1, rfl⟩
  rw [if_neg h1]
  by_cases h2 : Ca.fe (eAt b) b.length = 0
  · rw [if_neg (fun z => z h2)]
    have l := fe_ok (by omega) h2
    cases h3 : even b
    · rw [if_neg (by decide)]; exact .inr (.inr (.inl ⟨h2, l, rfl, rfl⟩))
    · rw [if_pos rfl]; exact .inr (.inr (.inr ⟨h2, l, rfl, rfl⟩))
  · rw [if_pos h2]; exact .inr (.inl ⟨by omega, h2, rfl⟩)
theorem lines_0 {b : List Po} (h : lines b = 0) : Lines b ∧ even b = true := by
  rcases lines_cases b with ⟨_, e⟩ | ⟨_, a, e⟩ | ⟨_, _, _, e⟩ | ⟨_, l, e, _⟩
  · omega
  · omega
  · omega
  · exact ⟨l, e⟩
theorem lines_is {b : List Po} (l : Lines b) (e : even b = true) : lines b = 0 := by
  unfold lines
  rw [if_neg (by have := l.le; omega), if_neg (fun z => z (ok_fe l)), if_pos e]
theorem chk_0 {l : List Po} (h : chk l = 0) : (0 < l.length ∧ l.length ≤ 60) ∧ (∀ p ∈ l, Right p) ∧ even l = true := by
  rcases chk_cases l with ⟨_, e⟩ | ⟨_, e⟩ | ⟨_, _, e⟩ | ⟨_, _, _, _, e⟩ | ⟨a, _, b, c, _⟩
  · omega
  · omega
  · omega
  · omega
  · exact ⟨a, b, c⟩
theorem chk_is {l : List Po} (n : 0 < l.length ∧ l.length ≤ 60) (r : ∀ p ∈ l, Right p) (e : even l = true) : chk l = 0 := by
  rcases chk_cases l with ⟨a, _⟩ | ⟨a, _⟩ | ⟨_, a, _⟩ | ⟨_, _, _, a, _⟩ | ⟨_, _, _, _, a⟩
  · omega
  · omega
  · exfalso
    rcases ixf_cases bad l with ⟨e, _⟩ | ⟨k, _, hk, hp, _⟩
    · omega
    · have := r _ (getD_mem hk)
      unfold bad at hp
      simp only [Bool.not_eq_true', decide_eq_false_iff_not] at hp
      exact hp this
  · rw [e] at a; cases a
  · exact a
end Bk
end Go.Proofs.Ytjjepkklaagmmaa

/- Plain facts on money for papers: what they are worth, the middle of prices, how far a price may go. -/
namespace Go.Proofs.Ytjjepkklaagmmaa
set_option linter.unusedVariables false
set_option linter.unusedSimpArgs false
namespace Cp
def Ok (u p x : Int) : Prop := (0 ≤ u ∧ u ≤ 1073741824) ∧ P.Ok p ∧ (0 ≤ x ∧ x ≤ 10000)
instance (u p x : Int) : Decidable (Ok u p x) := by unfold Ok; exact inferInstance
def wE (u p x : Int) : Int := if Ok u p x then 0 else 3
def wV (u p x : Int) : Int := if Ok u p x then P.cost u p + P.cost u p * x / 10000 else 0
theorem w_yes {u p x : Int} (h : Ok u p x) : wE u p x = 0 ∧ wV u p x = P.cost u p + P.cost u p * x / 10000 := ⟨if_pos h, if_pos h⟩
theorem w_no {u p x : Int} (h : ¬ Ok u p x) : wE u p x = 3 ∧ wV u p x = 0 := ⟨if_neg h, if_neg h⟩
theorem w_ok {u p x : Int} (h : wE u p x = 0) : Ok u p x := by
  by_cases q : Ok u p x
  · exact q
  · rw [(w_no q).1] at h; cases h
theorem w_bd {u p x : Int} : 0 ≤ wV u p x ∧ wV u p x ≤ 236118324143482260 := by
  by_cases q : Ok u p x
  · rw [(w_yes q).2]
    have := P.cost_bd q.1 q.2.1
    have := P.rate_bd this.1 q.2.2
    omega
  · rw [(w_no q).2]; omega
/-! the middle -/
def srt (l : List Int) : List Int := l.mergeSort fun x y => decide (x ≤ y)
theorem srt_perm (l : List Int) : (srt l).Perm l := List.mergeSort_perm _ _
theorem srt_len (l : List Int) : (srt l).length = l.length := (srt_perm l).length_eq
theorem srt_le (l : List Int) : (srt l).Pairwise fun x y => x ≤ y := by
  have := List.pairwise_mergeSort (le := fun x y : Int => decide (x ≤ y)) (fun a b c h1 h2 => by simp at *; omega) (fun a b => by simp; omega) l
  exact this.imp fun h => by simpa using h
def med (l : List Int) : Int := (srt l).getD ((l.length - 1) / 2) default
def lt (x : Int) (l : List Int) : Nat := l.countP fun y => decide (y < x)
def eq (x : Int) (l : List Int) : Nat := l.countP fun y => decide (y = x)
def le (x : Int) (l : List Int) : Nat := l.countP fun y => decide (y ≤ x)
theorem le_eq (x : Int) : ∀ l : List Int, le x l = lt x l + eq x l
  | [] => rfl
  | y :: r => by
    have := le_eq x r
    unfold le lt eq at *
    simp only [List.countP_cons, this]
    rcases Int.lt_trichotomy y x with h | h | h
    · rw [if_pos (by simp; omega), if_pos (by simp; omega), if_neg (by simp; omega)]; omega
    · rw [if_pos (by simp; omega), if_neg (by simp; omega), if_pos (by simp; omega)]; omega
    · rw [if_neg (by simp; omega), if_neg (by simp; omega), if_neg (by simp; omega)]; omega
theorem srt_split {s : List Int} (hs : s.Pairwise fun x y => x ≤ y) {m : Nat} (hm : m < s.length) : (∀ y ∈ s.take (m + 1), y ≤ s.getD m default) ∧ (∀ y ∈ s.drop m, s.getD m default ≤ y) := by
  have p := List.pairwise_iff_getElem.1 hs
  refine ⟨fun y hy => ?_, fun y hy => ?_⟩
  · obtain ⟨k, hk, rfl⟩ := List.getElem_of_mem hy
    rw [List.length_take] at hk
    rw [List.getElem_take, getD_at hm]
    by_cases q : k = m
    · subst q; exact Int.le_refl _
    · exact p k m (by omega) hm (by omega)
  · obtain ⟨k, hk, rfl⟩ := List.getElem_of_mem hy
    rw [List.length_drop] at hk
    rw [List.getElem_drop, getD_at hm]
    by_cases q : k = 0
    · subst q; exact Int.le_refl _
    · exact p m (m + k) hm (by omega) (by omega)
theorem cnt_take {p : Int → Bool} {s : List Int} {m : Nat} (h : m ≤ s.length) (hp : ∀ y ∈ s.take m, p y = true) : m ≤ s.countP p := by
  have e : s.countP p = (s.take m).countP p + (s.drop m).countP p := by rw [← List.countP_append, List.take_append_drop]
  rw [e, List.countP_eq_length.2 hp, List.length_take]
  omega
theorem cnt_drop {p : Int → Bool} {s : List Int} {m : Nat} (hp : ∀ y ∈ s.drop m, p y = false) : s.countP p ≤ m := by
  have e : s.countP p = (s.take m).countP p + (s.drop m).countP p := by rw [← List.countP_append, List.take_append_drop]
  have z : (s.drop m).countP p = 0 := List.countP_eq_zero.2 fun y hy => by rw [hp y hy]; decide
  have := List.countP_le_length (p := p) (l := s.take m)
  rw [List.length_take] at this
  omega
theorem at_srt {s : List Int} (hs : s.Pairwise fun x y => x ≤ y) {m : Nat} (hm : m < s.length) : lt (s.getD m default) s ≤ m ∧ m < le (s.getD m default) s := by
  obtain ⟨h1, h2⟩ := srt_split hs hm
  exact ⟨cnt_drop fun y hy => decide_eq_false (by have := h2 y hy; omega), cnt_take (by omega) fun y hy => decide_eq_true (h1 y hy)⟩
theorem is_srt {s : List Int} (hs : s.Pairwise fun x y => x ≤ y) {m : Nat} (hm : m < s.length) {x : Int} (h1 : lt x s ≤ m) (h2 : m < le x s) : s.getD m default = x := by
  obtain ⟨g1, g2⟩ := srt_split hs hm
  rcases Int.lt_trichotomy (s.getD m default) x with h | h | h
  · have := cnt_take (p := fun y => decide (y < x)) (show m + 1 ≤ s.length by omega) fun y hy => decide_eq_true (by have := g1 y hy; omega)
    unfold lt at h1
    omega
  · exact h
  · have := cnt_drop (p := fun y => decide (y ≤ x)) (s := s) (m := m) fun y hy => decide_eq_false (by have := g2 y hy; omega)
    unfold le at h2
    omega
theorem half {n : Nat} (h : 0 < n) : (n - 1) / 2 < n := by omega
theorem med_at {l : List Int} (h : l ≠ []) : lt (med l) l ≤ (l.length - 1) / 2 ∧ (l.length - 1) / 2 < le (med l) l := by
  have hp : 0 < l.length := List.length_pos_iff.2 h
  have := at_srt (srt_le l) (m := (l.length - 1) / 2) (by rw [srt_len]; omega)
  have e1 : lt (med l) (srt l) = lt (med l) l := (srt_perm l).countP_eq _
  have e2 : le (med l) (srt l) = le (med l) l := (srt_perm l).countP_eq _
  rw [← e1, ← e2]
  exact this
theorem med_is {l : List Int} (h : l ≠ []) {x : Int} (h1 : lt x l ≤ (l.length - 1) / 2) (h2 : (l.length - 1) / 2 < le x l) : med l = x := by
  have hp : 0 < l.length := List.length_pos_iff.2 h
  have e1 : lt x (srt l) = lt x l := (srt_perm l).countP_eq _
  have e2 : le x (srt l) = le x l := (srt_perm l).countP_eq _
  exact is_srt (srt_le l) (by rw [srt_len]; omega) (by rw [e1]; exact h1) (by rw [e2]; exact h2)
theorem med_perm {l m : List Int} (h : l.Perm m) : med l = med m := by
  by_cases q : m = []
  · subst q; rw [h.eq_nil]
  · obtain ⟨h1, h2⟩ := med_at q
    have e1 : lt (med m) l = lt (med m) m := h.countP_eq _
    have e2 : le (med m) l = le (med m) m := h.countP_eq _
    exact med_is (fun z => q (by subst z; exact h.symm.eq_nil)) (by rw [e1, h.length_eq]; exact h1) (by rw [e2, h.length_eq]; exact h2)
theorem med_mem {l : List Int} (h : l ≠ []) : med l ∈ l := by
  have hp : 0 < l.length := List.length_pos_iff.2 h
  exact (srt_perm l).mem_iff.1 (getD_mem (by rw [srt_len]; omega))
/-- how many stand ahead of place i -/
def rk (l : List Int) (i : Nat) : Nat := lt (l.getD i default) l + eq (l.getD i default) (l.take i)
theorem eq_lt {x : Int} {l : List Int} {i : Nat} (hi : i < l.length) (hx : l.getD i default = x) : eq x (l.take i) < eq x l := by
  have e : eq x l = eq x (l.take (i + 1)) + eq x (l.drop (i + 1)) := by unfold eq; rw [← List.countP_append, List.take_append_drop]
  have e2 : eq x (l.take (i + 1)) = eq x (l.take i) + 1 := by
    unfold eq
    rw [List.take_succ_eq_append_getElem hi, List.countP_append, ← getD_at hi, hx]
    simp
  omega
theorem rk_med {l : List Int} {i : Nat} (hi : i < l.length) (h : rk l i = (l.length - 1) / 2) : med l = l.getD i default := by
  have := eq_lt hi rfl
  unfold rk at h
  refine med_is (fun z => by subst z; cases hi) (by omega) ?_
  rw [le_eq]; omega
theorem nth_eq {x : Int} : ∀ {l : List Int} {j : Nat}, j < eq x l → ∃ i, i < l.length ∧ l.getD i default = x ∧ eq x (l.take i) = j
  | [], j, h => absurd h (Nat.not_lt_zero _)
  | y :: r, j, h => by
    unfold eq at h
    rw [List.countP_cons] at h
    by_cases q : y = x
    · rw [if_pos (by simpa using q)] at h
      cases j with
      | zero => exact ⟨0, by simp, q, rfl⟩
      | succ j =>
        obtain ⟨i, h1, h2, h3⟩ := nth_eq (x := x) (l := r) (j := j) (by unfold eq; omega)
        refine ⟨i + 1, by simpa using h1, h2, ?_⟩
        unfold eq at *
        rw [List.take_succ_cons, List.countP_cons, h3, if_pos (by simpa using q)]
    · rw [if_neg (by simpa using q)] at h
      obtain ⟨i, h1, h2, h3⟩ := nth_eq (x := x) (l := r) (j := j) (by unfold eq; omega)
      refine ⟨i + 1, by simpa using h1, h2, ?_⟩
      unfold eq at *
      rw [List.take_succ_cons, List.countP_cons, h3, if_neg (by simpa using q), Nat.add_zero]
theorem rk_ex {l : List Int} (h : l ≠ []) : ∃ i, i < l.length ∧ rk l i = (l.length - 1) / 2 := by
  obtain ⟨h1, h2⟩ := med_at h
  rw [le_eq] at h2
  obtain ⟨i, g1, g2, g3⟩ := nth_eq (x := med l) (l := l) (j := (l.length - 1) / 2 - lt (med l) l) (by omega)
  refine ⟨i, g1, ?_⟩
  unfold rk
  rw [g2, g3]
  omega
/-- .. as it is counted -/
def ah (l : List Int) (i k : Nat) : Nat := lt (l.getD i default) (l.take k) + eq (l.getD i default) (l.take (min k i))
theorem ah_0 (l : List Int) (i : Nat) : ah l i 0 = 0 := by unfold ah lt eq; simp
theorem ah_end {l : List Int} {i : Nat} (hi : i < l.length) : ah l i l.length = rk l i := by
  unfold ah rk
  rw [List.take_length, Nat.min_eq_right (by omega)]
theorem ah_yes {l : List Int} {i k : Nat} (hi : i < l.length) (hk : k < l.length) (h : l.getD k default < l.getD i default ∨ (l.getD k default = l.getD i default ∧ k < i)) : ah l i (k + 1) = ah l i k + 1 := by
  unfold ah lt eq
  rw [List.take_succ_eq_append_getElem hk, List.countP_append, ← getD_at hk]
  by_cases q : k < i
  · rw [Nat.min_eq_left (by omega), Nat.min_eq_left (by omega), List.take_succ_eq_append_getElem hk, List.countP_append, ← getD_at hk]
    rcases h with h | ⟨h, _⟩
    · rw [List.countP_cons, List.countP_cons, if_pos (decide_eq_true h), if_neg (by rw [decide_eq_true_eq]; omega), List.countP_nil, List.countP_nil]; omega
    · rw [List.countP_cons, List.countP_cons, if_neg (by rw [decide_eq_true_eq]; omega), if_pos (decide_eq_true h), List.countP_nil, List.countP_nil]; omega
  · rw [Nat.min_eq_right (by omega), Nat.min_eq_right (by omega), List.countP_cons, if_pos (decide_eq_true (by omega)), List.countP_nil]; omega
theorem ah_no {l : List Int} {i k : Nat} (hi : i < l.length) (hk : k < l.length) (h : ¬ (l.getD k default < l.getD i default ∨ (l.getD k default = l.getD i default ∧ k < i))) : ah l i (k + 1) = ah l i k := by
  unfold ah lt eq
  rw [List.take_succ_eq_append_getElem hk, List.countP_append, ← getD_at hk, List.countP_cons, if_neg (by rw [decide_eq_true_eq]; omega), List.countP_nil]
  by_cases q : k < i
  · rw [Nat.min_eq_left (by omega), Nat.min_eq_left (by omega), List.take_succ_eq_append_getElem hk, List.countP_append, ← getD_at hk, List.countP_cons, if_neg (by rw [decide_eq_true_eq]; omega), List.countP_nil]; omega
  · rw [Nat.min_eq_right (by omega), Nat.min_eq_right (by omega)]; omega
theorem ah_le (l : List Int) (i k : Nat) : ah l i k ≤ 2 * k := by
  unfold ah lt eq
  have h1 := List.countP_le_length (p := fun y => decide (y < l.getD i default)) (l := l.take k)
  have h2 := List.countP_le_length (p := fun y => decide (y = l.getD i default)) (l := l.take (min k i))
  rw [List.length_take] at h1 h2
  omega
def gt (x : Int) (l : List Int) : Nat := l.countP fun y => decide (x < y)
theorem gt_le (x : Int) : ∀ l : List Int, gt x l + le x l = l.length
  | [] => rfl
  | y :: r => by
    have := gt_le x r
    unfold gt le at *
    rw [List.countP_cons, List.countP_cons, List.length_cons]
    by_cases h : y ≤ x
    · rw [if_neg (by simp; omega), if_pos (by simpa using h)]; omega
    · rw [if_pos (by simp; omega), if_neg (by simpa using h)]; omega
theorem cnt_snoc {p : Int → Bool} {l : List Int} {k : Nat} (h : k < l.length) : (l.take (k + 1)).countP p = (l.take k).countP p + if p (l.getD k default) = true then 1 else 0 := by
  rw [List.take_succ_eq_append_getElem h, List.countP_append, ← getD_at h, List.countP_cons, List.countP_nil]
  omega
theorem cnt_len (p : Int → Bool) (l : List Int) (k : Nat) : (l.take k).countP p ≤ k := by
  have := List.countP_le_length (p := p) (l := l.take k)
  rw [List.length_take] at this
  omega
/-- turned round -/
def rot (l : List Int) (r : Nat) : List Int := l.drop r ++ l.take r
theorem rot_perm (l : List Int) (r : Nat) : (rot l r).Perm l := by
  unfold rot
  exact List.perm_append_comm.trans (by rw [List.take_append_drop])
theorem rot_len (l : List Int) (r : Nat) : (rot l r).length = l.length := (rot_perm l r).length_eq
theorem rot_at {l : List Int} {r k : Nat} (hr : r < l.length) (hk : k < l.length) : (rot l r).take (k + 1) = (rot l r).take k ++ [l.getD ((k + r) % l.length) default] := by
  rw [List.take_succ_eq_append_getElem (by rw [rot_len]; exact hk)]
  congr 2
  unfold rot
  rw [List.getElem_append]
  by_cases q : k < l.length - r
  · rw [dif_pos (by rw [List.length_drop]; exact q), List.getElem_drop, Nat.mod_eq_of_lt (by omega), getD_at (by omega)]
    congr 1; omega
  · rw [dif_neg (by rw [List.length_drop]; exact q), List.getElem_take, getD_at (Nat.mod_lt _ (by omega))]
    have e : (k + r) % l.length = k + r - l.length := by rw [Nat.mod_eq_sub_mod (by omega), Nat.mod_eq_of_lt (by omega)]
    have e2 : k - (l.drop r).length = (k + r) % l.length := by rw [List.length_drop, e]; omega
    congr 1
def bad (l : List Int) : Int := ixf (fun p => decide (¬ P.Ok p)) l
def mE (l : List Int) : Int := if l.length = 0 then 1 else if 40 < l.length then 2 else if ∀ p ∈ l, P.Ok p then 0 else 3
def mV (l : List Int) : Int := if mE l = 0 then med l else 0
theorem m_0 {l : List Int} (h : l.length = 0) : mE l = 1 ∧ mV l = 0 := by
  have e : mE l = 1 := if_pos h
  exact ⟨e, if_neg (by rw [e]; decide)⟩
theorem m_many {l : List Int} (h : 40 < l.length) : mE l = 2 ∧ mV l = 0 := by
  have e : mE l = 2 := by unfold mE; rw [if_neg (by omega), if_pos h]
  exact ⟨e, if_neg (by rw [e]; decide)⟩
theorem m_bad {l : List Int} (h1 : l.length ≠ 0) (h2 : l.length ≤ 40) (h : ¬ ∀ p ∈ l, P.Ok p) : mE l = 3 ∧ mV l = 0 := by
  have e : mE l = 3 := by unfold mE; rw [if_neg h1, if_neg (by omega), if_neg h]
  exact ⟨e, if_neg (by rw [e]; decide)⟩
theorem m_yes {l : List Int} (h1 : l.length ≠ 0) (h2 : l.length ≤ 40) (h : ∀ p ∈ l, P.Ok p) : mE l = 0 ∧ mV l = med l := by
  have e : mE l = 0 := by unfold mE; rw [if_neg h1, if_neg (by omega), if_pos h]
  exact ⟨e, if_pos e⟩
theorem m_ok {l : List Int} (h : mE l = 0) : l.length ≠ 0 ∧ l.length ≤ 40 ∧ ∀ p ∈ l, P.Ok p := by
  unfold mE at h
  split at h
  · omega
  · split at h
    · omega
    · split at h
      · exact ⟨by omega, by omega, by assumption⟩
      · omega
/-! how far -/
def LOk (p was most : Int) : Prop := P.Ok p ∧ P.Ok was ∧ (0 ≤ most ∧ most ≤ 10000)
instance (p was most : Int) : Decidable (LOk p was most) := by unfold LOk; exact inferInstance
def clamp (p was away : Int) : Int := if (if (if p < was - away then was - away else p) > was + away then was + away else (if p < was - away then was - away else p)) > 1099511627776 then 1099511627776 else (if (if p < was - away then was - away else p) > was + away then was + away else (if p < was - away then was - away else p))
def lE (p was most : Int) : Int := if LOk p was most then 0 else 3
def lV (p was most : Int) : Int := if LOk p was most then clamp p was (was * most / 10000) else 0
theorem l_yes {p was most : Int} (h : LOk p was most) : lE p was most = 0 ∧ lV p was most = clamp p was (was * most / 10000) := ⟨if_pos h, if_pos h⟩
theorem l_no {p was most : Int} (h : ¬ LOk p was most) : lE p was most = 3 ∧ lV p was most = 0 := ⟨if_neg h, if_neg h⟩
theorem l_ok {p was most : Int} (h : lE p was most = 0) : LOk p was most := by
  by_cases q : LOk p was most
  · exact q
  · rw [(l_no q).1] at h; cases h
theorem away_bd {p was most : Int} (h : LOk p was most) : 0 ≤ was * most / 10000 ∧ was * most / 10000 ≤ was ∧ was ≤ 1099511627776 := by
  have := P.rate_bd h.2.1.1 h.2.2
  exact ⟨this.1, this.2, h.2.1.2⟩
theorem away_part {p was most : Int} (h : LOk p was most) : M.prE was most 10000 = 0 ∧ M.prQ was most 10000 = was * most / 10000 := by
  have := h.2.1
  unfold P.Ok at this
  exact P.part_rate (by omega) h.2.2
theorem clamp_cases (p was away : Int) : (p < was - away ∧ was - away ≤ was + away ∧ was - away ≤ 1099511627776 ∧ clamp p was away = was - away) ∨ (was - away ≤ p ∧ p ≤ was + away ∧ p ≤ 1099511627776 ∧ clamp p was away = p) ∨ (was - away ≤ p ∧ was + away < p ∧ was + away ≤ 1099511627776 ∧ clamp p was away = was + away) ∨ (was + away < was - away ∧ p < was - away ∧ was + away ≤ 1099511627776 ∧ clamp p was away = was + away) ∨ ((1099511627776 < p ∨ 1099511627776 < was - away) ∧ clamp p was away = 1099511627776) := by
  unfold clamp
  split <;> split <;> split <;> omega
/-! pay -/
def pE (f : Fl) (p x : Int) : Int := if F.less f 1 ≠ 0 then F.less f 1 else wE (F.left f) p x
def pF (f : Fl) (p x : Int) : Fl := if pE f p x = 0 then F.addPd f (F.left f) else F.zero
def pN (f : Fl) (p x : Int) : Int := if pE f p x = 0 then wV (F.left f) p x else 0
def mvd (a b c d : Int) : List Po := [⟨a, c, -d⟩, ⟨b, c, d⟩]
def pL (f : Fl) (p x : Int) : List Po := if pN f p x = 0 then [] else mvd f.fr f.to 0 (pN f p x)
theorem p_1 {f : Fl} {p x : Int} (h : ¬ F.less f 1 = 0) : pE f p x = F.less f 1 ∧ pF f p x = F.zero ∧ pL f p x = [] := by
  have e : pE f p x = F.less f 1 := if_pos h
  exact ⟨e, if_neg (by rw [e]; exact h), if_pos (if_neg (by rw [e]; exact h))⟩
theorem p_2 {f : Fl} {p x : Int} (h : F.less f 1 = 0) (w : ¬ wE (F.left f) p x = 0) : pE f p x = wE (F.left f) p x ∧ pF f p x = F.zero ∧ pL f p x = [] := by
  have e : pE f p x = wE (F.left f) p x := if_neg (fun z => z h)
  exact ⟨e, if_neg (by rw [e]; exact w), if_pos (if_neg (by rw [e]; exact w))⟩
theorem p_3 {f : Fl} {p x : Int} (h : F.less f 1 = 0) (w : wE (F.left f) p x = 0) : pE f p x = 0 ∧ pF f p x = F.addPd f (F.left f) ∧ pN f p x = wV (F.left f) p x := by
  have e : pE f p x = 0 := (if_neg (fun z => z h)).trans w
  exact ⟨e, if_pos e, if_pos e⟩
theorem pL_0 {f : Fl} {p x : Int} (h : pN f p x = 0) : pL f p x = [] := if_pos h
theorem pL_1 {f : Fl} {p x : Int} (h : ¬ pN f p x = 0) : pL f p x = mvd f.fr f.to 0 (pN f p x) := if_neg h
theorem less_1 (f : Fl) : (F.chk f ≠ 0 ∧ F.less f 1 = F.chk f) ∨ (F.chk f = 0 ∧ F.left f = 0 ∧ F.less f 1 = 5) ∨ (F.chk f = 0 ∧ 1 ≤ F.left f ∧ F.less f 1 = 0) := by
  by_cases h : F.chk f = 0
  · have b := F.ok_bounds (F.chk_ok h)
    by_cases q : F.left f = 0
    · exact .inr (.inl ⟨h, q, F.less_3 h (by omega) q⟩)
    · exact .inr (.inr ⟨h, by omega, F.less_5 h (by omega) q (by omega)⟩)
  · exact .inl ⟨h, F.less_1 h⟩
end Cp
end Go.Proofs.Ytjjepkklaagmmaa

/- What the functions on money for papers answer: Worth, Pay, Limit. -/
namespace Go.Proofs.Ytjjepkklaagmmaa
open Go Go.RowKit V
set_option maxRecDepth 100000
set_option linter.unusedVariables false
set_option linter.unusedSimpArgs false
theorem v_cpCost (u p : Int) (hu : 0 ≤ u ∧ u ≤ 1073741824) : (P.Ok p → V.Fn Try.prog 25 [] [.one (.val (.int .i64 u)), .one (.val (.int .i64 p))] (.tuple #[.int .i64 (P.cost u p), .int .i64 (M.prR u p 10000), .int .i64 0])) ∧ (¬ P.Ok p → V.Fn Try.prog 25 [] [.one (.val (.int .i64 u)), .one (.val (.int .i64 p))] (.tuple #[.int .i64 0, .int .i64 0, .int .i64 3])) := by
  have c := v_cost u p
  refine ⟨fun h => ?_, fun h => ?_⟩
  · obtain ⟨e1, e2⟩ := P.part_cost hu h
    rwa [e1, e2] at c
  · obtain ⟨e1, e2, e3⟩ := M.pr_1 (a := u) (b := p) (c := 10000) (fun k => h (P.pok.1 k).2)
    rwa [e1, e2, e3] at c
theorem v_worth (u p x : Int) : V.Fn Try.prog 9 [] [.one (.val (.int .i64 u)), .one (.val (.int .i64 p)), .one (.val (.int .i64 x))] (.tuple #[.int .i64 (Cp.wV u p x), .int .i64 (Cp.wE u p x)]) := by
  by_cases h : Cp.Ok u p x
  · obtain ⟨w1, w2⟩ := Cp.w_yes h
    have vc := (v_cpCost u p h.1).1 h.2.1
    have c := P.cost_bd h.1 h.2.1
    obtain ⟨e3, e4⟩ := P.part_rate (n := P.cost u p) (r := x) (by omega) h.2.2
    have r := P.rate_bd c.1 h.2.2
    have vp := v_part (P.cost u p) x 10000
    rw [e3, e4] at vp
    rw [w1, w2]
    obtain ⟨⟨h1, h2⟩, _, h3, h4⟩ := h
    generalize P.cost u p * x / 10000 = q at *
    generalize P.cost u p = n at *
    refine V.Fn.mk_ V.Tok V.mixed Try.func9 rfl Try.ntmps9 (by kernel_rfl) rfl rfl ?_
    repeat' ((conv => whnf); first | refine V.NCond.mk ?_ | refine V.NIf.not_ ?_ | refine V.NIf.dec_ ?_ | refine V.NIf.no (by omega) ?_ | refine V.NIf.yes (by omega) ?_ | refine V.NIf.mk (fun _ => ?_) (fun _ => ?_) | refine V.NWrap.ok (by omega) (by omega) ?_ | refine V.NWrap.u64 (by omega) (by omega) ?_ | refine V.NLt.mk (by omega) ?_ | refine V.NBoth.mk ?_ ?_ | refine V.NTF.yes (by omega) ?_ | refine V.NTF.no (by omega) ?_ | refine V.NTF.dec ?_ | refine V.NDraw.q (by exact rfl) (by kernel_rfl) ?_ | refine V.NApp.one (by first | omega | (simp; omega)) (by first | omega | (simp; omega)) ?_ | (first | refine V.Fn.k0 (vc) rfl ?_ | refine V.Fn.q0 (vc) rfl ?_ | refine V.Fn.a0 (vc) rfl ?_) | (first | refine V.Fn.k0 (vp) rfl ?_ | refine V.Fn.q0 (vp) rfl ?_ | refine V.Fn.a0 (vp) rfl ?_) | (refine V.NDraw.any (by kernel_rfl) ?_) | fail)
    all_goals (conv => whnf)
    exact V.fin2 ⟨rfl, rfl⟩
  · obtain ⟨w1, w2⟩ := Cp.w_no h
    rw [w1, w2]
    by_cases hu : 0 ≤ u ∧ u ≤ 1073741824
    · by_cases hp : P.Ok p
      · have hx : ¬ (0 ≤ x ∧ x ≤ 10000) := fun z => h ⟨hu, hp, z⟩
        refine V.Fn.mk_ V.Tok V.mixed Try.func9 rfl Try.ntmps9 (by kernel_rfl) rfl rfl ?_
        repeat' ((conv => whnf); first | refine V.NCond.mk ?_ | refine V.NIf.not_ ?_ | refine V.NIf.dec_ ?_ | refine V.NIf.no (by omega) ?_ | refine V.NIf.yes (by omega) ?_ | refine V.NIf.mk (fun _ => ?_) (fun _ => ?_) | refine V.NWrap.ok (by omega) (by omega) ?_ | refine V.NWrap.u64 (by omega) (by omega) ?_ | refine V.NLt.mk (by omega) ?_ | refine V.NBoth.mk ?_ ?_ | refine V.NTF.yes (by omega) ?_ | refine V.NTF.no (by omega) ?_ | refine V.NTF.dec ?_ | refine V.NDraw.q (by exact rfl) (by kernel_rfl) ?_ | refine V.NApp.one (by first | omega | (simp; omega)) (by first | omega | (simp; omega)) ?_ | (refine V.NDraw.any (by kernel_rfl) ?_) | fail)
        all_goals (conv => whnf)
        all_goals exact V.fin2 ⟨rfl, rfl⟩
      · have vc := (v_cpCost u p hu).2 hp
        refine V.Fn.mk_ V.Tok V.mixed Try.func9 rfl Try.ntmps9 (by kernel_rfl) rfl rfl ?_
        repeat' ((conv => whnf); first | (refine V.NIf.yes ?_ ?_; · (decide; done)) | (refine V.NIf.no ?_ ?_; · (decide; done)) | refine V.NCond.mk ?_ | refine V.NIf.not_ ?_ | refine V.NIf.dec_ ?_ | refine V.NIf.no (by omega) ?_ | refine V.NIf.yes (by omega) ?_ | refine V.NIf.mk (fun _ => ?_) (fun _ => ?_) | refine V.NWrap.ok (by omega) (by omega) ?_ | refine V.NWrap.u64 (by omega) (by omega) ?_ | refine V.NLt.mk (by omega) ?_ | refine V.NBoth.mk ?_ ?_ | refine V.NTF.yes (by omega) ?_ | refine V.NTF.no (by omega) ?_ | refine V.NTF.dec ?_ | refine V.NDraw.q (by exact rfl) (by kernel_rfl) ?_ | refine V.NApp.one (by first | omega | (simp; omega)) (by first | omega | (simp; omega)) ?_ | (first | refine V.Fn.k0 (vc) rfl ?_ | refine V.Fn.q0 (vc) rfl ?_ | refine V.Fn.a0 (vc) rfl ?_) | (refine V.NDraw.any (by kernel_rfl) ?_) | fail)
        all_goals (conv => whnf)
        all_goals exact V.fin2 ⟨rfl, rfl⟩
    · refine V.Fn.mk_ V.Tok V.mixed Try.func9 rfl Try.ntmps9 (by kernel_rfl) rfl rfl ?_
      repeat' ((conv => whnf); first | refine V.NCond.mk ?_ | refine V.NIf.not_ ?_ | refine V.NIf.dec_ ?_ | refine V.NIf.no (by omega) ?_ | refine V.NIf.yes (by omega) ?_ | refine V.NIf.mk (fun _ => ?_) (fun _ => ?_) | refine V.NWrap.ok (by omega) (by omega) ?_ | refine V.NWrap.u64 (by omega) (by omega) ?_ | refine V.NLt.mk (by omega) ?_ | refine V.NBoth.mk ?_ ?_ | refine V.NTF.yes (by omega) ?_ | refine V.NTF.no (by omega) ?_ | refine V.NTF.dec ?_ | refine V.NDraw.q (by exact rfl) (by kernel_rfl) ?_ | refine V.NApp.one (by first | omega | (simp; omega)) (by first | omega | (simp; omega)) ?_ | (refine V.NDraw.any (by kernel_rfl) ?_) | fail)
      all_goals (conv => whnf)
      all_goals exact V.fin2 ⟨rfl, rfl⟩
theorem v_rWorth (u p x : Int) : V.Fn Try.prog 13 [] [.one (.val (.int .i64 u)), .one (.val (.int .i64 p)), .one (.val (.int .i64 x))] (.tuple #[.int .i64 (Cp.wV u p x), .int .i64 (Cp.wE u p x)]) := by
  have cp := v_rpcheck p
  by_cases h : Cp.Ok u p x
  · obtain ⟨w1, w2⟩ := Cp.w_yes h
    have c := P.cost_bd h.1 h.2.1
    have r := P.rate_bd c.1 h.2.2
    have hu := h.1
    have hx := h.2.2
    have vc := v_partOf u p 10000 (by omega) h.2.1 (by omega)
    have e1 : M.poQ u p 10000 = P.cost u p := if_neg (by unfold P.cost at c; omega)
    rw [e1] at vc
    have vp := v_partOf (P.cost u p) x 10000 (by omega) (by omega) (by omega)
    have e2 : M.poQ (P.cost u p) x 10000 = P.cost u p * x / 10000 := if_neg (by omega)
    rw [e2] at vp
    rw [w1, w2]
    rw [P.chk_yes h.2.1] at cp
    obtain ⟨⟨h1, h2⟩, _, h3, h4⟩ := h
    clear e1 e2
    generalize P.cost u p * x / 10000 = q at *
    generalize P.cost u p = n at *
    refine V.Fn.mk_ V.Tok V.mixed Try.func13 rfl Try.ntmps13 (by kernel_rfl) rfl rfl ?_
    repeat' ((conv => whnf); first | (refine V.NIf.yes ?_ ?_; · (decide; done)) | (refine V.NIf.no ?_ ?_; · (decide; done)) | refine V.NCond.mk ?_ | refine V.NIf.not_ ?_ | refine V.NIf.dec_ ?_ | refine V.NIf.no (by omega) ?_ | refine V.NIf.yes (by omega) ?_ | refine V.NIf.mk (fun _ => ?_) (fun _ => ?_) | refine V.NWrap.ok (by omega) (by omega) ?_ | refine V.NWrap.u64 (by omega) (by omega) ?_ | refine V.NLt.mk (by omega) ?_ | refine V.NBoth.mk ?_ ?_ | refine V.NTF.yes (by omega) ?_ | refine V.NTF.no (by omega) ?_ | refine V.NTF.dec ?_ | refine V.NDraw.q (by exact rfl) (by kernel_rfl) ?_ | refine V.NApp.one (by first | omega | (simp; omega)) (by first | omega | (simp; omega)) ?_ | (first | refine V.Fn.k0 (v_rbetween _ _ _) rfl ?_ | refine V.Fn.q0 (v_rbetween _ _ _) rfl ?_ | refine V.Fn.a0 (v_rbetween _ _ _) rfl ?_) | (first | refine V.Fn.k0 (cp) rfl ?_ | refine V.Fn.q0 (cp) rfl ?_ | refine V.Fn.a0 (cp) rfl ?_) | (first | refine V.Fn.k0 (vc) rfl ?_ | refine V.Fn.q0 (vc) rfl ?_ | refine V.Fn.a0 (vc) rfl ?_) | (first | refine V.Fn.k0 (vp) rfl ?_ | refine V.Fn.q0 (vp) rfl ?_ | refine V.Fn.a0 (vp) rfl ?_) | (refine V.NDraw.any (by kernel_rfl) ?_) | fail)
    all_goals (conv => whnf)
    exact V.fin2 ⟨rfl, rfl⟩
  · obtain ⟨w1, w2⟩ := Cp.w_no h
    rw [w1, w2]
    by_cases hp : P.Ok p
    · have hx : ¬ ((0 ≤ u ∧ u ≤ 1073741824) ∧ (0 ≤ x ∧ x ≤ 10000)) := fun z => h ⟨z.1, hp, z.2⟩
      rw [P.chk_yes hp] at cp
      clear h hp
      refine V.Fn.mk_ V.Tok V.mixed Try.func13 rfl Try.ntmps13 (by kernel_rfl) rfl rfl ?_
      repeat' ((conv => whnf); first | (refine V.NIf.yes ?_ ?_; · (decide; done)) | (refine V.NIf.no ?_ ?_; · (decide; done)) | refine V.NCond.mk ?_ | refine V.NIf.not_ ?_ | refine V.NIf.dec_ ?_ | refine V.NIf.no (by omega) ?_ | refine V.NIf.yes (by omega) ?_ | refine V.NIf.mk (fun _ => ?_) (fun _ => ?_) | refine V.NWrap.ok (by omega) (by omega) ?_ | refine V.NWrap.u64 (by omega) (by omega) ?_ | refine V.NLt.mk (by omega) ?_ | refine V.NBoth.mk ?_ ?_ | refine V.NTF.yes (by omega) ?_ | refine V.NTF.no (by omega) ?_ | refine V.NTF.dec ?_ | refine V.NDraw.q (by exact rfl) (by kernel_rfl) ?_ | refine V.NApp.one (by first | omega | (simp; omega)) (by first | omega | (simp; omega)) ?_ | (first | refine V.Fn.k0 (v_rbetween _ _ _) rfl ?_ | refine V.Fn.q0 (v_rbetween _ _ _) rfl ?_ | refine V.Fn.a0 (v_rbetween _ _ _) rfl ?_) | (first | refine V.Fn.k0 (cp) rfl ?_ | refine V.Fn.q0 (cp) rfl ?_ | refine V.Fn.a0 (cp) rfl ?_) | (refine V.NDraw.any (by kernel_rfl) ?_) | fail)
      all_goals (conv => whnf)
      all_goals exact V.fin2 ⟨rfl, rfl⟩
    · rw [P.chk_no hp] at cp
      clear h hp
      refine V.Fn.mk_ V.Tok V.mixed Try.func13 rfl Try.ntmps13 (by kernel_rfl) rfl rfl ?_
      repeat' ((conv => whnf); first | (refine V.NIf.yes ?_ ?_; · (decide; done)) | (refine V.NIf.no ?_ ?_; · (decide; done)) | refine V.NCond.mk ?_ | refine V.NIf.not_ ?_ | refine V.NIf.dec_ ?_ | refine V.NIf.no (by omega) ?_ | refine V.NIf.yes (by omega) ?_ | refine V.NIf.mk (fun _ => ?_) (fun _ => ?_) | refine V.NWrap.ok (by omega) (by omega) ?_ | refine V.NWrap.u64 (by omega) (by omega) ?_ | refine V.NLt.mk (by omega) ?_ | refine V.NBoth.mk ?_ ?_ | refine V.NTF.yes (by omega) ?_ | refine V.NTF.no (by omega) ?_ | refine V.NTF.dec ?_ | refine V.NDraw.q (by exact rfl) (by kernel_rfl) ?_ | refine V.NApp.one (by first | omega | (simp; omega)) (by first | omega | (simp; omega)) ?_ | (first | refine V.Fn.k0 (v_rbetween _ _ _) rfl ?_ | refine V.Fn.q0 (v_rbetween _ _ _) rfl ?_ | refine V.Fn.a0 (v_rbetween _ _ _) rfl ?_) | (first | refine V.Fn.k0 (cp) rfl ?_ | refine V.Fn.q0 (cp) rfl ?_ | refine V.Fn.a0 (cp) rfl ?_) | (refine V.NDraw.any (by kernel_rfl) ?_) | fail)
      all_goals (conv => whnf)
      all_goals exact V.fin2 ⟨rfl, rfl⟩
theorem v_cpMoved (a b c d : Int) (hd : 0 ≤ d ∧ d ≤ 1152921504606846976) : V.FnR Try.prog 28 [] [.one (.val (.int .i64 a)), .one (.val (.int .i64 b)), .one (.val (.int .i64 c)), .one (.val (.int .i64 d))] (.one (.ref 0)) [.row 62 3 (Cp.mvd a b c d).length (ga encP (Cp.mvd a b c d))] := by
  refine V.FnR.mk_ V.Tok V.mixed Try.func28 rfl Try.ntmps28 (by kernel_rfl) rfl rfl rfl rfl ?_
  repeat' ((conv => whnf); first | refine V.NCond.mk ?_ | refine V.NIf.not_ ?_ | refine V.NIf.dec_ ?_ | refine V.NIf.no (by omega) ?_ | refine V.NIf.yes (by omega) ?_ | refine V.NIf.mk (fun _ => ?_) (fun _ => ?_) | refine V.NWrap.ok (by omega) (by omega) ?_ | refine V.NWrap.u64 (by omega) (by omega) ?_ | refine V.NLt.mk (by omega) ?_ | refine V.NBoth.mk ?_ ?_ | refine V.NTF.yes (by omega) ?_ | refine V.NTF.no (by omega) ?_ | refine V.NTF.dec ?_ | refine V.NDraw.q (by exact rfl) (by kernel_rfl) ?_ | refine V.NApp.one (by first | omega | (simp; omega)) (by first | omega | (simp; omega)) ?_ | (refine V.NDraw.any (by kernel_rfl) ?_) | fail)
  refine NRet.mk_ [some 1] rfl ?_ ?_
  · exact rfl
  · exact ⟨⟨rfl, rfl, rfl, Nat.succ_pos _, by repeat' (first | exact trivial | refine ⟨?_, ?_⟩ | rfl | exact congrArg (Value.int .i64) (show 0 - d = -d by omega))⟩, trivial⟩
theorem v_cpPay (f : Fl) (p x : Int) : V.FnR Try.prog 10 [] [.agg [.val (.int .i64 f.id), .val (.int .i64 f.fr), .val (.int .i64 f.to), .val (.int .i64 f.cl), .val (.int .i64 f.pa), .val (.int .i64 f.day), .val (.int .i64 f.un), .val (.int .i64 f.de), .val (.int .i64 f.bo), .val (.int .i64 f.pd)], .one (.val (.int .i64 p)), .one (.val (.int .i64 x))] (.tup [.agg [.val (.int .i64 (Cp.pF f p x).id), .val (.int .i64 (Cp.pF f p x).fr), .val (.int .i64 (Cp.pF f p x).to), .val (.int .i64 (Cp.pF f p x).cl), .val (.int .i64 (Cp.pF f p x).pa), .val (.int .i64 (Cp.pF f p x).day), .val (.int .i64 (Cp.pF f p x).un), .val (.int .i64 (Cp.pF f p x).de), .val (.int .i64 (Cp.pF f p x).bo), .val (.int .i64 (Cp.pF f p x).pd)], .one (.ref 0), .one (.val (.int .i64 (Cp.pE f p x)))]) [.row 62 3 (Cp.pL f p x).length (ga encP (Cp.pL f p x))] := by
  have c1 := v_pay f
  by_cases h : F.less f 1 = 0
  · obtain ⟨e1, e2⟩ := F.pay_yes h
    rw [e1, e2, h] at c1
    have c2 := v_worth (F.left f) p x
    by_cases w : Cp.wE (F.left f) p x = 0
    · obtain ⟨p1, p2, p3⟩ := Cp.p_3 h w
      have bd := @Cp.w_bd (F.left f) p x
      rw [p1, p2]
      rw [w] at c2
      rw [← p3] at c2 bd
      by_cases z : Cp.pN f p x = 0
      · rw [Cp.pL_0 z]
        rw [z] at c2
        refine V.FnR.mk_ V.Tok V.mixed Try.func10 rfl Try.ntmps10 (by kernel_rfl) rfl rfl rfl rfl ?_
        repeat' ((conv => whnf); first | (refine V.NIf.yes ?_ ?_; · (decide; done)) | (refine V.NIf.no ?_ ?_; · (decide; done)) | refine V.NCond.mk ?_ | refine V.NIf.not_ ?_ | refine V.NIf.dec_ ?_ | refine V.NIf.no (by omega) ?_ | refine V.NIf.yes (by omega) ?_ | refine V.NIf.mk (fun _ => ?_) (fun _ => ?_) | refine V.NWrap.ok (by omega) (by omega) ?_ | refine V.NWrap.u64 (by omega) (by omega) ?_ | refine V.NLt.mk (by omega) ?_ | refine V.NBoth.mk ?_ ?_ | refine V.NTF.yes (by omega) ?_ | refine V.NTF.no (by omega) ?_ | refine V.NTF.dec ?_ | refine V.NDraw.q (by exact rfl) (by kernel_rfl) ?_ | refine V.NApp.one (by first | omega | (simp; omega)) (by first | omega | (simp; omega)) ?_ | (first | refine V.Fn.k0 (c1) rfl ?_ | refine V.Fn.q0 (c1) rfl ?_ | refine V.Fn.a0 (c1) rfl ?_) | (first | refine V.Fn.k0 (c2) rfl ?_ | refine V.Fn.q0 (c2) rfl ?_ | refine V.Fn.a0 (c2) rfl ?_) | (refine V.NDraw.any (by kernel_rfl) ?_) | fail)
        all_goals (conv => whnf)
        all_goals (first | (refine NRet.mk_ [some 0] rfl ?_ ?_; (· ((repeat' (first | exact rfl | exact trivial | refine ⟨?_, ?_⟩)); done)); (· (refine ⟨?_, trivial⟩; refine ⟨rfl, rfl, rfl, ?_⟩; exact fun k hk => absurd hk (Nat.not_lt_zero _); done))) | (refine NRet.mk_ [some 1] rfl ?_ ?_; (· ((repeat' (first | exact rfl | exact trivial | refine ⟨?_, ?_⟩)); done)); (· (refine ⟨?_, trivial⟩; refine ⟨rfl, rfl, rfl, ?_⟩; exact fun k hk => absurd hk (Nat.not_lt_zero _); done))) | (refine NRet.mk_ [some 2] rfl ?_ ?_; (· ((repeat' (first | exact rfl | exact trivial | refine ⟨?_, ?_⟩)); done)); (· (refine ⟨?_, trivial⟩; refine ⟨rfl, rfl, rfl, ?_⟩; exact fun k hk => absurd hk (Nat.not_lt_zero _); done))) | (refine NRet.mk_ [some 3] rfl ?_ ?_; (· ((repeat' (first | exact rfl | exact trivial | refine ⟨?_, ?_⟩)); done)); (· (refine ⟨?_, trivial⟩; refine ⟨rfl, rfl, rfl, ?_⟩; exact fun k hk => absurd hk (Nat.not_lt_zero _); done))) | (refine NRet.mk_ [some 4] rfl ?_ ?_; (· ((repeat' (first | exact rfl | exact trivial | refine ⟨?_, ?_⟩)); done)); (· (refine ⟨?_, trivial⟩; refine ⟨rfl, rfl, rfl, ?_⟩; exact fun k hk => absurd hk (Nat.not_lt_zero _); done))) | (refine NRet.mk_ [some 5] rfl ?_ ?_; (· ((repeat' (first | exact rfl | exact trivial | refine ⟨?_, ?_⟩)); done)); (· (refine ⟨?_, trivial⟩; refine ⟨rfl, rfl, rfl, ?_⟩; exact fun k hk => absurd hk (Nat.not_lt_zero _); done))) | (refine NRet.mk_ [some 6] rfl ?_ ?_; (· ((repeat' (first | exact rfl | exact trivial | refine ⟨?_, ?_⟩)); done)); (· (refine ⟨?_, trivial⟩; refine ⟨rfl, rfl, rfl, ?_⟩; exact fun k hk => absurd hk (Nat.not_lt_zero _); done))) | (refine NRet.mk_ [some 7] rfl ?_ ?_; (· ((repeat' (first | exact rfl | exact trivial | refine ⟨?_, ?_⟩)); done)); (· (refine ⟨?_, trivial⟩; refine ⟨rfl, rfl, rfl, ?_⟩; exact fun k hk => absurd hk (Nat.not_lt_zero _); done))) | (refine NRet.mk_ [some 8] rfl ?_ ?_; (· ((repeat' (first | exact rfl | exact trivial | refine ⟨?_, ?_⟩)); done)); (· (refine ⟨?_, trivial⟩; refine ⟨rfl, rfl, rfl, ?_⟩; exact fun k hk => absurd hk (Nat.not_lt_zero _); done))) | (refine NRet.mk_ [some 9] rfl ?_ ?_; (· ((repeat' (first | exact rfl | exact trivial | refine ⟨?_, ?_⟩)); done)); (· (refine ⟨?_, trivial⟩; refine ⟨rfl, rfl, rfl, ?_⟩; exact fun k hk => absurd hk (Nat.not_lt_zero _); done))) | (refine NRet.mk_ [some 10] rfl ?_ ?_; (· ((repeat' (first | exact rfl | exact trivial | refine ⟨?_, ?_⟩)); done)); (· (refine ⟨?_, trivial⟩; refine ⟨rfl, rfl, rfl, ?_⟩; exact fun k hk => absurd hk (Nat.not_lt_zero _); done))) | (refine NRet.mk_ [some 11] rfl ?_ ?_; (· ((repeat' (first | exact rfl | exact trivial | refine ⟨?_, ?_⟩)); done)); (· (refine ⟨?_, trivial⟩; refine ⟨rfl, rfl, rfl, ?_⟩; exact fun k hk => absurd hk (Nat.not_lt_zero _); done))))
      · rw [Cp.pL_1 z]
        have c3 := v_cpMoved f.fr f.to 0 (Cp.pN f p x) (by omega)
        generalize Cp.mvd f.fr f.to 0 (Cp.pN f p x) = L at *
        generalize Cp.pN f p x = n at *
        refine V.FnR.mk_ V.Tok V.mixed Try.func10 rfl Try.ntmps10 (by kernel_rfl) rfl rfl rfl rfl ?_
        repeat' ((conv => whnf); first | (refine V.NIf.yes ?_ ?_; · (decide; done)) | (refine V.NIf.no ?_ ?_; · (decide; done)) | refine V.NCond.mk ?_ | refine V.NIf.not_ ?_ | refine V.NIf.dec_ ?_ | refine V.NIf.no (by omega) ?_ | refine V.NIf.yes (by omega) ?_ | refine V.NIf.mk (fun _ => ?_) (fun _ => ?_) | refine V.NWrap.ok (by omega) (by omega) ?_ | refine V.NWrap.u64 (by omega) (by omega) ?_ | refine V.NLt.mk (by omega) ?_ | refine V.NBoth.mk ?_ ?_ | refine V.NTF.yes (by omega) ?_ | refine V.NTF.no (by omega) ?_ | refine V.NTF.dec ?_ | refine V.NDraw.q (by exact rfl) (by kernel_rfl) ?_ | refine V.NApp.one (by first | omega | (simp; omega)) (by first | omega | (simp; omega)) ?_ | (first | refine V.Fn.k0 (c1) rfl ?_ | refine V.Fn.q0 (c1) rfl ?_ | refine V.Fn.a0 (c1) rfl ?_) | (first | refine V.Fn.k0 (c2) rfl ?_ | refine V.Fn.q0 (c2) rfl ?_ | refine V.Fn.a0 (c2) rfl ?_) | (first | refine V.FnR.k0 (c3) rfl ?_ | refine V.FnR.a0 (c3) rfl ?_) | (refine V.NDraw.any (by kernel_rfl) ?_) | fail)
        all_goals (conv => whnf)
        all_goals (first | (refine NRet.mk_ [some 0] rfl ?_ ?_; (· ((repeat' (first | exact rfl | exact trivial | refine ⟨?_, ?_⟩)); done)); (· (exact ⟨⟨rfl, rfl, rfl, fun _ _ => rfl⟩, trivial⟩; done))) | (refine NRet.mk_ [some 1] rfl ?_ ?_; (· ((repeat' (first | exact rfl | exact trivial | refine ⟨?_, ?_⟩)); done)); (· (exact ⟨⟨rfl, rfl, rfl, fun _ _ => rfl⟩, trivial⟩; done))) | (refine NRet.mk_ [some 2] rfl ?_ ?_; (· ((repeat' (first | exact rfl | exact trivial | refine ⟨?_, ?_⟩)); done)); (· (exact ⟨⟨rfl, rfl, rfl, fun _ _ => rfl⟩, trivial⟩; done))) | (refine NRet.mk_ [some 3] rfl ?_ ?_; (· ((repeat' (first | exact rfl | exact trivial | refine ⟨?_, ?_⟩)); done)); (· (exact ⟨⟨rfl, rfl, rfl, fun _ _ => rfl⟩, trivial⟩; done))) | (refine NRet.mk_ [some 4] rfl ?_ ?_; (· ((repeat' (first | exact rfl | exact trivial | refine ⟨?_, ?_⟩)); done)); (· (exact ⟨⟨rfl, rfl, rfl, fun _ _ => rfl⟩, trivial⟩; done))) | (refine NRet.mk_ [some 5] rfl ?_ ?_; (· ((repeat' (first | exact rfl | exact trivial | refine ⟨?_, ?_⟩)); done)); (· (exact ⟨⟨rfl, rfl, rfl, fun _ _ => rfl⟩, trivial⟩; done))) | (refine NRet.mk_ [some 6] rfl ?_ ?_; (· ((repeat' (first | exact rfl | exact trivial | refine ⟨?_, ?_⟩)); done)); (· (exact ⟨⟨rfl, rfl, rfl, fun _ _ => rfl⟩, trivial⟩; done))) | (refine NRet.mk_ [some 7] rfl ?_ ?_; (· ((repeat' (first | exact rfl | exact trivial | refine ⟨?_, ?_⟩)); done)); (· (exact ⟨⟨rfl, rfl, rfl, fun _ _ => rfl⟩, trivial⟩; done))) | (refine NRet.mk_ [some 8] rfl ?_ ?_; (· ((repeat' (first | exact rfl | exact trivial | refine ⟨?_, ?_⟩)); done)); (· (exact ⟨⟨rfl, rfl, rfl, fun _ _ => rfl⟩, trivial⟩; done))) | (refine NRet.mk_ [some 9] rfl ?_ ?_; (· ((repeat' (first | exact rfl | exact trivial | refine ⟨?_, ?_⟩)); done)); (· (exact ⟨⟨rfl, rfl, rfl, fun _ _ => rfl⟩, trivial⟩; done))) | (refine NRet.mk_ [some 10] rfl ?_ ?_; (· ((repeat' (first | exact rfl | exact trivial | refine ⟨?_, ?_⟩)); done)); (· (exact ⟨⟨rfl, rfl, rfl, fun _ _ => rfl⟩, trivial⟩; done))) | (refine NRet.mk_ [some 11] rfl ?_ ?_; (· ((repeat' (first | exact rfl | exact trivial | refine ⟨?_, ?_⟩)); done)); (· (exact ⟨⟨rfl, rfl, rfl, fun _ _ => rfl⟩, trivial⟩; done))))
    · obtain ⟨p1, p2, p3⟩ := Cp.p_2 h w
      rw [p1, p2, p3]
      generalize Cp.wE (F.left f) p x = e at *
      refine V.FnR.mk_ V.Tok V.mixed Try.func10 rfl Try.ntmps10 (by kernel_rfl) rfl rfl rfl rfl ?_
      repeat' ((conv => whnf); first | (refine V.NIf.yes ?_ ?_; · (decide; done)) | (refine V.NIf.no ?_ ?_; · (decide; done)) | refine V.NCond.mk ?_ | refine V.NIf.not_ ?_ | refine V.NIf.dec_ ?_ | refine V.NIf.no (by omega) ?_ | refine V.NIf.yes (by omega) ?_ | refine V.NIf.mk (fun _ => ?_) (fun _ => ?_) | refine V.NWrap.ok (by omega) (by omega) ?_ | refine V.NWrap.u64 (by omega) (by omega) ?_ | refine V.NLt.mk (by omega) ?_ | refine V.NBoth.mk ?_ ?_ | refine V.NTF.yes (by omega) ?_ | refine V.NTF.no (by omega) ?_ | refine V.NTF.dec ?_ | refine V.NDraw.q (by exact rfl) (by kernel_rfl) ?_ | refine V.NApp.one (by first | omega | (simp; omega)) (by first | omega | (simp; omega)) ?_ | (first | refine V.Fn.k0 (c1) rfl ?_ | refine V.Fn.q0 (c1) rfl ?_ | refine V.Fn.a0 (c1) rfl ?_) | (first | refine V.Fn.k0 (c2) rfl ?_ | refine V.Fn.q0 (c2) rfl ?_ | refine V.Fn.a0 (c2) rfl ?_) | (refine V.NDraw.any (by kernel_rfl) ?_) | fail)
      all_goals (conv => whnf)
      all_goals (first | (refine NRet.mk_ [some 0] rfl ?_ ?_; (· ((repeat' (first | exact rfl | exact trivial | refine ⟨?_, ?_⟩)); done)); (· (refine ⟨?_, trivial⟩; refine ⟨rfl, rfl, rfl, ?_⟩; exact fun k hk => absurd hk (Nat.not_lt_zero _); done))) | (refine NRet.mk_ [some 1] rfl ?_ ?_; (· ((repeat' (first | exact rfl | exact trivial | refine ⟨?_, ?_⟩)); done)); (· (refine ⟨?_, trivial⟩; refine ⟨rfl, rfl, rfl, ?_⟩; exact fun k hk => absurd hk (Nat.not_lt_zero _); done))) | (refine NRet.mk_ [some 2] rfl ?_ ?_; (· ((repeat' (first | exact rfl | exact trivial | refine ⟨?_, ?_⟩)); done)); (· (refine ⟨?_, trivial⟩; refine ⟨rfl, rfl, rfl, ?_⟩; exact fun k hk => absurd hk (Nat.not_lt_zero _); done))) | (refine NRet.mk_ [some 3] rfl ?_ ?_; (· ((repeat' (first | exact rfl | exact trivial | refine ⟨?_, ?_⟩)); done)); (· (refine ⟨?_, trivial⟩; refine ⟨rfl, rfl, rfl, ?_⟩; exact fun k hk => absurd hk (Nat.not_lt_zero _); done))) | (refine NRet.mk_ [some 4] rfl ?_ ?_; (· ((repeat' (first | exact rfl | exact trivial | refine ⟨?_, ?_⟩)); done)); (· (refine ⟨?_, trivial⟩; refine ⟨rfl, rfl, rfl, ?_⟩; exact fun k hk => absurd hk (Nat.not_lt_zero _); done))) | (refine NRet.mk_ [some 5] rfl ?_ ?_; (· ((repeat' (first | exact rfl | exact trivial | refine ⟨?_, ?_⟩)); done)); (· (refine ⟨?_, trivial⟩; refine ⟨rfl, rfl, rfl, ?_⟩; exact fun k hk => absurd hk (Nat.not_lt_zero _); done))) | (refine NRet.mk_ [some 6] rfl ?_ ?_; (· ((repeat' (first | exact rfl | exact trivial | refine ⟨?_, ?_⟩)); done)); (· (refine ⟨?_, trivial⟩; refine ⟨rfl, rfl, rfl, ?_⟩; exact fun k hk => absurd hk (Nat.not_lt_zero _); done))) | (refine NRet.mk_ [some 7] rfl ?_ ?_; (· ((repeat' (first | exact rfl | exact trivial | refine ⟨?_, ?_⟩)); done)); (· (refine ⟨?_, trivial⟩; refine ⟨rfl, rfl, rfl, ?_⟩; exact fun k hk => absurd hk (Nat.not_lt_zero _); done))) | (refine NRet.mk_ [some 8] rfl ?_ ?_; (· ((repeat' (first | exact rfl | exact trivial | refine ⟨?_, ?_⟩)); done)); (· (refine ⟨?_, trivial⟩; refine ⟨rfl, rfl, rfl, ?_⟩; exact fun k hk => absurd hk (Nat.not_lt_zero _); done))) | (refine NRet.mk_ [some 9] rfl ?_ ?_; (· ((repeat' (first | exact rfl | exact trivial | refine ⟨?_, ?_⟩)); done)); (· (refine ⟨?_, trivial⟩; refine ⟨rfl, rfl, rfl, ?_⟩; exact fun k hk => absurd hk (Nat.not_lt_zero _); done))) | (refine NRet.mk_ [some 10] rfl ?_ ?_; (· ((repeat' (first | exact rfl | exact trivial | refine ⟨?_, ?_⟩)); done)); (· (refine ⟨?_, trivial⟩; refine ⟨rfl, rfl, rfl, ?_⟩; exact fun k hk => absurd hk (Nat.not_lt_zero _); done))) | (refine NRet.mk_ [some 11] rfl ?_ ?_; (· ((repeat' (first | exact rfl | exact trivial | refine ⟨?_, ?_⟩)); done)); (· (refine ⟨?_, trivial⟩; refine ⟨rfl, rfl, rfl, ?_⟩; exact fun k hk => absurd hk (Nat.not_lt_zero _); done))))
  · obtain ⟨p1, p2, p3⟩ := Cp.p_1 (p := p) (x := x) h
    rw [p1, p2, p3]
    generalize F.less f 1 = e at *
    refine V.FnR.mk_ V.Tok V.mixed Try.func10 rfl Try.ntmps10 (by kernel_rfl) rfl rfl rfl rfl ?_
    repeat' ((conv => whnf); first | (refine V.NIf.yes ?_ ?_; · (decide; done)) | (refine V.NIf.no ?_ ?_; · (decide; done)) | refine V.NCond.mk ?_ | refine V.NIf.not_ ?_ | refine V.NIf.dec_ ?_ | refine V.NIf.no (by omega) ?_ | refine V.NIf.yes (by omega) ?_ | refine V.NIf.mk (fun _ => ?_) (fun _ => ?_) | refine V.NWrap.ok (by omega) (by omega) ?_ | refine V.NWrap.u64 (by omega) (by omega) ?_ | refine V.NLt.mk (by omega) ?_ | refine V.NBoth.mk ?_ ?_ | refine V.NTF.yes (by omega) ?_ | refine V.NTF.no (by omega) ?_ | refine V.NTF.dec ?_ | refine V.NDraw.q (by exact rfl) (by kernel_rfl) ?_ | refine V.NApp.one (by first | omega | (simp; omega)) (by first | omega | (simp; omega)) ?_ | (first | refine V.Fn.k0 (c1) rfl ?_ | refine V.Fn.q0 (c1) rfl ?_ | refine V.Fn.a0 (c1) rfl ?_) | (refine V.NDraw.any (by kernel_rfl) ?_) | fail)
    all_goals (conv => whnf)
    all_goals (first | (refine NRet.mk_ [some 0] rfl ?_ ?_; (· ((repeat' (first | exact rfl | exact trivial | refine ⟨?_, ?_⟩)); done)); (· (refine ⟨?_, trivial⟩; refine ⟨rfl, rfl, rfl, ?_⟩; exact fun k hk => absurd hk (Nat.not_lt_zero _); done))) | (refine NRet.mk_ [some 1] rfl ?_ ?_; (· ((repeat' (first | exact rfl | exact trivial | refine ⟨?_, ?_⟩)); done)); (· (refine ⟨?_, trivial⟩; refine ⟨rfl, rfl, rfl, ?_⟩; exact fun k hk => absurd hk (Nat.not_lt_zero _); done))) | (refine NRet.mk_ [some 2] rfl ?_ ?_; (· ((repeat' (first | exact rfl | exact trivial | refine ⟨?_, ?_⟩)); done)); (· (refine ⟨?_, trivial⟩; refine ⟨rfl, rfl, rfl, ?_⟩; exact fun k hk => absurd hk (Nat.not_lt_zero _); done))) | (refine NRet.mk_ [some 3] rfl ?_ ?_; (· ((repeat' (first | exact rfl | exact trivial | refine ⟨?_, ?_⟩)); done)); (· (refine ⟨?_, trivial⟩; refine ⟨rfl, rfl, rfl, ?_⟩; exact fun k hk => absurd hk (Nat.not_lt_zero _); done))) | (refine NRet.mk_ [some 4] rfl ?_ ?_; (· ((repeat' (first | exact rfl | exact trivial | refine ⟨?_, ?_⟩)); done)); (· (refine ⟨?_, trivial⟩; refine ⟨rfl, rfl, rfl, ?_⟩; exact fun k hk => absurd hk (Nat.not_lt_zero _); done))) | (refine NRet.mk_ [some 5] rfl ?_ ?_; (· ((repeat' (first | exact rfl | exact trivial | refine ⟨?_, ?_⟩)); done)); (· (refine ⟨?_, trivial⟩; refine ⟨rfl, rfl, rfl, ?_⟩; exact fun k hk => absurd hk (Nat.not_lt_zero _); done))) | (refine NRet.mk_ [some 6] rfl ?_ ?_; (· ((repeat' (first | exact rfl | exact trivial | refine ⟨?_, ?_⟩)); done)); (· (refine ⟨?_, trivial⟩; refine ⟨rfl, rfl, rfl, ?_⟩; exact fun k hk => absurd hk (Nat.not_lt_zero _); done))) | (refine NRet.mk_ [some 7] rfl ?_ ?_; (· ((repeat' (first | exact rfl | exact trivial | refine ⟨?_, ?_⟩)); done)); (· (refine ⟨?_, trivial⟩; refine ⟨rfl, rfl, rfl, ?_⟩; exact fun k hk => absurd hk (Nat.not_lt_zero _); done))) | (refine NRet.mk_ [some 8] rfl ?_ ?_; (· ((repeat' (first | exact rfl | exact trivial | refine ⟨?_, ?_⟩)); done)); (· (refine ⟨?_, trivial⟩; refine ⟨rfl, rfl, rfl, ?_⟩; exact fun k hk => absurd hk (Nat.not_lt_zero _); done))) | (refine NRet.mk_ [some 9] rfl ?_ ?_; (· ((repeat' (first | exact rfl | exact trivial | refine ⟨?_, ?_⟩)); done)); (· (refine ⟨?_, trivial⟩; refine ⟨rfl, rfl, rfl, ?_⟩; exact fun k hk => absurd hk (Nat.not_lt_zero _); done))) | (refine NRet.mk_ [some 10] rfl ?_ ?_; (· ((repeat' (first | exact rfl | exact trivial | refine ⟨?_, ?_⟩)); done)); (· (refine ⟨?_, trivial⟩; refine ⟨rfl, rfl, rfl, ?_⟩; exact fun k hk => absurd hk (Nat.not_lt_zero _); done))) | (refine NRet.mk_ [some 11] rfl ?_ ?_; (· ((repeat' (first | exact rfl | exact trivial | refine ⟨?_, ?_⟩)); done)); (· (refine ⟨?_, trivial⟩; refine ⟨rfl, rfl, rfl, ?_⟩; exact fun k hk => absurd hk (Nat.not_lt_zero _); done))))
theorem v_rcpPay (f : Fl) (p x : Int) : V.FnR Try.prog 14 [] [.agg [.val (.int .i64 f.id), .val (.int .i64 f.fr), .val (.int .i64 f.to), .val (.int .i64 f.cl), .val (.int .i64 f.pa), .val (.int .i64 f.day), .val (.int .i64 f.un), .val (.int .i64 f.de), .val (.int .i64 f.bo), .val (.int .i64 f.pd)], .one (.val (.int .i64 p)), .one (.val (.int .i64 x))] (.tup [.agg [.val (.int .i64 (Cp.pF f p x).id), .val (.int .i64 (Cp.pF f p x).fr), .val (.int .i64 (Cp.pF f p x).to), .val (.int .i64 (Cp.pF f p x).cl), .val (.int .i64 (Cp.pF f p x).pa), .val (.int .i64 (Cp.pF f p x).day), .val (.int .i64 (Cp.pF f p x).un), .val (.int .i64 (Cp.pF f p x).de), .val (.int .i64 (Cp.pF f p x).bo), .val (.int .i64 (Cp.pF f p x).pd)], .one (.ref 0), .one (.val (.int .i64 (Cp.pE f p x)))]) [.row 62 3 (Cp.pL f p x).length (ga encP (Cp.pL f p x))] := by
  have lc := Cp.less_1 f
  have c1 := v_rfcheck f
  have c2 := fun (h : F.chk f = 0) => v_rfopen f ⟨(F.chk_ok h).1, (F.chk_ok h).2.2.1⟩
  have bo := fun (h : F.chk f = 0) => F.ok_bounds (F.chk_ok h)
  have ep : (F.addPd f (F.left f)).pd = f.pd + F.left f := rfl
  by_cases h : F.less f 1 = 0
  · have c0 : F.chk f = 0 := by omega
    have c2 := c2 c0
    have bo := bo c0
    rw [c0] at c1
    have c3 := v_rWorth (F.left f) p x
    by_cases w : Cp.wE (F.left f) p x = 0
    · obtain ⟨p1, p2, p3⟩ := Cp.p_3 h w
      have bd := @Cp.w_bd (F.left f) p x
      rw [p1, p2]
      rw [w] at c3
      rw [← p3] at c3 bd
      by_cases z : Cp.pN f p x = 0
      · rw [Cp.pL_0 z]
        rw [z] at c3
        refine V.FnR.mk_ V.Tok V.mixed Try.func14 rfl Try.ntmps14 (by kernel_rfl) rfl rfl rfl rfl ?_
        repeat' ((conv => whnf); first | (refine V.NIf.yes ?_ ?_; · (decide; done)) | (refine V.NIf.no ?_ ?_; · (decide; done)) | refine V.NCond.mk ?_ | refine V.NIf.not_ ?_ | refine V.NIf.dec_ ?_ | refine V.NIf.no (by omega) ?_ | refine V.NIf.yes (by omega) ?_ | refine V.NIf.mk (fun _ => ?_) (fun _ => ?_) | refine V.NWrap.ok (by omega) (by omega) ?_ | refine V.NWrap.u64 (by omega) (by omega) ?_ | refine V.NLt.mk (by omega) ?_ | refine V.NBoth.mk ?_ ?_ | refine V.NTF.yes (by omega) ?_ | refine V.NTF.no (by omega) ?_ | refine V.NTF.dec ?_ | refine V.NDraw.q (by exact rfl) (by kernel_rfl) ?_ | refine V.NApp.one (by first | omega | (simp; omega)) (by first | omega | (simp; omega)) ?_ | (first | refine V.Fn.k0 (c1) rfl ?_ | refine V.Fn.q0 (c1) rfl ?_ | refine V.Fn.a0 (c1) rfl ?_) | (first | refine V.Fn.k0 (c2) rfl ?_ | refine V.Fn.q0 (c2) rfl ?_ | refine V.Fn.a0 (c2) rfl ?_) | (first | refine V.Fn.k0 (c3) rfl ?_ | refine V.Fn.q0 (c3) rfl ?_ | refine V.Fn.a0 (c3) rfl ?_) | (refine V.NDraw.any (by kernel_rfl) ?_) | fail)
        all_goals (conv => whnf)
        all_goals (first | (refine NRet.mk_ [some 0] rfl ?_ ?_; (· ((repeat' (first | exact rfl | exact trivial | refine ⟨?_, ?_⟩)); done)); (· (refine ⟨?_, trivial⟩; refine ⟨rfl, rfl, rfl, ?_⟩; exact fun k hk => absurd hk (Nat.not_lt_zero _); done))) | (refine NRet.mk_ [some 1] rfl ?_ ?_; (· ((repeat' (first | exact rfl | exact trivial | refine ⟨?_, ?_⟩)); done)); (· (refine ⟨?_, trivial⟩; refine ⟨rfl, rfl, rfl, ?_⟩; exact fun k hk => absurd hk (Nat.not_lt_zero _); done))) | (refine NRet.mk_ [some 2] rfl ?_ ?_; (· ((repeat' (first | exact rfl | exact trivial | refine ⟨?_, ?_⟩)); done)); (· (refine ⟨?_, trivial⟩; refine ⟨rfl, rfl, rfl, ?_⟩; exact fun k hk => absurd hk (Nat.not_lt_zero _); done))) | (refine NRet.mk_ [some 3] rfl ?_ ?_; (· ((repeat' (first | exact rfl | exact trivial | refine ⟨?_, ?_⟩)); done)); (· (refine ⟨?_, trivial⟩; refine ⟨rfl, rfl, rfl, ?_⟩; exact fun k hk => absurd hk (Nat.not_lt_zero _); done))) | (refine NRet.mk_ [some 4] rfl ?_ ?_; (· ((repeat' (first | exact rfl | exact trivial | refine ⟨?_, ?_⟩)); done)); (· (refine ⟨?_, trivial⟩; refine ⟨rfl, rfl, rfl, ?_⟩; exact fun k hk => absurd hk (Nat.not_lt_zero _); done))) | (refine NRet.mk_ [some 5] rfl ?_ ?_; (· ((repeat' (first | exact rfl | exact trivial | refine ⟨?_, ?_⟩)); done)); (· (refine ⟨?_, trivial⟩; refine ⟨rfl, rfl, rfl, ?_⟩; exact fun k hk => absurd hk (Nat.not_lt_zero _); done))) | (refine NRet.mk_ [some 6] rfl ?_ ?_; (· ((repeat' (first | exact rfl | exact trivial | refine ⟨?_, ?_⟩)); done)); (· (refine ⟨?_, trivial⟩; refine ⟨rfl, rfl, rfl, ?_⟩; exact fun k hk => absurd hk (Nat.not_lt_zero _); done))) | (refine NRet.mk_ [some 7] rfl ?_ ?_; (· ((repeat' (first | exact rfl | exact trivial | refine ⟨?_, ?_⟩)); done)); (· (refine ⟨?_, trivial⟩; refine ⟨rfl, rfl, rfl, ?_⟩; exact fun k hk => absurd hk (Nat.not_lt_zero _); done))) | (refine NRet.mk_ [some 8] rfl ?_ ?_; (· ((repeat' (first | exact rfl | exact trivial | refine ⟨?_, ?_⟩)); done)); (· (refine ⟨?_, trivial⟩; refine ⟨rfl, rfl, rfl, ?_⟩; exact fun k hk => absurd hk (Nat.not_lt_zero _); done))) | (refine NRet.mk_ [some 9] rfl ?_ ?_; (· ((repeat' (first | exact rfl | exact trivial | refine ⟨?_, ?_⟩)); done)); (· (refine ⟨?_, trivial⟩; refine ⟨rfl, rfl, rfl, ?_⟩; exact fun k hk => absurd hk (Nat.not_lt_zero _); done))) | (refine NRet.mk_ [some 10] rfl ?_ ?_; (· ((repeat' (first | exact rfl | exact trivial | refine ⟨?_, ?_⟩)); done)); (· (refine ⟨?_, trivial⟩; refine ⟨rfl, rfl, rfl, ?_⟩; exact fun k hk => absurd hk (Nat.not_lt_zero _); done))) | (refine NRet.mk_ [some 11] rfl ?_ ?_; (· ((repeat' (first | exact rfl | exact trivial | refine ⟨?_, ?_⟩)); done)); (· (refine ⟨?_, trivial⟩; refine ⟨rfl, rfl, rfl, ?_⟩; exact fun k hk => absurd hk (Nat.not_lt_zero _); done))))
      · rw [Cp.pL_1 z]
        refine V.FnR.mk_ V.Tok V.mixed Try.func14 rfl Try.ntmps14 (by kernel_rfl) rfl rfl rfl rfl ?_
        repeat' ((conv => whnf); first | (refine V.NIf.yes ?_ ?_; · (decide; done)) | (refine V.NIf.no ?_ ?_; · (decide; done)) | refine V.NCond.mk ?_ | refine V.NIf.not_ ?_ | refine V.NIf.dec_ ?_ | refine V.NIf.no (by omega) ?_ | refine V.NIf.yes (by omega) ?_ | refine V.NIf.mk (fun _ => ?_) (fun _ => ?_) | refine V.NWrap.ok (by omega) (by omega) ?_ | refine V.NWrap.u64 (by omega) (by omega) ?_ | refine V.NLt.mk (by omega) ?_ | refine V.NBoth.mk ?_ ?_ | refine V.NTF.yes (by omega) ?_ | refine V.NTF.no (by omega) ?_ | refine V.NTF.dec ?_ | refine V.NDraw.q (by exact rfl) (by kernel_rfl) ?_ | refine V.NApp.one (by first | omega | (simp; omega)) (by first | omega | (simp; omega)) ?_ | (first | refine V.Fn.k0 (c1) rfl ?_ | refine V.Fn.q0 (c1) rfl ?_ | refine V.Fn.a0 (c1) rfl ?_) | (first | refine V.Fn.k0 (c2) rfl ?_ | refine V.Fn.q0 (c2) rfl ?_ | refine V.Fn.a0 (c2) rfl ?_) | (first | refine V.Fn.k0 (c3) rfl ?_ | refine V.Fn.q0 (c3) rfl ?_ | refine V.Fn.a0 (c3) rfl ?_) | (refine V.NDraw.any (by kernel_rfl) ?_) | fail)
        all_goals (conv => whnf)
        all_goals (first | (refine NRet.mk_ [some 0] rfl ?_ ?_; (· ((repeat' (first | exact rfl | exact trivial | refine ⟨?_, ?_⟩)); done)); (· (refine ⟨?_, trivial⟩; refine ⟨rfl, rfl, rfl, Nat.succ_pos _, ?_⟩; (conv => whnf); (repeat' (first | exact trivial | refine ⟨?_, ?_⟩ | rfl | exact congrArg (Value.int .i64) (show 0 - Cp.pN f p x = -Cp.pN f p x by omega))); done))) | (refine NRet.mk_ [some 1] rfl ?_ ?_; (· ((repeat' (first | exact rfl | exact trivial | refine ⟨?_, ?_⟩)); done)); (· (refine ⟨?_, trivial⟩; refine ⟨rfl, rfl, rfl, Nat.succ_pos _, ?_⟩; (conv => whnf); (repeat' (first | exact trivial | refine ⟨?_, ?_⟩ | rfl | exact congrArg (Value.int .i64) (show 0 - Cp.pN f p x = -Cp.pN f p x by omega))); done))) | (refine NRet.mk_ [some 2] rfl ?_ ?_; (· ((repeat' (first | exact rfl | exact trivial | refine ⟨?_, ?_⟩)); done)); (· (refine ⟨?_, trivial⟩; refine ⟨rfl, rfl, rfl, Nat.succ_pos _, ?_⟩; (conv => whnf); (repeat' (first | exact trivial | refine ⟨?_, ?_⟩ | rfl | exact congrArg (Value.int .i64) (show 0 - Cp.pN f p x = -Cp.pN f p x by omega))); done))) | (refine NRet.mk_ [some 3] rfl ?_ ?_; (· ((repeat' (first | exact rfl | exact trivial | refine ⟨?_, ?_⟩)); done)); (· (refine ⟨?_, trivial⟩; refine ⟨rfl, rfl, rfl, Nat.succ_pos _, ?_⟩; (conv => whnf); (repeat' (first | exact trivial | refine ⟨?_, ?_⟩ | rfl | exact congrArg (Value.int .i64) (show 0 - Cp.pN f p x = -Cp.pN f p x by omega))); done))) | (refine NRet.mk_ [some 4] rfl ?_ ?_; (· ((repeat' (first | exact rfl | exact trivial | refine ⟨?_, ?_⟩)); done)); (· (refine ⟨?_, trivial⟩; refine ⟨rfl, rfl, rfl, Nat.succ_pos _, ?_⟩; (conv => whnf); (repeat' (first | exact trivial | refine ⟨?_, ?_⟩ | rfl | exact congrArg (Value.int .i64) (show 0 - Cp.pN f p x = -Cp.pN f p x by omega))); done))) | (refine NRet.mk_ [some 5] rfl ?_ ?_; (· ((repeat' (first | exact rfl | exact trivial | refine ⟨?_, ?_⟩)); done)); (· (refine ⟨?_, trivial⟩; refine ⟨rfl, rfl, rfl, Nat.succ_pos _, ?_⟩; (conv => whnf); (repeat' (first | exact trivial | refine ⟨?_, ?_⟩ | rfl | exact congrArg (Value.int .i64) (show 0 - Cp.pN f p x = -Cp.pN f p x by omega))); done))) | (refine NRet.mk_ [some 6] rfl ?_ ?_; (· ((repeat' (first | exact rfl | exact trivial | refine ⟨?_, ?_⟩)); done)); (· (refine ⟨?_, trivial⟩; refine ⟨rfl, rfl, rfl, Nat.succ_pos _, ?_⟩; (conv => whnf); (repeat' (first | exact trivial | refine ⟨?_, ?_⟩ | rfl | exact congrArg (Value.int .i64) (show 0 - Cp.pN f p x = -Cp.pN f p x by omega))); done))) | (refine NRet.mk_ [some 7] rfl ?_ ?_; (· ((repeat' (first | exact rfl | exact trivial | refine ⟨?_, ?_⟩)); done)); (· (refine ⟨?_, trivial⟩; refine ⟨rfl, rfl, rfl, Nat.succ_pos _, ?_⟩; (conv => whnf); (repeat' (first | exact trivial | refine ⟨?_, ?_⟩ | rfl | exact congrArg (Value.int .i64) (show 0 - Cp.pN f p x = -Cp.pN f p x by omega))); done))) | (refine NRet.mk_ [some 8] rfl ?_ ?_; (· ((repeat' (first | exact rfl | exact trivial | refine ⟨?_, ?_⟩)); done)); (· (refine ⟨?_, trivial⟩; refine ⟨rfl, rfl, rfl, Nat.succ_pos _, ?_⟩; (conv => whnf); (repeat' (first | exact trivial | refine ⟨?_, ?_⟩ | rfl | exact congrArg (Value.int .i64) (show 0 - Cp.pN f p x = -Cp.pN f p x by omega))); done))) | (refine NRet.mk_ [some 9] rfl ?_ ?_; (· ((repeat' (first | exact rfl | exact trivial | refine ⟨?_, ?_⟩)); done)); (· (refine ⟨?_, trivial⟩; refine ⟨rfl, rfl, rfl, Nat.succ_pos _, ?_⟩; (conv => whnf); (repeat' (first | exact trivial | refine ⟨?_, ?_⟩ | rfl | exact congrArg (Value.int .i64) (show 0 - Cp.pN f p x = -Cp.pN f p x by omega))); done))) | (refine NRet.mk_ [some 10] rfl ?_ ?_; (· ((repeat' (first | exact rfl | exact trivial | refine ⟨?_, ?_⟩)); done)); (· (refine ⟨?_, trivial⟩; refine ⟨rfl, rfl, rfl, Nat.succ_pos _, ?_⟩; (conv => whnf); (repeat' (first | exact trivial | refine ⟨?_, ?_⟩ | rfl | exact congrArg (Value.int .i64) (show 0 - Cp.pN f p x = -Cp.pN f p x by omega))); done))) | (refine NRet.mk_ [some 11] rfl ?_ ?_; (· ((repeat' (first | exact rfl | exact trivial | refine ⟨?_, ?_⟩)); done)); (· (refine ⟨?_, trivial⟩; refine ⟨rfl, rfl, rfl, Nat.succ_pos _, ?_⟩; (conv => whnf); (repeat' (first | exact trivial | refine ⟨?_, ?_⟩ | rfl | exact congrArg (Value.int .i64) (show 0 - Cp.pN f p x = -Cp.pN f p x by omega))); done))))
    · obtain ⟨p1, p2, p3⟩ := Cp.p_2 h w
      rw [p1, p2, p3]
      generalize Cp.wE (F.left f) p x = e at *
      refine V.FnR.mk_ V.Tok V.mixed Try.func14 rfl Try.ntmps14 (by kernel_rfl) rfl rfl rfl rfl ?_
      repeat' ((conv => whnf); first | (refine V.NIf.yes ?_ ?_; · (decide; done)) | (refine V.NIf.no ?_ ?_; · (decide; done)) | refine V.NCond.mk ?_ | refine V.NIf.not_ ?_ | refine V.NIf.dec_ ?_ | refine V.NIf.no (by omega) ?_ | refine V.NIf.yes (by omega) ?_ | refine V.NIf.mk (fun _ => ?_) (fun _ => ?_) | refine V.NWrap.ok (by omega) (by omega) ?_ | refine V.NWrap.u64 (by omega) (by omega) ?_ | refine V.NLt.mk (by omega) ?_ | refine V.NBoth.mk ?_ ?_ | refine V.NTF.yes (by omega) ?_ | refine V.NTF.no (by omega) ?_ | refine V.NTF.dec ?_ | refine V.NDraw.q (by exact rfl) (by kernel_rfl) ?_ | refine V.NApp.one (by first | omega | (simp; omega)) (by first | omega | (simp; omega)) ?_ | (first | refine V.Fn.k0 (c1) rfl ?_ | refine V.Fn.q0 (c1) rfl ?_ | refine V.Fn.a0 (c1) rfl ?_) | (first | refine V.Fn.k0 (c2) rfl ?_ | refine V.Fn.q0 (c2) rfl ?_ | refine V.Fn.a0 (c2) rfl ?_) | (first | refine V.Fn.k0 (c3) rfl ?_ | refine V.Fn.q0 (c3) rfl ?_ | refine V.Fn.a0 (c3) rfl ?_) | (refine V.NDraw.any (by kernel_rfl) ?_) | fail)
      all_goals (conv => whnf)
      all_goals (first | (refine NRet.mk_ [some 0] rfl ?_ ?_; (· ((repeat' (first | exact rfl | exact trivial | refine ⟨?_, ?_⟩)); done)); (· (refine ⟨?_, trivial⟩; refine ⟨rfl, rfl, rfl, ?_⟩; exact fun k hk => absurd hk (Nat.not_lt_zero _); done))) | (refine NRet.mk_ [some 1] rfl ?_ ?_; (· ((repeat' (first | exact rfl | exact trivial | refine ⟨?_, ?_⟩)); done)); (· (refine ⟨?_, trivial⟩; refine ⟨rfl, rfl, rfl, ?_⟩; exact fun k hk => absurd hk (Nat.not_lt_zero _); done))) | (refine NRet.mk_ [some 2] rfl ?_ ?_; (· ((repeat' (first | exact rfl | exact trivial | refine ⟨?_, ?_⟩)); done)); (· (refine ⟨?_, trivial⟩; refine ⟨rfl, rfl, rfl, ?_⟩; exact fun k hk => absurd hk (Nat.not_lt_zero _); done))) | (refine NRet.mk_ [some 3] rfl ?_ ?_; (· ((repeat' (first | exact rfl | exact trivial | refine ⟨?_, ?_⟩)); done)); (· (refine ⟨?_, trivial⟩; refine ⟨rfl, rfl, rfl, ?_⟩; exact fun k hk => absurd hk (Nat.not_lt_zero _); done))) | (refine NRet.mk_ [some 4] rfl ?_ ?_; (· ((repeat' (first | exact rfl | exact trivial | refine ⟨?_, ?_⟩)); done)); (· (refine ⟨?_, trivial⟩; refine ⟨rfl, rfl, rfl, ?_⟩; exact fun k hk => absurd hk (Nat.not_lt_zero _); done))) | (refine NRet.mk_ [some 5] rfl ?_ ?_; (· ((repeat' (first | exact rfl | exact trivial | refine ⟨?_, ?_⟩)); done)); (· (refine ⟨?_, trivial⟩; refine ⟨rfl, rfl, rfl, ?_⟩; exact fun k hk => absurd hk (Nat.not_lt_zero _); done))) | (refine NRet.mk_ [some 6] rfl ?_ ?_; (· ((repeat' (first | exact rfl | exact trivial | refine ⟨?_, ?_⟩)); done)); (· (refine ⟨?_, trivial⟩; refine ⟨rfl, rfl, rfl, ?_⟩; exact fun k hk => absurd hk (Nat.not_lt_zero _); done))) | (refine NRet.mk_ [some 7] rfl ?_ ?_; (· ((repeat' (first | exact rfl | exact trivial | refine ⟨?_, ?_⟩)); done)); (· (refine ⟨?_, trivial⟩; refine ⟨rfl, rfl, rfl, ?_⟩; exact fun k hk => absurd hk (Nat.not_lt_zero _); done))) | (refine NRet.mk_ [some 8] rfl ?_ ?_; (· ((repeat' (first | exact rfl | exact trivial | refine ⟨?_, ?_⟩)); done)); (· (refine ⟨?_, trivial⟩; refine ⟨rfl, rfl, rfl, ?_⟩; exact fun k hk => absurd hk (Nat.not_lt_zero _); done))) | (refine NRet.mk_ [some 9] rfl ?_ ?_; (· ((repeat' (first | exact rfl | exact trivial | refine ⟨?_, ?_⟩)); done)); (· (refine ⟨?_, trivial⟩; refine ⟨rfl, rfl, rfl, ?_⟩; exact fun k hk => absurd hk (Nat.not_lt_zero _); done))) | (refine NRet.mk_ [some 10] rfl ?_ ?_; (· ((repeat' (first | exact rfl | exact trivial | refine ⟨?_, ?_⟩)); done)); (· (refine ⟨?_, trivial⟩; refine ⟨rfl, rfl, rfl, ?_⟩; exact fun k hk => absurd hk (Nat.not_lt_zero _); done))) | (refine NRet.mk_ [some 11] rfl ?_ ?_; (· ((repeat' (first | exact rfl | exact trivial | refine ⟨?_, ?_⟩)); done)); (· (refine ⟨?_, trivial⟩; refine ⟨rfl, rfl, rfl, ?_⟩; exact fun k hk => absurd hk (Nat.not_lt_zero _); done))))
  · obtain ⟨p1, p2, p3⟩ := Cp.p_1 (p := p) (x := x) h
    rw [p1, p2, p3]
    by_cases c0 : F.chk f = 0
    · have c2 := c2 c0
      have z : F.left f = 0 := by omega
      have e : F.less f 1 = 5 := by omega
      rw [c0] at c1
      rw [z] at c2
      rw [e]
      refine V.FnR.mk_ V.Tok V.mixed Try.func14 rfl Try.ntmps14 (by kernel_rfl) rfl rfl rfl rfl ?_
      repeat' ((conv => whnf); first | (refine V.NIf.yes ?_ ?_; · (decide; done)) | (refine V.NIf.no ?_ ?_; · (decide; done)) | refine V.NCond.mk ?_ | refine V.NIf.not_ ?_ | refine V.NIf.dec_ ?_ | refine V.NIf.no (by omega) ?_ | refine V.NIf.yes (by omega) ?_ | refine V.NIf.mk (fun _ => ?_) (fun _ => ?_) | refine V.NWrap.ok (by omega) (by omega) ?_ | refine V.NWrap.u64 (by omega) (by omega) ?_ | refine V.NLt.mk (by omega) ?_ | refine V.NBoth.mk ?_ ?_ | refine V.NTF.yes (by omega) ?_ | refine V.NTF.no (by omega) ?_ | refine V.NTF.dec ?_ | refine V.NDraw.q (by exact rfl) (by kernel_rfl) ?_ | refine V.NApp.one (by first | omega | (simp; omega)) (by first | omega | (simp; omega)) ?_ | (first | refine V.Fn.k0 (c1) rfl ?_ | refine V.Fn.q0 (c1) rfl ?_ | refine V.Fn.a0 (c1) rfl ?_) | (first | refine V.Fn.k0 (c2) rfl ?_ | refine V.Fn.q0 (c2) rfl ?_ | refine V.Fn.a0 (c2) rfl ?_) | (refine V.NDraw.any (by kernel_rfl) ?_) | fail)
      all_goals (conv => whnf)
      all_goals (first | (refine NRet.mk_ [some 0] rfl ?_ ?_; (· ((repeat' (first | exact rfl | exact trivial | refine ⟨?_, ?_⟩)); done)); (· (refine ⟨?_, trivial⟩; refine ⟨rfl, rfl, rfl, ?_⟩; exact fun k hk => absurd hk (Nat.not_lt_zero _); done))) | (refine NRet.mk_ [some 1] rfl ?_ ?_; (· ((repeat' (first | exact rfl | exact trivial | refine ⟨?_, ?_⟩)); done)); (· (refine ⟨?_, trivial⟩; refine ⟨rfl, rfl, rfl, ?_⟩; exact fun k hk => absurd hk (Nat.not_lt_zero _); done))) | (refine NRet.mk_ [some 2] rfl ?_ ?_; (· ((repeat' (first | exact rfl | exact trivial | refine ⟨?_, ?_⟩)); done)); (· (refine ⟨?_, trivial⟩; refine ⟨rfl, rfl, rfl, ?_⟩; exact fun k hk => absurd hk (Nat.not_lt_zero _); done))) | (refine NRet.mk_ [some 3] rfl ?_ ?_; (· ((repeat' (first | exact rfl | exact trivial | refine ⟨?_, ?_⟩)); done)); (· (refine ⟨?_, trivial⟩; refine ⟨rfl, rfl, rfl, ?_⟩; exact fun k hk => absurd hk (Nat.not_lt_zero _); done))) | (refine NRet.mk_ [some 4] rfl ?_ ?_; (· ((repeat' (first | exact rfl | exact trivial | refine ⟨?_, ?_⟩)); done)); (· (refine ⟨?_, trivial⟩; refine ⟨rfl, rfl, rfl, ?_⟩; exact fun k hk => absurd hk (Nat.not_lt_zero _); done))) | (refine NRet.mk_ [some 5] rfl ?_ ?_; (· ((repeat' (first | exact rfl | exact trivial | refine ⟨?_, ?_⟩)); done)); (· (refine ⟨?_, trivial⟩; refine ⟨rfl, rfl, rfl, ?_⟩; exact fun k hk => absurd hk (Nat.not_lt_zero _); done))) | (refine NRet.mk_ [some 6] rfl ?_ ?_; (· ((repeat' (first | exact rfl | exact trivial | refine ⟨?_, ?_⟩)); done)); (· (refine ⟨?_, trivial⟩; refine ⟨rfl, rfl, rfl, ?_⟩; exact fun k hk => absurd hk (Nat.not_lt_zero _); done))) | (refine NRet.mk_ [some 7] rfl ?_ ?_; (· ((repeat' (first | exact rfl | exact trivial | refine ⟨?_, ?_⟩)); done)); (· (refine ⟨?_, trivial⟩; refine ⟨rfl, rfl, rfl, ?_⟩; exact fun k hk => absurd hk (Nat.not_lt_zero _); done))) | (refine NRet.mk_ [some 8] rfl ?_ ?_; (· ((repeat' (first | exact rfl | exact trivial | refine ⟨?_, ?_⟩)); done)); (· (refine ⟨?_, trivial⟩; refine ⟨rfl, rfl, rfl, ?_⟩; exact fun k hk => absurd hk (Nat.not_lt_zero _); done))) | (refine NRet.mk_ [some 9] rfl ?_ ?_; (· ((repeat' (first | exact rfl | exact trivial | refine ⟨?_, ?_⟩)); done)); (· (refine ⟨?_, trivial⟩; refine ⟨rfl, rfl, rfl, ?_⟩; exact fun k hk => absurd hk (Nat.not_lt_zero _); done))) | (refine NRet.mk_ [some 10] rfl ?_ ?_; (· ((repeat' (first | exact rfl | exact trivial | refine ⟨?_, ?_⟩)); done)); (· (refine ⟨?_, trivial⟩; refine ⟨rfl, rfl, rfl, ?_⟩; exact fun k hk => absurd hk (Nat.not_lt_zero _); done))) | (refine NRet.mk_ [some 11] rfl ?_ ?_; (· ((repeat' (first | exact rfl | exact trivial | refine ⟨?_, ?_⟩)); done)); (· (refine ⟨?_, trivial⟩; refine ⟨rfl, rfl, rfl, ?_⟩; exact fun k hk => absurd hk (Nat.not_lt_zero _); done))))
    · have e : F.less f 1 = F.chk f := by omega
      rw [e]
      clear c2 bo lc e
      generalize F.chk f = e at *
      refine V.FnR.mk_ V.Tok V.mixed Try.func14 rfl Try.ntmps14 (by kernel_rfl) rfl rfl rfl rfl ?_
      repeat' ((conv => whnf); first | (refine V.NIf.yes ?_ ?_; · (decide; done)) | (refine V.NIf.no ?_ ?_; · (decide; done)) | refine V.NCond.mk ?_ | refine V.NIf.not_ ?_ | refine V.NIf.dec_ ?_ | refine V.NIf.no (by omega) ?_ | refine V.NIf.yes (by omega) ?_ | refine V.NIf.mk (fun _ => ?_) (fun _ => ?_) | refine V.NWrap.ok (by omega) (by omega) ?_ | refine V.NWrap.u64 (by omega) (by omega) ?_ | refine V.NLt.mk (by omega) ?_ | refine V.NBoth.mk ?_ ?_ | refine V.NTF.yes (by omega) ?_ | refine V.NTF.no (by omega) ?_ | refine V.NTF.dec ?_ | refine V.NDraw.q (by exact rfl) (by kernel_rfl) ?_ | refine V.NApp.one (by first | omega | (simp; omega)) (by first | omega | (simp; omega)) ?_ | (first | refine V.Fn.k0 (c1) rfl ?_ | refine V.Fn.q0 (c1) rfl ?_ | refine V.Fn.a0 (c1) rfl ?_) | (refine V.NDraw.any (by kernel_rfl) ?_) | fail)
      all_goals (conv => whnf)
      all_goals (first | (refine NRet.mk_ [some 0] rfl ?_ ?_; (· ((repeat' (first | exact rfl | exact trivial | refine ⟨?_, ?_⟩)); done)); (· (refine ⟨?_, trivial⟩; refine ⟨rfl, rfl, rfl, ?_⟩; exact fun k hk => absurd hk (Nat.not_lt_zero _); done))) | (refine NRet.mk_ [some 1] rfl ?_ ?_; (· ((repeat' (first | exact rfl | exact trivial | refine ⟨?_, ?_⟩)); done)); (· (refine ⟨?_, trivial⟩; refine ⟨rfl, rfl, rfl, ?_⟩; exact fun k hk => absurd hk (Nat.not_lt_zero _); done))) | (refine NRet.mk_ [some 2] rfl ?_ ?_; (· ((repeat' (first | exact rfl | exact trivial | refine ⟨?_, ?_⟩)); done)); (· (refine ⟨?_, trivial⟩; refine ⟨rfl, rfl, rfl, ?_⟩; exact fun k hk => absurd hk (Nat.not_lt_zero _); done))) | (refine NRet.mk_ [some 3] rfl ?_ ?_; (· ((repeat' (first | exact rfl | exact trivial | refine ⟨?_, ?_⟩)); done)); (· (refine ⟨?_, trivial⟩; refine ⟨rfl, rfl, rfl, ?_⟩; exact fun k hk => absurd hk (Nat.not_lt_zero _); done))) | (refine NRet.mk_ [some 4] rfl ?_ ?_; (· ((repeat' (first | exact rfl | exact trivial | refine ⟨?_, ?_⟩)); done)); (· (refine ⟨?_, trivial⟩; refine ⟨rfl, rfl, rfl, ?_⟩; exact fun k hk => absurd hk (Nat.not_lt_zero _); done))) | (refine NRet.mk_ [some 5] rfl ?_ ?_; (· ((repeat' (first | exact rfl | exact trivial | refine ⟨?_, ?_⟩)); done)); (· (refine ⟨?_, trivial⟩; refine ⟨rfl, rfl, rfl, ?_⟩; exact fun k hk => absurd hk (Nat.not_lt_zero _); done))) | (refine NRet.mk_ [some 6] rfl ?_ ?_; (· ((repeat' (first | exact rfl | exact trivial | refine ⟨?_, ?_⟩)); done)); (· (refine ⟨?_, trivial⟩; refine ⟨rfl, rfl, rfl, ?_⟩; exact fun k hk => absurd hk (Nat.not_lt_zero _); done))) | (refine NRet.mk_ [some 7] rfl ?_ ?_; (· ((repeat' (first | exact rfl | exact trivial | refine ⟨?_, ?_⟩)); done)); (· (refine ⟨?_, trivial⟩; refine ⟨rfl, rfl, rfl, ?_⟩; exact fun k hk => absurd hk (Nat.not_lt_zero _); done))) | (refine NRet.mk_ [some 8] rfl ?_ ?_; (· ((repeat' (first | exact rfl | exact trivial | refine ⟨?_, ?_⟩)); done)); (· (refine ⟨?_, trivial⟩; refine ⟨rfl, rfl, rfl, ?_⟩; exact fun k hk => absurd hk (Nat.not_lt_zero _); done))) | (refine NRet.mk_ [some 9] rfl ?_ ?_; (· ((repeat' (first | exact rfl | exact trivial | refine ⟨?_, ?_⟩)); done)); (· (refine ⟨?_, trivial⟩; refine ⟨rfl, rfl, rfl, ?_⟩; exact fun k hk => absurd hk (Nat.not_lt_zero _); done))) | (refine NRet.mk_ [some 10] rfl ?_ ?_; (· ((repeat' (first | exact rfl | exact trivial | refine ⟨?_, ?_⟩)); done)); (· (refine ⟨?_, trivial⟩; refine ⟨rfl, rfl, rfl, ?_⟩; exact fun k hk => absurd hk (Nat.not_lt_zero _); done))) | (refine NRet.mk_ [some 11] rfl ?_ ?_; (· ((repeat' (first | exact rfl | exact trivial | refine ⟨?_, ?_⟩)); done)); (· (refine ⟨?_, trivial⟩; refine ⟨rfl, rfl, rfl, ?_⟩; exact fun k hk => absurd hk (Nat.not_lt_zero _); done))))
theorem v_cpLimit (p was most : Int) : V.Fn Try.prog 12 [] [.one (.val (.int .i64 p)), .one (.val (.int .i64 was)), .one (.val (.int .i64 most))] (.tuple #[.int .i64 (Cp.lV p was most), .int .i64 (Cp.lE p was most)]) := by
  have c1 := v_pcheck p
  have c2 := v_pcheck was
  by_cases h : Cp.LOk p was most
  · obtain ⟨e1, e2⟩ := Cp.l_yes h
    obtain ⟨a1, a2⟩ := Cp.away_part h
    have bd := Cp.away_bd h
    have c3 := v_part was most 10000
    rw [a1, a2] at c3
    rw [e1, e2]
    rw [P.chk_yes h.1] at c1
    rw [P.chk_yes h.2.1] at c2
    have cc := Cp.clamp_cases p was (was * most / 10000)
    obtain ⟨⟨_, _⟩, ⟨_, _⟩, _, _⟩ := h
    clear a1 a2 e1 e2
    generalize was * most / 10000 = a at *
    refine V.Fn.mk_ V.Tok V.mixed Try.func12 rfl Try.ntmps12 (by kernel_rfl) rfl rfl ?_
    repeat' ((conv => whnf); first | (refine V.NIf.yes ?_ ?_; · (decide; done)) | (refine V.NIf.no ?_ ?_; · (decide; done)) | refine V.NCond.mk ?_ | refine V.NIf.not_ ?_ | refine V.NIf.dec_ ?_ | refine V.NIf.no (by omega) ?_ | refine V.NIf.yes (by omega) ?_ | refine V.NIf.mk (fun _ => ?_) (fun _ => ?_) | refine V.NWrap.ok (by omega) (by omega) ?_ | refine V.NWrap.u64 (by omega) (by omega) ?_ | refine V.NLt.mk (by omega) ?_ | refine V.NBoth.mk ?_ ?_ | refine V.NTF.yes (by omega) ?_ | refine V.NTF.no (by omega) ?_ | refine V.NTF.dec ?_ | refine V.NDraw.q (by exact rfl) (by kernel_rfl) ?_ | refine V.NApp.one (by first | omega | (simp; omega)) (by first | omega | (simp; omega)) ?_ | (first | refine V.Fn.k0 (c1) rfl ?_ | refine V.Fn.q0 (c1) rfl ?_ | refine V.Fn.a0 (c1) rfl ?_) | (first | refine V.Fn.k0 (c2) rfl ?_ | refine V.Fn.q0 (c2) rfl ?_ | refine V.Fn.a0 (c2) rfl ?_) | (first | refine V.Fn.k0 (c3) rfl ?_ | refine V.Fn.q0 (c3) rfl ?_ | refine V.Fn.a0 (c3) rfl ?_) | (refine V.NDraw.any (by kernel_rfl) ?_) | fail)
    all_goals (conv => whnf)
    all_goals exact V.fin2 ⟨rfl, rfl⟩
  · obtain ⟨e1, e2⟩ := Cp.l_no h
    rw [e1, e2]
    by_cases h1 : P.Ok p
    · rw [P.chk_yes h1] at c1
      by_cases h2 : P.Ok was
      · rw [P.chk_yes h2] at c2
        have h3 : ¬ (0 ≤ most ∧ most ≤ 10000) := fun z => h ⟨h1, h2, z⟩
        clear h h1 h2
        refine V.Fn.mk_ V.Tok V.mixed Try.func12 rfl Try.ntmps12 (by kernel_rfl) rfl rfl ?_
        repeat' ((conv => whnf); first | (refine V.NIf.yes ?_ ?_; · (decide; done)) | (refine V.NIf.no ?_ ?_; · (decide; done)) | refine V.NCond.mk ?_ | refine V.NIf.not_ ?_ | refine V.NIf.dec_ ?_ | refine V.NIf.no (by omega) ?_ | refine V.NIf.yes (by omega) ?_ | refine V.NIf.mk (fun _ => ?_) (fun _ => ?_) | refine V.NWrap.ok (by omega) (by omega) ?_ | refine V.NWrap.u64 (by omega) (by omega) ?_ | refine V.NLt.mk (by omega) ?_ | refine V.NBoth.mk ?_ ?_ | refine V.NTF.yes (by omega) ?_ | refine V.NTF.no (by omega) ?_ | refine V.NTF.dec ?_ | refine V.NDraw.q (by exact rfl) (by kernel_rfl) ?_ | refine V.NApp.one (by first | omega | (simp; omega)) (by first | omega | (simp; omega)) ?_ | (first | refine V.Fn.k0 (c1) rfl ?_ | refine V.Fn.q0 (c1) rfl ?_ | refine V.Fn.a0 (c1) rfl ?_) | (first | refine V.Fn.k0 (c2) rfl ?_ | refine V.Fn.q0 (c2) rfl ?_ | refine V.Fn.a0 (c2) rfl ?_) | (refine V.NDraw.any (by kernel_rfl) ?_) | fail)
        all_goals (conv => whnf)
        all_goals exact V.fin2 ⟨rfl, rfl⟩
      · rw [P.chk_no h2] at c2
        clear h h1 h2
        refine V.Fn.mk_ V.Tok V.mixed Try.func12 rfl Try.ntmps12 (by kernel_rfl) rfl rfl ?_
        repeat' ((conv => whnf); first | (refine V.NIf.yes ?_ ?_; · (decide; done)) | (refine V.NIf.no ?_ ?_; · (decide; done)) | refine V.NCond.mk ?_ | refine V.NIf.not_ ?_ | refine V.NIf.dec_ ?_ | refine V.NIf.no (by omega) ?_ | refine V.NIf.yes (by omega) ?_ | refine V.NIf.mk (fun _ => ?_) (fun _ => ?_) | refine V.NWrap.ok (by omega) (by omega) ?_ | refine V.NWrap.u64 (by omega) (by omega) ?_ | refine V.NLt.mk (by omega) ?_ | refine V.NBoth.mk ?_ ?_ | refine V.NTF.yes (by omega) ?_ | refine V.NTF.no (by omega) ?_ | refine V.NTF.dec ?_ | refine V.NDraw.q (by exact rfl) (by kernel_rfl) ?_ | refine V.NApp.one (by first | omega | (simp; omega)) (by first | omega | (simp; omega)) ?_ | (first | refine V.Fn.k0 (c1) rfl ?_ | refine V.Fn.q0 (c1) rfl ?_ | refine V.Fn.a0 (c1) rfl ?_) | (first | refine V.Fn.k0 (c2) rfl ?_ | refine V.Fn.q0 (c2) rfl ?_ | refine V.Fn.a0 (c2) rfl ?_) | (refine V.NDraw.any (by kernel_rfl) ?_) | fail)
        all_goals (conv => whnf)
        all_goals exact V.fin2 ⟨rfl, rfl⟩
    · rw [P.chk_no h1] at c1
      clear h h1
      refine V.Fn.mk_ V.Tok V.mixed Try.func12 rfl Try.ntmps12 (by kernel_rfl) rfl rfl ?_
      repeat' ((conv => whnf); first | (refine V.NIf.yes ?_ ?_; · (decide; done)) | (refine V.NIf.no ?_ ?_; · (decide; done)) | refine V.NCond.mk ?_ | refine V.NIf.not_ ?_ | refine V.NIf.dec_ ?_ | refine V.NIf.no (by omega) ?_ | refine V.NIf.yes (by omega) ?_ | refine V.NIf.mk (fun _ => ?_) (fun _ => ?_) | refine V.NWrap.ok (by omega) (by omega) ?_ | refine V.NWrap.u64 (by omega) (by omega) ?_ | refine V.NLt.mk (by omega) ?_ | refine V.NBoth.mk ?_ ?_ | refine V.NTF.yes (by omega) ?_ | refine V.NTF.no (by omega) ?_ | refine V.NTF.dec ?_ | refine V.NDraw.q (by exact rfl) (by kernel_rfl) ?_ | refine V.NApp.one (by first | omega | (simp; omega)) (by first | omega | (simp; omega)) ?_ | (first | refine V.Fn.k0 (c1) rfl ?_ | refine V.Fn.q0 (c1) rfl ?_ | refine V.Fn.a0 (c1) rfl ?_) | (first | refine V.Fn.k0 (c2) rfl ?_ | refine V.Fn.q0 (c2) rfl ?_ | refine V.Fn.a0 (c2) rfl ?_) | (refine V.NDraw.any (by kernel_rfl) ?_) | fail)
      all_goals (conv => whnf)
      all_goals exact V.fin2 ⟨rfl, rfl⟩
theorem v_rcpLimit (p was most : Int) : V.Fn Try.prog 16 [] [.one (.val (.int .i64 p)), .one (.val (.int .i64 was)), .one (.val (.int .i64 most))] (.tuple #[.int .i64 (Cp.lV p was most), .int .i64 (Cp.lE p was most)]) := by
  have c1 := v_rpcheck p
  have c2 := v_rpcheck was
  by_cases h : Cp.LOk p was most
  · obtain ⟨e1, e2⟩ := Cp.l_yes h
    have bd := Cp.away_bd h
    obtain ⟨⟨_, _⟩, ⟨_, _⟩, _, _⟩ := id h
    have c3 := v_partOf was most 10000 (by omega) (by omega) (by omega)
    have e3 : M.poQ was most 10000 = was * most / 10000 := if_neg (by omega)
    rw [e3] at c3
    rw [e1, e2]
    rw [P.chk_yes h.1] at c1
    rw [P.chk_yes h.2.1] at c2
    have cc := Cp.clamp_cases p was (was * most / 10000)
    clear e1 e2 e3 h
    generalize was * most / 10000 = a at *
    generalize Cp.clamp p was a = k at *
    refine V.Fn.mk_ V.Tok V.mixed Try.func16 rfl Try.ntmps16 (by kernel_rfl) rfl rfl ?_
    repeat' ((conv => whnf); first | (refine V.NIf.yes ?_ ?_; · (decide; done)) | (refine V.NIf.no ?_ ?_; · (decide; done)) | refine V.NCond.mk ?_ | refine V.NIf.not_ ?_ | refine V.NIf.dec_ ?_ | refine V.NIf.no (by omega) ?_ | refine V.NIf.yes (by omega) ?_ | refine V.NIf.mk (fun _ => ?_) (fun _ => ?_) | refine V.NWrap.ok (by omega) (by omega) ?_ | refine V.NWrap.u64 (by omega) (by omega) ?_ | refine V.NLt.mk (by omega) ?_ | refine V.NBoth.mk ?_ ?_ | refine V.NTF.yes (by omega) ?_ | refine V.NTF.no (by omega) ?_ | refine V.NTF.dec ?_ | refine V.NDraw.q (by exact rfl) (by kernel_rfl) ?_ | refine V.NApp.one (by first | omega | (simp; omega)) (by first | omega | (simp; omega)) ?_ | (first | refine V.Fn.k0 (v_rbetween _ _ _) rfl ?_ | refine V.Fn.q0 (v_rbetween _ _ _) rfl ?_ | refine V.Fn.a0 (v_rbetween _ _ _) rfl ?_) | (first | refine V.Fn.k0 (c1) rfl ?_ | refine V.Fn.q0 (c1) rfl ?_ | refine V.Fn.a0 (c1) rfl ?_) | (first | refine V.Fn.k0 (c2) rfl ?_ | refine V.Fn.q0 (c2) rfl ?_ | refine V.Fn.a0 (c2) rfl ?_) | (first | refine V.Fn.k0 (c3) rfl ?_ | refine V.Fn.q0 (c3) rfl ?_ | refine V.Fn.a0 (c3) rfl ?_) | (refine V.NDraw.any (by kernel_rfl) ?_) | fail)
    all_goals (conv => whnf)
    all_goals exact V.fin2 ⟨by omega, rfl⟩
  · obtain ⟨e1, e2⟩ := Cp.l_no h
    rw [e1, e2]
    by_cases h1 : P.Ok p
    · rw [P.chk_yes h1] at c1
      by_cases h2 : P.Ok was
      · rw [P.chk_yes h2] at c2
        have h3 : ¬ (0 ≤ most ∧ most ≤ 10000) := fun z => h ⟨h1, h2, z⟩
        clear h h1 h2
        refine V.Fn.mk_ V.Tok V.mixed Try.func16 rfl Try.ntmps16 (by kernel_rfl) rfl rfl ?_
        repeat' ((conv => whnf); first | (refine V.NIf.yes ?_ ?_; · (decide; done)) | (refine V.NIf.no ?_ ?_; · (decide; done)) | refine V.NCond.mk ?_ | refine V.NIf.not_ ?_ | refine V.NIf.dec_ ?_ | refine V.NIf.no (by omega) ?_ | refine V.NIf.yes (by omega) ?_ | refine V.NIf.mk (fun _ => ?_) (fun _ => ?_) | refine V.NWrap.ok (by omega) (by omega) ?_ | refine V.NWrap.u64 (by omega) (by omega) ?_ | refine V.NLt.mk (by omega) ?_ | refine V.NBoth.mk ?_ ?_ | refine V.NTF.yes (by omega) ?_ | refine V.NTF.no (by omega) ?_ | refine V.NTF.dec ?_ | refine V.NDraw.q (by exact rfl) (by kernel_rfl) ?_ | refine V.NApp.one (by first | omega | (simp; omega)) (by first | omega | (simp; omega)) ?_ | (first | refine V.Fn.k0 (v_rbetween _ _ _) rfl ?_ | refine V.Fn.q0 (v_rbetween _ _ _) rfl ?_ | refine V.Fn.a0 (v_rbetween _ _ _) rfl ?_) | (first | refine V.Fn.k0 (c1) rfl ?_ | refine V.Fn.q0 (c1) rfl ?_ | refine V.Fn.a0 (c1) rfl ?_) | (first | refine V.Fn.k0 (c2) rfl ?_ | refine V.Fn.q0 (c2) rfl ?_ | refine V.Fn.a0 (c2) rfl ?_) | (refine V.NDraw.any (by kernel_rfl) ?_) | fail)
        all_goals (conv => whnf)
        all_goals exact V.fin2 ⟨rfl, rfl⟩
      · rw [P.chk_no h2] at c2
        clear h h1 h2
        refine V.Fn.mk_ V.Tok V.mixed Try.func16 rfl Try.ntmps16 (by kernel_rfl) rfl rfl ?_
        repeat' ((conv => whnf); first | (refine V.NIf.yes ?_ ?_; · (decide; done)) | (refine V.NIf.no ?_ ?_; · (decide; done)) | refine V.NCond.mk ?_ | refine V.NIf.not_ ?_ | refine V.NIf.dec_ ?_ | refine V.NIf.no (by omega) ?_ | refine V.NIf.yes (by omega) ?_ | refine V.NIf.mk (fun _ => ?_) (fun _ => ?_) | refine V.NWrap.ok (by omega) (by omega) ?_ | refine V.NWrap.u64 (by omega) (by omega) ?_ | refine V.NLt.mk (by omega) ?_ | refine V.NBoth.mk ?_ ?_ | refine V.NTF.yes (by omega) ?_ | refine V.NTF.no (by omega) ?_ | refine V.NTF.dec ?_ | refine V.NDraw.q (by exact rfl) (by kernel_rfl) ?_ | refine V.NApp.one (by first | omega | (simp; omega)) (by first | omega | (simp; omega)) ?_ | (first | refine V.Fn.k0 (v_rbetween _ _ _) rfl ?_ | refine V.Fn.q0 (v_rbetween _ _ _) rfl ?_ | refine V.Fn.a0 (v_rbetween _ _ _) rfl ?_) | (first | refine V.Fn.k0 (c1) rfl ?_ | refine V.Fn.q0 (c1) rfl ?_ | refine V.Fn.a0 (c1) rfl ?_) | (first | refine V.Fn.k0 (c2) rfl ?_ | refine V.Fn.q0 (c2) rfl ?_ | refine V.Fn.a0 (c2) rfl ?_) | (refine V.NDraw.any (by kernel_rfl) ?_) | fail)
        all_goals (conv => whnf)
        all_goals exact V.fin2 ⟨rfl, rfl⟩
    · rw [P.chk_no h1] at c1
      clear h h1
      refine V.Fn.mk_ V.Tok V.mixed Try.func16 rfl Try.ntmps16 (by kernel_rfl) rfl rfl ?_
      repeat' ((conv => whnf); first | (refine V.NIf.yes ?_ ?_; · (decide; done)) | (refine V.NIf.no ?_ ?_; · (decide; done)) | refine V.NCond.mk ?_ | refine V.NIf.not_ ?_ | refine V.NIf.dec_ ?_ | refine V.NIf.no (by omega) ?_ | refine V.NIf.yes (by omega) ?_ | refine V.NIf.mk (fun _ => ?_) (fun _ => ?_) | refine V.NWrap.ok (by omega) (by omega) ?_ | refine V.NWrap.u64 (by omega) (by omega) ?_ | refine V.NLt.mk (by omega) ?_ | refine V.NBoth.mk ?_ ?_ | refine V.NTF.yes (by omega) ?_ | refine V.NTF.no (by omega) ?_ | refine V.NTF.dec ?_ | refine V.NDraw.q (by exact rfl) (by kernel_rfl) ?_ | refine V.NApp.one (by first | omega | (simp; omega)) (by first | omega | (simp; omega)) ?_ | (first | refine V.Fn.k0 (v_rbetween _ _ _) rfl ?_ | refine V.Fn.q0 (v_rbetween _ _ _) rfl ?_ | refine V.Fn.a0 (v_rbetween _ _ _) rfl ?_) | (first | refine V.Fn.k0 (c1) rfl ?_ | refine V.Fn.q0 (c1) rfl ?_ | refine V.Fn.a0 (c1) rfl ?_) | (first | refine V.Fn.k0 (c2) rfl ?_ | refine V.Fn.q0 (c2) rfl ?_ | refine V.Fn.a0 (c2) rfl ?_) | (refine V.NDraw.any (by kernel_rfl) ?_) | fail)
      all_goals (conv => whnf)
      all_goals exact V.fin2 ⟨rfl, rfl⟩
end Go.Proofs.Ytjjepkklaagmmaa

/- slices.Sort of a row of numbers: the kit's contract, as a rule of the walk. -/
namespace Go.Proofs.Ytjjepkklaagmmaa.V
open Go Go.RowKit Go.Sort
set_option linter.unusedVariables false
set_option linter.unusedSimpArgs false
/-- a row is written in place; the world may grow -/
theorem Cls.inPlace {B nx : Nat} {ρ : Rho} {obs : Obs} {w w' : World} {i t s n n' : Nat} {get g : Nat → List Value} {v : Value} (h : Cls B ρ obs nx w) (ho : fnd obs i = some (.row t s n get)) (hv : ρ i = some v) (hr : RowIs B w' v t s n' g)
    (hg : w.grownBy w' (footV v)) : Cls B ρ ((i, .row t s n' g) :: obs) nx w' := by
  have fi : foot ρ i (.row t s n get) = footV v := by
    obtain ⟨v2, e, hr2⟩ := h.sat i _ ho
    rw [hv] at e; injection e with e; subst e
    exact foot_rowV hv hr2
  have fn_ : foot ρ i (.row t s n' g) = footV v := foot_rowV hv hr
  have apart_ : ∀ j o b, i ≠ j → fnd obs j = some o → foot ρ j o = some b → footV v ≠ some b := fun j o b hne hj hb e => by
    have h1 : foot ρ i (.row t s n get) = some b := fi.trans e
    exact h.apart i j _ o b ho hj hne rfl h1 hb
  refine ⟨Nat.le_trans h.le hg.size, fun j u hu => ?_, fun j k o1 o2 c h1 h2 hne hmu hf1 => ?_, h.new⟩
  · rcases fnd_cons hu with ⟨rfl, rfl⟩ | ⟨hn, hu⟩
    · exact ⟨v, hv, hr⟩
    · exact (h.sat j u hu).keep hg.size fun b hb => hg.block b (foot_lt (h.sat j u hu) hb) (fun e => apart_ j u b hn hu hb e.symm)
  · rcases fnd_cons h1 with ⟨rfl, rfl⟩ | ⟨hn1, h1⟩
    · rcases fnd_cons h2 with ⟨rfl, rfl⟩ | ⟨hn2, h2⟩
      · exact absurd rfl hne
      · rw [fn_] at hf1
        intro q
        exact apart_ k o2 c hn2 h2 q hf1
    · rcases fnd_cons h2 with ⟨rfl, rfl⟩ | ⟨hn2, h2⟩
      · rw [fn_]
        exact apart_ j o1 c hn1 h1 hf1
      · exact h.apart j k o1 o2 c h1 h2 hne hmu hf1
/-- a call that is handed nil, which it appends to -/
theorem NCall.nilr_ {P : Program} {f : FuncId} {args : List SV} {obs : Obs} {nx : Nat} {K : SV → Obs → Nat → Prop} (j t s : Nat) (e : args[j]? = some (.one (.val (.slice none 0 0)))) (h : NCall P f (args.set j (.one (.ref nx))) ((nx, .row t s 0 fun _ => []) :: obs) (nx + 1) K) : NCall P f args obs nx K := by
  refine ⟨h.b, fun B ρ w xs hC ha => ?_⟩
  have hx := hC.new nx (Nat.le_refl _)
  have hC' := hC.more (v := .slice none 0 0) (o := .row t s 0 fun _ => []) (Below.refl _ _) ⟨_, upd_same _ _ _, none, 0, rfl, by omega, fun k hk => by omega, .inl ⟨rfl, rfl⟩⟩ (fun b hf => by rw [foot_row (upd_same _ _ _)] at hf; simp at hf)
  refine (h.h B _ w xs hC' (ha.nil_ hx e)).mono ?_
  rintro e w' ⟨v, obs', nx', ρ', x, hK, hE, r⟩
  exact ⟨v, obs', nx', ρ', x, hK, fun i y hy => hE i y (by have : i ≠ nx := fun q => (by rw [q, hx] at hy; cases hy); simpa [upd, this] using hy), r⟩
theorem flat_ints (l : List Int) : flat (ga e1 l) l.length = l.map (Value.int .i64) := by
  have e : ∀ n, n ≤ l.length → flat (ga e1 l) n = (l.take n).map (Value.int .i64) := fun n => by
    induction n with
    | zero => intro _; simp [flat]
    | succ n ih =>
      intro hn
      have : flat (ga e1 l) (n + 1) = flat (ga e1 l) n ++ ga e1 l n := by unfold flat; rw [List.range_succ, List.flatMap_append]; simp
      rw [this, ih (by omega), List.take_succ_eq_append_getElem (by omega), List.map_append, ← _root_.Go.Proofs.Ytjjepkklaagmmaa.getD_at (by omega)]
      rfl
  rw [e l.length (Nat.le_refl _), List.take_length]
theorem NCall.sortI {obs : Obs} {nx : Nat} {K : SV → Obs → Nat → Prop} (i : Nat) {t : TypeId} (l : List Int) {get : Nat → List Value} (ho : fnd obs i = some (.row t 1 l.length get)) (hg : ∀ k, k < l.length → get k = ga e1 l k) (hl : l.length < 4611686018427387904)
    (h : K (.tup []) ((i, .row t 1 l.length (ga e1 (l.mergeSort fun x y => decide (x ≤ y)))) :: obs) nx) : NCall Try.prog 60 [.one (.ref i)] obs nx K := by
  refine ⟨by kernel_rfl, fun B ρ w xs hC hxs => ?_⟩
  obtain ⟨x, _, rfl, ⟨hx, _⟩, rfl⟩ := hxs
  obtain ⟨v, hv, hr⟩ := hC.sat i _ ho
  rw [hx] at hv
  injection hv with hv
  subst hv
  have hr0 := hr.congr (g := ga e1 l) fun k hk => (hg k hk).symm
  obtain ⟨A, c, rfl, hn, hlen, hcase⟩ := hr0
  rcases hcase with ⟨h0, hc0⟩ | ⟨g, cur, rfl, hB, hgc, hnc, hc0, hcm, hcs, htk⟩
  · subst hc0
    have el : l = [] := List.eq_nil_of_length_eq_zero h0
    subst el
    refine (Try.slices_Sort_int_none A 0 w).mono ?_
    rintro e w' ⟨rfl, rfl⟩
    refine ⟨_, _, _, ρ, _, h, fun _ _ q => q, rfl, ⟨[], rfl, rfl⟩, ?_, Below.refl _ _, Oth.refl _⟩
    refine hC.inPlace ho hx ⟨A, 0, rfl, hn, fun k hk => absurd hk (Nat.not_lt_zero _), .inl ⟨rfl, rfl⟩⟩ ⟨rfl, rfl, rfl, Nat.le_refl _, fun _ _ _ => rfl⟩
  · rw [flat_ints, Nat.mul_one] at htk
    have hH := holds_of_blockI (ss := l) hgc htk
    have hlt := (Array.getElem?_eq_some_iff.1 hgc).1
    refine (Try.slices_Sort_int g 0 c l w hH hlt hl).mono ?_
    rintro e w' ⟨rfl, n, os, rfl⟩
    have hG := grownBy_sortedI (w := w) (g := g) (n := n) (os := os) (l.mergeSort fun x y => decide (x ≤ y)).toArray
    have hS := heap_sortedI (w := w) (g := g) (n := n) (os := os) (l.mergeSort fun x y => decide (x ≤ y)).toArray hgc
    have hT := take_putCellsI cur (l.mergeSort fun x y => decide (x ≤ y)) (by simp; omega)
    have hL : (l.mergeSort fun x y => decide (x ≤ y)).length = l.length := by simp
    have hM := flat_ints (l.mergeSort fun x y => decide (x ≤ y))
    rw [hL] at hM hT
    have hF : footV (.slice (some ⟨g, 0, none⟩) l.length c) = some g := by
      unfold footV
      cases c with
      | zero => omega
      | succ c => rfl
    refine ⟨_, _, _, ρ, _, h, fun _ _ q => q, rfl, ⟨[], rfl, rfl⟩, hC.inPlace ho hx ⟨_, c, rfl, hn, fun k hk => rfl, .inr ⟨g, _, rfl, hB, hS, hnc, hc0, hcm, by simpa [putCells] using hcs, by rw [Nat.mul_one, hM]; exact hT⟩⟩ (by rw [hF]; exact hG), ⟨hG.os, hG.tape, hG.output, hG.size, fun k hk => hG.block k (by have := hC.le; omega) (fun e => by injection e with e; omega)⟩, fun k D hk => ?_⟩
    rw [hG.block k (Array.getElem?_eq_some_iff.1 hk).1 (fun e => by injection e with e; subst e; rw [hgc] at hk; cases hk)]
    exact hk
end Go.Proofs.Ytjjepkklaagmmaa.V

/- What the middle of prices is. -/
namespace Go.Proofs.Ytjjepkklaagmmaa
open Go Go.RowKit V
set_option maxRecDepth 100000
set_option linter.unusedVariables false
set_option linter.unusedSimpArgs false
set_option maxHeartbeats 4000000
theorem v_cpBad (p : Int) : V.Fn Try.prog 30 [] [.one (.val (.int .i64 p))] (.bool (decide (¬ P.Ok p))) := by
  have h1 : P.Ok p → P.chk p = 0 := P.chk_yes
  have h2 : ¬ P.Ok p → P.chk p = 3 := P.chk_no
  have c := v_pcheck p
  generalize P.chk p = c at *
  refine V.Fn.mk_ V.Tok V.mixed Try.func30 rfl Try.ntmps30 (by kernel_rfl) rfl rfl ?_
  repeat' ((conv => whnf); first | refine V.NCond.mk ?_ | refine V.NIf.not_ ?_ | refine V.NIf.dec_ ?_ | refine V.NIf.no (by omega) ?_ | refine V.NIf.yes (by omega) ?_ | refine V.NIf.mk (fun _ => ?_) (fun _ => ?_) | refine V.NWrap.ok (by omega) (by omega) ?_ | refine V.NWrap.u64 (by omega) (by omega) ?_ | refine V.NLt.mk (by omega) ?_ | refine V.NBoth.mk ?_ ?_ | refine V.NTF.yes (by omega) ?_ | refine V.NTF.no (by omega) ?_ | refine V.NTF.dec ?_ | refine V.NDraw.q (by exact rfl) (by kernel_rfl) ?_ | refine V.NApp.one (by first | omega | (simp; omega)) (by first | omega | (simp; omega)) ?_ | (first | refine V.Fn.k0 (c) rfl ?_ | refine V.Fn.q0 (c) rfl ?_ | refine V.Fn.a0 (c) rfl ?_) | (refine V.NDraw.any (by kernel_rfl) ?_) | fail)
  all_goals (conv => whnf)
  exact ⟨_, rfl, by rw [decide_eq_true_eq]; exact ⟨fun q z => q (h1 z), fun q z => by have := h2 q; omega⟩⟩
theorem v_cpHas (l : List Int) (hn : l.length ≤ 9223372036854775807) : V.Fn Try.prog 29 [.arr 1 l.length (ga e1 l)] [.one (.ref 0), .one (.clo 30 [])] (.bool (decide (¬ ∀ s ∈ l, P.Ok s))) := by
  have h := ixf_cases (fun s => decide (¬ P.Ok s)) l
  have q : (ixf (fun s => decide (¬ P.Ok s)) l = -1 ∧ ∀ s ∈ l, P.Ok s) ∨ (0 ≤ ixf (fun s => decide (¬ P.Ok s)) l ∧ ¬ ∀ s ∈ l, P.Ok s) := by
    rcases h with ⟨e, a⟩ | ⟨k, e, hk, a, _⟩
    · exact .inl ⟨e, fun s hs => by simpa using a s hs⟩
    · exact .inr ⟨by omega, fun z => of_decide_eq_true a (z _ (getD_mem hk))⟩
  refine V.Fn.mk_ V.Tok V.mixed Try.func29 rfl Try.ntmps29 (by kernel_rfl) rfl rfl ?_
  repeat' ((conv => whnf); first | refine V.NCond.mk ?_ | refine V.NIf.not_ ?_ | refine V.NIf.dec_ ?_ | refine V.NIf.no (by omega) ?_ | refine V.NIf.yes (by omega) ?_ | refine V.NIf.mk (fun _ => ?_) (fun _ => ?_) | refine V.NWrap.ok (by omega) (by omega) ?_ | refine V.NWrap.u64 (by omega) (by omega) ?_ | refine V.NLt.mk (by omega) ?_ | refine V.NBoth.mk ?_ ?_ | refine V.NTF.yes (by omega) ?_ | refine V.NTF.no (by omega) ?_ | refine V.NTF.dec ?_ | refine V.NDraw.q (by exact rfl) (by kernel_rfl) ?_ | refine V.NApp.one (by first | omega | (simp; omega)) (by first | omega | (simp; omega)) ?_ | ((first | refine V.Fn.k (v_indexI l 30 (fun s => decide (¬ P.Ok s)) hn (fun k _ => v_cpBad _)) [0] rfl ?_ ?_ | refine V.Fn.q (v_indexI l 30 (fun s => decide (¬ P.Ok s)) hn (fun k _ => v_cpBad _)) [0] rfl ?_ ?_ | refine V.Fn.a (v_indexI l 30 (fun s => decide (¬ P.Ok s)) hn (fun k _ => v_cpBad _)) [0] rfl ?_ ?_); · ((repeat' (first | exact rfl | exact Iff.rfl | exact trivial | exact (fun _ _ => rfl) | exact (fun _ h => absurd h (Nat.not_lt_zero _)) | refine ⟨?_, ?_⟩ | exact Iff.rfl | exact congrArg (fun z => V.SV.one (V.At.val (Value.int .i64 z))) (by omega))); done)) | (refine V.NDraw.any (by kernel_rfl) ?_) | fail)
  rcases q with ⟨a, b⟩ | ⟨a, b⟩
  · exact ⟨_, rfl, by rw [decide_eq_true_eq]; exact ⟨fun z => absurd z (by omega), fun z => absurd b z⟩⟩
  · exact ⟨_, rfl, by rw [decide_eq_true_eq]; exact ⟨fun _ => b, fun _ => a⟩⟩
theorem v_cpMiddle (l : List Int) (hn : l.length ≤ 9223372036854775807) : V.Fn Try.prog 11 [.arr 1 l.length (ga e1 l)] [.one (.ref 0)] (.tuple #[.int .i64 (Cp.mV l), .int .i64 (Cp.mE l)]) := by
  by_cases h0 : l.length = 0
  · obtain ⟨a, b⟩ := Cp.m_0 h0
    rw [a, b]
    refine V.Fn.mk_ V.Tok V.mixed Try.func11 rfl Try.ntmps11 (by kernel_rfl) rfl rfl ?_
    repeat' ((conv => whnf); first | refine V.NCond.mk ?_ | refine V.NIf.not_ ?_ | refine V.NIf.dec_ ?_ | refine V.NIf.no (by omega) ?_ | refine V.NIf.yes (by omega) ?_ | refine V.NIf.mk (fun _ => ?_) (fun _ => ?_) | refine V.NWrap.ok (by omega) (by omega) ?_ | refine V.NWrap.u64 (by omega) (by omega) ?_ | refine V.NLt.mk (by omega) ?_ | refine V.NBoth.mk ?_ ?_ | refine V.NTF.yes (by omega) ?_ | refine V.NTF.no (by omega) ?_ | refine V.NTF.dec ?_ | refine V.NDraw.q (by exact rfl) (by kernel_rfl) ?_ | refine V.NApp.one (by first | omega | (simp; omega)) (by first | omega | (simp; omega)) ?_ | (refine V.NDraw.any (by kernel_rfl) ?_) | fail)
    all_goals (conv => whnf)
    exact V.fin2 ⟨rfl, rfl⟩
  by_cases h1 : 40 < l.length
  · obtain ⟨a, b⟩ := Cp.m_many h1
    rw [a, b]
    refine V.Fn.mk_ V.Tok V.mixed Try.func11 rfl Try.ntmps11 (by kernel_rfl) rfl rfl ?_
    repeat' ((conv => whnf); first | refine V.NCond.mk ?_ | refine V.NIf.not_ ?_ | refine V.NIf.dec_ ?_ | refine V.NIf.no (by omega) ?_ | refine V.NIf.yes (by omega) ?_ | refine V.NIf.mk (fun _ => ?_) (fun _ => ?_) | refine V.NWrap.ok (by omega) (by omega) ?_ | refine V.NWrap.u64 (by omega) (by omega) ?_ | refine V.NLt.mk (by omega) ?_ | refine V.NBoth.mk ?_ ?_ | refine V.NTF.yes (by omega) ?_ | refine V.NTF.no (by omega) ?_ | refine V.NTF.dec ?_ | refine V.NDraw.q (by exact rfl) (by kernel_rfl) ?_ | refine V.NApp.one (by first | omega | (simp; omega)) (by first | omega | (simp; omega)) ?_ | (refine V.NDraw.any (by kernel_rfl) ?_) | fail)
    all_goals (conv => whnf)
    exact V.fin2 ⟨rfl, rfl⟩
  have c1 := v_cpHas l hn
  by_cases h2 : ∀ p ∈ l, P.Ok p
  · obtain ⟨a, b⟩ := Cp.m_yes h0 (by omega) h2
    rw [a, b]
    rw [show decide (¬ ∀ s ∈ l, P.Ok s) = false from decide_eq_false (fun z => z h2)] at c1
    refine V.Fn.mk_ V.Tok V.mixed Try.func11 rfl Try.ntmps11 (by kernel_rfl) rfl rfl ?_
    repeat' ((conv => whnf); first | (refine V.NIf.yes ?_ ?_; · (decide; done)) | (refine V.NIf.no ?_ ?_; · (decide; done)) | refine V.NCond.mk ?_ | refine V.NIf.not_ ?_ | refine V.NIf.dec_ ?_ | refine V.NIf.no (by omega) ?_ | refine V.NIf.yes (by omega) ?_ | refine V.NIf.mk (fun _ => ?_) (fun _ => ?_) | refine V.NWrap.ok (by omega) (by omega) ?_ | refine V.NWrap.u64 (by omega) (by omega) ?_ | refine V.NLt.mk (by omega) ?_ | refine V.NBoth.mk ?_ ?_ | refine V.NTF.yes (by omega) ?_ | refine V.NTF.no (by omega) ?_ | refine V.NTF.dec ?_ | refine V.NDraw.q (by exact rfl) (by kernel_rfl) ?_ | refine V.NApp.one (by first | omega | (simp; omega)) (by first | omega | (simp; omega)) ?_ | ((first | refine V.Fn.k (c1) [0] rfl ?_ ?_ | refine V.Fn.q (c1) [0] rfl ?_ ?_ | refine V.Fn.a (c1) [0] rfl ?_ ?_); · ((repeat' (first | exact rfl | exact Iff.rfl | exact trivial | exact (fun _ _ => rfl) | exact (fun _ h => absurd h (Nat.not_lt_zero _)) | refine ⟨?_, ?_⟩ | exact Iff.rfl | exact congrArg (fun z => V.SV.one (V.At.val (Value.int .i64 z))) (by omega))); done)) | (refine NCall.nilr_ 0 3 1 rfl ?_) | (refine V.NCall.inl (f := 33) V.Tok V.mixed Try.func33 rfl Try.ntmps33 (by kernel_rfl) rfl ?_) | (refine V.NCall.inl (f := 32) V.Tok V.mixed Try.func32 rfl Try.ntmps32 (by kernel_rfl) rfl ?_) | (refine V.NCall.inl (f := 59) V.Tok V.mixed Try.func59 rfl Try.ntmps59 (by kernel_rfl) rfl ?_) | (refine V.NCall.inl (f := 80) V.Tok V.mixed Try.func80 rfl Try.ntmps80 (by kernel_rfl) rfl ?_) | (refine V.NRange.inl V.Tok V.mixed Try.func61 rfl Try.ntmps61 (by kernel_rfl) [2] [4] ?_; (conv => whnf); refine V.NIs.mk rfl ?_; (conv => whnf); intro L hL) | (refine V.NDraw.any (by kernel_rfl) ?_) | fail)
    all_goals (conv => whnf)
    refine V.NLoop.auto (fun (k : Nat) => [(7, .one (.val (.int .i64 k)))]) (fun (k : Nat) => [(8, .row 3 1 (l.take k).length (ga e1 (l.take k))), (5, .box 24 [.ref 8])]) [] [] (fun (k : Nat) => l.length - k) (fun (k : Nat) => k ≤ l.length) 0 (Nat.zero_le _) (by repeat' (first | exact rfl | exact Iff.rfl | exact trivial | exact (fun _ _ => rfl) | exact (fun _ h => absurd h (Nat.not_lt_zero _)) | refine ⟨?_, ?_⟩ | exact Iff.rfl | exact congrArg (fun z => V.SV.one (V.At.val (Value.int .i64 z))) (by omega))) (by repeat' (first | exact rfl | exact Iff.rfl | exact trivial | exact (fun _ _ => rfl) | exact (fun _ h => absurd h (Nat.not_lt_zero _)) | refine ⟨?_, ?_⟩ | exact Iff.rfl | exact congrArg (fun z => V.SV.one (V.At.val (Value.int .i64 z))) (by omega))) (fun _ => ⟨rfl, rfl⟩) ?_; (conv => whnf); refine ⟨⟨rfl, rfl⟩, ?_⟩
    rintro k hk
    have tl : (l.take k).length = k := by rw [List.length_take]; omega
    by_cases hlt : k < l.length
    · have sn : l.take (k + 1) = l.take k ++ [l.getD k default] := by rw [List.take_succ_eq_append_getElem hlt, ← getD_at hlt]
      repeat' ((conv => whnf); first | (refine NApp.one (en := e1) (l := l.take k) (x := l.getD k default) (by simp; omega) (by simp; omega) ?_) | refine V.NCond.mk ?_ | refine V.NIf.not_ ?_ | refine V.NIf.dec_ ?_ | refine V.NIf.no (by omega) ?_ | refine V.NIf.yes (by omega) ?_ | refine V.NIf.mk (fun _ => ?_) (fun _ => ?_) | refine V.NWrap.ok (by omega) (by omega) ?_ | refine V.NWrap.u64 (by omega) (by omega) ?_ | refine V.NLt.mk (by omega) ?_ | refine V.NBoth.mk ?_ ?_ | refine V.NTF.yes (by omega) ?_ | refine V.NTF.no (by omega) ?_ | refine V.NTF.dec ?_ | refine V.NDraw.q (by exact rfl) (by kernel_rfl) ?_ | refine V.NApp.one (by first | omega | (simp; omega)) (by first | omega | (simp; omega)) ?_ | (refine NIdx.mk ⟨k, rfl, by omega, ?_⟩) | (refine V.NYield.mk_ V.Tok V.mixed hL rfl rfl ?_) | (refine V.NDraw.any (by kernel_rfl) ?_) | fail)
      all_goals (conv => whnf)
      exact V.NBack.at_ (k + 1) [(8, 10)] (by omega) (by omega) (by repeat' (first | exact rfl | exact Iff.rfl | exact trivial | exact (fun _ _ => rfl) | exact (fun _ h => absurd h (Nat.not_lt_zero _)) | refine ⟨?_, ?_⟩ | exact Iff.rfl | exact congrArg (fun z => V.SV.one (V.At.val (Value.int .i64 z))) (by omega))) rfl ⟨ObLe.as_ sn, rfl, trivial⟩ (by repeat' (first | exact rfl | exact Iff.rfl | exact trivial | exact (fun _ _ => rfl) | exact (fun _ h => absurd h (Nat.not_lt_zero _)) | refine ⟨?_, ?_⟩ | exact Iff.rfl | exact congrArg (fun z => V.SV.one (V.At.val (Value.int .i64 z))) (by omega))) (by repeat' (first | exact rfl | exact Iff.rfl | exact trivial | exact (fun _ _ => rfl) | exact (fun _ h => absurd h (Nat.not_lt_zero _)) | refine ⟨?_, ?_⟩ | exact Iff.rfl | exact congrArg (fun z => V.SV.one (V.At.val (Value.int .i64 z))) (by omega)))
    · obtain rfl : k = l.length := by omega
      rw [List.take_length]
      repeat' ((conv => whnf); first | refine V.NCond.mk ?_ | refine V.NIf.not_ ?_ | refine V.NIf.dec_ ?_ | refine V.NIf.no (by omega) ?_ | refine V.NIf.yes (by omega) ?_ | refine V.NIf.mk (fun _ => ?_) (fun _ => ?_) | refine V.NWrap.ok (by omega) (by omega) ?_ | refine V.NWrap.u64 (by omega) (by omega) ?_ | refine V.NLt.mk (by omega) ?_ | refine V.NBoth.mk ?_ ?_ | refine V.NTF.yes (by omega) ?_ | refine V.NTF.no (by omega) ?_ | refine V.NTF.dec ?_ | refine V.NDraw.q (by exact rfl) (by kernel_rfl) ?_ | refine V.NApp.one (by first | omega | (simp; omega)) (by first | omega | (simp; omega)) ?_ | (refine NCall.sortI 8 l rfl (fun _ _ => rfl) (by omega) ?_) | (refine NQuo.pos (by omega) (by omega) (by omega) ?_; intro z hz hz0 hz1) | (refine NIdx.mk ⟨(l.length - 1) / 2, by omega, by omega, ?_⟩) | (refine V.NDraw.any (by kernel_rfl) ?_) | fail)
      all_goals (conv => whnf)
      exact V.fin2 ⟨rfl, rfl⟩
  · obtain ⟨a, b⟩ := Cp.m_bad h0 (by omega) h2
    rw [a, b]
    rw [show decide (¬ ∀ s ∈ l, P.Ok s) = true from decide_eq_true h2] at c1
    refine V.Fn.mk_ V.Tok V.mixed Try.func11 rfl Try.ntmps11 (by kernel_rfl) rfl rfl ?_
    repeat' ((conv => whnf); first | (refine V.NIf.yes ?_ ?_; · (decide; done)) | (refine V.NIf.no ?_ ?_; · (decide; done)) | refine V.NCond.mk ?_ | refine V.NIf.not_ ?_ | refine V.NIf.dec_ ?_ | refine V.NIf.no (by omega) ?_ | refine V.NIf.yes (by omega) ?_ | refine V.NIf.mk (fun _ => ?_) (fun _ => ?_) | refine V.NWrap.ok (by omega) (by omega) ?_ | refine V.NWrap.u64 (by omega) (by omega) ?_ | refine V.NLt.mk (by omega) ?_ | refine V.NBoth.mk ?_ ?_ | refine V.NTF.yes (by omega) ?_ | refine V.NTF.no (by omega) ?_ | refine V.NTF.dec ?_ | refine V.NDraw.q (by exact rfl) (by kernel_rfl) ?_ | refine V.NApp.one (by first | omega | (simp; omega)) (by first | omega | (simp; omega)) ?_ | ((first | refine V.Fn.k (c1) [0] rfl ?_ ?_ | refine V.Fn.q (c1) [0] rfl ?_ ?_ | refine V.Fn.a (c1) [0] rfl ?_ ?_); · ((repeat' (first | exact rfl | exact Iff.rfl | exact trivial | exact (fun _ _ => rfl) | exact (fun _ h => absurd h (Nat.not_lt_zero _)) | refine ⟨?_, ?_⟩ | exact Iff.rfl | exact congrArg (fun z => V.SV.one (V.At.val (Value.int .i64 z))) (by omega))); done)) | (refine V.NDraw.any (by kernel_rfl) ?_) | fail)
    all_goals (conv => whnf)
    exact V.fin2 ⟨rfl, rfl⟩
theorem v_rcpMiddle (l : List Int) (hn : l.length ≤ 9223372036854775807) : V.Fn Try.prog 15 [.arr 1 l.length (ga e1 l)] [.one (.ref 0)] (.tuple #[.int .i64 (Cp.mV l), .int .i64 (Cp.mE l)]) := by
  by_cases h0 : l.length = 0
  · obtain ⟨a, b⟩ := Cp.m_0 h0
    rw [a, b]
    refine V.Fn.mk_ V.Tok V.mixed Try.func15 rfl Try.ntmps15 (by kernel_rfl) rfl rfl ?_
    repeat' ((conv => whnf); first | refine V.NCond.mk ?_ | refine V.NIf.not_ ?_ | refine V.NIf.dec_ ?_ | refine V.NIf.no (by omega) ?_ | refine V.NIf.yes (by omega) ?_ | refine V.NIf.mk (fun _ => ?_) (fun _ => ?_) | refine V.NWrap.ok (by omega) (by omega) ?_ | refine V.NWrap.u64 (by omega) (by omega) ?_ | refine V.NLt.mk (by omega) ?_ | refine V.NBoth.mk ?_ ?_ | refine V.NTF.yes (by omega) ?_ | refine V.NTF.no (by omega) ?_ | refine V.NTF.dec ?_ | refine V.NDraw.q (by exact rfl) (by kernel_rfl) ?_ | refine V.NApp.one (by first | omega | (simp; omega)) (by first | omega | (simp; omega)) ?_ | (refine V.NDraw.any (by kernel_rfl) ?_) | fail)
    all_goals (conv => whnf)
    exact V.fin2 ⟨rfl, rfl⟩
  by_cases h1 : 40 < l.length
  · obtain ⟨a, b⟩ := Cp.m_many h1
    rw [a, b]
    refine V.Fn.mk_ V.Tok V.mixed Try.func15 rfl Try.ntmps15 (by kernel_rfl) rfl rfl ?_
    repeat' ((conv => whnf); first | refine V.NCond.mk ?_ | refine V.NIf.not_ ?_ | refine V.NIf.dec_ ?_ | refine V.NIf.no (by omega) ?_ | refine V.NIf.yes (by omega) ?_ | refine V.NIf.mk (fun _ => ?_) (fun _ => ?_) | refine V.NWrap.ok (by omega) (by omega) ?_ | refine V.NWrap.u64 (by omega) (by omega) ?_ | refine V.NLt.mk (by omega) ?_ | refine V.NBoth.mk ?_ ?_ | refine V.NTF.yes (by omega) ?_ | refine V.NTF.no (by omega) ?_ | refine V.NTF.dec ?_ | refine V.NDraw.q (by exact rfl) (by kernel_rfl) ?_ | refine V.NApp.one (by first | omega | (simp; omega)) (by first | omega | (simp; omega)) ?_ | (refine V.NDraw.any (by kernel_rfl) ?_) | fail)
    all_goals (conv => whnf)
    exact V.fin2 ⟨rfl, rfl⟩
  have my := fun h => Cp.m_yes h0 (show l.length ≤ 40 by omega) h
  have mb := fun h => Cp.m_bad h0 (show l.length ≤ 40 by omega) h
  have ne : l ≠ [] := fun z => h0 (by rw [z]; rfl)
  refine V.Fn.mk_ V.Tok V.mixed Try.func15 rfl Try.ntmps15 (by kernel_rfl) rfl rfl ?_
  repeat' ((conv => whnf); first | refine V.NCond.mk ?_ | refine V.NIf.not_ ?_ | refine V.NIf.dec_ ?_ | refine V.NIf.no (by omega) ?_ | refine V.NIf.yes (by omega) ?_ | refine V.NIf.mk (fun _ => ?_) (fun _ => ?_) | refine V.NWrap.ok (by omega) (by omega) ?_ | refine V.NWrap.u64 (by omega) (by omega) ?_ | refine V.NLt.mk (by omega) ?_ | refine V.NBoth.mk ?_ ?_ | refine V.NTF.yes (by omega) ?_ | refine V.NTF.no (by omega) ?_ | refine V.NTF.dec ?_ | refine V.NDraw.q (by exact rfl) (by kernel_rfl) ?_ | refine V.NApp.one (by first | omega | (simp; omega)) (by first | omega | (simp; omega)) ?_ | (refine V.NDraw.any (by kernel_rfl) ?_) | fail)
  all_goals (conv => whnf)
  refine V.NLoop.auto (fun (k : Nat) => [(4, .one (.val (.int .i64 k)))]) (fun (k : Nat) => []) [] [] (fun (k : Nat) => l.length - k) (fun (k : Nat) => k ≤ l.length ∧ ∀ p ∈ l.take k, P.Ok p) 0 ⟨Nat.zero_le _, by simp⟩ (by repeat' (first | exact rfl | exact Iff.rfl | exact trivial | exact (fun _ _ => rfl) | exact (fun _ h => absurd h (Nat.not_lt_zero _)) | refine ⟨?_, ?_⟩ | exact Iff.rfl | exact congrArg (fun z => V.SV.one (V.At.val (Value.int .i64 z))) (by omega))) (by repeat' (first | exact rfl | exact Iff.rfl | exact trivial | exact (fun _ _ => rfl) | exact (fun _ h => absurd h (Nat.not_lt_zero _)) | refine ⟨?_, ?_⟩ | exact Iff.rfl | exact congrArg (fun z => V.SV.one (V.At.val (Value.int .i64 z))) (by omega))) (fun _ => ⟨rfl, rfl⟩) ?_; (conv => whnf); refine ⟨⟨rfl, rfl⟩, ?_⟩
  rintro k ⟨hk, hJ⟩
  by_cases hlt : k < l.length
  · have c := v_rpcheck (l.getD k default)
    by_cases ok : P.Ok (l.getD k default)
    · rw [P.chk_yes ok] at c
      repeat' ((conv => whnf); first | (refine V.NIf.yes ?_ ?_; · (decide; done)) | (refine V.NIf.no ?_ ?_; · (decide; done)) | refine V.NCond.mk ?_ | refine V.NIf.not_ ?_ | refine V.NIf.dec_ ?_ | refine V.NIf.no (by omega) ?_ | refine V.NIf.yes (by omega) ?_ | refine V.NIf.mk (fun _ => ?_) (fun _ => ?_) | refine V.NWrap.ok (by omega) (by omega) ?_ | refine V.NWrap.u64 (by omega) (by omega) ?_ | refine V.NLt.mk (by omega) ?_ | refine V.NBoth.mk ?_ ?_ | refine V.NTF.yes (by omega) ?_ | refine V.NTF.no (by omega) ?_ | refine V.NTF.dec ?_ | refine V.NDraw.q (by exact rfl) (by kernel_rfl) ?_ | refine V.NApp.one (by first | omega | (simp; omega)) (by first | omega | (simp; omega)) ?_ | (refine NIdx.mk ⟨k, rfl, by omega, ?_⟩) | (first | refine V.Fn.k0 (c) rfl ?_ | refine V.Fn.q0 (c) rfl ?_ | refine V.Fn.a0 (c) rfl ?_) | (refine V.NDraw.any (by kernel_rfl) ?_) | fail)
      all_goals (conv => whnf)
      exact V.NBack.at_ (k + 1) [] ⟨by omega, all_snoc hlt hJ ok⟩ (by omega) (by repeat' (first | exact rfl | exact Iff.rfl | exact trivial | exact (fun _ _ => rfl) | exact (fun _ h => absurd h (Nat.not_lt_zero _)) | refine ⟨?_, ?_⟩ | exact Iff.rfl | exact congrArg (fun z => V.SV.one (V.At.val (Value.int .i64 z))) (by omega))) rfl (by repeat' (first | exact rfl | exact Iff.rfl | exact trivial | exact (fun _ _ => rfl) | exact (fun _ h => absurd h (Nat.not_lt_zero _)) | refine ⟨?_, ?_⟩ | exact Iff.rfl | exact congrArg (fun z => V.SV.one (V.At.val (Value.int .i64 z))) (by omega))) (by repeat' (first | exact rfl | exact Iff.rfl | exact trivial | exact (fun _ _ => rfl) | exact (fun _ h => absurd h (Nat.not_lt_zero _)) | refine ⟨?_, ?_⟩ | exact Iff.rfl | exact congrArg (fun z => V.SV.one (V.At.val (Value.int .i64 z))) (by omega))) (by repeat' (first | exact rfl | exact Iff.rfl | exact trivial | exact (fun _ _ => rfl) | exact (fun _ h => absurd h (Nat.not_lt_zero _)) | refine ⟨?_, ?_⟩ | exact Iff.rfl | exact congrArg (fun z => V.SV.one (V.At.val (Value.int .i64 z))) (by omega)))
    · rw [P.chk_no ok] at c
      obtain ⟨a, b⟩ := mb fun z => ok (z _ (getD_mem hlt))
      repeat' ((conv => whnf); first | (refine V.NIf.yes ?_ ?_; · (decide; done)) | (refine V.NIf.no ?_ ?_; · (decide; done)) | refine V.NCond.mk ?_ | refine V.NIf.not_ ?_ | refine V.NIf.dec_ ?_ | refine V.NIf.no (by omega) ?_ | refine V.NIf.yes (by omega) ?_ | refine V.NIf.mk (fun _ => ?_) (fun _ => ?_) | refine V.NWrap.ok (by omega) (by omega) ?_ | refine V.NWrap.u64 (by omega) (by omega) ?_ | refine V.NLt.mk (by omega) ?_ | refine V.NBoth.mk ?_ ?_ | refine V.NTF.yes (by omega) ?_ | refine V.NTF.no (by omega) ?_ | refine V.NTF.dec ?_ | refine V.NDraw.q (by exact rfl) (by kernel_rfl) ?_ | refine V.NApp.one (by first | omega | (simp; omega)) (by first | omega | (simp; omega)) ?_ | (refine NIdx.mk ⟨k, rfl, by omega, ?_⟩) | (first | refine V.Fn.k0 (c) rfl ?_ | refine V.Fn.q0 (c) rfl ?_ | refine V.Fn.a0 (c) rfl ?_) | (refine V.NDraw.any (by kernel_rfl) ?_) | fail)
      all_goals (conv => whnf)
      exact V.fin2 ⟨b, a⟩
  · obtain ⟨a, b⟩ := my (all_whole (by omega) hJ)
    clear hJ my mb
    rw [a, b]
    repeat' ((conv => whnf); first | refine V.NCond.mk ?_ | refine V.NIf.not_ ?_ | refine V.NIf.dec_ ?_ | refine V.NIf.no (by omega) ?_ | refine V.NIf.yes (by omega) ?_ | refine V.NIf.mk (fun _ => ?_) (fun _ => ?_) | refine V.NWrap.ok (by omega) (by omega) ?_ | refine V.NWrap.u64 (by omega) (by omega) ?_ | refine V.NLt.mk (by omega) ?_ | refine V.NBoth.mk ?_ ?_ | refine V.NTF.yes (by omega) ?_ | refine V.NTF.no (by omega) ?_ | refine V.NTF.dec ?_ | refine V.NDraw.q (by exact rfl) (by kernel_rfl) ?_ | refine V.NApp.one (by first | omega | (simp; omega)) (by first | omega | (simp; omega)) ?_ | (refine V.NDraw.any (by kernel_rfl) ?_) | fail)
    all_goals (conv => whnf)
    refine V.NLoop.auto (fun (s : Nat × Int) => [(6, .one (.val (.int .i64 s.1))), (5, .one (.val (.int .i64 s.2)))]) (fun (s : Nat × Int) => []) [] [] (fun (s : Nat × Int) => l.length - s.1) (fun (s : Nat × Int) => s.1 ≤ l.length ∧ (s.2 = Cp.med l ∨ (s.2 = 0 ∧ ∀ j, j < s.1 → Cp.rk l j ≠ (l.length - 1) / 2))) (0, 0) ⟨Nat.zero_le _, .inr ⟨rfl, fun j h => absurd h (Nat.not_lt_zero _)⟩⟩ (by repeat' (first | exact rfl | exact Iff.rfl | exact trivial | exact (fun _ _ => rfl) | exact (fun _ h => absurd h (Nat.not_lt_zero _)) | refine ⟨?_, ?_⟩ | exact Iff.rfl | exact congrArg (fun z => V.SV.one (V.At.val (Value.int .i64 z))) (by omega))) (by repeat' (first | exact rfl | exact Iff.rfl | exact trivial | exact (fun _ _ => rfl) | exact (fun _ h => absurd h (Nat.not_lt_zero _)) | refine ⟨?_, ?_⟩ | exact Iff.rfl | exact congrArg (fun z => V.SV.one (V.At.val (Value.int .i64 z))) (by omega))) (fun _ => ⟨rfl, rfl⟩) ?_; (conv => whnf); refine ⟨⟨rfl, rfl⟩, ?_⟩
    rintro s ⟨hs, hJ⟩
    generalize s.1 = i at *
    generalize s.2 = o at *
    by_cases hi : i < l.length
    · have hm := fun h => Cp.rk_med hi h
      have e0 := Cp.ah_0 l i
      have ee := Cp.ah_end hi
      repeat' ((conv => whnf); first | refine V.NCond.mk ?_ | refine V.NIf.not_ ?_ | refine V.NIf.dec_ ?_ | refine V.NIf.no (by omega) ?_ | refine V.NIf.yes (by omega) ?_ | refine V.NIf.mk (fun _ => ?_) (fun _ => ?_) | refine V.NWrap.ok (by omega) (by omega) ?_ | refine V.NWrap.u64 (by omega) (by omega) ?_ | refine V.NLt.mk (by omega) ?_ | refine V.NBoth.mk ?_ ?_ | refine V.NTF.yes (by omega) ?_ | refine V.NTF.no (by omega) ?_ | refine V.NTF.dec ?_ | refine V.NDraw.q (by exact rfl) (by kernel_rfl) ?_ | refine V.NApp.one (by first | omega | (simp; omega)) (by first | omega | (simp; omega)) ?_ | (refine V.NDraw.any (by kernel_rfl) ?_) | fail)
      all_goals (conv => whnf)
      refine V.NLoop.auto (fun (k : Nat) => [(7, .one (.val (.int .i64 (Cp.ah l i k)))), (8, .one (.val (.int .i64 k)))]) (fun (k : Nat) => []) [] [] (fun (k : Nat) => l.length - k) (fun (k : Nat) => k ≤ l.length) 0 (Nat.zero_le _) (by repeat' (first | exact rfl | exact Iff.rfl | exact trivial | exact (fun _ _ => rfl) | exact (fun _ h => absurd h (Nat.not_lt_zero _)) | refine ⟨?_, ?_⟩ | exact Iff.rfl | exact congrArg (fun z => V.SV.one (V.At.val (Value.int .i64 z))) (by omega))) (by repeat' (first | exact rfl | exact Iff.rfl | exact trivial | exact (fun _ _ => rfl) | exact (fun _ h => absurd h (Nat.not_lt_zero _)) | refine ⟨?_, ?_⟩ | exact Iff.rfl | exact congrArg (fun z => V.SV.one (V.At.val (Value.int .i64 z))) (by omega))) (fun _ => ⟨rfl, rfl⟩) ?_; (conv => whnf); refine ⟨⟨rfl, rfl⟩, ?_⟩
      rintro k hk
      have al := Cp.ah_le l i k
      by_cases hlt : k < l.length
      · have y := fun h => Cp.ah_yes hi hlt h
        have n := fun h => Cp.ah_no hi hlt h
        repeat' ((conv => whnf); first | refine V.NCond.mk ?_ | refine V.NIf.not_ ?_ | refine V.NIf.dec_ ?_ | refine V.NIf.no (by omega) ?_ | refine V.NIf.yes (by omega) ?_ | refine V.NIf.mk (fun _ => ?_) (fun _ => ?_) | refine V.NWrap.ok (by omega) (by omega) ?_ | refine V.NWrap.u64 (by omega) (by omega) ?_ | refine V.NLt.mk (by omega) ?_ | refine V.NBoth.mk ?_ ?_ | refine V.NTF.yes (by omega) ?_ | refine V.NTF.no (by omega) ?_ | refine V.NTF.dec ?_ | refine V.NDraw.q (by exact rfl) (by kernel_rfl) ?_ | refine V.NApp.one (by first | omega | (simp; omega)) (by first | omega | (simp; omega)) ?_ | (refine NIdx.mk ⟨k, rfl, by omega, ?_⟩) | (refine NIdx.mk ⟨i, rfl, by omega, ?_⟩) | (refine V.NDraw.any (by kernel_rfl) ?_) | fail)
        all_goals (conv => whnf)
        all_goals first
          | exact V.NBack.at_ (k + 1) [] (by omega) (by omega) (by repeat' (first | exact rfl | exact Iff.rfl | exact trivial | exact (fun _ _ => rfl) | exact (fun _ h => absurd h (Nat.not_lt_zero _)) | refine ⟨?_, ?_⟩ | exact Iff.rfl | exact congrArg (fun z => V.SV.one (V.At.val (Value.int .i64 z))) (by omega))) rfl (by repeat' (first | exact rfl | exact Iff.rfl | exact trivial | exact (fun _ _ => rfl) | exact (fun _ h => absurd h (Nat.not_lt_zero _)) | refine ⟨?_, ?_⟩ | exact Iff.rfl | exact congrArg (fun z => V.SV.one (V.At.val (Value.int .i64 z))) (by omega))) (by repeat' (first | exact rfl | exact Iff.rfl | exact trivial | exact (fun _ _ => rfl) | exact (fun _ h => absurd h (Nat.not_lt_zero _)) | refine ⟨?_, ?_⟩ | exact Iff.rfl | exact congrArg (fun z => V.SV.one (V.At.val (Value.int .i64 z))) (by omega))) (by repeat' (first | exact rfl | exact Iff.rfl | exact trivial | exact (fun _ _ => rfl) | exact (fun _ h => absurd h (Nat.not_lt_zero _)) | refine ⟨?_, ?_⟩ | exact Iff.rfl | exact congrArg (fun z => V.SV.one (V.At.val (Value.int .i64 z))) (by omega)))
          | trace_state
      · obtain rfl : k = l.length := by omega
        rw [ee]
        repeat' ((conv => whnf); first | refine V.NCond.mk ?_ | refine V.NIf.not_ ?_ | refine V.NIf.dec_ ?_ | refine V.NIf.no (by omega) ?_ | refine V.NIf.yes (by omega) ?_ | refine V.NIf.mk (fun _ => ?_) (fun _ => ?_) | refine V.NWrap.ok (by omega) (by omega) ?_ | refine V.NWrap.u64 (by omega) (by omega) ?_ | refine V.NLt.mk (by omega) ?_ | refine V.NBoth.mk ?_ ?_ | refine V.NTF.yes (by omega) ?_ | refine V.NTF.no (by omega) ?_ | refine V.NTF.dec ?_ | refine V.NDraw.q (by exact rfl) (by kernel_rfl) ?_ | refine V.NApp.one (by first | omega | (simp; omega)) (by first | omega | (simp; omega)) ?_ | (refine NIdx.mk ⟨i, rfl, by omega, ?_⟩) | (refine NQuo.pos (by omega) (by omega) (by omega) ?_; intro z hz hz0 hz1) | (refine V.NDraw.any (by kernel_rfl) ?_) | fail)
        all_goals (conv => whnf)
        all_goals first
          | exact V.NBack.at_ (i + 1, l.getD i default) [] ⟨by dsimp only; omega, .inl (hm (by omega)).symm⟩ (by dsimp only; omega) (by repeat' (first | exact rfl | exact Iff.rfl | exact trivial | exact (fun _ _ => rfl) | exact (fun _ h => absurd h (Nat.not_lt_zero _)) | refine ⟨?_, ?_⟩ | exact Iff.rfl | exact congrArg (fun z => V.SV.one (V.At.val (Value.int .i64 z))) (by omega))) rfl (by repeat' (first | exact rfl | exact Iff.rfl | exact trivial | exact (fun _ _ => rfl) | exact (fun _ h => absurd h (Nat.not_lt_zero _)) | refine ⟨?_, ?_⟩ | exact Iff.rfl | exact congrArg (fun z => V.SV.one (V.At.val (Value.int .i64 z))) (by omega))) (by repeat' (first | exact rfl | exact Iff.rfl | exact trivial | exact (fun _ _ => rfl) | exact (fun _ h => absurd h (Nat.not_lt_zero _)) | refine ⟨?_, ?_⟩ | exact Iff.rfl | exact congrArg (fun z => V.SV.one (V.At.val (Value.int .i64 z))) (by omega))) (by repeat' (first | exact rfl | exact Iff.rfl | exact trivial | exact (fun _ _ => rfl) | exact (fun _ h => absurd h (Nat.not_lt_zero _)) | refine ⟨?_, ?_⟩ | exact Iff.rfl | exact congrArg (fun z => V.SV.one (V.At.val (Value.int .i64 z))) (by omega)))
          | exact V.NBack.at_ (i + 1, o) [] ⟨by dsimp only; omega, hJ.imp id fun q => ⟨q.1, fun j hj => (show j < i ∨ j = i by dsimp only at hj; omega).elim (q.2 j) fun e => by rw [e]; omega⟩⟩ (by dsimp only; omega) (by repeat' (first | exact rfl | exact Iff.rfl | exact trivial | exact (fun _ _ => rfl) | exact (fun _ h => absurd h (Nat.not_lt_zero _)) | refine ⟨?_, ?_⟩ | exact Iff.rfl | exact congrArg (fun z => V.SV.one (V.At.val (Value.int .i64 z))) (by omega))) rfl (by repeat' (first | exact rfl | exact Iff.rfl | exact trivial | exact (fun _ _ => rfl) | exact (fun _ h => absurd h (Nat.not_lt_zero _)) | refine ⟨?_, ?_⟩ | exact Iff.rfl | exact congrArg (fun z => V.SV.one (V.At.val (Value.int .i64 z))) (by omega))) (by repeat' (first | exact rfl | exact Iff.rfl | exact trivial | exact (fun _ _ => rfl) | exact (fun _ h => absurd h (Nat.not_lt_zero _)) | refine ⟨?_, ?_⟩ | exact Iff.rfl | exact congrArg (fun z => V.SV.one (V.At.val (Value.int .i64 z))) (by omega))) (by repeat' (first | exact rfl | exact Iff.rfl | exact trivial | exact (fun _ _ => rfl) | exact (fun _ h => absurd h (Nat.not_lt_zero _)) | refine ⟨?_, ?_⟩ | exact Iff.rfl | exact congrArg (fun z => V.SV.one (V.At.val (Value.int .i64 z))) (by omega)))
          | trace_state
    · obtain ⟨j, h1, h2⟩ := Cp.rk_ex ne
      have e : o = Cp.med l := hJ.resolve_right fun q => q.2 j (by omega) h2
      rw [e]
      repeat' ((conv => whnf); first | refine V.NCond.mk ?_ | refine V.NIf.not_ ?_ | refine V.NIf.dec_ ?_ | refine V.NIf.no (by omega) ?_ | refine V.NIf.yes (by omega) ?_ | refine V.NIf.mk (fun _ => ?_) (fun _ => ?_) | refine V.NWrap.ok (by omega) (by omega) ?_ | refine V.NWrap.u64 (by omega) (by omega) ?_ | refine V.NLt.mk (by omega) ?_ | refine V.NBoth.mk ?_ ?_ | refine V.NTF.yes (by omega) ?_ | refine V.NTF.no (by omega) ?_ | refine V.NTF.dec ?_ | refine V.NDraw.q (by exact rfl) (by kernel_rfl) ?_ | refine V.NApp.one (by first | omega | (simp; omega)) (by first | omega | (simp; omega)) ?_ | (refine V.NDraw.any (by kernel_rfl) ?_) | fail)
      all_goals (conv => whnf)
      exact V.fin2 ⟨rfl, rfl⟩
end Go.Proofs.Ytjjepkklaagmmaa

/- The laws' own helper. -/
namespace Go.Proofs.Ytjjepkklaagmmaa
open Go Go.RowKit V
set_option maxRecDepth 100000
namespace F
def s0 : Fl := ⟨7, 1, 2, 0, 3, 739935, 100, 0, 0, 0⟩
def l1 : List Fl := [s0]
end F
theorem v_some : V.Fn Try.prog 39 [] [] (.agg #[.int .i64 (F.s0).id, .int .i64 (F.s0).fr, .int .i64 (F.s0).to, .int .i64 (F.s0).cl, .int .i64 (F.s0).pa, .int .i64 (F.s0).day, .int .i64 (F.s0).un, .int .i64 (F.s0).de, .int .i64 (F.s0).bo, .int .i64 (F.s0).pd]) := by
  refine V.Fn.mk_ V.Tok V.mixed Try.func39 rfl Try.ntmps39 (by kernel_rfl) rfl rfl ?_
  repeat' ((conv => whnf); first | refine V.NCond.mk ?_ | refine V.NIf.not_ ?_ | refine V.NIf.dec_ ?_ | refine V.NIf.no (by omega) ?_ | refine V.NIf.yes (by omega) ?_ | refine V.NIf.mk (fun _ => ?_) (fun _ => ?_) | refine V.NWrap.ok (by omega) (by omega) ?_ | refine V.NWrap.u64 (by omega) (by omega) ?_ | refine V.NLt.mk (by omega) ?_ | refine V.NBoth.mk ?_ ?_ | refine V.NTF.yes (by omega) ?_ | refine V.NTF.no (by omega) ?_ | refine V.NTF.dec ?_ | refine V.NDraw.q (by exact rfl) (by kernel_rfl) ?_ | refine V.NApp.one (by first | omega | (simp; omega)) (by first | omega | (simp; omega)) ?_ | (refine V.NDraw.any (by kernel_rfl) ?_) | fail)
  exact (by repeat' (first | exact rfl | exact Iff.rfl | exact trivial | exact (fun _ _ => rfl) | exact (fun _ h => absurd h (Nat.not_lt_zero _)) | refine ⟨?_, ?_⟩ | exact Iff.rfl | exact congrArg (fun z => V.SV.one (V.At.val (Value.int .i64 z))) (by omega)))
theorem v_fbegun : V.Fn Try.prog 20 [] [] (.bool true) := by
  refine V.Fn.mk_ V.Tok V.mixed Try.func20 rfl Try.ntmps20 (by kernel_rfl) rfl rfl ?_
  repeat' ((conv => whnf); first | (refine V.NIf.yes (by rfl) ?_) | refine V.NCond.mk ?_ | refine V.NIf.not_ ?_ | refine V.NIf.dec_ ?_ | refine V.NIf.no (by omega) ?_ | refine V.NIf.yes (by omega) ?_ | refine V.NIf.mk (fun _ => ?_) (fun _ => ?_) | refine V.NWrap.ok (by omega) (by omega) ?_ | refine V.NWrap.u64 (by omega) (by omega) ?_ | refine V.NLt.mk (by omega) ?_ | refine V.NBoth.mk ?_ ?_ | refine V.NTF.yes (by omega) ?_ | refine V.NTF.no (by omega) ?_ | refine V.NTF.dec ?_ | refine V.NDraw.q (by exact rfl) (by kernel_rfl) ?_ | refine V.NApp.one (by first | omega | (simp; omega)) (by first | omega | (simp; omega)) ?_ | (first | refine V.Fn.k0 (v_some) rfl ?_ | refine V.Fn.q0 (v_some) rfl ?_ | refine V.Fn.a0 (v_some) rfl ?_) | (first | refine V.Fn.k0 (v_deliver F.s0 30) rfl ?_ | refine V.Fn.q0 (v_deliver F.s0 30) rfl ?_ | refine V.Fn.a0 (v_deliver F.s0 30) rfl ?_) | (first | refine V.Fn.k0 (v_deliver _ _) rfl ?_ | refine V.Fn.q0 (v_deliver _ _) rfl ?_ | refine V.Fn.a0 (v_deliver _ _) rfl ?_) | (first | refine V.Fn.k0 (v_buy _ _) rfl ?_ | refine V.Fn.q0 (v_buy _ _) rfl ?_ | refine V.Fn.a0 (v_buy _ _) rfl ?_) | (first | refine V.Fn.k0 (v_pay _) rfl ?_ | refine V.Fn.q0 (v_pay _) rfl ?_ | refine V.Fn.a0 (v_pay _) rfl ?_) | (first | refine V.Fn.k0 (v_open _) rfl ?_ | refine V.Fn.q0 (v_open _) rfl ?_ | refine V.Fn.a0 (v_open _) rfl ?_) | ((first | refine V.Fn.k (v_ffind [F.s0] 7) [_] rfl ?_ ?_ | refine V.Fn.q (v_ffind [F.s0] 7) [_] rfl ?_ ?_ | refine V.Fn.a (v_ffind [F.s0] 7) [_] rfl ?_ ?_); · ((repeat' (first | exact rfl | exact Iff.rfl | exact trivial | exact (fun _ _ => rfl) | exact (fun _ h => absurd h (Nat.not_lt_zero _)) | refine ⟨?_, ?_⟩ | exact Iff.rfl | exact congrArg (fun z => V.SV.one (V.At.val (Value.int .i64 z))) (by omega))); done)) | (first | refine V.Fn.k0 (v_fcheck F.zero) rfl ?_ | refine V.Fn.q0 (v_fcheck F.zero) rfl ?_ | refine V.Fn.a0 (v_fcheck F.zero) rfl ?_) | ((first | refine V.Fn.k (v_fchecks [F.deliver F.s0 30, F.buy (F.deliver F.s0 30) 50]) [_] rfl ?_ ?_ | refine V.Fn.q (v_fchecks [F.deliver F.s0 30, F.buy (F.deliver F.s0 30) 50]) [_] rfl ?_ ?_ | refine V.Fn.a (v_fchecks [F.deliver F.s0 30, F.buy (F.deliver F.s0 30) 50]) [_] rfl ?_ ?_); · ((repeat' (first | exact rfl | exact Iff.rfl | exact trivial | exact (fun _ _ => rfl) | exact (fun _ h => absurd h (Nat.not_lt_zero _)) | refine ⟨?_, ?_⟩ | exact Iff.rfl | exact congrArg (fun z => V.SV.one (V.At.val (Value.int .i64 z))) (by omega))); done)) | (refine V.NDraw.any (by kernel_rfl) ?_) | fail)
  exact ⟨_, rfl, by simp; rfl⟩
end Go.Proofs.Ytjjepkklaagmmaa

/- Plain facts on lots. -/
namespace Go.Proofs.Ytjjepkklaagmmaa
open Go
structure Lt where
  day : Int
  un : Int
  co : Int
instance : Inhabited Lt := ⟨⟨0, 0, 0⟩⟩
def encL (l : Lt) : List Go.Value := [.int .i64 l.day, .int .i64 l.un, .int .i64 l.co]
end Go.Proofs.Ytjjepkklaagmmaa

/- Are two lists one? -/
namespace Go.Proofs.Ytjjepkklaagmmaa
open Go Go.RowKit V
set_option maxRecDepth 100000
set_option linter.unusedVariables false
instance : DecidableEq Du := fun x y => decidable_of_iff (x.fr = y.fr ∧ x.to = y.to ∧ x.am = y.am) ⟨fun h => by cases x; cases y; simp_all, fun h => by subst h; simp⟩
theorem Du_ne {x y : Du} (h : ¬ (x.fr = y.fr ∧ x.to = y.to ∧ x.am = y.am ∧ True)) : x ≠ y := fun e => by subst e; exact h (by simp)
theorem Du_eq {x y : Du} (h : x.fr = y.fr ∧ x.to = y.to ∧ x.am = y.am ∧ True) : x = y := by cases x; cases y; simp_all
instance : DecidableEq Po := fun x y => decidable_of_iff (x.ac = y.ac ∧ x.ut = y.ut ∧ x.am = y.am) ⟨fun h => by cases x; cases y; simp_all, fun h => by subst h; simp⟩
theorem Po_ne {x y : Po} (h : ¬ (x.ac = y.ac ∧ x.ut = y.ut ∧ x.am = y.am ∧ True)) : x ≠ y := fun e => by subst e; exact h (by simp)
theorem Po_eq {x y : Po} (h : x.ac = y.ac ∧ x.ut = y.ut ∧ x.am = y.am ∧ True) : x = y := by cases x; cases y; simp_all
theorem v_sameposts (a b : List Po) (ha : a.length ≤ 9223372036854775807) : V.Fn Try.prog 18 [.arr 3 a.length (ga encP a), .arr 3 b.length (ga encP b)] [.one (.ref 0), .one (.ref 1)] (.bool (decide (a = b))) := by
  refine V.Fn.mk_ V.Tok V.mixed Try.func18 rfl Try.ntmps18 (by kernel_rfl) rfl rfl ?_
  repeat' ((conv => whnf); first | refine V.NCond.mk ?_ | refine V.NIf.not_ ?_ | refine V.NIf.dec_ ?_ | refine V.NIf.no (by omega) ?_ | refine V.NIf.yes (by omega) ?_ | refine V.NIf.mk (fun _ => ?_) (fun _ => ?_) | refine V.NWrap.ok (by omega) (by omega) ?_ | refine V.NWrap.u64 (by omega) (by omega) ?_ | refine V.NLt.mk (by omega) ?_ | refine V.NBoth.mk ?_ ?_ | refine V.NTF.yes (by omega) ?_ | refine V.NTF.no (by omega) ?_ | refine V.NTF.dec ?_ | refine V.NDraw.q (by exact rfl) (by kernel_rfl) ?_ | refine V.NApp.one (by first | omega | (simp; omega)) (by first | omega | (simp; omega)) ?_ | (refine V.NDraw.any (by kernel_rfl) ?_) | fail)
  rotate_left
  · exact congrArg Value.bool (decide_eq_false (by rintro rfl; omega)).symm
  (conv => whnf)
  rename_i hl
  have hl : a.length = b.length := by omega
  refine V.NLoop.auto (fun (k : Nat) => [(5, .one (.val (.int .i64 k)))]) (fun (k : Nat) => []) [] [] (fun (k : Nat) => a.length - k) (fun (k : Nat) => k ≤ a.length ∧ a.take k = b.take k) 0 ⟨by omega, by simp⟩ (by repeat' (first | exact rfl | exact Iff.rfl | exact trivial | exact (fun _ _ => rfl) | exact (fun _ h => absurd h (Nat.not_lt_zero _)) | refine ⟨?_, ?_⟩ | exact Iff.rfl | exact congrArg (fun z => V.SV.one (V.At.val (Value.int .i64 z))) (by omega))) (by repeat' (first | exact rfl | exact Iff.rfl | exact trivial | exact (fun _ _ => rfl) | exact (fun _ h => absurd h (Nat.not_lt_zero _)) | refine ⟨?_, ?_⟩ | exact Iff.rfl | exact congrArg (fun z => V.SV.one (V.At.val (Value.int .i64 z))) (by omega))) (fun _ => ⟨rfl, rfl⟩) ?_; (conv => whnf); refine ⟨⟨rfl, rfl⟩, ?_⟩
  rintro k ⟨hk, hJ⟩
  by_cases hlt : k < a.length
  · have e1 := getD_at (l := a) (by omega)
    have e2 := getD_at (l := b) (k := k) (by omega)
    repeat' ((conv => whnf); first | refine V.NCond.mk ?_ | refine V.NIf.not_ ?_ | refine V.NIf.dec_ ?_ | refine V.NIf.no (by omega) ?_ | refine V.NIf.yes (by omega) ?_ | refine V.NIf.mk (fun _ => ?_) (fun _ => ?_) | refine V.NWrap.ok (by omega) (by omega) ?_ | refine V.NWrap.u64 (by omega) (by omega) ?_ | refine V.NLt.mk (by omega) ?_ | refine V.NBoth.mk ?_ ?_ | refine V.NTF.yes (by omega) ?_ | refine V.NTF.no (by omega) ?_ | refine V.NTF.dec ?_ | refine V.NDraw.q (by exact rfl) (by kernel_rfl) ?_ | refine V.NApp.one (by first | omega | (simp; omega)) (by first | omega | (simp; omega)) ?_ | (refine NIdx.mk ⟨k, rfl, by omega, ?_⟩) | (refine V.NDraw.any (by kernel_rfl) ?_) | fail)
    all_goals (conv => whnf)
    · rename_i q
      exact V.NBack.at_ (k + 1) [] ⟨by omega, by rw [List.take_succ_eq_append_getElem hlt, List.take_succ_eq_append_getElem (by omega), hJ, ← e1, ← e2, Po_eq q]⟩ (by omega) (by repeat' (first | exact rfl | exact Iff.rfl | exact trivial | exact (fun _ _ => rfl) | exact (fun _ h => absurd h (Nat.not_lt_zero _)) | refine ⟨?_, ?_⟩ | exact Iff.rfl | exact congrArg (fun z => V.SV.one (V.At.val (Value.int .i64 z))) (by omega))) rfl (by repeat' (first | exact rfl | exact Iff.rfl | exact trivial | exact (fun _ _ => rfl) | exact (fun _ h => absurd h (Nat.not_lt_zero _)) | refine ⟨?_, ?_⟩ | exact Iff.rfl | exact congrArg (fun z => V.SV.one (V.At.val (Value.int .i64 z))) (by omega))) (by repeat' (first | exact rfl | exact Iff.rfl | exact trivial | exact (fun _ _ => rfl) | exact (fun _ h => absurd h (Nat.not_lt_zero _)) | refine ⟨?_, ?_⟩ | exact Iff.rfl | exact congrArg (fun z => V.SV.one (V.At.val (Value.int .i64 z))) (by omega))) (by repeat' (first | exact rfl | exact Iff.rfl | exact trivial | exact (fun _ _ => rfl) | exact (fun _ h => absurd h (Nat.not_lt_zero _)) | refine ⟨?_, ?_⟩ | exact Iff.rfl | exact congrArg (fun z => V.SV.one (V.At.val (Value.int .i64 z))) (by omega)))
    · rename_i q
      exact congrArg Value.bool (decide_eq_false (by rintro rfl; exact Po_ne q rfl)).symm
  · obtain rfl : k = a.length := by omega
    repeat' ((conv => whnf); first | refine V.NCond.mk ?_ | refine V.NIf.not_ ?_ | refine V.NIf.dec_ ?_ | refine V.NIf.no (by omega) ?_ | refine V.NIf.yes (by omega) ?_ | refine V.NIf.mk (fun _ => ?_) (fun _ => ?_) | refine V.NWrap.ok (by omega) (by omega) ?_ | refine V.NWrap.u64 (by omega) (by omega) ?_ | refine V.NLt.mk (by omega) ?_ | refine V.NBoth.mk ?_ ?_ | refine V.NTF.yes (by omega) ?_ | refine V.NTF.no (by omega) ?_ | refine V.NTF.dec ?_ | refine V.NDraw.q (by exact rfl) (by kernel_rfl) ?_ | refine V.NApp.one (by first | omega | (simp; omega)) (by first | omega | (simp; omega)) ?_ | (refine V.NDraw.any (by kernel_rfl) ?_) | fail)
    (conv => whnf)
    refine congrArg Value.bool (decide_eq_true ?_).symm
    rw [List.take_length, List.take_of_length_le (by omega)] at hJ
    exact hJ
instance : DecidableEq Fl := fun x y => decidable_of_iff (x.id = y.id ∧ x.fr = y.fr ∧ x.to = y.to ∧ x.cl = y.cl ∧ x.pa = y.pa ∧ x.day = y.day ∧ x.un = y.un ∧ x.de = y.de ∧ x.bo = y.bo ∧ x.pd = y.pd) ⟨fun h => by cases x; cases y; simp_all, fun h => by subst h; simp⟩
theorem Fl_ne {x y : Fl} (h : ¬ (x.id = y.id ∧ x.fr = y.fr ∧ x.to = y.to ∧ x.cl = y.cl ∧ x.pa = y.pa ∧ x.day = y.day ∧ x.un = y.un ∧ x.de = y.de ∧ x.bo = y.bo ∧ x.pd = y.pd ∧ True)) : x ≠ y := fun e => by subst e; exact h (by simp)
theorem Fl_eq {x y : Fl} (h : x.id = y.id ∧ x.fr = y.fr ∧ x.to = y.to ∧ x.cl = y.cl ∧ x.pa = y.pa ∧ x.day = y.day ∧ x.un = y.un ∧ x.de = y.de ∧ x.bo = y.bo ∧ x.pd = y.pd ∧ True) : x = y := by cases x; cases y; simp_all
instance : DecidableEq Lt := fun x y => decidable_of_iff (x.day = y.day ∧ x.un = y.un ∧ x.co = y.co) ⟨fun h => by cases x; cases y; simp_all, fun h => by subst h; simp⟩
theorem Lt_ne {x y : Lt} (h : ¬ (x.day = y.day ∧ x.un = y.un ∧ x.co = y.co ∧ True)) : x ≠ y := fun e => by subst e; exact h (by simp)
theorem Lt_eq {x y : Lt} (h : x.day = y.day ∧ x.un = y.un ∧ x.co = y.co ∧ True) : x = y := by cases x; cases y; simp_all
end Go.Proofs.Ytjjepkklaagmmaa

/- Functions that write a row that is handed to them (and nothing else): contracts, also for those that call themselves. The row is object 0; whatever other objects there are stand behind it, untouched. -/
namespace Go.Proofs.Ytjjepkklaagmmaa.V
open Go Go.RowKit
set_option linter.unusedVariables false
set_option linter.unusedSimpArgs false
/-- entries for object 0 alone -/
def allz : Obs → Bool
  | [] => true
  | (i, _) :: r => Nat.beq i 0 && allz r
theorem fnd_allz : ∀ {L O : Obs} {i : Nat}, allz L = true → i ≠ 0 → fnd (L ++ O) i = fnd O i
  | [], O, i, _, _ => rfl
  | (j, o) :: r, O, i, h, hi => by
    unfold allz at h
    simp only [Bool.and_eq_true] at h
    have hj := Nat.eq_of_beq_eq_true h.1
    subst hj
    have : Nat.beq 0 i = false := by
      cases hb : Nat.beq 0 i
      · rfl
      · exact absurd (Nat.eq_of_beq_eq_true hb).symm hi
    have ih := fnd_allz (O := O) h.2 hi
    refine Eq.trans ?_ ih
    show fnd ((0, o) :: (r ++ O)) i = _
    conv => lhs; unfold fnd
    rw [this]
theorem fnd_app0 : ∀ {L O : Obs} {i : Nat} {o : Ob}, fnd L i = some o → fnd (L ++ O) i = some o
  | [], O, i, o, h => by cases h
  | (j, u) :: r, O, i, o, h => by
    show fnd ((j, u) :: (r ++ O)) i = some o
    unfold fnd at h ⊢
    cases hb : Nat.beq j i <;> rw [hb] at h
    · exact fnd_app0 h
    · exact h
/-- no object 0, and none twice -/
def onceB : Obs → Bool
  | [] => true
  | (i, _) :: r => (match fnd r i with | none => true | some _ => false) && !Nat.beq i 0 && onceB r
/-- the objects behind the row -/
structure Tail (nx : Nat) (O : Obs) : Prop where
  b : obsB nx O = true
  s : ∀ L : Obs, allz L = true → ObsLe (sgm []) (L ++ O) O
theorem once_le {L : Obs} (hL : allz L = true) {A : Obs} : ∀ {O : Obs}, onceB O = true → (∀ i o, fnd O i = some o → fnd A i = some o) → ObsLe (sgm []) (L ++ A) O
  | [], _, _ => trivial
  | (i, o) :: r, h, e => by
    unfold onceB at h
    simp only [Bool.and_eq_true, Bool.not_eq_true'] at h
    obtain ⟨⟨h1, h2⟩, h3⟩ := h
    have hi : i ≠ 0 := fun q => by subst q; rw [Nat.beq_refl] at h2; cases h2
    refine ⟨?_, once_le hL h3 fun j u hj => ?_⟩
    · have t : fnd ((i, o) :: r) i = some o := fnd_top
      have := e i o t
      rw [← fnd_allz (L := L) hL hi] at this
      exact fndK_of this (by rw [renO_nil]; exact ObLe.refl o)
    · refine e j u ?_
      have hne : j ≠ i := fun q => by subst q; rw [hj] at h1; cases h1
      exact fndK_skip hne hj
theorem Tail.of {nx : Nat} {O : Obs} (h1 : obsB nx O = true) (h2 : onceB O = true) : Tail nx O := ⟨h1, fun L hL => once_le hL h2 fun _ _ q => q⟩
theorem Tail.row {nx : Nat} {O L : Obs} (h : Tail nx O) {t s n : Nat} {g g' : Nat → List Value} (hL : allz L = true) (hr : fnd L 0 = some (.row t s n g)) (e : ∀ k, k < n → g k = g' k) : ObsLe (sgm []) (L ++ O) ((0, .row t s n g') :: O) :=
  ⟨fndK_of (fnd_app0 hr) ⟨rfl, rfl, rfl, e⟩, h.s L hL⟩
theorem Tail.bz {nx : Nat} {O : Obs} (h : Tail (nx + 1) O) (t s n : Nat) (g : Nat → List Value) : obsB (nx + 1) ((0, .row t s n g) :: O) = true := by
  have := h.b
  unfold obsB at this ⊢
  rw [List.all_cons, this]
  rfl
/-- the end: the row holds g, of which Q is told -/
structure FEnd (t s n nx : Nat) (O : Obs) (Q : (Nat → List Value) → Prop) (v : SV) (obs : Obs) (nx' : Nat) : Prop where
  h : v = .tup [] ∧ nx' = nx ∧ ∃ L g, obs = L ++ O ∧ allz L = true ∧ fnd L 0 = some (.row t s n g) ∧ Q g
structure FOne (t s n nx : Nat) (O : Obs) (Q : (Nat → List Value) → Prop) (v : SV) (obs : Obs) (nx' : Nat) : Prop where
  h : v = .tup [] ∧ nx' = nx ∧ ∃ g, obs = (0, .row t s n g) :: O ∧ Q g
/-- A CONTRACT of a function that writes the row that is object 0: Q is told of what the row holds then -/
def Fam (P : Program) (f : FuncId) (args : List SV) (t s n : Nat) (get : Nat → List Value) (nx : Nat) (O : Obs) (Q : (Nat → List Value) → Prop) : Prop :=
  NCall P f args ((0, .row t s n get) :: O) (nx + 1) (FOne t s n (nx + 1) O Q)
theorem NCall.mono {P : Program} {f : FuncId} {args : List SV} {obs : Obs} {nx : Nat} {K K' : SV → Obs → Nat → Prop} (h : NCall P f args obs nx K) (m : ∀ v o n, K v o n → K' v o n) : NCall P f args obs nx K' :=
  ⟨h.b, fun B ρ w xs hC ha => (h.h B ρ w xs hC ha).mono fun e w' ⟨v, o, n, ρ', x, hK, r⟩ => ⟨v, o, n, ρ', x, m _ _ _ hK, r⟩⟩
theorem cut_id {B nx : Nat} {ρ : Rho} {obs : Obs} {w : World} (hC : Cls B ρ obs nx w) : cut nx (via (sgm []) ρ) = ρ := by
  funext i
  unfold cut via
  by_cases h : i < nx
  · rw [if_pos h]; rfl
  · rw [if_neg h, hC.new i (by omega)]
theorem Fam.mk {P : Program} {f : FuncId} {args : List SV} {t s n nx : Nat} {get : Nat → List Value} {O : Obs} {Q : (Nat → List Value) → Prop} (hT : Tail (nx + 1) O)
    (h : NCall P f args ((0, .row t s n get) :: O) (nx + 1) (FEnd t s n (nx + 1) O Q)) : Fam P f args t s n get nx O Q :=
  ⟨h.b, fun B ρ w xs hC ha => (h.h B ρ w xs hC ha).mono fun e w' ⟨v, o, m, ρ', x, hK, hx, he, hv, hC', hb, ho⟩ => by
    obtain ⟨rfl, rfl, L, g, rfl, hL, hr, hQ⟩ := hK.h
    have c := hC'.head (hT.row hL hr fun _ _ => rfl) (hT.bz t s n g) (injB_id _)
    rw [cut_id hC'] at c
    exact ⟨_, _, _, ρ', x, ⟨rfl, rfl, g, rfl, hQ⟩, hx, he, hv, c, hb, ho⟩⟩
/-- its use within such a function -/
theorem Fam.use {P : Program} {f : FuncId} {args : List SV} {t s n nx : Nat} {get : Nat → List Value} {O : Obs} {Q : (Nat → List Value) → Prop} (h : Fam P f args t s n get nx O Q) (hT : Tail (nx + 1) O) {obs : Obs} (L : Obs) {K : SV → Obs → Nat → Prop} {g : Nat → List Value}
    (ho : obs = L ++ O) (hL : allz L = true) (hr : fnd L 0 = some (.row t s n g)) (e : ∀ k, k < n → g k = get k) (hK : ∀ g', Q g' → K (.tup []) ((0, .row t s n g') :: O) (nx + 1)) : NCall P f args obs (nx + 1) K := by
  subst ho
  refine ⟨h.b, fun B ρ w xs hC ha => ?_⟩
  have c := hC.head (hT.row hL hr e) (hT.bz t s n get) (injB_id _)
  rw [cut_id hC] at c
  refine (h.h B ρ w xs c ha).mono ?_
  rintro e' w' ⟨v, o, m, ρ', x, hK', r⟩
  obtain ⟨rfl, rfl, g', rfl, hQ⟩ := hK'.h
  exact ⟨_, _, _, ρ', x, hK g' hQ, r⟩
/-- a round's end -/
structure FBack {ι : Type} (nx t s n : Nat) (O : Obs) (chg : ι → Env) (base : Env) (get : ι → Nat → List Value) (μ : ι → Nat) (J : ι → Prop) (m : Nat) (env1 : Env) (obs1 : Obs) : Prop where
  h : ∃ i' l, J i' ∧ μ i' < m ∧ pinB (nx + 1) l = true ∧ injB (sgm l) (nx + 1) = true ∧ EnvLe (sgm l) env1 (chg i' ++ base) ∧ ObsLe (sgm l) obs1 ((0, .row t s n (get i')) :: O)
theorem FBack.at_ {ι : Type} {nx t s n : Nat} {O : Obs} {chg : ι → Env} {base : Env} {get : ι → Nat → List Value} {μ : ι → Nat} {J : ι → Prop} {m : Nat} {env1 : Env} {obs1 : Obs} (hT : Tail (nx + 1) O) (i' : ι) (L : Obs) {g : Nat → List Value} (h1 : J i') (h2 : μ i' < m) (h3 : EnvLe (sgm []) env1 (chg i' ++ base))
    (h4 : obs1 = L ++ O) (h5 : allz L = true) (h6 : fnd L 0 = some (.row t s n g)) (h7 : ∀ k, k < n → g k = get i' k) : FBack nx t s n O chg base get μ J m env1 obs1 := by
  subst h4
  exact ⟨⟨i', [], h1, h2, rfl, injB_id _, h3, hT.row h5 h6 h7⟩⟩
/-- a loop -/
theorem NLoop.fam {ws : List Nat} {nx : Nat} {body : Env → Obs → Nat → Kon → Prop} {env : Env} {obs : Obs} {K : Kon} {O : Obs} (hT : Tail (nx + 1) O) {ι : Type} (chg : ι → Env) (base : Env) (t s n : Nat) (get : ι → Nat → List Value) (μ : ι → Nat) (J : ι → Prop) (i0 : ι) (h0 : J i0)
    (L : Obs) {g : Nat → List Value} (ho : obs = L ++ O) (hL : allz L = true) (hr : fnd L 0 = some (.row t s n g)) (e : ∀ k, k < n → g k = get i0 k) (he : EnvLe (sgm []) env (chg i0 ++ base)) (hb : ∀ i, envB (nx + 1) (chg i) = true) (hb2 : envB (nx + 1) base = true)
    (h : ∀ i, J i → body (chg i ++ base) ((0, .row t s n (get i)) :: O) (nx + 1) fun e env1 obs1 nx1 => match e with
      | .nrm => FBack nx t s n O chg base get μ J (μ i) env1 obs1
      | .exit n => K (.exit n) env1 obs1 nx1
      | .ret => K .ret env1 obs1 nx1) : NLoop ws (nx + 1) body env obs (nx + 1) K := by
  subst ho
  refine ⟨⟨ι, fun i => (chg i ++ base, (0, .row t s n (get i)) :: O), μ, J, i0, nx + 1, Nat.le_refl _, h0, injB_id _, he, hT.row hL hr e, fun i => ⟨?_, hT.bz t s n _⟩, fun i hi => ?_⟩⟩
  · simp only [envB, List.all_append, Bool.and_eq_true]; exact ⟨hb i, hb2⟩
  · have := h i hi
    refine cast ?_ this
    congr 1
    funext e env1 obs1 nx1
    cases e
    · apply propext
      constructor
      · rintro ⟨q⟩; exact q
      · intro q; exact ⟨q⟩
    · rfl
    · rfl
theorem Svs.ren_ {σ : Nat → Nat} {ρ : Rho} {nx : Nat} : ∀ {l : List SV} {xs : List Value}, argB nx l = true → Svs ρ (l.map (renS σ)) xs → Svs (V.cut nx (via σ ρ)) l xs
  | [], _, _, h => h
  | v :: l, _, hb, ⟨x, r, e, hv, hr⟩ => by
    unfold argB at hb
    simp only [List.all_cons, Bool.and_eq_true] at hb
    refine ⟨x, r, e, ?_, Svs.ren_ (l := l) (by unfold argB; exact hb.2) hr⟩
    cases v with
    | one a => exact At.is_cut (a := a) hb.1 (SV.is_via (v := .one a) hb.1 hv)
    | agg c =>
      obtain ⟨cs, hc, e⟩ := hv
      exact ⟨cs, hc.via.cut hb.1, e⟩
    | tup l => exact hv.elim
/-- its use by a caller, whose objects bear other numbers: l changes them (and back) -/
theorem Fam.call {P : Program} {f : FuncId} {args : List SV} {t s n nx : Nat} {get : Nat → List Value} {O : Obs} {Q : (Nat → List Value) → Prop} (h : Fam P f args t s n get nx O Q) (hT : Tail (nx + 1) O) {obs : Obs} {args' : List SV} {K : SV → Obs → Nat → Prop} (l : List (Nat × Nat)) (obs2 : (Nat → List Value) → Obs)
    (ha : args' = args.map (renS (sgm l))) (hab : argB (nx + 1) args = true) (hi : injB (sgm l) (nx + 1) = true) (hinv : ∀ i, i < nx + 1 → sgm l i < nx + 1 ∧ sgm l (sgm l i) = i) (ho : ObsLe (sgm l) obs ((0, .row t s n get) :: O)) (hb2 : ∀ g', obsB (nx + 1) (obs2 g') = true)
    (ho2 : ∀ g', ObsLe (sgm l) ((0, .row t s n g') :: O) (obs2 g')) (hK : ∀ g', Q g' → K (.tup []) (obs2 g') (nx + 1)) : NCall P f args' obs (nx + 1) K := by
  subst ha
  refine ⟨h.b, fun B ρ w xs hC hxs => ?_⟩
  have c := hC.head ho (hT.bz t s n get) hi
  refine (h.h B _ w xs c (Svs.ren_ hab hxs)).mono ?_
  rintro e' w' ⟨v, o, m, ρ', x, hK', hx, he, hv, hC', hb, hoth⟩
  obtain ⟨rfl, rfl, g', rfl, hQ⟩ := hK'.h
  have c2 := hC'.head (ho2 g') (hb2 g') hi
  refine ⟨_, _, _, _, x, hK g' hQ, fun i y hy => ?_, he, ?_, c2, hb, hoth⟩
  · have hi' : i < nx + 1 := by
      rcases Nat.lt_or_ge i (nx + 1) with q | q
      · exact q
      · rw [hC.new i q] at hy; cases hy
    obtain ⟨q1, q2⟩ := hinv i hi'
    rw [cut_lt hi']
    refine hx _ _ ?_
    rw [cut_lt q1]
    unfold via
    rw [q2]
    exact hy
  · exact hv
end Go.Proofs.Ytjjepkklaagmmaa.V

/- What the law on money for papers begins with: it is true. -/
namespace Go.Proofs.Ytjjepkklaagmmaa
open Go Go.RowKit V
set_option maxRecDepth 100000
set_option linter.unusedVariables false
set_option linter.unusedSimpArgs false
set_option maxHeartbeats 4000000
namespace Cp
def f1 : Fl := ⟨7, 1, 2, 0, 3, 739935, 100, 0, 0, 100⟩
def p1 : List Po := [⟨1, 0, -1000⟩, ⟨2, 0, 1000⟩]
def m1 : List Int := [9, 2, 5, 7]
theorem bg1 : wE 30 100000 500 = 0 ∧ wV 30 100000 500 = 315 := by decide
theorem bg2 : pE F.s0 100000 0 = 0 ∧ pF F.s0 100000 0 = f1 ∧ pL F.s0 100000 0 = p1 := ⟨by kernel_rfl, by kernel_rfl, by kernel_rfl⟩
theorem bg3 : mE m1 = 0 ∧ mV m1 = 5 := by
  obtain ⟨a, b⟩ := m_yes (l := m1) (by decide) (by decide) (by decide)
  exact ⟨a, b.trans (med_is (by decide) (by decide) (by decide))⟩
theorem bg4 : lE 150 100 2000 = 0 ∧ lV 150 100 2000 = 120 := by decide
theorem bg5 : mE [] = 1 ∧ mV [] = 0 := m_0 rfl
theorem bg6 : pE f1 1 1 = 5 := by kernel_rfl
theorem pL_len (f : Fl) (p x : Int) : (pL f p x).length ≤ 2 := by
  unfold pL
  split
  · simp
  · exact Nat.le_refl _
end Cp
theorem v_cpBegun : V.Fn Try.prog 17 [] [] (.bool true) := by
  have c1 := v_worth 30 100000 500
  have c2 := v_cpPay F.s0 100000 0
  have c3 := v_cpMiddle Cp.m1 (by decide)
  have c4 := v_cpLimit 150 100 2000
  have c5 := v_cpMiddle [] (by decide)
  have c6 := v_cpPay Cp.f1 1 1
  rw [Cp.bg1.1, Cp.bg1.2] at c1
  rw [Cp.bg2.1, Cp.bg2.2.1, Cp.bg2.2.2] at c2
  rw [Cp.bg3.1, Cp.bg3.2] at c3
  rw [Cp.bg4.1, Cp.bg4.2] at c4
  rw [Cp.bg5.1, Cp.bg5.2] at c5
  rw [Cp.bg6] at c6
  have s := v_sameposts Cp.p1 Cp.p1 (by decide)
  rw [decide_eq_true rfl] at s
  refine V.Fn.mk_ V.Tok V.mixed Try.func17 rfl Try.ntmps17 (by kernel_rfl) rfl rfl ?_
  repeat' ((conv => whnf); first | (refine V.NIf.yes ?_ ?_; · (decide; done)) | (refine V.NIf.no ?_ ?_; · (decide; done)) | refine V.NCond.mk ?_ | refine V.NIf.not_ ?_ | refine V.NIf.dec_ ?_ | refine V.NIf.no (by omega) ?_ | refine V.NIf.yes (by omega) ?_ | refine V.NIf.mk (fun _ => ?_) (fun _ => ?_) | refine V.NWrap.ok (by omega) (by omega) ?_ | refine V.NWrap.u64 (by omega) (by omega) ?_ | refine V.NLt.mk (by omega) ?_ | refine V.NBoth.mk ?_ ?_ | refine V.NTF.yes (by omega) ?_ | refine V.NTF.no (by omega) ?_ | refine V.NTF.dec ?_ | refine V.NDraw.q (by exact rfl) (by kernel_rfl) ?_ | refine V.NApp.one (by first | omega | (simp; omega)) (by first | omega | (simp; omega)) ?_ | (first | refine V.Fn.k0 (v_some) rfl ?_ | refine V.Fn.q0 (v_some) rfl ?_ | refine V.Fn.a0 (v_some) rfl ?_) | (first | refine V.Fn.k0 (c1) rfl ?_ | refine V.Fn.q0 (c1) rfl ?_ | refine V.Fn.a0 (c1) rfl ?_) | (first | refine V.FnR.k0 (c2) rfl ?_ | refine V.FnR.a0 (c2) rfl ?_) | ((first | refine V.Fn.k (c3) [_] rfl ?_ ?_ | refine V.Fn.q (c3) [_] rfl ?_ ?_ | refine V.Fn.a (c3) [_] rfl ?_ ?_); · ((repeat' (first | exact rfl | exact Iff.rfl | exact trivial | exact (fun _ _ => rfl) | exact (fun _ h => absurd h (Nat.not_lt_zero _)) | refine ⟨?_, ?_⟩ | exact Iff.rfl | exact congrArg (fun z => V.SV.one (V.At.val (Value.int .i64 z))) (by omega))); done)) | (first | refine V.Fn.k0 (c4) rfl ?_ | refine V.Fn.q0 (c4) rfl ?_ | refine V.Fn.a0 (c4) rfl ?_) | (refine NCall.nil_ 0 1 rfl ?_) | ((first | refine V.Fn.k (c5) [_] rfl ?_ ?_ | refine V.Fn.q (c5) [_] rfl ?_ ?_ | refine V.Fn.a (c5) [_] rfl ?_ ?_); · ((repeat' (first | exact rfl | exact Iff.rfl | exact trivial | exact (fun _ _ => rfl) | exact (fun _ h => absurd h (Nat.not_lt_zero _)) | refine ⟨?_, ?_⟩ | exact Iff.rfl | exact congrArg (fun z => V.SV.one (V.At.val (Value.int .i64 z))) (by omega))); done)) | (first | refine V.FnR.k0 (c6) rfl ?_ | refine V.FnR.a0 (c6) rfl ?_) | ((first | refine V.Fn.k (s) [_, _] rfl ?_ ?_ | refine V.Fn.q (s) [_, _] rfl ?_ ?_ | refine V.Fn.a (s) [_, _] rfl ?_ ?_); · ((repeat' (first | exact rfl | exact Iff.rfl | exact trivial | exact (fun _ _ => rfl) | exact (fun _ h => absurd h (Nat.not_lt_zero _)) | refine ⟨?_, ?_⟩ | exact Iff.rfl | exact congrArg (fun z => V.SV.one (V.At.val (Value.int .i64 z))) (by omega))); done)) | (refine V.NDraw.any (by kernel_rfl) ?_) | fail)
  all_goals (conv => whnf)
  exact ⟨true, rfl, iff_of_true rfl rfl⟩
end Go.Proofs.Ytjjepkklaagmmaa

/- How a fail, and a list of fails, are read off the arguments. -/
namespace Go.Proofs.Ytjjepkklaagmmaa
set_option maxRecDepth 100000
open Go.RowKit Go.ChangeShapes Go.WideShapes Go.Deep V

noncomputable def failFields : Array Field := (match Try.prog.underlying 23 with | some (.struct fs) => fs | _ => #[])
theorem failStruct : Try.prog.underlying 23 = some (.struct failFields) := by kernel_rfl
theorem failOne : oneCellFields Try.prog failFields = true := by kernel_rfl
theorem failSize : failFields.size = 10 := by kernel_rfl
theorem failCells : Try.prog.cellsOf 23 = 10 := by kernel_rfl
theorem failInts : (List.range 10).all (fun j => (failFields[j]?).all (fun f => decide (f.type = 3))) = true := by kernel_rfl
theorem failInt (j : Nat) (f : Field) (h : failFields[j]? = some f) : Try.prog.underlying f.type = some (.int .i64) := by
  have hj : j < 10 := by have := (Array.getElem?_eq_some_iff.1 h).1; rw [failSize] at this; exact this
  have := List.all_eq_true.1 failInts j (List.mem_range.2 hj)
  rw [h] at this
  have e : f.type = 3 := by simpa using this
  rw [e]
  exact Try.underlying3
def WfF (f : Fl) : Prop := ∀ n ∈ [f.id, f.fr, f.to, f.cl, f.pa, f.day, f.un, f.de, f.bo, f.pd], (Lit.int .i64 n).wf = true
theorem fl_of {H : Type} {enc : TypeId × Value → H} {w : World} {base : Nat} {spare : Nat → Bool} {held : Bool} {fuel : Nat} {cs : List Value} {x : DataW H × List MemPlace} (h : DataW.trod enc Try.prog w base spare held fuel 23 cs = some x) :
    ∃ f : Fl, cs = (#[.int .i64 f.id, .int .i64 f.fr, .int .i64 f.to, .int .i64 f.cl, .int .i64 f.pa, .int .i64 f.day, .int .i64 f.un, .int .i64 f.de, .int .i64 f.bo, .int .i64 f.pd] : Array Value).toList ∧ WfF f := by
  obtain ⟨ns, e, hl, wf⟩ := ints_struct failStruct failOne (failCells.trans failSize.symm) failInt h
  rw [failSize] at hl
  match ns, hl with
  | [a, b, c, d, e', f, g, h', i, j], _ => exact ⟨⟨a, b, c, d, e', f, g, h', i, j⟩, by simpa using e, wf⟩
theorem open_fl {H : Type} {enc : TypeId × Value → H} {W : World} {base : Nat} {spare : Nat → Bool} {held : Bool} {r : Reach} {b0 : Nat} {v : Value} {d : DataW H} {p : List MemPlace} (hv : Value.okWide Try.prog W r b0 23 v) (h : DataW.Trod enc Try.prog W base spare held 23 v d p) :
    ∃ f : Fl, v = .agg #[.int .i64 f.id, .int .i64 f.fr, .int .i64 f.to, .int .i64 f.cl, .int .i64 f.pa, .int .i64 f.day, .int .i64 f.un, .int .i64 f.de, .int .i64 f.bo, .int .i64 f.pd] ∧ WfF f := by
  obtain ⟨cs, rfl, _⟩ := okWide_struct failStruct hv
  obtain ⟨fuel, hf⟩ := h
  obtain ⟨f, e, wf⟩ := fl_of hf
  refine ⟨f, ?_, wf⟩
  obtain ⟨l⟩ := cs
  simp only [Value.cells] at e
  subst e
  rfl
theorem open_fls {H : Type} {enc : TypeId × Value → H} {W : World} {base : Nat} {spare : Nat → Bool} {held : Bool} {r : Reach} {b0 : Nat} {v : Value} {d : DataW H} {p : List MemPlace} (hv : Value.okWide Try.prog W r b0 67 v) (h : DataW.Trod enc Try.prog W base spare held 67 v d p) :
    ∃ l : List Fl, ArrIs W v 10 l.length (ga encF l) ∧ ∀ f ∈ l, WfF f :=
  open_list Try.underlying67 failCells (by omega) (fun fuel cs x hx => by
    obtain ⟨f, e, wf⟩ := fl_of hx
    exact ⟨f, e, wf⟩) hv h
end Go.Proofs.Ytjjepkklaagmmaa

/- How a list of numbers is read off an argument. -/
namespace Go.Proofs.Ytjjepkklaagmmaa
set_option maxRecDepth 100000
open Go Go.RowKit Go.ChangeShapes Go.WideShapes Go.Deep V
theorem intCells : Try.prog.cellsOf 3 = 1 := by kernel_rfl
theorem open_il {H : Type} {enc : TypeId × Value → H} {W : World} {base : Nat} {spare : Nat → Bool} {held : Bool} {r : Reach} {b0 : Nat} {v : Value} {d : DataW H} {p : List MemPlace} (hv : Value.okWide Try.prog W r b0 24 v) (h : DataW.Trod enc Try.prog W base spare held 24 v d p) :
    ∃ l : List Int, ArrIs W v 1 l.length (ga e1 l) ∧ ∀ f ∈ l, (Lit.int .i64 f).wf = true :=
  open_ints_ Try.underlying24 Try.underlying3 intCells hv h
end Go.Proofs.Ytjjepkklaagmmaa

/- Plain facts on sorting that keeps the order of equals: blocks that are exchanged, rotations, what two sorted runs become. -/
namespace Go.Proofs.Ytjjepkklaagmmaa
open Go Go.Sort
set_option linter.unusedVariables false
set_option linter.unusedSectionVars false
namespace St
variable {α : Type} [Inhabited α]
/-- n places from a on, and n from b on, are exchanged -/
def Sw (a b n : Nat) (d d' : Array α) : Prop :=
  d'.size = d.size ∧ (∀ k, (k < a ∨ a + n ≤ k) → (k < b ∨ b + n ≤ k) → d'[k]! = d[k]!) ∧ (∀ i, i < n → d'[a + i]! = d[b + i]! ∧ d'[b + i]! = d[a + i]!)
theorem Sw.zero (a b : Nat) (d : Array α) : Sw a b 0 d d := ⟨rfl, fun _ _ _ => rfl, fun i h => absurd h (by omega)⟩
theorem Sw.succ {a b n : Nat} {d d' : Array α} (h : Sw a b n d d') (h1 : a + n + 1 ≤ b) (h2 : b + n < d.size) : Sw a b (n + 1) d (swp d' (a + n) (b + n)) := by
  obtain ⟨s, o, e⟩ := h
  refine ⟨by rw [size_swp, s], fun k k1 k2 => ?_, fun i hi => ?_⟩
  · rw [swp_other _ _ _ _ (by omega) (by omega)]
    exact o k (by omega) (by omega)
  · by_cases z : i = n
    · subst z
      rw [swp_left _ _ _ (by omega) (by omega), swp_right _ _ _ (by omega)]
      exact ⟨o _ (by omega) (by omega), o _ (by omega) (by omega)⟩
    · rw [swp_other _ _ _ _ (by omega) (by omega), swp_other _ _ _ _ (by omega) (by omega)]
      exact e i (by omega)
/-- the places a .. m - 1 go behind the places m .. b - 1 -/
def Rot (a m b : Nat) (d d' : Array α) : Prop :=
  d'.size = d.size ∧ (∀ k, k < a ∨ b ≤ k → d'[k]! = d[k]!) ∧ (∀ k, a ≤ k → k < a + (b - m) → d'[k]! = d[k + (m - a)]!) ∧ (∀ k, a + (b - m) ≤ k → k < b → d'[k]! = d[k - (b - m)]!)
theorem at_eq {d : Array α} {i j : Nat} (h : i = j) : d[i]! = d[j]! := by rw [h]
theorem Sw.left {a b n k : Nat} {d d' : Array α} (h : Sw a b n d d') (h1 : a ≤ k) (h2 : k < a + n) : d'[k]! = d[b + (k - a)]! := by
  have := (h.2.2 (k - a) (by omega)).1
  rwa [show a + (k - a) = k by omega] at this
theorem Sw.right {a b n k : Nat} {d d' : Array α} (h : Sw a b n d d') (h1 : b ≤ k) (h2 : k < b + n) : d'[k]! = d[a + (k - b)]! := by
  have := (h.2.2 (k - b) (by omega)).2
  rwa [show b + (k - b) = k by omega] at this
theorem rot_end {m i : Nat} {d d' : Array α} (hi : i ≤ m) (h : Sw (m - i) m i d d') : Rot (m - i) m (m + i) d d' := by
  refine ⟨h.1, fun k hk => h.2.1 k (by omega) (by omega), fun k h1 h2 => ?_, fun k h1 h2 => ?_⟩
  · rw [h.left h1 (by omega)]
    all_goals exact at_eq (by omega)
  · rw [h.right (by omega) (by omega)]
    all_goals exact at_eq (by omega)
theorem rot_left {m i j : Nat} {d d1 d' : Array α} (hi : i ≤ m) (hj : 0 < j) (hij : j < i) (h : Sw (m - i) m j d d1) (r : Rot (m - (i - j)) m (m + j) d1 d') : Rot (m - i) m (m + j) d d' := by
  obtain ⟨r1, r2, r3, r4⟩ := r
  refine ⟨by rw [r1, h.1], fun k hk => ?_, fun k h1 h2 => ?_, fun k h1 h2 => ?_⟩
  · rw [r2 k (by omega), h.2.1 k (by omega) (by omega)]
  · rw [r2 k (by omega), h.left h1 (by omega)]
    all_goals exact at_eq (by omega)
  · by_cases z : k < m - (i - j) + (m + j - m)
    · rw [r3 k (by omega) z, h.right (by omega) (by omega)]
      all_goals exact at_eq (by omega)
    · rw [r4 k (by omega) (by omega), h.2.1 _ (by omega) (by omega)]
      all_goals exact at_eq (by omega)
theorem rot_right {m i j : Nat} {d d1 d' : Array α} (hi : i ≤ m) (hi0 : 0 < i) (hij : i < j) (h : Sw (m - i) (m + j - i) i d d1) (r : Rot (m - i) m (m + (j - i)) d1 d') : Rot (m - i) m (m + j) d d' := by
  obtain ⟨r1, r2, r3, r4⟩ := r
  refine ⟨by rw [r1, h.1], fun k hk => ?_, fun k h1 h2 => ?_, fun k h1 h2 => ?_⟩
  · rw [r2 k (by omega), h.2.1 k (by omega) (by omega)]
  · by_cases z : k < m - i + (m + (j - i) - m)
    · rw [r3 k h1 z]
      by_cases y : k + (m - (m - i)) < m + j - i
      · rw [h.2.1 _ (by omega) (by omega)]
      · rw [h.right (by omega) (by omega)]; omega
    · rw [r4 k (by omega) (by omega), h.left (by omega) (by omega)]
      all_goals exact at_eq (by omega)
  · rw [r2 k (by omega), h.right (by omega) (by omega)]
    all_goals exact at_eq (by omega)
theorem map_shift (f : Nat → α) (s a n : Nat) : (List.range' a n).map (fun k => f (k + s)) = (List.range' (a + s) n).map f := by
  apply List.ext_getElem
  · simp
  · intro i h1 h2
    simp only [List.getElem_map, List.getElem_range']
    congr 1
    omega
theorem Rot.perm {a m b : Nat} {d d' : Array α} (h : Rot a m b d d') (h1 : a ≤ m) (h2 : m ≤ b) (hb : b ≤ d.size) : PermIn a b d d' := by
  obtain ⟨r1, r2, r3, r4⟩ := h
  refine ⟨r1, r2, ?_⟩
  rw [extract_toList d' a b (by omega), extract_toList d a b hb]
  have e1 : List.range' a (b - a) = List.range' a (b - m) ++ List.range' (a + (b - m)) (m - a) := by
    rw [List.range'_append_1]; congr 1; omega
  have e2 : List.range' a (b - a) = List.range' a (m - a) ++ List.range' m (b - m) := by
    have := List.range'_append_1 (s := a) (m := m - a) (n := b - m)
    rw [show a + (m - a) = m by omega, show m - a + (b - m) = b - a by omega] at this
    exact this.symm
  conv => lhs; rw [e1, List.map_append]
  conv => rhs; rw [e2, List.map_append]
  have f1 : (List.range' a (b - m)).map (fun i => d'[i]!) = (List.range' m (b - m)).map (fun i => d[i]!) := by
    have q := map_shift (fun i => d[i]!) (m - a) a (b - m)
    rw [show a + (m - a) = m by omega] at q
    rw [← q]
    exact List.map_congr_left fun k hk => by
      rw [List.mem_range'_1] at hk
      exact r3 k hk.1 hk.2
  have f2 : (List.range' (a + (b - m)) (m - a)).map (fun i => d'[i]!) = (List.range' a (m - a)).map (fun i => d[i]!) := by
    have q := map_shift (fun i => d'[i]!) (b - m) a (m - a)
    rw [← q]
    exact List.map_congr_left fun k hk => by
      rw [List.mem_range'_1] at hk
      rw [r4 (k + (b - m)) (by omega) (by omega)]
      exact at_eq (by omega)
  rw [f1, f2]
  exact List.perm_append_comm
theorem Rot.refl_l {m b : Nat} {d : Array α} : Rot m m b d d := ⟨rfl, fun _ _ => rfl, fun k h1 h2 => at_eq (by omega), fun k h1 h2 => absurd h1 (by omega)⟩
theorem Rot.refl_r {a m : Nat} {d : Array α} : Rot a m m d d := ⟨rfl, fun _ _ => rfl, fun k h1 h2 => absurd h1 (by omega), fun k h1 h2 => at_eq (by omega)⟩
/-- the first one goes up, step by step -/
theorem Rot.up {a k : Nat} {d d' : Array α} (h : Rot a (a + 1) (k + 1) d d') (h1 : a ≤ k) (h2 : k + 1 < d.size) : Rot a (a + 1) (k + 2) d (swp d' k (k + 1)) := by
  obtain ⟨r1, r2, r3, r4⟩ := h
  refine ⟨by rw [size_swp, r1], fun q hq => ?_, fun q q1 q2 => ?_, fun q q1 q2 => ?_⟩
  · rw [swp_other _ _ _ _ (by omega) (by omega)]
    exact r2 q (by omega)
  · by_cases z : q = k
    · subst z
      rw [swp_left _ _ _ (by omega) (by omega), r2 _ (by omega)]
      exact at_eq (by omega)
    · rw [swp_other _ _ _ _ (by omega) (by omega)]
      exact r3 q q1 (by omega)
  · obtain rfl : q = k + 1 := by omega
    rw [swp_right _ _ _ (by omega)]
    by_cases z : a < k
    · rw [r4 k (by omega) (by omega)]
      exact at_eq (by omega)
    · rw [r4 k (by omega) (by omega)]
      exact at_eq (by omega)
/-- the last one goes down, step by step -/
theorem Rot.down {i k m : Nat} {d d' : Array α} (h : Rot (k + 1) m (m + 1) d d') (h1 : k < m) (h2 : m < d.size) : Rot k m (m + 1) d (swp d' (k + 1) k) := by
  obtain ⟨r1, r2, r3, r4⟩ := h
  refine ⟨by rw [size_swp, r1], fun q hq => ?_, fun q q1 q2 => ?_, fun q q1 q2 => ?_⟩
  · rw [swp_other _ _ _ _ (by omega) (by omega)]
    exact r2 q (by omega)
  · obtain rfl : q = k := by omega
    rw [swp_right _ _ _ (by omega)]
    by_cases z : q + 1 < m
    · rw [r3 (q + 1) (by omega) (by omega)]
      exact at_eq (by omega)
    · rw [r3 (q + 1) (by omega) (by omega)]
      exact at_eq (by omega)
  · by_cases z : q = k + 1
    · subst z
      rw [swp_left _ _ _ (by omega) (by omega), r2 _ (by omega)]
      exact at_eq (by omega)
    · rw [swp_other _ _ _ _ (by omega) (by omega), r4 q (by omega) (by omega)]
/-! two sorted runs -/
variable {lt : α → α → Bool}
theorem Rot.one {a m b i : Nat} {d d' : Array α} (h : Rot a m b d d') (h1 : a ≤ i) (h2 : i < a + (b - m)) : d'[i]! = d[i + (m - a)]! := h.2.2.1 i h1 h2
theorem Rot.two {a m b i : Nat} {d d' : Array α} (h : Rot a m b d d') (h1 : a + (b - m) ≤ i) (h2 : i < b) : d'[i]! = d[i - (b - m)]! := h.2.2.2 i h1 h2
theorem Rot.off {a m b i : Nat} {d d' : Array α} (h : Rot a m b d d') (h1 : i < a ∨ b ≤ i) : d'[i]! = d[i]! := h.2.1 i h1
theorem sle (S : SWO lt) {d : Array α} {lo hi x y : Nat} (h : SortedIn lt lo hi d) (q1 : lo ≤ x) (q2 : x ≤ y) (q3 : y < hi) : lt d[y]! d[x]! = false := by
  rcases Nat.lt_or_ge x y with z | z
  · exact h _ _ q1 z q3
  · obtain rfl : x = y := by omega
    exact S.irrefl _
/-- what stands in the first half, and in the second one, when the middle parts have changed places -/
theorem cross (S : SWO lt) {a s m e b : Nat} {d d1 : Array α} (r : Rot s m e d d1) (asl : a ≤ s) (sm : s ≤ m) (me : m ≤ e) (eb : e ≤ b) (H1 : SortedIn lt a m d) (H2 : SortedIn lt m b d)
    (C1 : a < s → e < b → lt d[e]! d[s - 1]! = false) (C2 : m < e → s < m → lt d[e - 1]! d[s]! = true) :
    ∀ i j, a ≤ i → i < s + (e - m) → s + (e - m) ≤ j → j < b → lt d1[j]! d1[i]! = false := by
  intro i j i1 i2 j1 j2
  have le : ∀ {lo hi x y : Nat}, SortedIn lt lo hi d → lo ≤ x → x ≤ y → y < hi → lt d[y]! d[x]! = false := fun h q1 q2 q3 => sle S h q1 q2 q3
  by_cases i3 : i < s
  · rw [r.off (i := i) (by omega)]
    by_cases j3 : j < e
    · rw [r.two (i := j) j1 j3]
      exact H1 _ _ i1 (by omega) (by omega)
    · rw [r.off (i := j) (by omega)]
      refine S.ntrans _ _ _ (le H2 (x := e) (by omega) (by omega) j2) (S.ntrans _ _ _ (C1 (by omega) (by omega)) (le H1 i1 (by omega) (by omega)))
  · rw [r.one (i := i) (by omega) i2]
    by_cases j3 : j < e
    · rw [r.two (i := j) j1 j3]
      have c := SWO.asymmA S (C2 (by omega) (by omega))
      exact S.ntrans _ _ _ (le H1 (x := s) asl (by omega) (by omega)) (S.ntrans _ _ _ c (le H2 (y := e - 1) (by omega) (by omega) (by omega)))
    · rw [r.off (i := j) (by omega)]
      exact H2 _ _ (by omega) (by omega) j2
/-- and, each half sorted for itself, all is -/
theorem halves {a c b : Nat} {d1 d2 d3 : Array α} (ac : a ≤ c) (cb : c ≤ b) (hb : b ≤ d1.size) (X : ∀ i j, a ≤ i → i < c → c ≤ j → j < b → lt d1[j]! d1[i]! = false)
    (P2 : PermIn a c d1 d2) (S2 : SortedIn lt a c d2) (P3 : PermIn c b d2 d3) (S3 : SortedIn lt c b d3) : PermIn a b d1 d3 ∧ SortedIn lt a b d3 := by
  have z2 : d2.size = d1.size := P2.1
  refine ⟨permIn_trans _ _ _ _ _ (permIn_mono _ _ _ _ a b (Nat.le_refl _) cb (by omega) P2) (permIn_mono _ _ _ _ a b ac (Nat.le_refl _) (by omega) P3), fun i j i1 ij j2 => ?_⟩
  by_cases jc : j < c
  · rw [P3.2.1 j (by omega), P3.2.1 i (by omega)]
    exact S2 i j i1 ij jc
  by_cases ic : c ≤ i
  · exact S3 i j ic ij j2
  · -- i in the first half, j in the second
    have all2 : ∀ j, c ≤ j → j < b → lt d3[j]! d3[i]! = false := by
      rw [P3.2.1 i (by omega)]
      refine permIn_all d2 d3 c b (fun x => lt x d2[i]! = false) (by omega) P3 fun j q1 q2 => ?_
      rw [P2.2.1 j (by omega)]
      refine permIn_all d1 d2 a c (fun x => lt d1[j]! x = false) (by omega) P2 (fun i p1 p2 => X i j p1 p2 q1 q2) i i1 (by omega)
    exact all2 j (by omega) j2
/-- the first one, laid among those behind it -/
theorem caseA (S : SWO lt) {a i b : Nat} {d d' : Array α} (r : Rot a (a + 1) i d d') (i1 : a + 1 ≤ i) (i2 : i ≤ b) (hb : b ≤ d.size) (H2 : SortedIn lt (a + 1) b d) (C1 : i = a + 1 ∨ lt d[i - 1]! d[a]! = true) (C2 : i = b ∨ lt d[i]! d[a]! = false) : PermIn a b d d' ∧ SortedIn lt a b d' := by
  have X := cross S (a := a) (b := b) r (Nat.le_refl _) (by omega) i1 i2 (fun p q h1 h2 h3 => absurd h3 (by omega)) H2 (fun h _ => absurd h (by omega)) (fun h1 _ => C1.resolve_left (by omega))
  have hv := halves (lt := lt) (a := a) (c := a + (i - (a + 1))) (b := b) (by omega) (by omega) (by rw [r.1]; exact hb) X (permIn_refl d' _ _) (fun p q h1 h2 h3 => ?_) (permIn_refl d' _ _) (fun p q h1 h2 h3 => ?_)
  · exact ⟨permIn_mono _ _ _ _ a b (Nat.le_refl _) i2 hb (r.perm (by omega) i1 (by omega)), hv.2⟩
  · rw [r.one (i := p) h1 (by omega), r.one (i := q) (by omega) (by omega)]
    exact H2 _ _ (by omega) (by omega) (by omega)
  · rw [r.off (i := q) (by omega)]
    by_cases z : p < i
    · rw [r.two (i := p) h1 z, at_eq (d := d) (show p - (i - (a + 1)) = a by omega)]
      exact S.ntrans _ _ _ (sle S H2 (x := i) (by omega) (by omega) h3) (C2.resolve_left (by omega))
    · rw [r.off (i := p) (by omega)]
      exact H2 _ _ (by omega) h2 h3
/-- the last one, laid among those ahead of it -/
theorem caseB (S : SWO lt) {a i m : Nat} {d d' : Array α} (r : Rot i m (m + 1) d d') (i1 : a ≤ i) (i2 : i ≤ m) (hb : m + 1 ≤ d.size) (H1 : SortedIn lt a m d) (C1 : i = a ∨ lt d[m]! d[i - 1]! = false) (C2 : i = m ∨ lt d[m]! d[i]! = true) : PermIn a (m + 1) d d' ∧ SortedIn lt a (m + 1) d' := by
  have X := cross S (a := a) (b := m + 1) r i1 i2 (by omega) (Nat.le_refl _) H1 (fun p q h1 h2 h3 => absurd h3 (by omega)) (fun _ h => absurd h (by omega)) (fun _ h2 => by rw [Nat.add_sub_cancel]; exact C2.resolve_left (by omega))
  have hv := halves (lt := lt) (a := a) (c := i + (m + 1 - m)) (b := m + 1) (by omega) (by omega) (by rw [r.1]; exact hb) X (permIn_refl d' _ _) (fun p q h1 h2 h3 => ?_) (permIn_refl d' _ _) (fun p q h1 h2 h3 => ?_)
  · exact ⟨permIn_mono _ _ _ _ a (m + 1) i1 (Nat.le_refl _) hb (r.perm i2 (by omega) hb), hv.2⟩
  · by_cases z : q < i
    · rw [r.off (i := p) (by omega), r.off (i := q) (by omega)]
      exact H1 _ _ h1 h2 (by omega)
    · rw [r.off (i := p) (by omega), r.one (i := q) (by omega) (by omega), at_eq (d := d) (show q + (m - i) = m by omega)]
      exact S.ntrans _ _ _ (C1.resolve_left (by omega)) (sle S H1 h1 (by omega) (by omega))
  · rw [r.two (i := p) (by omega) (by omega), r.two (i := q) (by omega) h3]
    exact H1 _ _ (by omega) (by omega) (by omega)
/-- what stands in the halves behind the rotation is two sorted runs each -/
theorem runs {a s m e b : Nat} {d d1 : Array α} (r : Rot s m e d d1) (asl : a ≤ s) (sm : s ≤ m) (me : m ≤ e) (eb : e ≤ b) (H1 : SortedIn lt a m d) (H2 : SortedIn lt m b d) :
    SortedIn lt a s d1 ∧ SortedIn lt s (s + (e - m)) d1 ∧ SortedIn lt (s + (e - m)) e d1 ∧ SortedIn lt e b d1 := by
  refine ⟨fun p q h1 h2 h3 => ?_, fun p q h1 h2 h3 => ?_, fun p q h1 h2 h3 => ?_, fun p q h1 h2 h3 => ?_⟩
  · rw [r.off (i := p) (by omega), r.off (i := q) (by omega)]
    exact H1 _ _ h1 h2 (by omega)
  · rw [r.one (i := p) h1 (by omega), r.one (i := q) (by omega) h3]
    exact H2 _ _ (by omega) (by omega) (by omega)
  · rw [r.two (i := p) h1 (by omega), r.two (i := q) (by omega) h3]
    exact H1 _ _ (by omega) (by omega) (by omega)
  · rw [r.off (i := p) (by omega), r.off (i := q) (by omega)]
    exact H2 _ _ (by omega) h2 h3
/-- and of each pair of them the test holds -/
theorem tests {a s m e b : Nat} {d d1 : Array α} {p : α → α → Prop} (r : Rot s m e d d1) (asl : a ≤ s) (sm : s ≤ m) (me : m ≤ e) (eb : e ≤ b) (H : ∀ i j, a ≤ i → i < m → m ≤ j → j < b → p d[j]! d[i]!) :
    (∀ i j, a ≤ i → i < s → s ≤ j → j < s + (e - m) → p d1[j]! d1[i]!) ∧ (∀ i j, s + (e - m) ≤ i → i < e → e ≤ j → j < b → p d1[j]! d1[i]!) := by
  refine ⟨fun i j h1 h2 h3 h4 => ?_, fun i j h1 h2 h3 h4 => ?_⟩
  · rw [r.off (i := i) (by omega), r.one (i := j) h3 h4]
    exact H _ _ h1 (by omega) (by omega) (by omega)
  · rw [r.two (i := i) h1 h2, r.off (i := j) (by omega)]
    exact H _ _ (by omega) (by omega) (by omega) h4
theorem sorted_one {a s c : Nat} {d : Array α} (h1 : SortedIn lt a s d) (h2 : SortedIn lt s c d) (asl : a ≤ s) (sc : s ≤ c) (n : ¬ (a < s ∧ s < c)) : SortedIn lt a c d := by
  by_cases z : a = s
  · subst z; exact h2
  · obtain rfl : s = c := by omega
    exact h1
theorem sorted_perm {lo hi a b : Nat} {d d' : Array α} (h : SortedIn lt lo hi d) (P : PermIn a b d d') (o : hi ≤ a ∨ b ≤ lo) : SortedIn lt lo hi d' := fun i j h1 h2 h3 => by
  rw [P.2.1 i (by omega), P.2.1 j (by omega)]
  exact h i j h1 h2 h3
/-! insertion keeps the order of equals: the test on the elements alone is the test on their places too -/
theorem ins_perm (l : α → α → Bool) (a : Nat) : ∀ (j : Nat) (d : Array α), a ≤ j → j < d.size → PermIn a (j + 1) d (insInner l a j d)
  | 0, d, h1, h2 => permIn_refl _ _ _
  | j + 1, d, h1, h2 => by
    unfold insInner
    split
    · rename_i c
      simp only [Bool.and_eq_true, decide_eq_true_eq] at c
      have i := ins_perm l a j (swp d (j + 1) j) (by omega) (by rw [size_swp]; omega)
      exact permIn_trans _ _ _ _ _ (swp_permIn d a (j + 2) (j + 1) j (by omega) (by omega) (by omega) (by omega) (by omega)) (permIn_mono _ _ _ _ _ _ (Nat.le_refl _) (by omega) (by rw [size_swp]; omega) i)
    · exact permIn_refl _ _ _
theorem ins_inner {l0 l1 : α → α → Bool} (a : Nat) : ∀ (j : Nat) (d : Array α), j < d.size → (∀ k, a ≤ k → k < j → l0 d[j]! d[k]! = l1 d[j]! d[k]!) → insInner l0 a j d = insInner l1 a j d
  | 0, d, _, _ => rfl
  | j + 1, d, h, e => by
    unfold insInner
    by_cases c : a ≤ j
    · rw [e j c (by omega)]
      split
      · refine ins_inner a j _ (by rw [size_swp]; omega) fun k k1 k2 => ?_
        rw [swp_right _ _ _ (by omega), swp_other _ _ _ _ (by omega) (by omega)]
        exact e k k1 (by omega)
      · rfl
    · have n : decide (j + 1 > a) = false := by simp; omega
      rw [n]
      rfl
theorem ins_outer {l0 l1 : α → α → Bool} (a b : Nat) : ∀ (n i : Nat) (d : Array α), b - i ≤ n → a ≤ i → b ≤ d.size → (∀ p q, i ≤ p → p < b → a ≤ q → q < p → l0 d[p]! d[q]! = l1 d[p]! d[q]!) → insOuter l0 a b i d = insOuter l1 a b i d
  | 0, i, d, h1, h2, h3, e => by
    unfold insOuter
    rw [if_neg (by omega), if_neg (by omega)]
  | n + 1, i, d, h1, h2, h3, e => by
    unfold insOuter
    by_cases c : i < b
    · rw [if_pos c, if_pos c, ins_inner (l0 := l0) (l1 := l1) a i d (by omega) (fun k k1 k2 => e i k (Nat.le_refl _) c k1 k2)]
      have P := ins_perm l1 a i d h2 (by omega)
      refine ins_outer a b n (i + 1) _ (by omega) (by omega) (by rw [P.1]; exact h3) fun p q p1 p2 q1 q2 => ?_
      rw [P.2.1 p (by omega)]
      by_cases z : q < i + 1
      · exact permIn_all _ _ a (i + 1) (fun x => l0 d[p]! x = l1 d[p]! x) (by omega) P (fun q s1 s2 => e p q (by omega) p2 s1 (by omega)) q q1 z
      · rw [P.2.1 q (by omega)]
        exact e p q (by omega) p2 q1 q2
    · rw [if_neg c, if_neg c]
theorem ins_eq {l0 l1 : α → α → Bool} {a b : Nat} {d : Array α} (hb : b ≤ d.size) (e : ∀ p q, p < b → a ≤ q → q < p → l0 d[p]! d[q]! = l1 d[p]! d[q]!) : insertionSort l0 d a b = insertionSort l1 d a b :=
  ins_outer a b (b - (a + 1)) (a + 1) d (Nat.le_refl _) (by omega) hb fun p q p1 p2 q1 q2 => e p q p2 q1 q2
theorem inner_go {l : α → α → Bool} {a j : Nat} {d : Array α} (hj : a < j) (hl : l d[j]! d[j - 1]! = true) : insInner l a j d = insInner l a (j - 1) (swp d j (j - 1)) := by
  obtain ⟨k, rfl⟩ : ∃ k, j = k + 1 := ⟨j - 1, by omega⟩
  rw [insInner]
  simp only [Nat.add_sub_cancel] at hl ⊢
  simp [hj, hl]
theorem inner_stop {l : α → α → Bool} {a j : Nat} {d : Array α} (h : j ≤ a ∨ l d[j]! d[j - 1]! = false) : insInner l a j d = d := by
  cases j with
  | zero => rw [insInner]
  | succ k =>
    rw [insInner]
    rcases h with h | h
    · rw [if_neg (by simp; omega)]
    · simp only [Nat.add_sub_cancel] at h
      rw [if_neg (by simp [h])]
theorem outer_go {l : α → α → Bool} {a b i : Nat} {d : Array α} (h : i < b) : insOuter l a b i d = insOuter l a b (i + 1) (insInner l a i d) := by rw [insOuter, if_pos h]
theorem outer_stop {l : α → α → Bool} {a b i : Nat} {d : Array α} (h : ¬ i < b) : insOuter l a b i d = d := by rw [insOuter, if_neg h]
/-! runs: each with its own elements, and sorted -/
variable (tg : α → Nat) (lt : α → α → Bool)
structure Good (lo hi : Nat) (d : Array α) : Prop where
  t : ∀ i, lo ≤ i → i < hi → lo ≤ tg d[i]! ∧ tg d[i]! < hi
  s : SortedIn lt lo hi d
/-- runs of bs each, up to e -/
def To (bs e : Nat) (d : Array α) : Prop := ∀ k, k * bs < e → Good tg lt (k * bs) (min (k * bs + bs) e) d
/-- .. and from a on, up to n -/
def Fr (bs a n : Nat) (d : Array α) : Prop := ∀ k, a + k * bs < n → Good tg lt (a + k * bs) (min (a + k * bs + bs) n) d
variable {tg lt}
theorem Good.same {lo hi : Nat} {d d' : Array α} (h : Good tg lt lo hi d) (e : ∀ i, lo ≤ i → i < hi → d'[i]! = d[i]!) : Good tg lt lo hi d' :=
  ⟨fun i h1 h2 => by rw [e i h1 h2]; exact h.t i h1 h2, fun i j h1 h2 h3 => by rw [e i h1 (by omega), e j (by omega) h3]; exact h.s i j h1 h2 h3⟩
theorem Good.of_perm {lo hi : Nat} {d d' : Array α} (hb : hi ≤ d.size) (t : ∀ i, lo ≤ i → i < hi → lo ≤ tg d[i]! ∧ tg d[i]! < hi) (P : PermIn lo hi d d') (s : SortedIn lt lo hi d') : Good tg lt lo hi d' :=
  ⟨permIn_all d d' lo hi (fun x => lo ≤ tg x ∧ tg x < hi) hb P t, s⟩
theorem To.zero (bs : Nat) (d : Array α) : To tg lt bs 0 d := fun k h => absurd h (by omega)
theorem To.same {bs e : Nat} {d d' : Array α} (h : To tg lt bs e d) (q : ∀ i, i < e → d'[i]! = d[i]!) : To tg lt bs e d' := fun k hk => (h k hk).same fun i h1 h2 => q i (by omega)
theorem Fr.same {bs a n : Nat} {d d' : Array α} (h : Fr tg lt bs a n d) (q : ∀ i, a ≤ i → d'[i]! = d[i]!) : Fr tg lt bs a n d' := fun k hk => (h k hk).same fun i h1 h2 => q i (by omega)
theorem To.snoc {bs e n K : Nat} {d : Array α} (h : To tg lt bs e d) (he : e = K * bs) (hb : 0 < bs) (g : Good tg lt e (min (e + bs) n) d) (hn : e < n) : To tg lt bs (min (e + bs) n) d := fun k hk => by
  rcases Nat.lt_trichotomy k K with z | z | z
  · have : k * bs + bs ≤ K * bs := by
      have := Nat.mul_le_mul_right bs (show k + 1 ≤ K by omega)
      rwa [Nat.succ_mul] at this
    have q := h k (by omega)
    rwa [show min (k * bs + bs) (min (e + bs) n) = min (k * bs + bs) e by omega]
  · subst z
    rw [← he]
    rwa [show min (e + bs) (min (e + bs) n) = min (e + bs) n by omega]
  · have := Nat.mul_le_mul_right bs (show K + 1 ≤ k by omega)
    rw [Nat.succ_mul] at this
    omega
theorem Fr.head {bs a n : Nat} {d : Array α} (h : Fr tg lt bs a n d) (hn : a < n) : Good tg lt a (min (a + bs) n) d := by
  have := h 0 (by rw [Nat.zero_mul]; omega)
  rwa [Nat.zero_mul, Nat.add_zero] at this
theorem Fr.tail {bs a n : Nat} {d : Array α} (h : Fr tg lt bs a n d) : Fr tg lt bs (a + bs) n d := fun k hk => by
  have e : a + (k + 1) * bs = a + bs + k * bs := by rw [Nat.succ_mul]; omega
  have := h (k + 1) (by omega)
  rwa [e] at this
theorem Fr.of_to {bs n : Nat} {d : Array α} (h : To tg lt bs n d) : Fr tg lt bs 0 n d := fun k hk => by
  rw [Nat.zero_add] at hk ⊢
  exact h k hk
theorem To.all {bs n : Nat} {d : Array α} (h : To tg lt bs n d) (hn : n ≤ bs) : SortedIn lt 0 n d := by
  rcases Nat.eq_zero_or_pos n with z | z
  · subst z
    exact fun i j h1 h2 h3 => absurd h3 (by omega)
  · have := (h 0 (by rw [Nat.zero_mul]; exact z)).s
    rwa [Nat.zero_mul, show min (0 + bs) n = n by omega] at this
theorem To.push {bs e K : Nat} {d : Array α} (h : To tg lt bs e d) (he : e = K * bs) (hb : 0 < bs) (g : Good tg lt e (e + bs) d) : To tg lt bs (e + bs) d := by
  have := h.snoc (n := e + bs) he hb (by rwa [Nat.min_self]) (by omega)
  rwa [Nat.min_self] at this
theorem To.last {bs e n K : Nat} {d : Array α} (h : To tg lt bs e d) (he : e = K * bs) (hb : 0 < bs) (g : Good tg lt e n d) (h1 : e < n) (h2 : n ≤ e + bs) : To tg lt bs n d := by
  have := h.snoc (n := n) he hb (by rwa [show min (e + bs) n = n by omega]) h1
  rwa [show min (e + bs) n = n by omega] at this
theorem Good.merge {a m b : Nat} {d d' : Array α} (am : a ≤ m) (mb : m ≤ b) (hb : b ≤ d.size) (G1 : Good tg lt a m d) (G2 : Good tg lt m b d) (P : PermIn a b d d') (s : SortedIn lt a b d') : Good tg lt a b d' :=
  Good.of_perm hb (fun i h1 h2 => by
    by_cases z : i < m
    · have := G1.t i h1 z; omega
    · have := G2.t i (by omega) h2; omega) P s
end St
end Go.Proofs.Ytjjepkklaagmmaa

/- Sorting that keeps the order of equals, of quotas: the walks. -/
namespace Go.Proofs.Ytjjepkklaagmmaa
open Go Go.Sort Go.RowKit V
set_option maxRecDepth 100000
set_option linter.unusedVariables false
set_option linter.unusedSimpArgs false
set_option maxHeartbeats 4000000
structure Qu where
  pl : Int
  le : Int
instance : Inhabited Qu := ⟨⟨0, 0⟩⟩
/-- a quota, and at which place it stood -/
structure Qt where
  q : Qu
  tg : Nat
instance : Inhabited Qt := ⟨⟨default, 0⟩⟩
def encT (x : Qt) : List Go.Value := [.int .i64 x.q.pl, .int .i64 x.q.le]
theorem arr_get {d : Array Qt} {k : Nat} : d.toList.getD k default = d[k]! := by
  rw [List.getD_eq_getElem?_getD, Array.getElem?_toList]
  by_cases h : k < d.size
  · rw [getElem!_pos d k h, Array.getElem?_eq_getElem h]; rfl
  · rw [getElem!_neg d k h, Array.getElem?_eq_none (by omega)]; rfl
theorem swp_list (d : Array Qt) (i j : Nat) : (swp d i j).toList = (d.toList.set i d[j]!).set j d[i]! := by simp [swp]
/-- what is told of cmp -/
def Cmp (g : FuncId) (cf : Qt → Qt → Int) : Prop := ∀ x y : Qt, V.Fn Try.prog g [] [.agg [.val (.int .i64 x.q.pl), .val (.int .i64 x.q.le)], .agg [.val (.int .i64 y.q.pl), .val (.int .i64 y.q.le)]] (.int .i64 (cf x y))
def less (cf : Qt → Qt → Int) (x y : Qt) : Bool := decide (cf x y < 0)
end Go.Proofs.Ytjjepkklaagmmaa

/- Sorting that keeps the order of equals, of quotas: insertion. -/
namespace Go.Proofs.Ytjjepkklaagmmaa
open Go Go.Sort Go.RowKit V
set_option maxRecDepth 100000
set_option linter.unusedVariables false
set_option linter.unusedSimpArgs false
set_option maxHeartbeats 4000000
end Go.Proofs.Ytjjepkklaagmmaa

/- Sorting that keeps the order of equals, of quotas: what two sorted runs become. -/
namespace Go.Proofs.Ytjjepkklaagmmaa
open Go Go.Sort Go.RowKit V
set_option maxRecDepth 100000
set_option linter.unusedVariables false
set_option linter.unusedSimpArgs false
set_option maxHeartbeats 4000000
theorem _root_.Go.Proofs.Ytjjepkklaagmmaa.V.NShr.mid {i j : Nat} {K : Int → Prop} (hK : K (((i + j) / 2 : Nat) : Int)) : V.NShr .u64 ((i : Int) + j) 1 K := by
  refine ⟨by decide, ?_⟩
  have e : ((i : Int) + j).fdiv (2 ^ (min (1 : Int).toNat IntKind.u64.bits)) = (((i + j) / 2 : Nat) : Int) := by
    rw [show (2 : Int) ^ (min (1 : Int).toNat IntKind.u64.bits) = 2 from by decide, Int.fdiv_eq_ediv_of_nonneg _ (by decide)]
    omega
  rw [e]
  exact hK
end Go.Proofs.Ytjjepkklaagmmaa

/- Sorting that keeps the order of equals, of quotas: what two sorted runs become, the general case. -/
namespace Go.Proofs.Ytjjepkklaagmmaa
open Go Go.Sort Go.RowKit V
set_option maxRecDepth 100000
set_option linter.unusedVariables false
set_option linter.unusedSimpArgs false
set_option maxHeartbeats 4000000
end Go.Proofs.Ytjjepkklaagmmaa

/- Sorting that keeps the order of equals, of quotas: what two sorted runs become, the general case. -/
namespace Go.Proofs.Ytjjepkklaagmmaa
open Go Go.Sort Go.RowKit V
set_option maxRecDepth 100000
set_option linter.unusedVariables false
set_option linter.unusedSimpArgs false
set_option maxHeartbeats 4000000
end Go.Proofs.Ytjjepkklaagmmaa

/- Sorting that keeps the order of equals, of quotas: the whole. -/
namespace Go.Proofs.Ytjjepkklaagmmaa
open Go Go.Sort Go.RowKit V
set_option maxRecDepth 100000
set_option linter.unusedVariables false
set_option linter.unusedSimpArgs false
set_option maxHeartbeats 4000000
end Go.Proofs.Ytjjepkklaagmmaa

/- slices.SortStableFunc, of quotas, that stand each at its place: by what is left, the most first; of as much in the order of their places. -/
namespace Go.Proofs.Ytjjepkklaagmmaa
open Go Go.Sort Go.RowKit V
set_option maxRecDepth 100000
set_option linter.unusedVariables false
set_option linter.unusedSimpArgs false
set_option maxHeartbeats 4000000
def cmpI (u v : Int) : Int := if u < v then -1 else if v < u then 1 else 0
theorem v_isNaN (x : Int) : V.Fn Try.prog 88 [] [.one (.val (.int .i64 x))] (.bool false) := by
  refine V.Fn.mk_ V.Tok V.mixed Try.func88 rfl Try.ntmps88 (by kernel_rfl) rfl rfl ?_
  repeat' ((conv => whnf); first | refine V.NCond.mk ?_ | refine V.NIf.not_ ?_ | refine V.NIf.dec_ ?_ | refine V.NIf.no (by omega) ?_ | refine V.NIf.yes (by omega) ?_ | refine V.NIf.mk (fun _ => ?_) (fun _ => ?_) | refine V.NWrap.ok (by omega) (by omega) ?_ | refine V.NWrap.u64 (by omega) (by omega) ?_ | refine V.NLt.mk (by omega) ?_ | refine V.NBoth.mk ?_ ?_ | refine V.NTF.yes (by omega) ?_ | refine V.NTF.no (by omega) ?_ | refine V.NTF.dec ?_ | refine V.NDraw.q (by exact rfl) (by kernel_rfl) ?_ | refine V.NApp.one (by first | omega | (simp; omega)) (by first | omega | (simp; omega)) ?_ | (refine V.NDraw.any (by kernel_rfl) ?_) | fail)
  all_goals (conv => whnf)
  all_goals first
    | rfl
    | exact ⟨false, rfl, iff_of_false (by omega) (by decide)⟩
    | trace_state
theorem v_compare (u v : Int) : V.Fn Try.prog 77 [] [.one (.val (.int .i64 u)), .one (.val (.int .i64 v))] (.int .i64 (cmpI u v)) := by
  have c1 : u < v → cmpI u v = -1 := fun h => if_pos h
  have c2 : ¬ u < v → v < u → cmpI u v = 1 := fun h k => (if_neg h).trans (if_pos k)
  have c3 : ¬ u < v → ¬ v < u → cmpI u v = 0 := fun h k => (if_neg h).trans (if_neg k)
  refine V.Fn.mk_ V.Tok V.mixed Try.func77 rfl Try.ntmps77 (by kernel_rfl) rfl rfl ?_
  repeat' ((conv => whnf); first | (refine V.NIf.yes ?_ ?_; · (decide; done)) | (refine V.NIf.no ?_ ?_; · (decide; done)) | refine V.NCond.mk ?_ | refine V.NIf.not_ ?_ | refine V.NIf.dec_ ?_ | refine V.NIf.no (by omega) ?_ | refine V.NIf.yes (by omega) ?_ | refine V.NIf.mk (fun _ => ?_) (fun _ => ?_) | refine V.NWrap.ok (by omega) (by omega) ?_ | refine V.NWrap.u64 (by omega) (by omega) ?_ | refine V.NLt.mk (by omega) ?_ | refine V.NBoth.mk ?_ ?_ | refine V.NTF.yes (by omega) ?_ | refine V.NTF.no (by omega) ?_ | refine V.NTF.dec ?_ | refine V.NDraw.q (by exact rfl) (by kernel_rfl) ?_ | refine V.NApp.one (by first | omega | (simp; omega)) (by first | omega | (simp; omega)) ?_ | (first | refine V.Fn.k0 (v_isNaN _) rfl ?_ | refine V.Fn.q0 (v_isNaN _) rfl ?_ | refine V.Fn.a0 (v_isNaN _) rfl ?_) | (refine V.NDraw.any (by kernel_rfl) ?_) | fail)
  all_goals (conv => whnf)
  · rw [c1 (by assumption)]
  · rw [c2 (by assumption) (by assumption)]
  · rw [c3 (by assumption) (by assumption)]
def encQ (x : Qu) : List Go.Value := [.int .i64 x.pl, .int .i64 x.le]
def bf (x y : Qu) : Bool := decide (y.le < x.le ∨ (y.le = x.le ∧ x.pl ≤ y.pl))
def srtQ (l : List Qu) : List Qu := l.mergeSort bf
def tagQ (q : Qu) : Qt := ⟨q, q.pl.toNat⟩
theorem tag_ga (l : List Qu) : ga encT ((l.map tagQ).toArray).toList = ga encQ l := by
  funext k
  unfold ga
  simp only
  have : (l.map tagQ).getD k default = tagQ (l.getD k default) := by
    rw [List.getD_eq_getElem?_getD, List.getD_eq_getElem?_getD, List.getElem?_map]
    cases l[k]? <;> rfl
  rw [this]
  rfl
def ltQ (x y : Qt) : Bool := decide (y.q.le < x.q.le ∨ (y.q.le = x.q.le ∧ x.tg < y.tg))
theorem swoQ : SWO ltQ where
  irrefl x := by unfold ltQ; simp
  trans x y z := by unfold ltQ; simp only [decide_eq_true_eq]; omega
  ntrans x y z := by unfold ltQ; simp only [decide_eq_false_iff_not]; omega
theorem bf_trans : ∀ (a b c : Qu), bf a b = true → bf b c = true → bf a c = true := by
  intro a b c; unfold bf; simp only [decide_eq_true_eq]; omega
theorem bf_total : ∀ (a b : Qu), (bf a b || bf b a) = true := by
  intro a b; unfold bf; simp only [Bool.or_eq_true, decide_eq_true_eq]; omega
theorem srtQ_uniq {l l' : List Qu} (p : l'.Perm l) (s : l'.Pairwise (fun x y => bf x y = true)) : l' = srtQ l := by
  have s2 : (srtQ l).Pairwise (fun x y => bf x y = true) := List.pairwise_mergeSort bf_trans bf_total l
  refine List.Perm.eq_of_pairwise (le := fun x y => bf x y = true) (fun a b _ _ h1 h2 => ?_) s s2 (p.trans (List.mergeSort_perm l bf).symm)
  unfold bf at h1 h2
  simp only [decide_eq_true_eq] at h1 h2
  cases a; cases b
  simp only [Qu.mk.injEq] at *
  omega
end Go.Proofs.Ytjjepkklaagmmaa
