/- Plain facts on what papers bring. -/
import Derived.Test.YteblbhbfdfifpaaMarginPl
import Derived.Test.YteblbhbfdfifpaaVNet0
namespace Go.Proofs.Yteblbhbfdfifpaa
set_option linter.unusedVariables false
structure Ev where
  pa : Int
  ca : Int
  gi : Int
  fo : Int
structure Po where
  ac : Int
  ut : Int
  am : Int
instance : Inhabited Ev := ⟨⟨0, 0, 0, 0⟩⟩
def encE (p : Ev) : List Go.Value := [.int .i64 p.pa, .int .i64 p.ca, .int .i64 p.gi, .int .i64 p.fo]
instance : Inhabited Po := ⟨⟨0, 0, 0⟩⟩
def encP (p : Po) : List Go.Value := [.int .i64 p.ac, .int .i64 p.ut, .int .i64 p.am]
namespace C
def Ok (v : Ev) : Prop := (1 ≤ v.pa ∧ v.pa ≤ 20) ∧ P.Ok v.ca ∧ (0 ≤ v.gi ∧ v.gi ≤ 1000) ∧ (0 ≤ v.fo ∧ v.fo ≤ 1000)
instance (v : Ev) : Decidable (Ok v) := by unfold Ok; exact inferInstance
def Odd (v : Ev) : Prop := ¬ (v.gi = 0 ↔ v.fo = 0) ∨ (v.gi = 0 ∧ v.ca = 0)
instance (v : Ev) : Decidable (Odd v) := by unfold Odd; exact inferInstance
def ev (v : Ev) : Int := if ¬ Ok v then 3 else if Odd v then 1 else 0
theorem ev_ok {v : Ev} (h : ev v = 0) : Ok v ∧ (v.gi = 0 ↔ v.fo = 0) ∧ ¬ (v.gi = 0 ∧ v.ca = 0) := by
  unfold ev at h
  split at h
  · omega
  · split at h
    · omega
    · rename_i a b
      unfold Odd at b
      exact ⟨Classical.not_not.1 a, Classical.not_not.1 fun q => b (.inl q), fun q => b (.inr q)⟩
theorem ev_1 {v : Ev} (h : ¬ Ok v) : ev v = 3 := if_pos h
theorem ev_2 {v : Ev} (h : Ok v) (k : Odd v) : ev v = 1 := (if_neg (fun q => q h)).trans (if_pos k)
theorem ev_3 {v : Ev} (h : Ok v) (k : ¬ Odd v) : ev v = 0 := (if_neg (fun q => q h)).trans (if_neg k)
def uE (v : Ev) (u : Int) : Int := if ev v ≠ 0 then ev v else if ¬ (0 ≤ u ∧ u ≤ 1073741824) then 3 else 0
theorem uE_ok {v : Ev} {u : Int} (h : uE v u = 0) : ev v = 0 ∧ 0 ≤ u ∧ u ≤ 1073741824 := by
  unfold uE at h
  split at h
  · exact absurd h ‹_›
  · split at h
    · omega
    · exact ⟨by omega, by omega, by omega⟩
theorem uE_1 {v : Ev} {u : Int} (h : ¬ ev v = 0) : uE v u = ev v := if_pos h
theorem uE_2 {v : Ev} {u : Int} (h : ev v = 0) (k : ¬ (0 ≤ u ∧ u ≤ 1073741824)) : uE v u = 3 := (if_neg (by omega)).trans (if_pos k)
theorem uE_3 {v : Ev} {u : Int} (h : ev v = 0) (k : 0 ≤ u ∧ u ≤ 1073741824) : uE v u = 0 := (if_neg (by omega)).trans (if_neg (fun q => q k))
def cash (v : Ev) (u : Int) : Int := P.cost u v.ca
def cV (v : Ev) (u : Int) : Int := if uE v u = 0 then cash v u else 0
def fr (v : Ev) (u : Int) : Int := if v.fo = 0 then 0 else u * v.gi / v.fo
def le (v : Ev) (u : Int) : Int := if v.fo = 0 then 0 else u * v.gi % v.fo
def fV (v : Ev) (u : Int) : Int := if uE v u = 0 then fr v u else 0
def lV (v : Ev) (u : Int) : Int := if uE v u = 0 then le v u else 0
theorem mul_bd {v : Ev} {u : Int} (h : Ok v) (hu : 0 ≤ u ∧ u ≤ 1073741824) : 0 ≤ u * v.gi ∧ u * v.gi ≤ 1073741824000 := by
  obtain ⟨_, _, h3, _⟩ := h
  have h1 := Int.mul_nonneg hu.1 h3.1
  have h2 := Int.mul_le_mul hu.2 h3.2 h3.1 (show (0 : Int) ≤ 1073741824 by omega)
  omega
theorem fr_bd {v : Ev} {u : Int} (h : Ok v) (hu : 0 ≤ u ∧ u ≤ 1073741824) : 0 ≤ fr v u ∧ fr v u ≤ 1073741824000 := by
  have hm := mul_bd h hu
  have h4 := h.2.2.2
  unfold fr
  split
  · omega
  · have h1 := Int.ediv_nonneg hm.1 h4.1
    have h2 := Int.ediv_le_self v.fo hm.1
    omega
theorem le_bd {v : Ev} {u : Int} (h : Ok v) : 0 ≤ le v u ∧ le v u ≤ 1000 := by
  have h4 := h.2.2.2
  unfold le
  split
  · omega
  · have h1 := Int.emod_nonneg (u * v.gi) (show v.fo ≠ 0 by assumption)
    have h2 := Int.emod_lt_of_pos (u * v.gi) (show 0 < v.fo by omega)
    omega
theorem fr_zero (v : Ev) : fr v 0 = 0 := by unfold fr; split <;> simp
theorem cash_zero (v : Ev) : cash v 0 = 0 := by unfold cash P.cost; simp
theorem cash_bd {v : Ev} {u : Int} (h : Ok v) (hu : 0 ≤ u ∧ u ≤ 1073741824) : 0 ≤ cash v u ∧ cash v u ≤ 118059162071741130 := P.cost_bd hu h.2.1
def xE (v : Ev) (fs : List Fl) : Int := if ev v ≠ 0 then ev v else F.checks fs
theorem xE_1 {v : Ev} {fs : List Fl} (h : ¬ ev v = 0) : xE v fs = ev v := if_pos h
theorem xE_2 {v : Ev} {fs : List Fl} (h : ev v = 0) : xE v fs = F.checks fs := if_neg (by omega)
theorem xE_ok {v : Ev} {fs : List Fl} (h : xE v fs = 0) : ev v = 0 ∧ F.checks fs = 0 := by
  unfold xE at h
  split at h
  · exact absurd h ‹_›
  · exact ⟨by omega, h⟩
/-- what one brings -/
def duO (v : Ev) (f : Fl) : List Du := if f.pa = v.pa ∧ 0 < F.left f ∧ 0 < cash v (F.left f) then [⟨f.fr, f.to, cash v (F.left f)⟩] else []
def poO (v : Ev) (f : Fl) : List Po := if f.pa = v.pa ∧ 0 < F.left f ∧ 0 < fr v (F.left f) then [⟨f.fr, v.pa, -fr v (F.left f)⟩, ⟨f.to, v.pa, fr v (F.left f)⟩] else []
def dus (v : Ev) (fs : List Fl) : List Du := fs.flatMap (duO v)
def pos (v : Ev) (fs : List Fl) : List Po := fs.flatMap (poO v)
theorem dus_snoc {v : Ev} {fs : List Fl} {k : Nat} (h : k < fs.length) : dus v (fs.take (k + 1)) = dus v (fs.take k) ++ duO v (fs.getD k default) := by
  unfold dus
  rw [List.take_succ_eq_append_getElem h, List.flatMap_append, getD_at h]; simp
theorem pos_snoc {v : Ev} {fs : List Fl} {k : Nat} (h : k < fs.length) : pos v (fs.take (k + 1)) = pos v (fs.take k) ++ poO v (fs.getD k default) := by
  unfold pos
  rw [List.take_succ_eq_append_getElem h, List.flatMap_append, getD_at h]; simp
theorem duO_len (v : Ev) (f : Fl) : (duO v f).length ≤ 1 := by unfold duO; split <;> simp
theorem poO_len (v : Ev) (f : Fl) : (poO v f).length ≤ 2 := by unfold poO; split <;> simp
theorem dus_len (v : Ev) : ∀ fs : List Fl, (dus v fs).length ≤ fs.length
  | [] => Nat.le_refl _
  | f :: fs => by
    have := dus_len v fs
    have := duO_len v f
    unfold dus at *
    rw [List.flatMap_cons, List.length_append, List.length_cons]; omega
theorem pos_len (v : Ev) : ∀ fs : List Fl, (pos v fs).length ≤ 2 * fs.length
  | [] => Nat.le_refl _
  | f :: fs => by
    have := pos_len v fs
    have := poO_len v f
    unfold pos at *
    rw [List.flatMap_cons, List.length_append, List.length_cons]; omega
def dV (v : Ev) (fs : List Fl) : List Du := if xE v fs = 0 then dus v fs else []
def pV (v : Ev) (fs : List Fl) : List Po := if xE v fs = 0 then pos v fs else []
/-- what grows -/
def up (f : Fl) (n : Int) : Fl := ⟨f.id, f.fr, f.to, f.cl, f.pa, f.day, f.un + n, f.de, f.bo, f.pd⟩
def gr (v : Ev) (f : Fl) : Fl := if f.pa = v.pa then up f (fr v (F.left f)) else f
def big (v : Ev) (fs : List Fl) : Prop := ∃ f ∈ fs, 1073741824 < (gr v f).un
noncomputable def gE (v : Ev) (fs : List Fl) : Int := open Classical in if xE v fs ≠ 0 then xE v fs else if big v fs then 8 else 0
noncomputable def gV (v : Ev) (fs : List Fl) : List Fl := if gE v fs = 0 then fs.map (gr v) else []
theorem g_1 {v : Ev} {fs : List Fl} (h : ¬ xE v fs = 0) : gE v fs = xE v fs ∧ gV v fs = [] := by
  have e : gE v fs = xE v fs := if_pos h
  exact ⟨e, if_neg (by omega)⟩
theorem g_2 {v : Ev} {fs : List Fl} (h : xE v fs = 0) (k : big v fs) : gE v fs = 8 ∧ gV v fs = [] := by
  have e : gE v fs = 8 := by unfold gE; rw [if_neg (by omega), if_pos k]
  exact ⟨e, if_neg (by omega)⟩
theorem g_3 {v : Ev} {fs : List Fl} (h : xE v fs = 0) (k : ¬ big v fs) : gE v fs = 0 ∧ gV v fs = fs.map (gr v) := by
  have e : gE v fs = 0 := by unfold gE; rw [if_neg (by omega), if_neg k]
  exact ⟨e, if_pos e⟩
theorem g_ok {v : Ev} {fs : List Fl} (h : gE v fs = 0) : xE v fs = 0 ∧ ¬ big v fs ∧ gV v fs = fs.map (gr v) := by
  by_cases a : xE v fs = 0
  · by_cases b : big v fs
    · rw [(g_2 a b).1] at h; omega
    · exact ⟨a, b, (g_3 a b).2⟩
  · rw [(g_1 a).1] at h; exact absurd h a
def grk (v : Ev) (fs : List Fl) (k : Nat) : List Fl := (fs.take k).map (gr v) ++ fs.drop k
theorem grk_len (v : Ev) (fs : List Fl) (k : Nat) : (grk v fs k).length = fs.length := by simp [grk]; omega
theorem grk_at {v : Ev} {fs : List Fl} {k : Nat} (h : k < fs.length) : (grk v fs k).getD k default = fs.getD k default := by
  unfold grk
  rw [List.getD_eq_getElem?_getD, List.getElem?_append_right (by simp; omega), List.getElem?_drop, List.getD_eq_getElem?_getD]
  congr 2
  simp; omega
theorem grk_succ {v : Ev} {fs : List Fl} {k : Nat} (h : k < fs.length) : (grk v fs k).set k (gr v (fs.getD k default)) = grk v fs (k + 1) := by
  unfold grk
  rw [List.set_append_right _ _ (by simp; omega), List.drop_eq_getElem_cons h, List.take_succ_eq_append_getElem h, List.map_append, List.append_assoc, getD_at h]
  congr 1
  have e : k - ((fs.take k).map (gr v)).length = 0 := by simp; omega
  rw [e]; rfl
theorem grk_same {v : Ev} {fs : List Fl} {k : Nat} (h : k < fs.length) (e : gr v (fs.getD k default) = fs.getD k default) : grk v fs (k + 1) = grk v fs k := by
  unfold grk
  rw [List.take_succ_eq_append_getElem h, List.map_append, List.append_assoc, List.drop_eq_getElem_cons h, ← getD_at h, List.map_cons, e]
  rfl
theorem grk_end (v : Ev) (fs : List Fl) : grk v fs fs.length = fs.map (gr v) := by simp [grk]
theorem gr_zero {v : Ev} {f : Fl} (h : ¬ (f.pa = v.pa ∧ 0 < F.left f)) (h2 : 0 ≤ F.left f) : gr v f = f := by
  unfold gr
  split
  · have e : F.left f = 0 := by omega
    rw [e, fr_zero]
    unfold up; rw [Int.add_zero]
  · rfl
theorem gr_pos {v : Ev} {f : Fl} (h : f.pa = v.pa) : gr v f = up f (fr v (F.left f)) := if_pos h
theorem dus_no {v : Ev} {fs : List Fl} (h : ∀ f ∈ fs, duO v f = []) : dus v fs = [] := List.flatMap_eq_nil_iff.2 h
theorem pos_no {v : Ev} {fs : List Fl} (h : ∀ f ∈ fs, poO v f = []) : pos v fs = [] := List.flatMap_eq_nil_iff.2 h
theorem map_same {v : Ev} : ∀ {fs : List Fl}, (∀ f ∈ fs, gr v f = f) → fs.map (gr v) = fs
  | [], _ => rfl
  | f :: fs, h => by rw [List.map_cons, h f (by simp), map_same fun g hg => h g (by simp [hg])]
/-- where no fail grows -/
theorem g_same {v : Ev} {fs : List Fl} (hx : xE v fs = 0) (h : ∀ f ∈ fs, gr v f = f) : gE v fs = 0 ∧ gV v fs = fs := by
  obtain ⟨_, hall, _⟩ := K.checks_all (xE_ok hx).2
  obtain ⟨a, b⟩ := g_3 hx fun ⟨f, h1, h2⟩ => by
    rw [h f h1] at h2
    have := (F.ok_bounds (hall f h1)).2.2.1
    omega
  exact ⟨a, b.trans (map_same h)⟩
theorem no_cash {v : Ev} (h : v.ca = 0) (f : Fl) : duO v f = [] := if_neg fun q => by
  have e : cash v (F.left f) = 0 := by unfold cash P.cost; rw [h]; simp
  omega
theorem no_fresh {v : Ev} (h : v.fo = 0) (u : Int) : fr v u = 0 := if_pos h
theorem no_pos {v : Ev} (h : v.fo = 0) (f : Fl) : poO v f = [] := if_neg fun q => by rw [no_fresh h] at q; omega
theorem no_gr {v : Ev} (h : v.fo = 0) (f : Fl) : gr v f = f := by
  unfold gr up; rw [no_fresh h, Int.add_zero]; split <;> rfl
theorem oth_du {v : Ev} {f : Fl} (h : ¬ f.pa = v.pa) : duO v f = [] := if_neg fun q => h q.1
theorem oth_po {v : Ev} {f : Fl} (h : ¬ f.pa = v.pa) : poO v f = [] := if_neg fun q => h q.1
theorem oth_gr {v : Ev} {f : Fl} (h : ¬ f.pa = v.pa) : gr v f = f := if_neg h
theorem up_left (f : Fl) (n : Int) : F.left (up f n) = F.left f + n := by unfold F.left up; dsimp only; omega
theorem up_ok {f : Fl} {n : Int} (h : F.Ok f) (hn : 0 ≤ n) (hb : ¬ 1073741824 < f.un + n) : F.Ok (up f n) := by
  have hb := F.ok_bounds h
  unfold F.Ok F.Kn F.Pt up at *
  dsimp only at *
  omega
theorem gr_id (v : Ev) (f : Fl) : (gr v f).id = f.id := by unfold gr up; split <;> rfl
theorem gr_ok {v : Ev} {f : Fl} (hv : Ok v) (h : F.Ok f) (hb : ¬ 1073741824 < (gr v f).un) : F.Ok (gr v f) := by
  unfold gr at *
  split
  · rw [if_pos (by assumption)] at hb
    exact up_ok h (fr_bd hv (K.left_bd h)).1 hb
  · exact h
/-- what has grown can be checked -/
theorem grown_checks {v : Ev} {fs : List Fl} (h : gE v fs = 0) : F.checks (fs.map (gr v)) = 0 := by
  obtain ⟨hx, hb, _⟩ := g_ok h
  obtain ⟨hv, hF⟩ := xE_ok hx
  obtain ⟨n60, hall, hn⟩ := K.checks_all hF
  refine K.checks_of (by simpa using n60) (fun g hg => ?_) ?_
  · obtain ⟨f, hf, rfl⟩ := List.mem_map.1 hg
    exact gr_ok (ev_ok hv).1 (hall f hf) fun q => hb ⟨f, hf, q⟩
  · rw [List.map_map]
    have e : ((fun x : Fl => x.id) ∘ gr v) = fun x => x.id := funext fun f => gr_id v f
    rw [e]; exact hn
end C
end Go.Proofs.Yteblbhbfdfifpaa
