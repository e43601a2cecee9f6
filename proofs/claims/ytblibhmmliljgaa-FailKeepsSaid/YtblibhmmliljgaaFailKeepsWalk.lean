/- The walk of FailKeeps: joined. -/
import Derived.Test.YtblibhmmliljgaaFailKeepsC
import Derived.Test.YtblibhmmliljgaaFailO
import Derived.Test.YtblibhmmliljgaaFailPl3
namespace Go.Proofs.Ytblibhmmliljgaa
open Go.RowKit
set_option maxRecDepth 100000
set_option linter.unusedVariables false
set_option maxHeartbeats 2000000
theorem failKeeps_walk (f : Fl) (wf : WfF f) (a : Int) (wa : (Lit.int .i64 a).wf = true) (b : Int) (wb : (Lit.int .i64 b).wf = true) (w : World) :
    Calls Try.prog 4 #[.agg #[.int .i64 f.id, .int .i64 f.fr, .int .i64 f.to, .int .i64 f.cl, .int .i64 f.pa, .int .i64 f.day, .int .i64 f.un, .int .i64 f.de, .int .i64 f.bo, .int .i64 f.pd], .int .i64 a, .int .i64 b] w fun e w' => e = .returned (.bool true) ∧ Below w.heap.size w w' := by
  clear wf wa wb
  by_cases h : F.chk f = 0
  · have e0 := F.opn_yes h
    have ok0 := F.chk_ok h
    obtain ⟨v1, v2, v3, v4, v5, v6, v7, v8, v9⟩ := F.ok_bounds ok0
    have s0 := F.sum_left (f := f)
    by_cases h1 : F.less f a = 0
    · obtain ⟨okx, lx⟩ := F.deliver_ok h1
      obtain ⟨_, r1, r2, _⟩ := F.less_ok h1
      have d1 := F.deliver_yes h1
      have ux : (F.addDe f a).un = f.un := rfl
      have px : (F.addDe f a).pd = f.pd := rfl
      generalize F.addDe f a = x at *
      have lx' : F.left x ≤ F.left f := by omega
      by_cases h2 : F.less x b = 0
      · obtain ⟨oky, ly⟩ := F.buy_ok h2
        obtain ⟨_, t1, t2, _⟩ := F.less_ok h2
        have d2 := F.buy_yes h2
        have uy : (F.addBo x b).un = x.un := rfl
        have py : (F.addBo x b).pd = x.pd := rfl
        generalize F.addBo x b = y at *
        have ly' : F.left y ≤ F.left x := by omega
        obtain ⟨b1, b2, b3, b4, b5, b6, b7, b8, b9⟩ := F.ok_bounds oky
        have sy := F.sum_left (f := y)
        by_cases h3 : F.less y 1 = 0
        · obtain ⟨okz, lz, _⟩ := F.paid_ok h3
          obtain ⟨d3, d4⟩ := F.pay_yes h3
          have uz : (F.addPd y (F.left y)).un = y.un := rfl
          have pz : (F.addPd y (F.left y)).pd = y.pd + F.left y := rfl
          generalize F.addPd y (F.left y) = z at *
          obtain ⟨z1, z2, z3, z4, z5, z6, z7, z8, z9⟩ := F.ok_bounds okz
          have sz := F.sum_left (f := z)
          exact keeps_yyy f x y z a b w e0 h d1 h1 d2 h2 d3 d4 h3 ((F.opn_yes (F.chk_of okz)).trans lz) (F.chk_of okz) (by rw [beq_iff_eq]; omega) (by rw [beq_iff_eq]; omega) (by omega) ⟨by omega, by omega⟩ ⟨by omega, by omega⟩ ⟨by omega, by omega⟩ ⟨by omega, by omega⟩
        · obtain ⟨h5, h6⟩ := (F.less_one oky).resolve_left h3
          obtain ⟨d3, d4⟩ := F.pay_no h3
          have h3' : (F.less y 1 != 0) = true := by rw [bne_iff_ne]; exact h3
          exact keeps_yyn f x y a b w e0 h d1 h1 d2 h2 d3 d4 h3' ((F.opn_yes (F.chk_of oky)).trans h6) (F.chk_of oky) (by rw [beq_iff_eq]; omega) (by rw [beq_iff_eq]; omega) (by omega) ⟨by omega, by omega⟩ ⟨by omega, by omega⟩ ⟨by omega, by omega⟩ ⟨by omega, by omega⟩
      · have oky := okx
        have d2 := F.buy_no h2
        have h2' : (F.less x b != 0) = true := by rw [bne_iff_ne]; exact h2
        have uy : x.un = x.un := rfl
        have py : x.pd = x.pd := rfl
        have ly' : F.left x ≤ F.left x := Int.le_refl _
        obtain ⟨b1, b2, b3, b4, b5, b6, b7, b8, b9⟩ := F.ok_bounds oky
        have sy := F.sum_left (f := x)
        by_cases h3 : F.less x 1 = 0
        · obtain ⟨okz, lz, _⟩ := F.paid_ok h3
          obtain ⟨d3, d4⟩ := F.pay_yes h3
          have uz : (F.addPd x (F.left x)).un = x.un := rfl
          have pz : (F.addPd x (F.left x)).pd = x.pd + F.left x := rfl
          generalize F.addPd x (F.left x) = z at *
          obtain ⟨z1, z2, z3, z4, z5, z6, z7, z8, z9⟩ := F.ok_bounds okz
          have sz := F.sum_left (f := z)
          exact keeps_yny f x z a b w e0 h d1 h1 d2 h2' d3 d4 h3 ((F.opn_yes (F.chk_of okz)).trans lz) (F.chk_of okz) (by rw [beq_iff_eq]; omega) (by rw [beq_iff_eq]; omega) (by omega) ⟨by omega, by omega⟩ ⟨by omega, by omega⟩ ⟨by omega, by omega⟩ ⟨by omega, by omega⟩
        · obtain ⟨h5, h6⟩ := (F.less_one oky).resolve_left h3
          obtain ⟨d3, d4⟩ := F.pay_no h3
          have h3' : (F.less x 1 != 0) = true := by rw [bne_iff_ne]; exact h3
          exact keeps_ynn f x a b w e0 h d1 h1 d2 h2' d3 d4 h3' ((F.opn_yes (F.chk_of oky)).trans h6) (F.chk_of oky) (by rw [beq_iff_eq]; omega) (by rw [beq_iff_eq]; omega) (by omega) ⟨by omega, by omega⟩ ⟨by omega, by omega⟩ ⟨by omega, by omega⟩ ⟨by omega, by omega⟩
    · have okx := ok0
      have d1 := F.deliver_no h1
      have h1' : (F.less f a != 0) = true := by rw [bne_iff_ne]; exact h1
      have ux : f.un = f.un := rfl
      have px : f.pd = f.pd := rfl
      have lx' : F.left f ≤ F.left f := Int.le_refl _
      by_cases h2 : F.less f b = 0
      · obtain ⟨oky, ly⟩ := F.buy_ok h2
        obtain ⟨_, t1, t2, _⟩ := F.less_ok h2
        have d2 := F.buy_yes h2
        have uy : (F.addBo f b).un = f.un := rfl
        have py : (F.addBo f b).pd = f.pd := rfl
        generalize F.addBo f b = y at *
        have ly' : F.left y ≤ F.left f := by omega
        obtain ⟨b1, b2, b3, b4, b5, b6, b7, b8, b9⟩ := F.ok_bounds oky
        have sy := F.sum_left (f := y)
        by_cases h3 : F.less y 1 = 0
        · obtain ⟨okz, lz, _⟩ := F.paid_ok h3
          obtain ⟨d3, d4⟩ := F.pay_yes h3
          have uz : (F.addPd y (F.left y)).un = y.un := rfl
          have pz : (F.addPd y (F.left y)).pd = y.pd + F.left y := rfl
          generalize F.addPd y (F.left y) = z at *
          obtain ⟨z1, z2, z3, z4, z5, z6, z7, z8, z9⟩ := F.ok_bounds okz
          have sz := F.sum_left (f := z)
          exact keeps_nyy f y z a b w e0 h d1 h1' d2 h2 d3 d4 h3 ((F.opn_yes (F.chk_of okz)).trans lz) (F.chk_of okz) (by rw [beq_iff_eq]; omega) (by rw [beq_iff_eq]; omega) (by omega) ⟨by omega, by omega⟩ ⟨by omega, by omega⟩ ⟨by omega, by omega⟩ ⟨by omega, by omega⟩
        · obtain ⟨h5, h6⟩ := (F.less_one oky).resolve_left h3
          obtain ⟨d3, d4⟩ := F.pay_no h3
          have h3' : (F.less y 1 != 0) = true := by rw [bne_iff_ne]; exact h3
          exact keeps_nyn f y a b w e0 h d1 h1' d2 h2 d3 d4 h3' ((F.opn_yes (F.chk_of oky)).trans h6) (F.chk_of oky) (by rw [beq_iff_eq]; omega) (by rw [beq_iff_eq]; omega) (by omega) ⟨by omega, by omega⟩ ⟨by omega, by omega⟩ ⟨by omega, by omega⟩ ⟨by omega, by omega⟩
      · have oky := okx
        have d2 := F.buy_no h2
        have h2' : (F.less f b != 0) = true := by rw [bne_iff_ne]; exact h2
        have uy : f.un = f.un := rfl
        have py : f.pd = f.pd := rfl
        have ly' : F.left f ≤ F.left f := Int.le_refl _
        obtain ⟨b1, b2, b3, b4, b5, b6, b7, b8, b9⟩ := F.ok_bounds oky
        have sy := F.sum_left (f := f)
        by_cases h3 : F.less f 1 = 0
        · obtain ⟨okz, lz, _⟩ := F.paid_ok h3
          obtain ⟨d3, d4⟩ := F.pay_yes h3
          have uz : (F.addPd f (F.left f)).un = f.un := rfl
          have pz : (F.addPd f (F.left f)).pd = f.pd + F.left f := rfl
          generalize F.addPd f (F.left f) = z at *
          obtain ⟨z1, z2, z3, z4, z5, z6, z7, z8, z9⟩ := F.ok_bounds okz
          have sz := F.sum_left (f := z)
          exact keeps_nny f z a b w e0 h d1 h1' d2 h2' d3 d4 h3 ((F.opn_yes (F.chk_of okz)).trans lz) (F.chk_of okz) (by rw [beq_iff_eq]; omega) (by rw [beq_iff_eq]; omega) (by omega) ⟨by omega, by omega⟩ ⟨by omega, by omega⟩ ⟨by omega, by omega⟩ ⟨by omega, by omega⟩
        · obtain ⟨h5, h6⟩ := (F.less_one oky).resolve_left h3
          obtain ⟨d3, d4⟩ := F.pay_no h3
          have h3' : (F.less f 1 != 0) = true := by rw [bne_iff_ne]; exact h3
          exact keeps_nnn f a b w e0 h d1 h1' d2 h2' d3 d4 h3' ((F.opn_yes (F.chk_of oky)).trans h6) (F.chk_of oky) (by rw [beq_iff_eq]; omega) (by rw [beq_iff_eq]; omega) (by omega) ⟨by omega, by omega⟩ ⟨by omega, by omega⟩ ⟨by omega, by omega⟩ ⟨by omega, by omega⟩
  · have e0 := F.opn_no h
    have hb : (F.chk f != 0) = true := by rw [bne_iff_ne]; exact h
    clear h
    go_enter Try.func4, Try.ntmps4
    go_wp2_with fail
    refine (fopen_any f _).mono ?_
    rintro e w1 ⟨rfl, hb1⟩
    rw [e0]
    obtain ⟨hc1, hf1⟩ := bcell hb1
    have hz1 := hb1.size
    (try simp at hz1)
    have hy1_0 : w.heap.size < w1.heap.size := by omega
    go_wp2_with fail
    refine (fbegun_any _).mono ?_
    rintro e w2 ⟨rfl, hb2⟩
    obtain ⟨hc2, hf2⟩ := bcell hb2
    have hz2 := hb2.size
    (try simp at hz2)
    have hy2_0 : w.heap.size < w2.heap.size := by omega
    go_wp2
    go_ret
    refine ⟨rfl, ?_⟩
    (repeat (first | with_reducible exact Below.refl _ _ | (with_reducible refine bset ?_ ?_ _; focus (first | (simp; done) | (simp; omega) | omega)) | with_reducible refine balloc ?_ _ | with_reducible refine bdrew ?_ | with_reducible refine bthen ?_ (by assumption)))
end Go.Proofs.Ytblibhmmliljgaa
