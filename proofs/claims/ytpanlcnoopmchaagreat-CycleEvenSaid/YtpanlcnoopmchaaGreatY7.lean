/- Shared texts, one behind the other: CyPl7, VSized, VSizedW, BookPl4, VLe, VBook12 -/
import Derived.SizedLaws
import Derived.Test.YtpanlcnoopmchaaGreatY1
import Derived.Test.YtpanlcnoopmchaaGreatY2
import Derived.Test.YtpanlcnoopmchaaGreatY3
import Derived.Test.YtpanlcnoopmchaaGreatY4
import Derived.Test.YtpanlcnoopmchaaGreatY5
import Derived.Test.YtpanlcnoopmchaaGreatY6
set_option linter.unusedVariables false
set_option linter.unusedSimpArgs false
set_option maxRecDepth 100000

namespace Go.Proofs.YtpanlcnoopmchaaGreat.Cy
open Go Go.RowKit
noncomputable def fz (c : Cl) (t : List Tm) (x : Int) (pr : List Int) (td : Int) (f : Fl) : Fl := if Ag.stg c (Pn.cl t f) f td = 4 then Cp.pF f (P.pr pr f.pa) x else f
noncomputable def fp (c : Cl) (t : List Tm) (x : Int) (pr : List Int) (td : Int) (f : Fl) : List Po := if Ag.stg c (Pn.cl t f) f td = 4 then Cp.pL f (P.pr pr f.pa) x else []
noncomputable def fps (c : Cl) (t : List Tm) (x : Int) (pr : List Int) (td : Int) (l : List Fl) : List Po := l.flatMap (fp c t x pr td)
section
variable {c : Cl} {t : List Tm} {x : Int} {pr : List Int} {td : Int}
structure One (c : Cl) (t : List Tm) (x : Int) (pr : List Int) (td : Int) (s s' : St) (f : Fl) : Prop where
  e : s.e = 0
  out : s'.out = s.out ++ [fz c t x pr td f]
  ps : s'.ps = s.ps ++ fp c t x pr td f
  bk : (fp c t x pr td f = [] ∧ s'.bk = s.bk) ∨ (Bk.pE s.bk (fp c t x pr td f) = 0 ∧ s'.bk = Bk.pL s.bk (fp c t x pr td f))
  pay : Ag.stg c (Pn.cl t f) f td = 4 → Cp.pE f (P.pr pr f.pa) x = 0
theorem One.rt {s s' : St} {f : Fl} (h : One c t x pr td s s' f) : ∀ p ∈ fp c t x pr td f, Bk.Right p := by
  rcases h.bk with ⟨b1, _⟩ | ⟨b1, _⟩
  · rw [b1]; intro p hp; simp at hp
  · exact (Bk.pE_0.1 b1).r
theorem one_is {s : St} {f : Fl} (h : (one c t x pr td s f).e = 0) : One c t x pr td s (one c t x pr td s f) f := by
  by_cases e : s.e = 0
  · by_cases g : Ag.stg c (Pn.cl t f) f td = 4
    · have z1 : fz c t x pr td f = Cp.pF f (P.pr pr f.pa) x := if_pos g
      have z2 : fp c t x pr td f = Cp.pL f (P.pr pr f.pa) x := if_pos g
      by_cases p : Cp.pE f (P.pr pr f.pa) x = 0
      · by_cases l : (Cp.pL f (P.pr pr f.pa) x).length = 0
        · rw [one_3 e g p l]
          have l0 : Cp.pL f (P.pr pr f.pa) x = [] := List.eq_nil_of_length_eq_zero l
          exact ⟨e, by rw [z1], by rw [z2, l0]; simp, .inl ⟨by rw [z2, l0], rfl⟩, fun _ => p⟩
        · by_cases b : Bk.pE s.bk (Cp.pL f (P.pr pr f.pa) x) = 0
          · rw [one_5 e g p l b]
            exact ⟨e, by rw [z1], by rw [z2], .inr ⟨by rw [z2]; exact b, by rw [z2]⟩, fun _ => p⟩
          · rw [one_4 e g p l b] at h
            exact absurd h b
      · rw [one_2 e g p] at h
        exact absurd h p
    · have z1 : fz c t x pr td f = f := if_neg g
      have z2 : fp c t x pr td f = [] := if_neg g
      rw [one_1 e g]
      exact ⟨e, by rw [z1], by rw [z2]; simp, .inl ⟨z2, rfl⟩, fun q => absurd q g⟩
  · rw [one_0 e] at h
    exact absurd h e
structure Run (c : Cl) (t : List Tm) (x : Int) (pr : List Int) (td : Int) (s s' : St) (l : List Fl) : Prop where
  e : s.e = 0
  out : s'.out = s.out ++ l.map (fz c t x pr td)
  ps : s'.ps = s.ps ++ fps c t x pr td l
  bk : Bk.lines s.bk = 0 → Bk.lines s'.bk = 0 ∧ ∀ k, k < 2121 → Bk.tot s'.bk k = Bk.tot s.bk k + Bk.tot (fps c t x pr td l) k
  pay : ∀ f ∈ l, Ag.stg c (Pn.cl t f) f td = 4 → Cp.pE f (P.pr pr f.pa) x = 0
  rt : ∀ p ∈ fps c t x pr td l, Bk.Right p
theorem run_is : ∀ {l : List Fl} {s : St}, (run c t x pr td s l).e = 0 → Run c t x pr td s (run c t x pr td s l) l
  | [], s, h => ⟨h, by simp [run], by simp [run, fps], fun q => ⟨q, fun k _ => by rw [show fps c t x pr td [] = [] from rfl, Cp.tot_nil]; exact (Int.add_zero _).symm⟩, fun f hf => by simp at hf, fun p hp => by simp [fps] at hp⟩
  | f :: r, s, h => by
    have e : run c t x pr td s (f :: r) = run c t x pr td (one c t x pr td s f) r := rfl
    rw [e] at h ⊢
    have R := run_is h
    have O := one_is R.e
    have pe : fps c t x pr td (f :: r) = fp c t x pr td f ++ fps c t x pr td r := by unfold fps; rw [List.flatMap_cons]
    refine ⟨O.e, ?_, ?_, fun q => ?_, fun g hg => ?_, fun p hp => ?_⟩
    · rw [R.out, O.out, List.map_cons, List.append_assoc]; rfl
    · rw [R.ps, O.ps, pe, List.append_assoc]
    · rcases O.bk with ⟨b1, b2⟩ | ⟨b1, b2⟩
      · obtain ⟨r1, r2⟩ := R.bk (by rw [b2]; exact q)
        refine ⟨r1, fun k hk => ?_⟩
        rw [r2 k hk, b2, pe, b1]
        rfl
      · have P := Bk.pE_0.1 b1
        obtain ⟨r1, r2⟩ := R.bk (by rw [b2]; exact Bk.po_ok P)
        refine ⟨r1, fun k hk => ?_⟩
        rw [r2 k hk, b2, Bk.po_tot P hk, pe, Bk.tot_app]
        omega
    · rcases List.mem_cons.1 hg with rfl | hg
      · exact O.pay
      · exact R.pay g hg
    · rw [pe, List.mem_append] at hp
      exact hp.elim (O.rt p) (R.rt p)
theorem fz_ids (l : List Fl) (h : ∀ f ∈ l, Ag.stg c (Pn.cl t f) f td = 4 → Cp.pE f (P.pr pr f.pa) x = 0) : (l.map (fz c t x pr td)).map (·.id) = l.map (·.id) := by
  rw [List.map_map]
  refine List.map_congr_left fun f hf => ?_
  show (fz c t x pr td f).id = f.id
  unfold fz
  split
  · rename_i g
    unfold Cp.pF
    rw [if_pos (h f hf g)]
    rfl
  · rfl
theorem fz_is {f : Fl} (o : F.Ok f) (h : Ag.stg c (Pn.cl t f) f td = 4 → Cp.pE f (P.pr pr f.pa) x = 0) : F.Ok (fz c t x pr td f) ∧ (fz c t x pr td f).day = f.day ∧ (fz c t x pr td f).cl = f.cl ∧
    (Ag.stg c (Pn.cl t f) f td = 4 → F.left (fz c t x pr td f) = 0 ∧ f.pd < (fz c t x pr td f).pd) ∧ (¬ Ag.stg c (Pn.cl t f) f td = 4 → fz c t x pr td f = f) := by
  by_cases g : Ag.stg c (Pn.cl t f) f td = 4
  · have e : fz c t x pr td f = F.addPd f (F.left f) := by unfold fz; rw [if_pos g]; exact if_pos (h g)
    have l1 : F.less f 1 = 0 := by
      have := h g
      unfold Cp.pE at this
      split at this
      · exact absurd this (by assumption)
      · omega
    obtain ⟨p1, p2, p3⟩ := F.paid_ok l1
    rw [e]
    exact ⟨p1, rfl, rfl, fun _ => ⟨p2, by show f.pd < f.pd + F.left f; omega⟩, fun q => absurd g q⟩
  · have e : fz c t x pr td f = f := if_neg g
    rw [e]
    exact ⟨o, rfl, rfl, fun q => absurd q g, fun _ => rfl⟩
end
structure Nt (c : Cl) (t : List Tm) (x : Int) (w : Wd) (pr : List Int) : Prop where
  rk : rE c t x = 0
  wk : wE w = 0
  pk : P.chks pr = 0
  ok : wE (nW c t x w pr) = 0
  td : (nW c t x w pr).td = Ca.stp c w.td 1
  fs : (nW c t x w pr).fs = w.fs.map (fz c t x pr w.td)
  ps : nP c t x w pr = Pn.suL (du c t w pr) ++ fps c t x pr w.td w.fs
  bk : ∀ k, k < 2121 → Bk.tot (nW c t x w pr).bk k = Bk.tot w.bk k + Bk.tot (nP c t x w pr) k
  st : ∀ f ∈ w.fs, Ag.sE c (Pn.cl t f) f w.td = 0
  fo : ∀ f ∈ w.fs, F.Ok f
  pay : ∀ f ∈ w.fs, Ag.stg c (Pn.cl t f) f w.td = 4 → Cp.pE f (P.pr pr f.pa) x = 0
  dw : Ca.Day w.td
  up : Ca.Up c w.td 1 (nW c t x w pr).td
  dn : Ca.Day (nW c t x w pr).td
  rt : ∀ p ∈ nP c t x w pr, Bk.Right p
theorem nt {c : Cl} {t : List Tm} {x : Int} {w : Wd} {pr : List Int} (h : nE c t x w pr = 0) : Nt c t x w pr := by
  have e1 : (s1 c t x w pr).e = 0 := by
    apply Classical.byContradiction
    intro q
    exact q (((n_err q).1).symm.trans h)
  have ec : Ca.sE c w.td 1 = 0 := by
    apply Classical.byContradiction
    intro q
    exact q (((n_end e1 q).1).symm.trans h)
  obtain ⟨_, nw, np⟩ := n_yes e1 ec
  have R : Run c t x pr w.td (s0 c t x w pr) (s1 c t x w pr) w.fs := run_is e1
  obtain ⟨b0, p0, e0⟩ := s0_ok R.e
  obtain ⟨r0, w0, k0, o0, y0⟩ := nB_ok b0
  obtain ⟨n1, n2, n3, n4, n5, n6, n7⟩ := night_ok R.e
  obtain ⟨d0, f0, l0⟩ := wE_ok w0
  obtain ⟨_, yf, _⟩ := Pn.y_ok y0
  obtain ⟨c1, c2, c3, c4, c5⟩ := Ca.sE_ok ec
  obtain ⟨k1, k2, k3⟩ := K.checks_all f0
  have u := (Ca.stp_is c2 c5.1).1 (by decide)
  have B : Bk.lines (s0 c t x w pr).bk = 0 ∧ ∀ k, k < 2121 → Bk.tot (s0 c t x w pr).bk k = Bk.tot w.bk k + Bk.tot (Pn.suL (du c t w pr)) k := by
    rw [n6]
    unfold psB
    by_cases z : (Pn.suL (du c t w pr)).length = 0
    · rw [if_pos z, List.eq_nil_of_length_eq_zero z]
      exact ⟨l0, fun k _ => by rw [Cp.tot_nil]; omega⟩
    · rw [if_neg z]
      have P := Bk.pE_0.1 (n3 z).2
      exact ⟨Bk.po_ok P, fun k hk => Bk.po_tot P hk⟩
  obtain ⟨B1, B2⟩ := R.bk B.1
  have ofs : (s1 c t x w pr).out = w.fs.map (fz c t x pr w.td) := by rw [R.out, n5]; rfl
  have ops : (s1 c t x w pr).ps = Pn.suL (du c t w pr) ++ fps c t x pr w.td w.fs := by rw [R.ps, n7]
  have td : (nW c t x w pr).td = Ca.stp c w.td 1 := by rw [nw]; exact c4
  have fs : (nW c t x w pr).fs = w.fs.map (fz c t x pr w.td) := by rw [nw]; exact ofs
  refine ⟨r0, w0, k0, ?_, td, fs, np.trans ops, ?_, yf, k2, R.pay, c2, by rw [td]; exact u, by rw [td]; exact c5, ?_⟩
  · refine wE_of ?_ ?_ ?_
    · rw [td]
      rcases Ca.dchk (Ca.stp c w.td 1) with q | q
      · exact q.1
      · exact absurd c5 q.2
    · rw [fs]
      refine K.checks_of (by rw [List.length_map]; exact k1) (fun f hf => ?_) ?_
      · obtain ⟨g, hg, rfl⟩ := List.mem_map.1 hf
        exact (fz_is (k2 g hg) (R.pay g hg)).1
      · rw [fz_ids w.fs R.pay]; exact k3
    · rw [nw]; exact B1
  · intro k hk
    rw [np, ops, Bk.tot_app, nw]
    show Bk.tot (s1 c t x w pr).bk k = _
    rw [B2 k hk, B.2 k hk]
    omega
  · intro p hp
    rw [np, ops, List.mem_append] at hp
    rcases hp with hp | hp
    · by_cases z : (Pn.suL (du c t w pr)).length = 0
      · rw [List.eq_nil_of_length_eq_zero z] at hp; simp at hp
      · exact (Bk.pE_0.1 (n3 z).2).r p hp
    · exact R.rt p hp
theorem fps_len (c : Cl) (t : List Tm) (x : Int) (pr : List Int) (td : Int) : ∀ l : List Fl, (fps c t x pr td l).length ≤ 2 * l.length
  | [] => by simp [fps]
  | f :: r => by
    have ih := fps_len c t x pr td r
    have e : fps c t x pr td (f :: r) = fp c t x pr td f ++ fps c t x pr td r := by unfold fps; rw [List.flatMap_cons]
    have : (fp c t x pr td f).length ≤ 2 := by
      unfold fp
      split
      · exact pL_len _ _ _
      · simp
    rw [e, List.length_append, List.length_cons]
    omega
theorem nP_len {c : Cl} {t : List Tm} {x : Int} {w : Wd} {pr : List Int} (h : nE c t x w pr = 0) : (nP c t x w pr).length ≤ 151 := by
  have N := nt h
  have a := fps_len c t x pr w.td w.fs
  have b := (wE_len N.wk).1
  have d : (Pn.suL (du c t w pr)).length ≤ 31 := by
    unfold Pn.suL
    split
    · exact Pn.pos_len _ _
    · exact Nat.zero_le _
  rw [N.ps, List.length_append]
  omega
theorem nW_at {c : Cl} {t : List Tm} {x : Int} {w : Wd} {pr : List Int} (h : nE c t x w pr = 0) : (nW c t x w pr).fs.length = w.fs.length ∧ ∀ i : Nat, i < w.fs.length → (nW c t x w pr).fs.getD i default = fz c t x pr w.td (w.fs.getD i default) := by
  have e := (nt h).fs
  refine ⟨by rw [e, List.length_map], fun i hi => ?_⟩
  rw [e, getD_at (by rw [List.length_map]; exact hi), List.getElem_map, getD_at hi]
theorem zw_of {c : Cl} {t : List Tm} {x : Int} {w : Wd} {pr : List Int} (h : ¬ nE c t x w pr = 0) : nW c t x w pr = zw ∧ nP c t x w pr = [] := ⟨if_neg h, if_neg h⟩
theorem ends {c : Cl} {t : List Tm} {x : Int} {w : Wd} {pr : List Int} (h : nE c t x w pr = 0) {f : Fl} (hf : f ∈ (nW c t x w pr).fs) :
    Ag.dE c (Pn.cl t f) f.day = 0 ∧ F.chk f = 0 ∧ ¬ (w.td > Ag.dD c (Pn.cl t f) f.day ∧ w.td > f.day ∧ F.opn f > 0) := by
  have N := nt h
  rw [N.fs] at hf
  obtain ⟨g, hg, rfl⟩ := List.mem_map.1 hf
  obtain ⟨i1, i2, i3, i4, i5⟩ := fz_is (N.fo g hg) (N.pay g hg)
  obtain ⟨s1, s2, s3, s4, s5⟩ := Ag.sE_ok (N.st g hg)
  have hd := Ag.f_day s3
  have cl : Pn.cl t (fz c t x pr w.td g) = Pn.cl t g := by unfold Pn.cl; rw [i3]
  rw [cl, i2]
  have ck : Ag.ck c (Pn.cl t g) = 0 := by
    rw [Ag.ck_2 s1]; exact if_pos s2
  have dc : D.chk g.day = 0 := by
    rcases Ca.dchk g.day with q | q
    · exact q.1
    · exact absurd hd q.2
  have d := Ag.dE_4 ck dc s5
  obtain ⟨_, _, _, _, _, _, dD⟩ := Ag.dE_ok d
  have oc := F.chk_of i1
  refine ⟨d, oc, ?_⟩
  rintro ⟨a, b, o⟩
  rw [F.opn_yes oc] at o
  rw [dD] at a
  have m := Ag.days s2 hd s5
  by_cases q : Ag.stg c (Pn.cl t g) g w.td = 4
  · have := (i4 q).1; omega
  · rw [i5 q] at o
    refine q ?_
    unfold Ag.stg Ag.one
    rw [if_neg (by omega), if_pos (by omega), if_pos (by omega), if_pos (by omega), if_pos (by omega)]
    rfl
def mor (l : List Po) (a u : Int) : List Int := (l.filter fun p => decide (p.ac = a ∧ p.ut = u)).map (·.am)
theorem mor_snoc {l : List Po} {a u : Int} {k : Nat} (h : k < l.length) : mor (l.take (k + 1)) a u = mor (l.take k) a u ++ if (l.getD k default).ac = a ∧ (l.getD k default).ut = u then [(l.getD k default).am] else [] := by
  unfold mor
  rw [List.take_succ_eq_append_getElem h, List.filter_append, List.map_append, ← getD_at h]
  by_cases e : (l.getD k default).ac = a ∧ (l.getD k default).ut = u
  · rw [if_pos e, List.filter_cons_of_pos (by simpa using e)]; rfl
  · rw [if_neg e, List.filter_cons_of_neg (by simpa using e)]; rfl
theorem mor_len (l : List Po) (a u : Int) : (mor l a u).length ≤ l.length := by
  unfold mor; rw [List.length_map]; exact List.length_filter_le _ _
theorem mor_tot {l : List Po} {a u : Int} (k : Bk.Kn a u) (h : ∀ p ∈ l, Bk.Right p) : M.sum (mor l a u) = Bk.tot l (Bk.kk a u) := by
  unfold mor Bk.tot Bk.amk
  congr 2
  refine List.filter_congr fun p hp => ?_
  have := Bk.kk_key k (h p hp)
  by_cases q : p.ac = a ∧ p.ut = u
  · simp [q, this.2 q]
  · have : ¬ Bk.key p = Bk.kk a u := fun z => q (this.1 z)
    simp [q, this]
structure Ev1 (c : Cl) (t : List Tm) (x : Int) (w : Wd) (pr : List Int) (a u : Int) : Prop where
  e : Bk.bE (nW c t x w pr).bk a u = Bk.bE w.bk a u
  j : ∀ z ∈ mor (nP c t x w pr) a u ++ [Bk.bV w.bk a u], M.Amt z
  s : Bk.bE w.bk a u = 0 → M.sum (mor (nP c t x w pr) a u ++ [Bk.bV w.bk a u]) = Bk.bV (nW c t x w pr).bk a u ∧ M.Amt (Bk.bV (nW c t x w pr).bk a u)
theorem even_is {c : Cl} {t : List Tm} {x : Int} {w : Wd} {pr : List Int} (h : nE c t x w pr = 0) (a u : Int) : Ev1 c t x w pr a u := by
  have N := nt h
  obtain ⟨_, _, l0⟩ := wE_ok N.wk
  obtain ⟨_, _, l1⟩ := wE_ok N.ok
  obtain ⟨L0, E0⟩ := Bk.lines_0 l0
  obtain ⟨L1, E1⟩ := Bk.lines_0 l1
  have amt0 : M.Amt (Bk.bV w.bk a u) := by
    by_cases k : Bk.Kn a u
    · rw [Bk.bV_is L0 E0 k]; exact Bk.tot_amt L0 _
    · have : Bk.bE w.bk a u = 3 := by rw [Bk.bE_is l0, if_neg k]
      rw [show Bk.bV w.bk a u = 0 from if_neg (by rw [this]; decide)]
      unfold M.Amt; omega
  refine ⟨by rw [Bk.bE_is l0, Bk.bE_is l1], fun z hz => ?_, fun q => ?_⟩
  · rcases List.mem_append.1 hz with hz | hz
    · unfold mor at hz
      obtain ⟨p, hp, rfl⟩ := List.mem_map.1 hz
      exact (N.rt p (List.mem_filter.1 hp).1).2.1
    · rw [List.mem_singleton] at hz; rw [hz]; exact amt0
  · rw [Bk.bE_is l0] at q
    have k : Bk.Kn a u := by
      apply Classical.byContradiction
      intro z
      rw [if_neg z] at q; cases q
    have b := Bk.kk_r k
    have e : M.sum (mor (nP c t x w pr) a u ++ [Bk.bV w.bk a u]) = Bk.bV (nW c t x w pr).bk a u := by
      rw [M.sum_append, mor_tot k N.rt, Bk.bV_is L1 E1 k, Bk.bV_is L0 E0 k, N.bk _ b.1]
      simp only [M.sum]
      omega
    exact ⟨e, by rw [Bk.bV_is L1 E1 k]; exact Bk.tot_amt L1 _⟩
theorem even_pd {c : Cl} {t : List Tm} {x : Int} {w : Wd} {pr : List Int} (h : nE c t x w pr = 0) {i : Nat} (hi : i < w.fs.length) :
    Ag.sE c (Pn.cl t (w.fs.getD i default)) (w.fs.getD i default) w.td = 0 ∧ (Ag.sV c (Pn.cl t (w.fs.getD i default)) (w.fs.getD i default) w.td = 4 ↔ (w.fs.getD i default).pd < ((nW c t x w pr).fs.getD i default).pd) := by
  have N := nt h
  have m := getD_mem (l := w.fs) hi
  have s := N.st _ m
  refine ⟨s, ?_⟩
  rw [Ag.sV_yes s, (nW_at h).2 i hi]
  obtain ⟨_, _, _, i4, i5⟩ := fz_is (N.fo _ m) (N.pay _ m)
  constructor
  · intro q; exact (i4 q).2
  · intro q
    apply Classical.byContradiction
    intro z
    rw [i5 z] at q
    omega
section
variable {c : Cl} {t : List Tm} {x : Int} {pr : List Int} {td : Int}
theorem one_sim {s s' : St} {f : Fl} (h1 : s.e = s'.e) (h2 : s.bk = s'.bk) (h3 : s.ps = s'.ps) :
    (one c t x pr td s f).e = (one c t x pr td s' f).e ∧ (one c t x pr td s f).bk = (one c t x pr td s' f).bk ∧ (one c t x pr td s f).ps = (one c t x pr td s' f).ps := by
  unfold one
  rw [← h1, ← h2, ← h3]
  (repeat' split) <;> exact ⟨by first | rfl | assumption, by first | rfl | assumption, by first | rfl | assumption⟩
theorem run_opn : ∀ {l : List Fl} {s s' : St}, (∀ f ∈ l, F.Ok f) → s.e = s'.e → s.bk = s'.bk → s.ps = s'.ps →
    (run c t x pr td s l).e = (run c t x pr td s' (opn l)).e ∧ (run c t x pr td s l).bk = (run c t x pr td s' (opn l)).bk ∧ (run c t x pr td s l).ps = (run c t x pr td s' (opn l)).ps
  | [], s, s', _, h1, h2, h3 => ⟨h1, h2, h3⟩
  | f :: r, s, s', hl, h1, h2, h3 => by
    have e : run c t x pr td s (f :: r) = run c t x pr td (one c t x pr td s f) r := rfl
    rw [e]
    by_cases o : 0 < F.left f
    · have e2 : opn (f :: r) = f :: opn r := by unfold opn; rw [List.filter_cons_of_pos (by simpa using o)]
      rw [e2, show run c t x pr td s' (f :: opn r) = run c t x pr td (one c t x pr td s' f) (opn r) from rfl]
      obtain ⟨a, b, d⟩ := one_sim (c := c) (t := t) (x := x) (pr := pr) (td := td) (f := f) h1 h2 h3
      exact run_opn (fun g hg => hl g (List.mem_cons_of_mem _ hg)) a b d
    · have e2 : opn (f :: r) = opn r := by unfold opn; rw [List.filter_cons_of_neg (by simpa using o)]
      rw [e2]
      have b := F.ok_bounds (hl f (by simp))
      have g : ¬ Ag.stg c (Pn.cl t f) f td = 4 := by unfold Ag.stg; rw [if_pos (by omega)]; decide
      by_cases z : s.e = 0
      · rw [one_1 z g]
        exact run_opn (fun g hg => hl g (List.mem_cons_of_mem _ hg)) (by show (0 : Int) = s'.e; omega) h2 h3
      · rw [one_0 z]
        exact run_opn (fun g hg => hl g (List.mem_cons_of_mem _ hg)) h1 h2 h3
theorem dus_opn {n : Int} : ∀ {l : List Fl}, (∀ f ∈ l, F.Ok f) → (∀ f ∈ l, Pn.eF c t n f = 0) → Pn.dus c t pr n (opn l) = Pn.dus c t pr n l
  | [], _, _ => rfl
  | f :: r, hl, he => by
    have ih := dus_opn (fun g hg => hl g (List.mem_cons_of_mem _ hg)) (fun g hg => he g (List.mem_cons_of_mem _ hg))
    have e : Pn.dus c t pr n (f :: r) = Pn.du1 c t pr n f ++ Pn.dus c t pr n r := by unfold Pn.dus; rw [List.flatMap_cons]
    by_cases o : 0 < F.left f
    · have e2 : opn (f :: r) = f :: opn r := by unfold opn; rw [List.filter_cons_of_pos (by simpa using o)]
      rw [e2, e, ← ih]
      unfold Pn.dus; rw [List.flatMap_cons]
    · have e2 : opn (f :: r) = opn r := by unfold opn; rw [List.filter_cons_of_neg (by simpa using o)]
      have b := F.ok_bounds (hl f (by simp))
      rw [e2, e, ih, Pn.du1_no fun q => ?_]
      · rfl
      · have s := he f (by simp)
        have := (Pn.late_iff s).1 q.1
        unfold Ag.stg at this
        rw [if_pos (by omega)] at this
        omega
theorem y_opn {n : Int} {l : List Fl} (hk : F.checks l = 0) (he : Ca.Day n → ∀ f ∈ l, Pn.eF c t n f = 0) : Pn.yD c t (opn l) pr n = Pn.yD c t l pr n ∧ Pn.yL c t (opn l) pr n = Pn.yL c t l pr n := by
  have ho := opn_checks hk
  have e : Pn.yE c t (opn l) pr n = Pn.yE c t l pr n := by unfold Pn.yE; rw [hk, ho]
  by_cases z : Pn.yE c t l pr n = 0
  · have R := Pn.yE_0 z
    have dn : Ca.Day n := by
      have o := R.ko
      unfold Pn.oE at o
      split at o
      · exact absurd o (by assumption)
      · exact (Ca.e1_ok (c := c) (n := n) (by omega)).2.1
    have h1 := Pn.y_yes z (fb_yes (he dn))
    have h2 := Pn.y_yes (e.trans z) (fb_yes fun f hf => he dn f (List.mem_filter.1 hf).1)
    exact ⟨h2.1.trans h1.1.symm, by rw [h2.2, h1.2]; exact dus_opn (K.checks_all hk).2.1 (he dn)⟩
  · have h1 := Pn.y_no z
    have h2 := Pn.y_no (by rw [e]; exact z : ¬ Pn.yE c t (opn l) pr n = 0)
    exact ⟨by rw [h1.1, h2.1, e], by rw [h1.2, h2.2]⟩
end
theorem once {c : Cl} {t : List Tm} {x : Int} {w : Wd} {pr : List Int} (h : nE c t x w pr = 0) (y : Wd) (hy : y = nW c t x w pr) :
    wE y = 0 ∧ nE c t x ⟨y.td, opn y.fs, y.bk⟩ pr = nE c t x y pr ∧ nP c t x ⟨y.td, opn y.fs, y.bk⟩ pr = nP c t x y pr ∧ (nW c t x ⟨y.td, opn y.fs, y.bk⟩ pr).bk = (nW c t x y pr).bk ∧ (nW c t x ⟨y.td, opn y.fs, y.bk⟩ pr).td = (nW c t x y pr).td := by
  have N := nt h
  have W : wE y = 0 := by rw [hy]; exact N.ok
  obtain ⟨d0, f0, l0⟩ := wE_ok W
  obtain ⟨k1, k2, k3⟩ := K.checks_all f0
  have W' : wE ⟨y.td, opn y.fs, y.bk⟩ = 0 := wE_of d0 (opn_checks f0) l0
  have he : Ca.Day y.td → ∀ f ∈ y.fs, Pn.eF c t y.td f = 0 := fun dy f hf => by
    rw [hy, N.fs] at hf
    obtain ⟨g, hg, rfl⟩ := List.mem_map.1 hf
    obtain ⟨i1, i2, i3, i4, i5⟩ := fz_is (N.fo g hg) (N.pay g hg)
    obtain ⟨s1, s2, s3, s4, s5⟩ := Ag.sE_ok (N.st g hg)
    have cl : Pn.cl t (fz c t x pr w.td g) = Pn.cl t g := by unfold Pn.cl; rw [i3]
    clear hy
    unfold Pn.eF
    rw [cl]
    exact Ag.sE_of s1 s2 (F.chk_of i1) dy (by rw [i2]; exact s5)
  obtain ⟨q1, q2⟩ := y_opn (pr := pr) f0 he
  have e1 : nB c t x ⟨y.td, opn y.fs, y.bk⟩ pr = nB c t x y pr := by
    unfold nB
    rw [W, W']
    simp only [q1]
  have e2 : du c t ⟨y.td, opn y.fs, y.bk⟩ pr = du c t y pr := q2
  have e3 : s0 c t x ⟨y.td, opn y.fs, y.bk⟩ pr = s0 c t x y pr := by
    unfold s0
    rw [e1, e2]
    rfl
  obtain ⟨r1, r2, r3⟩ := run_opn (c := c) (t := t) (x := x) (pr := pr) (td := y.td) (s := s0 c t x y pr) (s' := s0 c t x y pr) k2 rfl rfl rfl
  have e4 : (s1 c t x ⟨y.td, opn y.fs, y.bk⟩ pr).e = (s1 c t x y pr).e ∧ (s1 c t x ⟨y.td, opn y.fs, y.bk⟩ pr).bk = (s1 c t x y pr).bk ∧ (s1 c t x ⟨y.td, opn y.fs, y.bk⟩ pr).ps = (s1 c t x y pr).ps := by
    unfold s1
    rw [e3]
    exact ⟨r1.symm, r2.symm, r3.symm⟩
  obtain ⟨g1, g2, g3⟩ := e4
  have e5 : nE c t x ⟨y.td, opn y.fs, y.bk⟩ pr = nE c t x y pr := by unfold nE; rw [g1]
  refine ⟨W, e5, ?_, ?_, ?_⟩
  · unfold nP; rw [e5, g3]
  · unfold nW; rw [e5]; split
    · exact g2
    · rfl
  · unfold nW; rw [e5]; split <;> rfl
theorem keeps {c : Cl} {t : List Tm} {x : Int} {w : Wd} {pr : List Int} (h : nE c t x w pr = 0) {i : Nat} (hi : i < w.fs.length) (o : F.left (w.fs.getD i default) = 0) : (nW c t x w pr).fs.getD i default = w.fs.getD i default := by
  rw [(nW_at h).2 i hi]
  unfold fz Ag.stg
  rw [if_pos o, if_neg (by decide)]
end Go.Proofs.YtpanlcnoopmchaaGreat.Cy

namespace Go.Proofs.YtpanlcnoopmchaaGreat
open Go Go.RowKit Go.ChangeShapes Go.WideShapes V
section
variable {H : Type} {enc : TypeId × Value → H} {P : Program} {W : World} {base : Nat} {spare : Nat → Bool} {held : Bool}
theorem open_len {t e s n : Nat} {get : Nat → List Value} {r : Reach} {b0 : Nat} {v : Value} {d : DataW H} {p : List MemPlace} (hu : P.underlying t = some (.slice e)) (h : DataW.Trod enc P W base spare held t v d p) (hl : ArrIs W v s n get) :
    n = 0 ∨ ∃ el sp, d = .slice el sp ∧ n ≤ el.length + sp.length := by
  obtain ⟨A, c, rfl, _⟩ := hl
  obtain ⟨fuel, hf⟩ := h
  rcases Go.Deep.open_slice hu hf with ⟨hcs, _⟩ | ⟨a, len', cap', m, k, D, Pl, hcs, _, hl, hm, hmm, hx, hi⟩
  · have e : (Value.slice A n c) = .slice none 0 0 := by simpa [Value.cells] using hcs
    injection e with e1 e2 e3
    exact .inl e2
  · have e : (Value.slice A n c) = .slice (some a) len' cap' := by simpa [Value.cells] using hcs
    injection e with e1 e2 e3
    subst e2
    injection hx with h1 h2
    exact .inr ⟨_, _, h1, by simp⟩
end
end Go.Proofs.YtpanlcnoopmchaaGreat

namespace Go.Proofs.YtpanlcnoopmchaaGreat
open Go Go.RowKit Go.ChangeShapes Go.WideShapes V
section
variable {H : Type} {enc : TypeId × Value → H} {P : Program} {W : World} {base : Nat} {spare : Nat → Bool} {held : Bool}
theorem len_field {ts : List TypeId} {ds : List (DataW H)} (hsz : (DataW.weightsEach P ts ds).all (· ≤ reachBytes) = true) {j t e s n B i ft o : Nat} {get : Nat → List Value} {v u : Value} {d : DataW H} {p : List MemPlace} {fs : Array Field} (ht : ts[j]? = some t) (hd : ds[j]? = some d)
    (h : DataW.Trod enc P W base spare held t v d p) (hs : P.underlying t = some (.struct fs)) (hf : (fs[i]?).map (fun f => (f.type, f.offset)) = some (ft, o)) (hc : P.cellsOf ft = 1) (hcs : (v.cells.toList.drop o).take 1 = [u])
    (hu : P.underlying ft = some (.slice e)) (hB : P.bytesOf e = B) (hl : ArrIs W u s n get) : n * B ≤ 140737488351232 := by
  obtain ⟨fuel, hr⟩ := h
  obtain ⟨xs, m, _, hx, _, hlen, hg⟩ := DataW.trod_struct hs hr
  obtain ⟨f, hfi, he⟩ := Option.map_eq_some_iff.1 hf
  injection he with e1 e2
  have g := hg i f hfi
  rw [e1, e2, hc, hcs] at g
  have hi : i < fs.size := by
    rcases Nat.lt_or_ge i fs.size with q | q
    · exact q
    · rw [Array.getElem?_eq_none q] at hfi; cases hfi
  rw [List.getElem?_eq_getElem (by omega)] at g
  injection hx with d1 d2
  have hp : (xs.map (·.1))[i]? = some (xs[i]'(by omega)).1 := by
    rw [List.getElem?_map, List.getElem?_eq_getElem (by omega)]; rfl
  have hti : (fs.toList.map (·.type))[i]? = some ft := by
    rw [List.getElem?_map, Array.getElem?_toList, hfi, ← e1]; rfl
  obtain ⟨A, c, rfl, hA⟩ := hl
  have tr : DataW.Trod enc P W base spare held ft (.slice A n c) (xs[i]'(by omega)).1 (xs[i]'(by omega)).2 := ⟨m, g⟩
  rcases open_len (r := .any) (b0 := 0) hu tr ⟨A, c, rfl, hA⟩ with rfl | ⟨el, sp, hq, hn⟩
  · rw [Nat.zero_mul]; omega
  · rw [hq] at hp
    have w1 : (el.length + sp.length) * P.bytesOf e ∈ DataW.weights P ft (.slice el sp) := by simp [DataW.weights, hu]
    have w2 := DataW.weights_mem_each (P := P) hti hp _ w1
    have w3 : (el.length + sp.length) * P.bytesOf e ∈ DataW.weights P t d := by
      rw [d1]
      simp only [DataW.weights, hs]
      exact w2
    have w4 := List.all_eq_true.1 hsz _ (DataW.weights_mem_each ht hd _ w3)
    have w5 : (el.length + sp.length) * P.bytesOf e ≤ reachBytes := by simpa using w4
    rw [hB] at w5
    have : n * B ≤ (el.length + sp.length) * B := Nat.mul_le_mul_right _ hn
    simp only [reachBytes] at w5
    omega
end
end Go.Proofs.YtpanlcnoopmchaaGreat

namespace Go.Proofs.YtpanlcnoopmchaaGreat
def l0 : List Po := [⟨2, 0, 5⟩, ⟨1, 0, -8⟩, ⟨3, 0, 3⟩]
def b0 : List Po := [⟨1, 0, -8⟩, ⟨2, 0, 5⟩, ⟨3, 0, 3⟩]
def t0 : List Po := [⟨3, 0, -3⟩, ⟨1, 0, 8⟩, ⟨2, 0, -5⟩]
theorem bg1 : Bk.pE [] l0 = 0 := by kernel_rfl
theorem bg2 : Bk.pL [] l0 = b0 := by kernel_rfl
theorem bg3 : Bk.bE b0 1 0 = 0 ∧ Bk.bV b0 1 0 = -8 := ⟨by kernel_rfl, by kernel_rfl⟩
theorem bg4 : Bk.chk l0 = 0 ∧ Bk.tL l0 = t0 := ⟨by kernel_rfl, by kernel_rfl⟩
theorem bg5 : Bk.pE b0 t0 = 0 ∧ Bk.pL b0 t0 = [] := ⟨by kernel_rfl, by kernel_rfl⟩
theorem bg6 : Bk.tE b0 = 0 ∧ Bk.tV b0 = [8, 0, 0, 0, 0, 0, 0, 0, 0, 0, 0, 0, 0, 0, 0, 0, 0, 0, 0, 0, 0] := ⟨by kernel_rfl, by kernel_rfl⟩
theorem bg7 : Bk.pE b0 (l0.take 2) = 4 ∧ Bk.pL b0 (l0.take 2) = [] := ⟨by kernel_rfl, by kernel_rfl⟩
theorem bg8 : Bk.chk [] = 1 ∧ Bk.lines [] = 0 := ⟨by kernel_rfl, by kernel_rfl⟩
end Go.Proofs.YtpanlcnoopmchaaGreat

namespace Go.Proofs.YtpanlcnoopmchaaGreat.V
open Go Go.RowKit
theorem NCall.le {P : Program} {f : FuncId} {args : List SV} {obs : Obs} {nx : Nat} {K : SV → Obs → Nat → Prop} (obs' : Obs) (ho : ObsLe (sgm []) obs obs') (hb : obsB nx obs' = true) (h : NCall P f args obs' nx K) : NCall P f args obs nx K := by
  refine ⟨h.b, fun B ρ w xs hC hxs => ?_⟩
  have c := hC.head ho hb (injB_id nx)
  have e : cut nx (via (sgm []) ρ) = ρ := funext fun i => by
    unfold cut via
    split
    · rfl
    · exact (hC.new i (by omega)).symm
  rw [e] at c
  exact h.h B ρ w xs c hxs
theorem fnd_cons2 {α : Type} {i j : Nat} {x : α} {l : List (Nat × α)} {o : α} (h : fnd ((i, x) :: l) j = some o) : (i = j ∧ o = x) ∨ (i ≠ j ∧ fnd l j = some o) := by
  unfold fnd at h
  cases q : Nat.beq i j
  · rw [q] at h
    exact .inr ⟨fun e => by subst e; simp at q, h⟩
  · rw [q] at h
    exact .inl ⟨Nat.eq_of_beq_eq_true q, (Option.some.inj h).symm⟩
theorem Cls.lit {B nx : Nat} {ρ : Rho} {obs : Obs} {w : World} (hC : Cls B ρ obs nx w) {i : Nat} {t : TypeId} {s n : Nat} {rows : List (List At)} {g : Nat → List Value} (hf : fnd obs i = some (.lit t s rows)) (ht : ObTo id (.lit t s rows) (.arr s n g)) : Cls B ρ ((i, .arr s n g) :: obs) nx w := by
  have nf : ∀ b, foot ρ i (.arr s n g) = some b → foot ρ i (.lit t s rows) = some b := fun b hb => by
    unfold foot at hb ⊢
    cases n with
    | zero => cases hb
    | succ n => exact hb
  refine ⟨hC.le, fun j o h => ?_, fun j k o o' b h1 h2 hne hm hb => ?_, hC.new, Apx.cons hC.apx (fun _ _ _ _ => rfl) fun j u b _ hu hb q => (hC.apx j i u _ b hu hf hb).1 (nf b q)⟩
  · rcases fnd_cons2 h with ⟨rfl, rfl⟩ | ⟨_, h⟩
    · obtain ⟨v, e, hr⟩ := ObTo.ro ht (hC.sat _ _ hf)
      exact ⟨v, e, hr⟩
    · exact hC.sat j o h
  · rcases fnd_cons2 h1 with ⟨rfl, rfl⟩ | ⟨_, h1⟩
    · cases hm
    · rcases fnd_cons2 h2 with ⟨rfl, rfl⟩ | ⟨_, h2⟩
      · exact fun z => hC.apart j _ o _ b h1 hf hne hm hb (nf b z)
      · exact hC.apart j k o o' b h1 h2 hne hm hb
theorem NCall.lit_ {P : Program} {f : FuncId} {args : List SV} {obs : Obs} {nx : Nat} {K : SV → Obs → Nat → Prop} (i : Nat) {t : TypeId} {s n : Nat} {rows : List (List At)} {g : Nat → List Value} (hf : fnd obs i = some (.lit t s rows)) (ht : ObTo id (.lit t s rows) (.arr s n g)) (h : NCall P f args ((i, .arr s n g) :: obs) nx K) : NCall P f args obs nx K :=
  ⟨h.b, fun B ρ w xs hC hxs => h.h B ρ w xs (hC.lit hf ht) hxs⟩
end Go.Proofs.YtpanlcnoopmchaaGreat.V

namespace Go.Proofs.YtpanlcnoopmchaaGreat
open Go Go.Sort Go.RowKit V
set_option maxHeartbeats 4000000
theorem cut2 (k : Nat) (hk : k < 2) : ga encP l0 (0 + k) = ga encP (l0.take 2) k := by rw [Nat.zero_add, ga_take hk (by decide)]
theorem v_bkBegun : V.Fn Tryz.prog 33 [] [] (.bool true) := by
  have p1 := v_bkPost [] l0 (by decide) (by decide)
  have p2 := v_bkBalance b0 1 0 (by decide)
  have p3 := v_bkTurn l0 (by decide)
  have p4 := v_bkPost b0 t0 (by decide) (by decide)
  have p5 := v_bkTrial b0 (by decide)
  have p6 := v_bkPost b0 (l0.take 2) (by decide) (by decide)
  have p7 := v_bkCheck [] (by decide)
  have p8 := v_bkLines [] (by decide)
  rw [bg1, bg2] at p1
  rw [bg3.1, bg3.2] at p2
  rw [bg4.1, bg4.2] at p3
  rw [bg5.1, bg5.2] at p4
  rw [bg6.1, bg6.2] at p5
  rw [bg7.1, bg7.2] at p6
  rw [bg8.1] at p7
  rw [bg8.2] at p8
  refine V.Fn.mk_ V.Tok V.mixed Tryz.func33 rfl Tryz.ntmps33 (by kernel_rfl) rfl rfl ?_
  have s1 := v_sameposts b0 b0 (by decide)
  have s2 := v_sameposts t0 t0 (by decide)
  rw [show decide (b0 = b0) = true from decide_eq_true rfl] at s1
  rw [show decide (t0 = t0) = true from decide_eq_true rfl] at s2
  repeat' ((conv => whnf); first | (refine V.NIf.yes ?_ ?_; · (decide; done)) | (refine V.NIf.no ?_ ?_; · (decide; done)) | refine V.NCond.mk ?_ | refine V.NPick.l ?_ | refine V.NIf.not_ ?_ | refine V.NIf.dec_ ?_ | refine V.a4 ?_ | refine V.a5 ?_ | refine V.NIf.mk (fun _ => ?_) (fun _ => ?_) | refine V.a7 ?_ | refine V.a8 ?_ | refine V.a9 ?_ | refine V.NBoth.mk ?_ ?_ | refine V.b1 ?_ | refine V.b2 ?_ | refine V.NTF.dec ?_ | refine V.b3 ?_ | refine V.b4 ?_ | (refine NCall.nil_ 0 3 rfl ?_; refine NCall.lit_ (n := 3) (g := ga encP l0) 0 rfl V.S_ ?_) | ((first | refine V.FnR.k_ (p1) [1, 0] rfl ?_ ?_ | refine V.FnR.a_ (p1) [1, 0] rfl ?_ ?_); · exact V.D_) | ((first | refine V.Fn.k (p2) [2] rfl ?_ ?_ | refine V.Fn.q (p2) [2] rfl ?_ ?_ | refine V.Fn.a (p2) [2] rfl ?_ ?_); · exact V.D_) | ((first | refine V.FnR.k_ (p3) [0] rfl ?_ ?_ | refine V.FnR.a_ (p3) [0] rfl ?_ ?_); · exact V.D_) | ((first | refine V.FnR.k_ (p4) [2, 3] rfl ?_ ?_ | refine V.FnR.a_ (p4) [2, 3] rfl ?_ ?_); · exact V.D_) | ((first | refine V.FnR.k_ (p5) [2] rfl ?_ ?_ | refine V.FnR.a_ (p5) [2] rfl ?_ ?_); · exact V.D_) | (refine NCut.mk ⟨0, 2, rfl, rfl, by decide, by decide, ?_⟩) | (refine NIdx.mk ⟨0, rfl, by decide, ?_⟩) | (refine V.NLt.mk (by decide) ?_) | ((refine V.FnR.k_ p6 [2, 6] rfl ?_ ?_); · exact ⟨⟨rfl, rfl, fun k hk => rfl⟩, ⟨rfl, rfl, fun k hk => cut2 k hk⟩, trivial⟩) | (refine NCall.nil_ 0 3 rfl ?_) | ((first | refine V.Fn.k (p7) [10] rfl ?_ ?_ | refine V.Fn.q (p7) [10] rfl ?_ ?_ | refine V.Fn.a (p7) [10] rfl ?_ ?_); · exact V.D_) | ((first | refine V.Fn.k (p8) [11] rfl ?_ ?_ | refine V.Fn.q (p8) [11] rfl ?_ ?_ | refine V.Fn.a (p8) [11] rfl ?_ ?_); · exact V.D_) | ((first | refine V.Fn.k (s1) [2, 8] rfl ?_ ?_ | refine V.Fn.q (s1) [2, 8] rfl ?_ ?_ | refine V.Fn.a (s1) [2, 8] rfl ?_ ?_); · exact V.D_) | ((first | refine V.Fn.k (s2) [3, 9] rfl ?_ ?_ | refine V.Fn.q (s2) [3, 9] rfl ?_ ?_ | refine V.Fn.a (s2) [3, 9] rfl ?_ ?_); · exact V.D_) | (refine V.NDraw.any (by kernel_rfl) ?_) | fail)
  all_goals (conv => whnf)
  exact ⟨true, rfl, iff_of_true rfl rfl⟩
end Go.Proofs.YtpanlcnoopmchaaGreat
