/- Shared texts, one behind the other: DivW2, DivW3, MoneyW, MoneyW2, VMoney, MoneyPl2, VMoneyR, PricePl, VPrice, PrPl, VStr, VNil, VBits, VPr, VPr2, LaidP, PrPl2, VSized, VOpenStr -/
import Derived.WalkLawsBesides
import Derived.Laws.Bits64b
import Derived.Deep.QuietTactic
import Derived.BigQuiet
import Derived.Lib.Atoi
import Derived.Lib.ItoaNum
import Derived.Lib.Bytealg
import Derived.Lib.Strings
import Derived.Lib.SlTrimSet
import Derived.Lib.TrimByte
import Derived.Shelf.Strings.SlTrimAscii
import Derived.Lib.AppendIntMem
import Derived.Test.YtlbffibpcjjpkaaDoorRows
import Derived.ProofKit
import Derived.LaidMore
import Derived.Lay
import Derived.OpenShut
import Derived.Stop.Joined
import Derived.Lib.LaidTab
import Derived.SizedLaws
import Derived.ChangeMaps5
import Derived.Test.YtlbffibpcjjpkaaDoorZ1
import Derived.Test.YtlbffibpcjjpkaaDoorZ2
import Derived.Test.YtlbffibpcjjpkaaDoorZ3
set_option linter.unusedVariables false
set_option linter.unusedSimpArgs false
set_option linter.unusedSectionVars false
set_option maxRecDepth 100000

namespace Go.Proofs.YtlbffibpcjjpkaaDoor
open Go.RowKit
set_option maxHeartbeats 2000000
theorem wrapn {a : Nat} (h : a < 18446744073709551616) : IntKind.u64.wrap (a : Int) = (a : Int) := by rw [IntKind.wrap_u64]; omega
theorem wrapm (a : Nat) : IntKind.u64.wrap (a : Int) = ((a % 18446744073709551616 : Nat) : Int) := by rw [IntKind.wrap_u64]; omega
theorem maskn {a : Nat} (ha : a < 18446744073709551616) : bits .and .u64 (a : Int) 4294967295 = ((a % 4294967296 : Nat) : Int) := by
  have h := bits_and_u64_nat a 4294967295 ha (by omega)
  have e : a &&& 4294967295 = a % 4294967296 := Nat.and_two_pow_sub_one_eq_mod a 32
  rw [e] at h
  exact h
theorem castpow (a s : Nat) : (a : Int) * 2 ^ s = ((a * 2 ^ s : Nat) : Int) := by simp
theorem castdiv (a s : Nat) : (a : Int) / 2 ^ s = ((a / 2 ^ s : Nat) : Int) := by simp
theorem div64_yes (hi lo y R1 R2 : Nat) (g1 : R1 = (hi * 18446744073709551616 + lo) / y) (g2 : R2 = (hi * 18446744073709551616 + lo) % y) (h0 : ¬ hi = 0) (h1 : hi < y) (h2 : lo < 18446744073709551616) (h3 : y < 18446744073709551616) (w : World) : Calls Tryd.prog 73 #[.int .u64 hi, .int .u64 lo, .int .u64 y] w fun e w' => e = .returned (.tuple #[.int .u64 R1, .int .u64 R2]) ∧ w' = w := by
  · have HR1 := hid g1
    have HR2 := hid g2
    clear g1 g2
    obtain ⟨l1, l2, l3, l4⟩ := V.lead (y := y) (by omega) h3
    have hs : ∃ s : Nat, s = 64 - Lib.bitLen y := ⟨_, rfl⟩
    obtain ⟨s, hs⟩ := hs
    rw [← hs] at l3 l4
    have r1 : IntKind.u64.wrap (64 - (Lib.bitLen y : Int)) = (s : Int) := by rw [IntKind.wrap_u64]; omega
    have hs63 : s ≤ 63 := by omega
    have r2 : min s 64 = s := by omega
    have HS := hid hs
    clear hs l1 l2
    obtain ⟨Y, hY⟩ : ∃ Y, Y = y * 2 ^ s := ⟨_, rfl⟩
    rw [← hY] at l3 l4
    have r3 : IntKind.u64.wrap ((y : Int) * 2 ^ s) = (Y : Int) := by
      have : ((y : Int) * 2 ^ s) = ((Y : Nat) : Int) := by rw [hY]; simp
      rw [this, IntKind.wrap_u64]; omega
    have HY := hid hY
    clear hY
    obtain ⟨w1, w2, w3, w4⟩ := V.words (hi := hi) (lo := lo) (y := y) (s := s) hs63 h1 h2 (by rw [← HY.out]; exact l4)
    have r4 : IntKind.u64.wrap ((hi : Int) * 2 ^ s) = ((hi * 2 ^ s : Nat) : Int) := by rw [castpow, wrapn w1]
    have r5 : (lo : Int) / 2 ^ (64 - s) = ((lo / 2 ^ (64 - s) : Nat) : Int) := castdiv _ _
    have r6 : IntKind.u64.wrap ((lo : Int) * 2 ^ s) = ((lo * 2 ^ s % 18446744073709551616 : Nat) : Int) := by rw [castpow, wrapm]
    rw [← HY.out] at w3
    have l5 : lo / 2 ^ (64 - s) < 18446744073709551616 := by omega
    have r7 : bits .or .u64 ((hi * 2 ^ s : Nat) : Int) ((lo / 2 ^ (64 - s) : Nat) : Int) = ((hi * 2 ^ s + lo / 2 ^ (64 - s) : Nat) : Int) := by rw [bits_or_u64_nat _ _ w1 l5, V.or_add w2]
    have l6 : lo * 2 ^ s % 18446744073709551616 < 18446744073709551616 := Nat.mod_lt _ (by omega)
    have HU := hid w4
    clear w4 w2
    generalize hi * 2 ^ s = H at *
    generalize lo / 2 ^ (64 - s) = L at *
    generalize lo * 2 ^ s % 18446744073709551616 = V' at *
    obtain ⟨u, hu⟩ : ∃ u, u = H + L := ⟨_, rfl⟩
    rw [← hu] at r7 w3
    have HU2 : Hid (u * 18446744073709551616 + V' = (hi * 18446744073709551616 + lo) * 2 ^ s) := by rw [hu]; exact HU.out
    clear hu HU
    obtain ⟨a, ha⟩ : ∃ a, a = Y / 4294967296 := ⟨_, rfl⟩
    obtain ⟨b, hb⟩ : ∃ b, b = Y % 4294967296 := ⟨_, rfl⟩
    obtain ⟨d1, hd1⟩ : ∃ d, d = V' / 4294967296 := ⟨_, rfl⟩
    obtain ⟨d0, hd0⟩ : ∃ d, d = V' % 4294967296 := ⟨_, rfl⟩
    have r8 : (Y : Int) / 4294967296 = (a : Int) := by omega
    have r9 : bits .and .u64 (Y : Int) 4294967295 = (b : Int) := by rw [maskn l4, ← hb]
    have r10 : (V' : Int) / 4294967296 = (d1 : Int) := by omega
    have r11 : bits .and .u64 (V' : Int) 4294967295 = (d0 : Int) := by rw [maskn l6, ← hd0]
    have HAB : Hid (Y = a * 4294967296 + b) := show Y = a * 4294967296 + b by omega
    have HD : Hid (V' = d1 * 4294967296 + d0) := show V' = d1 * 4294967296 + d0 by omega
    have ka : 2147483648 ≤ a := by omega
    have ka2 : a < 4294967296 := by omega
    have kb : b < 4294967296 := by omega
    have kd1 : d1 < 4294967296 := by omega
    have kd0 : d0 < 4294967296 := by omega
    have ku : u < 18446744073709551616 := by omega
    clear ha hb hd1 hd0 w1 l5 l6
    obtain ⟨q0, hq0⟩ : ∃ q, q = u / a := ⟨_, rfl⟩
    obtain ⟨m0, hm0⟩ : ∃ r, r = u % a := ⟨_, rfl⟩
    have e0 : q0 * a + m0 = u := by rw [hq0, hm0, Nat.mul_comm]; exact Nat.div_add_mod u a
    have em : m0 < a := by rw [hm0]; exact Nat.mod_lt _ (by omega)
    have kq : q0 < 18446744073709551616 := by rw [hq0]; exact Nat.lt_of_le_of_lt (Nat.div_le_self _ _) ku
    have r12 : IntKind.u64.wrap ((u : Int) / (a : Int)) = (q0 : Int) := by
      have : (u : Int) / (a : Int) = ((u / a : Nat) : Int) := by simp
      rw [this, ← hq0, wrapn kq]
    have r13 : (q0 : Int) * (a : Int) = ((u - m0 : Nat) : Int) := by
      have : q0 * a = u - m0 := by omega
      rw [← this]; simp
    have r14 : IntKind.u64.wrap (((u - m0 : Nat) : Int)) = ((u - m0 : Nat) : Int) := wrapn (by omega)
    have r15 : IntKind.u64.wrap ((u : Int) - ((u - m0 : Nat) : Int)) = (m0 : Int) := by
      have : (u : Int) - ((u - m0 : Nat) : Int) = (m0 : Int) := by omega
      rw [this]; exact wrapn (by omega)
    have G0 := hid (V.guess_ge (a := a) (b := b) (u := u) (d := d1) (by omega) kd1)
    rw [← hq0] at G0
    have E0 := hid e0
    clear hq0 hm0 e0
    generalize hK : u - m0 = K at *
    clear hK
    have hby : ((y : Int) == 0) = false := beq_eq_false_iff_ne.2 (by omega)
    have hc : ((hi : Int) == 0) = false := beq_eq_false_iff_ne.2 (by omega)
    go_enter Tryd.func73, Tryd.ntmps73
    go_wp2_with (go_at_call 86; refine (Tryd.bits_LeadingZeros64 _ _ (by omega) (by omega)).mono ?_; rintro e w' ⟨rfl, rfl⟩)
    clear r1 r2 r3 r4 r5 r6 r7 r8 r9 r10 r11 r12 r13 r14 r15
    have BD : Hid (2147483648 ≤ a ∧ a < 4294967296 ∧ b < 4294967296 ∧ d1 < 4294967296 ∧ d0 < 4294967296 ∧ u < 18446744073709551616 ∧ u < Y ∧ Y < 18446744073709551616 ∧ 0 < Y) := ⟨ka, ka2, kb, kd1, kd0, ku, w3, l4, by omega⟩
    have B0 : Hid (q0 < 18446744073709551616 ∧ m0 < 4294967296) := ⟨kq, by omega⟩
    have S0 : Hid (s ≤ 63 ∧ hi < y ∧ lo < 18446744073709551616 ∧ y < 18446744073709551616) := ⟨hs63, h1, h2, h3⟩
    have ia : (2147483648 : Int) ≤ (a : Int) := by omega
    have HUY : Hid (u < Y) := w3
    clear ka ka2 kb kd1 kd0 ku w3 l3 l4 hs63 h1 h2 h3 kq em
    go_loop [15, 16] (fun t1 t2 => ∃ q r : Nat, t1 = .int .u64 q ∧ t2 = .int .u64 r ∧ Hid (q < 18446744073709551616 ∧ r < 4294967296) ∧ Hid (q * a + r = u) ∧ Hid ((u * 4294967296 + d1) / (a * 4294967296 + b) ≤ q)) (fun t1 _ => (intOf t1).toNat)
    case atStart => exact ⟨q0, m0, rfl, rfl, B0, E0, G0⟩
    case round =>
      obtain ⟨q, r, rfl, rfl, B1, E1, G1⟩ := hrel
      clear E0 G0 B0
      by_cases c1 : 4294967296 ≤ q
      · obtain ⟨q', hq'⟩ : ∃ q', q' = q - 1 := ⟨_, rfl⟩
        obtain ⟨r', hr'⟩ : ∃ r', r' = r + a := ⟨_, rfl⟩
        have q1 : IntKind.u64.wrap ((q : Int) - 1) = (q' : Int) := by have := B1.out; rw [IntKind.wrap_u64]; omega
        have q2 : IntKind.u64.wrap ((r : Int) + (a : Int)) = (r' : Int) := by have := B1.out; have := BD.out; rw [IntKind.wrap_u64]; omega
        have C1 : (4294967296 : Int) ≤ (q : Int) := by omega
        have HQ := hid hq'
        have E2 : Hid (q' * a + r' = u) := V.step_eq E1.out (by omega) hq' hr'
        have G2 : Hid ((u * 4294967296 + d1) / (a * 4294967296 + b) ≤ q') := by
          have hbd := BD.out
          have hh := HAB.out
          have hu2 := HUY.out
          have hlt := V.wide_great (V := a * 4294967296 + b) (u := u) (d := d1) (q := q) (by omega) (by omega) c1
          have := V.digit_le hlt
          rw [hq']; exact this
        by_cases c2 : 4294967296 ≤ r'
        · have C2 : decide ((4294967296 : Int) ≤ (r' : Int)) = true := decide_eq_true (by omega)
          have QE : Hid (q' = (u * 4294967296 + d1) / (a * 4294967296 + b)) := by
            have hbd := BD.out
            have hh := HAB.out
            have hu2 := HUY.out
            exact V.digit_eq G2.out (V.wide_rest E2.out (by omega) (by omega) c2).2 (by omega)
          clear hq' hr' c1 c2
          generalize q' = Q at *
          obtain ⟨u2, hu2⟩ : ∃ u2, u2 = (u * 4294967296 + d1) % Y := ⟨_, rfl⟩
          have hQY : Q = (u * 4294967296 + d1) / Y := by rw [HAB.out]; exact QE.out
          have k1 : u2 < Y := by rw [hu2]; exact Nat.mod_lt _ BD.out.2.2.2.2.2.2.2.2
          have k2 : Y < 18446744073709551616 := BD.out.2.2.2.2.2.2.2.1
          have s1 : IntKind.u64.wrap (IntKind.u64.wrap (IntKind.u64.wrap ((u : Int) * 4294967296) + (d1 : Int)) - IntKind.u64.wrap ((Q : Int) * (Y : Int))) = (u2 : Int) := by
            rw [IntKind.wrap_u64, IntKind.wrap_u64, IntKind.wrap_u64, IntKind.wrap_u64, hu2]
            exact V.rem_wrap hQY (by omega) k2
          obtain ⟨p0, hp0⟩ : ∃ q, q = u2 / a := ⟨_, rfl⟩
          obtain ⟨n0, hn0⟩ : ∃ r, r = u2 % a := ⟨_, rfl⟩
          have e0 : p0 * a + n0 = u2 := by rw [hp0, hn0, Nat.mul_comm]; exact Nat.div_add_mod u2 a
          have em : n0 < a := by rw [hn0]; exact Nat.mod_lt _ (by have := BD.out; omega)
          have kp : p0 < 18446744073709551616 := by rw [hp0]; exact Nat.lt_of_le_of_lt (Nat.div_le_self _ _) (by omega)
          have s2 : IntKind.u64.wrap ((u2 : Int) / (a : Int)) = (p0 : Int) := by
            have : (u2 : Int) / (a : Int) = ((u2 / a : Nat) : Int) := by simp
            rw [this, ← hp0, wrapn kp]
          obtain ⟨K2, hK2⟩ : ∃ k, k = u2 - n0 := ⟨_, rfl⟩
          have s3 : (p0 : Int) * (a : Int) = (K2 : Int) := by
            have : p0 * a = K2 := by omega
            rw [← this]; simp
          have s4 : IntKind.u64.wrap (K2 : Int) = (K2 : Int) := wrapn (by omega)
          have s5 : IntKind.u64.wrap ((u2 : Int) - (K2 : Int)) = (n0 : Int) := by
            have : (u2 : Int) - (K2 : Int) = (n0 : Int) := by omega
            rw [this]; exact wrapn (by omega)
          have G0 := hid (V.guess_ge (a := a) (b := b) (u := u2) (d := d0) (by omega) BD.out.2.2.2.2.1)
          rw [← hp0] at G0
          have E0 := hid e0
          have B0 : Hid (p0 < 18446744073709551616 ∧ n0 < 4294967296) := ⟨kp, by have := BD.out; omega⟩
          have HUY : Hid (u2 < Y) := k1
          have HU3 := hid hu2
          have HQY := hid hQY
          clear hu2 hQY k1 k2 hp0 hn0 e0 em kp hK2
          go_wp2_with fail
          clear s1 s2 s3 s4 s5
          go_loop [18, 16] (fun t1 t2 => ∃ q r : Nat, t1 = .int .u64 q ∧ t2 = .int .u64 r ∧ Hid (q < 18446744073709551616 ∧ r < 4294967296) ∧ Hid (q * a + r = u2) ∧ Hid ((u2 * 4294967296 + d0) / (a * 4294967296 + b) ≤ q)) (fun t1 _ => (intOf t1).toNat)
          case atStart => exact ⟨p0, n0, rfl, rfl, B0, E0, G0⟩
          case round =>
            obtain ⟨q, r, rfl, rfl, B1, E1, G1⟩ := hrel
            clear E0 G0 B0
            by_cases c1 : 4294967296 ≤ q
            · obtain ⟨q', hq'⟩ : ∃ q', q' = q - 1 := ⟨_, rfl⟩
              obtain ⟨r', hr'⟩ : ∃ r', r' = r + a := ⟨_, rfl⟩
              have q1 : IntKind.u64.wrap ((q : Int) - 1) = (q' : Int) := by have := B1.out; rw [IntKind.wrap_u64]; omega
              have q2 : IntKind.u64.wrap ((r : Int) + (a : Int)) = (r' : Int) := by have := B1.out; have := BD.out; rw [IntKind.wrap_u64]; omega
              have C1 : (4294967296 : Int) ≤ (q : Int) := by omega
              have HQ := hid hq'
              have E2 : Hid (q' * a + r' = u2) := V.step_eq E1.out (by omega) hq' hr'
              have G2 : Hid ((u2 * 4294967296 + d0) / (a * 4294967296 + b) ≤ q') := by
                have hbd := BD.out
                have hh := HAB.out
                have hu2 := HUY.out
                have hlt := V.wide_great (V := a * 4294967296 + b) (u := u2) (d := d0) (q := q) (by omega) (by omega) c1
                have := V.digit_le hlt
                rw [hq']; exact this
              by_cases c2 : 4294967296 ≤ r'
              · have C2 : decide ((4294967296 : Int) ≤ (r' : Int)) = true := decide_eq_true (by omega)
                have QE : Hid (q' = (u2 * 4294967296 + d0) / (a * 4294967296 + b)) := by
                  have hbd := BD.out
                  have hh := HAB.out
                  have hu2 := HUY.out
                  exact V.digit_eq G2.out (V.wide_rest E2.out (by omega) (by omega) c2).2 (by omega)
                clear hq' hr' c1 c2
                have FF := V.final HY.out BD.out.2.2.2.2.2.2.2.2 HU2.out HD.out
                rw [← HQY.out, ← HU3.out] at FF
                have hq2 : q' = (u2 * 4294967296 + d0) / Y := by rw [HAB.out]; exact QE.out
                rw [← hq2] at FF
                have hR1 := HR1.out
                have hR2 := HR2.out
                obtain ⟨e2, he2⟩ : ∃ R, R = (u2 * 4294967296 + d0) % Y := ⟨_, rfl⟩
                rw [← hR1, ← hR2, ← he2] at FF
                have hR3 : R1 < 18446744073709551616 := by
                  rw [hR1]
                  have := S0.out
                  exact Nat.div_lt_of_lt_mul (V.lt_words this.2.1 this.2.2.1)
                have f1 : IntKind.u64.wrap (IntKind.u64.wrap ((Q : Int) * 4294967296) + (q' : Int)) = (R1 : Int) := by
                  have := FF.1
                  rw [IntKind.wrap_u64, IntKind.wrap_u64]; omega
                have f2 : IntKind.u64.wrap (IntKind.u64.wrap (IntKind.u64.wrap ((u2 : Int) * 4294967296) + (d0 : Int)) - IntKind.u64.wrap ((q' : Int) * (Y : Int))) = (e2 : Int) := by
                  rw [IntKind.wrap_u64, IntKind.wrap_u64, IntKind.wrap_u64, IntKind.wrap_u64, he2]
                  exact V.rem_wrap hq2 BD.out.2.2.2.2.2.2.2.2 BD.out.2.2.2.2.2.2.2.1
                have f3 : (e2 : Int) / 2 ^ s = (R2 : Int) := by rw [castdiv, FF.2]
                have f4 : min s 64 = s := by have := S0.out; omega
                clear hR1 hR2 he2 hq2 FF hR3
                go_wp2_with fail
                go_ret2
                exact ⟨rfl, rfl⟩
              · have C2 : decide ((4294967296 : Int) ≤ (r' : Int)) = false := decide_eq_false (by omega)
                have B2 : Hid (q' < 18446744073709551616 ∧ r' < 4294967296) := by have := B1.out; exact ⟨by omega, by omega⟩
                clear hq' hr' c1 c2
                go_wp2_with fail
                go_round
                case rel => exact ⟨q', r', rfl, rfl, B2, E2, G2⟩
                case measure => have := HQ.out; simp [intOf]; omega
            · have D1 : decide ((4294967296 : Int) ≤ (q : Int)) = false := decide_eq_false (by omega)
              obtain ⟨x, hx⟩ : ∃ x, x = q * b := ⟨_, rfl⟩
              obtain ⟨z, hz⟩ : ∃ z, z = 4294967296 * r := ⟨_, rfl⟩
              obtain ⟨t, ht⟩ : ∃ t, t = z + d0 := ⟨_, rfl⟩
              have hxb : x ≤ 4294967295 * 4294967295 := by rw [hx]; have := BD.out; exact Nat.mul_le_mul (by omega) (by omega)
              have p1 : (q : Int) * (b : Int) = (x : Int) := by rw [hx]; simp
              have p1' : IntKind.u64.wrap (x : Int) = (x : Int) := wrapn (by omega)
              have p2 : IntKind.u64.wrap (4294967296 * (r : Int)) = (z : Int) := by have := B1.out; rw [IntKind.wrap_u64]; omega
              have p3 : IntKind.u64.wrap ((z : Int) + (d0 : Int)) = (t : Int) := by have := B1.out; have := BD.out; rw [IntKind.wrap_u64]; omega
              have TG : Hid ((t < x) ↔ (u2 * 4294967296 + d0 < q * (a * 4294967296 + b))) := by
                have := V.too_great (b := b) (d := d0) E1.out
                rw [← hx] at this
                rw [ht, hz, Nat.mul_comm 4294967296 r]; exact this
              by_cases c3 : t < x
              · have hlt := TG.out.1 c3
                obtain ⟨q', hq'⟩ : ∃ q', q' = q - 1 := ⟨_, rfl⟩
                obtain ⟨r', hr'⟩ : ∃ r', r' = r + a := ⟨_, rfl⟩
                have hq1 : 1 ≤ q := by
                  rcases Nat.eq_zero_or_pos q with h | h
                  · rw [h, Nat.zero_mul] at hlt; omega
                  · exact h
                have q1 : IntKind.u64.wrap ((q : Int) - 1) = (q' : Int) := by have := B1.out; rw [IntKind.wrap_u64]; omega
                have q2 : IntKind.u64.wrap ((r : Int) + (a : Int)) = (r' : Int) := by have := B1.out; have := BD.out; rw [IntKind.wrap_u64]; omega
                have HQ : Hid (q' = q - 1 ∧ 1 ≤ q) := ⟨hq', hq1⟩
                have E2 : Hid (q' * a + r' = u2) := V.step_eq E1.out hq1 hq' hr'
                have G2 : Hid ((u2 * 4294967296 + d0) / (a * 4294967296 + b) ≤ q') := by
                  have := V.digit_le hlt
                  rw [hq']; exact this
                by_cases c2 : 4294967296 ≤ r'
                · have C2 : decide ((4294967296 : Int) ≤ (r' : Int)) = true := decide_eq_true (by omega)
                  have QE : Hid (q' = (u2 * 4294967296 + d0) / (a * 4294967296 + b)) := by
                    have hbd := BD.out
                    have hh := HAB.out
                    have hu2 := HUY.out
                    exact V.digit_eq G2.out (V.wide_rest E2.out (by omega) (by omega) c2).2 (by omega)
                  clear hq' hr' c1 c2 hx hz ht hxb hlt hq1
                  have FF := V.final HY.out BD.out.2.2.2.2.2.2.2.2 HU2.out HD.out
                  rw [← HQY.out, ← HU3.out] at FF
                  have hq2 : q' = (u2 * 4294967296 + d0) / Y := by rw [HAB.out]; exact QE.out
                  rw [← hq2] at FF
                  have hR1 := HR1.out
                  have hR2 := HR2.out
                  obtain ⟨e2, he2⟩ : ∃ R, R = (u2 * 4294967296 + d0) % Y := ⟨_, rfl⟩
                  rw [← hR1, ← hR2, ← he2] at FF
                  have hR3 : R1 < 18446744073709551616 := by
                    rw [hR1]
                    have := S0.out
                    exact Nat.div_lt_of_lt_mul (V.lt_words this.2.1 this.2.2.1)
                  have f1 : IntKind.u64.wrap (IntKind.u64.wrap ((Q : Int) * 4294967296) + (q' : Int)) = (R1 : Int) := by
                    have := FF.1
                    rw [IntKind.wrap_u64, IntKind.wrap_u64]; omega
                  have f2 : IntKind.u64.wrap (IntKind.u64.wrap (IntKind.u64.wrap ((u2 : Int) * 4294967296) + (d0 : Int)) - IntKind.u64.wrap ((q' : Int) * (Y : Int))) = (e2 : Int) := by
                    rw [IntKind.wrap_u64, IntKind.wrap_u64, IntKind.wrap_u64, IntKind.wrap_u64, he2]
                    exact V.rem_wrap hq2 BD.out.2.2.2.2.2.2.2.2 BD.out.2.2.2.2.2.2.2.1
                  have f3 : (e2 : Int) / 2 ^ s = (R2 : Int) := by rw [castdiv, FF.2]
                  have f4 : min s 64 = s := by have := S0.out; omega
                  clear hR1 hR2 he2 hq2 FF hR3
                  go_wp2_with fail
                  go_ret2
                  exact ⟨rfl, rfl⟩
                · have C2 : decide ((4294967296 : Int) ≤ (r' : Int)) = false := decide_eq_false (by omega)
                  have B2 : Hid (q' < 18446744073709551616 ∧ r' < 4294967296) := by have := B1.out; exact ⟨by omega, by omega⟩
                  clear hq' hr' c1 c2 hx hz ht hxb hlt hq1
                  go_wp2_with fail
                  go_round
                  case rel => exact ⟨q', r', rfl, rfl, B2, E2, G2⟩
                  case measure => have := HQ.out; simp [intOf]; omega
              · have QE : Hid (q = (u2 * 4294967296 + d0) / (a * 4294967296 + b)) := V.digit_eq G1.out (fun h => c3 (TG.out.2 h)) (by have := BD.out; omega)
                clear c1 hx hz ht hxb
                have FF := V.final HY.out BD.out.2.2.2.2.2.2.2.2 HU2.out HD.out
                rw [← HQY.out, ← HU3.out] at FF
                have hq2 : q = (u2 * 4294967296 + d0) / Y := by rw [HAB.out]; exact QE.out
                rw [← hq2] at FF
                have hR1 := HR1.out
                have hR2 := HR2.out
                obtain ⟨e2, he2⟩ : ∃ R, R = (u2 * 4294967296 + d0) % Y := ⟨_, rfl⟩
                rw [← hR1, ← hR2, ← he2] at FF
                have hR3 : R1 < 18446744073709551616 := by
                  rw [hR1]
                  have := S0.out
                  exact Nat.div_lt_of_lt_mul (V.lt_words this.2.1 this.2.2.1)
                have f1 : IntKind.u64.wrap (IntKind.u64.wrap ((Q : Int) * 4294967296) + (q : Int)) = (R1 : Int) := by
                  have := FF.1
                  rw [IntKind.wrap_u64, IntKind.wrap_u64]; omega
                have f2 : IntKind.u64.wrap (IntKind.u64.wrap (IntKind.u64.wrap ((u2 : Int) * 4294967296) + (d0 : Int)) - IntKind.u64.wrap ((q : Int) * (Y : Int))) = (e2 : Int) := by
                  rw [IntKind.wrap_u64, IntKind.wrap_u64, IntKind.wrap_u64, IntKind.wrap_u64, he2]
                  exact V.rem_wrap hq2 BD.out.2.2.2.2.2.2.2.2 BD.out.2.2.2.2.2.2.2.1
                have f3 : (e2 : Int) / 2 ^ s = (R2 : Int) := by rw [castdiv, FF.2]
                have f4 : min s 64 = s := by have := S0.out; omega
                clear hR1 hR2 he2 hq2 FF hR3
                go_wp2_with fail
                go_ret2
                exact ⟨rfl, rfl⟩
        · have C2 : decide ((4294967296 : Int) ≤ (r' : Int)) = false := decide_eq_false (by omega)
          have B2 : Hid (q' < 18446744073709551616 ∧ r' < 4294967296) := by have := B1.out; exact ⟨by omega, by omega⟩
          clear hq' hr' c1 c2
          go_wp2_with fail
          go_round
          case rel => exact ⟨q', r', rfl, rfl, B2, E2, G2⟩
          case measure => have := HQ.out; simp [intOf]; omega
      · have D1 : decide ((4294967296 : Int) ≤ (q : Int)) = false := decide_eq_false (by omega)
        obtain ⟨x, hx⟩ : ∃ x, x = q * b := ⟨_, rfl⟩
        obtain ⟨z, hz⟩ : ∃ z, z = 4294967296 * r := ⟨_, rfl⟩
        obtain ⟨t, ht⟩ : ∃ t, t = z + d1 := ⟨_, rfl⟩
        have hxb : x ≤ 4294967295 * 4294967295 := by rw [hx]; have := BD.out; exact Nat.mul_le_mul (by omega) (by omega)
        have p1 : (q : Int) * (b : Int) = (x : Int) := by rw [hx]; simp
        have p1' : IntKind.u64.wrap (x : Int) = (x : Int) := wrapn (by omega)
        have p2 : IntKind.u64.wrap (4294967296 * (r : Int)) = (z : Int) := by have := B1.out; rw [IntKind.wrap_u64]; omega
        have p3 : IntKind.u64.wrap ((z : Int) + (d1 : Int)) = (t : Int) := by have := B1.out; have := BD.out; rw [IntKind.wrap_u64]; omega
        have TG : Hid ((t < x) ↔ (u * 4294967296 + d1 < q * (a * 4294967296 + b))) := by
          have := V.too_great (b := b) (d := d1) E1.out
          rw [← hx] at this
          rw [ht, hz, Nat.mul_comm 4294967296 r]; exact this
        by_cases c3 : t < x
        · have hlt := TG.out.1 c3
          obtain ⟨q', hq'⟩ : ∃ q', q' = q - 1 := ⟨_, rfl⟩
          obtain ⟨r', hr'⟩ : ∃ r', r' = r + a := ⟨_, rfl⟩
          have hq1 : 1 ≤ q := by
            rcases Nat.eq_zero_or_pos q with h | h
            · rw [h, Nat.zero_mul] at hlt; omega
            · exact h
          have q1 : IntKind.u64.wrap ((q : Int) - 1) = (q' : Int) := by have := B1.out; rw [IntKind.wrap_u64]; omega
          have q2 : IntKind.u64.wrap ((r : Int) + (a : Int)) = (r' : Int) := by have := B1.out; have := BD.out; rw [IntKind.wrap_u64]; omega
          have HQ : Hid (q' = q - 1 ∧ 1 ≤ q) := ⟨hq', hq1⟩
          have E2 : Hid (q' * a + r' = u) := V.step_eq E1.out hq1 hq' hr'
          have G2 : Hid ((u * 4294967296 + d1) / (a * 4294967296 + b) ≤ q') := by
            have := V.digit_le hlt
            rw [hq']; exact this
          by_cases c2 : 4294967296 ≤ r'
          · have C2 : decide ((4294967296 : Int) ≤ (r' : Int)) = true := decide_eq_true (by omega)
            have QE : Hid (q' = (u * 4294967296 + d1) / (a * 4294967296 + b)) := by
              have hbd := BD.out
              have hh := HAB.out
              have hu2 := HUY.out
              exact V.digit_eq G2.out (V.wide_rest E2.out (by omega) (by omega) c2).2 (by omega)
            clear hq' hr' c1 c2 hx hz ht hxb hlt hq1
            generalize q' = Q at *
            obtain ⟨u2, hu2⟩ : ∃ u2, u2 = (u * 4294967296 + d1) % Y := ⟨_, rfl⟩
            have hQY : Q = (u * 4294967296 + d1) / Y := by rw [HAB.out]; exact QE.out
            have k1 : u2 < Y := by rw [hu2]; exact Nat.mod_lt _ BD.out.2.2.2.2.2.2.2.2
            have k2 : Y < 18446744073709551616 := BD.out.2.2.2.2.2.2.2.1
            have s1 : IntKind.u64.wrap (IntKind.u64.wrap (IntKind.u64.wrap ((u : Int) * 4294967296) + (d1 : Int)) - IntKind.u64.wrap ((Q : Int) * (Y : Int))) = (u2 : Int) := by
              rw [IntKind.wrap_u64, IntKind.wrap_u64, IntKind.wrap_u64, IntKind.wrap_u64, hu2]
              exact V.rem_wrap hQY (by omega) k2
            obtain ⟨p0, hp0⟩ : ∃ q, q = u2 / a := ⟨_, rfl⟩
            obtain ⟨n0, hn0⟩ : ∃ r, r = u2 % a := ⟨_, rfl⟩
            have e0 : p0 * a + n0 = u2 := by rw [hp0, hn0, Nat.mul_comm]; exact Nat.div_add_mod u2 a
            have em : n0 < a := by rw [hn0]; exact Nat.mod_lt _ (by have := BD.out; omega)
            have kp : p0 < 18446744073709551616 := by rw [hp0]; exact Nat.lt_of_le_of_lt (Nat.div_le_self _ _) (by omega)
            have s2 : IntKind.u64.wrap ((u2 : Int) / (a : Int)) = (p0 : Int) := by
              have : (u2 : Int) / (a : Int) = ((u2 / a : Nat) : Int) := by simp
              rw [this, ← hp0, wrapn kp]
            obtain ⟨K2, hK2⟩ : ∃ k, k = u2 - n0 := ⟨_, rfl⟩
            have s3 : (p0 : Int) * (a : Int) = (K2 : Int) := by
              have : p0 * a = K2 := by omega
              rw [← this]; simp
            have s4 : IntKind.u64.wrap (K2 : Int) = (K2 : Int) := wrapn (by omega)
            have s5 : IntKind.u64.wrap ((u2 : Int) - (K2 : Int)) = (n0 : Int) := by
              have : (u2 : Int) - (K2 : Int) = (n0 : Int) := by omega
              rw [this]; exact wrapn (by omega)
            have G0 := hid (V.guess_ge (a := a) (b := b) (u := u2) (d := d0) (by omega) BD.out.2.2.2.2.1)
            rw [← hp0] at G0
            have E0 := hid e0
            have B0 : Hid (p0 < 18446744073709551616 ∧ n0 < 4294967296) := ⟨kp, by have := BD.out; omega⟩
            have HUY : Hid (u2 < Y) := k1
            have HU3 := hid hu2
            have HQY := hid hQY
            clear hu2 hQY k1 k2 hp0 hn0 e0 em kp hK2
            go_wp2_with fail
            clear s1 s2 s3 s4 s5
            go_loop [18, 16] (fun t1 t2 => ∃ q r : Nat, t1 = .int .u64 q ∧ t2 = .int .u64 r ∧ Hid (q < 18446744073709551616 ∧ r < 4294967296) ∧ Hid (q * a + r = u2) ∧ Hid ((u2 * 4294967296 + d0) / (a * 4294967296 + b) ≤ q)) (fun t1 _ => (intOf t1).toNat)
            case atStart => exact ⟨p0, n0, rfl, rfl, B0, E0, G0⟩
            case round =>
              obtain ⟨q, r, rfl, rfl, B1, E1, G1⟩ := hrel
              clear E0 G0 B0
              by_cases c1 : 4294967296 ≤ q
              · obtain ⟨q', hq'⟩ : ∃ q', q' = q - 1 := ⟨_, rfl⟩
                obtain ⟨r', hr'⟩ : ∃ r', r' = r + a := ⟨_, rfl⟩
                have q1 : IntKind.u64.wrap ((q : Int) - 1) = (q' : Int) := by have := B1.out; rw [IntKind.wrap_u64]; omega
                have q2 : IntKind.u64.wrap ((r : Int) + (a : Int)) = (r' : Int) := by have := B1.out; have := BD.out; rw [IntKind.wrap_u64]; omega
                have C1 : (4294967296 : Int) ≤ (q : Int) := by omega
                have HQ := hid hq'
                have E2 : Hid (q' * a + r' = u2) := V.step_eq E1.out (by omega) hq' hr'
                have G2 : Hid ((u2 * 4294967296 + d0) / (a * 4294967296 + b) ≤ q') := by
                  have hbd := BD.out
                  have hh := HAB.out
                  have hu2 := HUY.out
                  have hlt := V.wide_great (V := a * 4294967296 + b) (u := u2) (d := d0) (q := q) (by omega) (by omega) c1
                  have := V.digit_le hlt
                  rw [hq']; exact this
                by_cases c2 : 4294967296 ≤ r'
                · have C2 : decide ((4294967296 : Int) ≤ (r' : Int)) = true := decide_eq_true (by omega)
                  have QE : Hid (q' = (u2 * 4294967296 + d0) / (a * 4294967296 + b)) := by
                    have hbd := BD.out
                    have hh := HAB.out
                    have hu2 := HUY.out
                    exact V.digit_eq G2.out (V.wide_rest E2.out (by omega) (by omega) c2).2 (by omega)
                  clear hq' hr' c1 c2
                  have FF := V.final HY.out BD.out.2.2.2.2.2.2.2.2 HU2.out HD.out
                  rw [← HQY.out, ← HU3.out] at FF
                  have hq2 : q' = (u2 * 4294967296 + d0) / Y := by rw [HAB.out]; exact QE.out
                  rw [← hq2] at FF
                  have hR1 := HR1.out
                  have hR2 := HR2.out
                  obtain ⟨e2, he2⟩ : ∃ R, R = (u2 * 4294967296 + d0) % Y := ⟨_, rfl⟩
                  rw [← hR1, ← hR2, ← he2] at FF
                  have hR3 : R1 < 18446744073709551616 := by
                    rw [hR1]
                    have := S0.out
                    exact Nat.div_lt_of_lt_mul (V.lt_words this.2.1 this.2.2.1)
                  have f1 : IntKind.u64.wrap (IntKind.u64.wrap ((Q : Int) * 4294967296) + (q' : Int)) = (R1 : Int) := by
                    have := FF.1
                    rw [IntKind.wrap_u64, IntKind.wrap_u64]; omega
                  have f2 : IntKind.u64.wrap (IntKind.u64.wrap (IntKind.u64.wrap ((u2 : Int) * 4294967296) + (d0 : Int)) - IntKind.u64.wrap ((q' : Int) * (Y : Int))) = (e2 : Int) := by
                    rw [IntKind.wrap_u64, IntKind.wrap_u64, IntKind.wrap_u64, IntKind.wrap_u64, he2]
                    exact V.rem_wrap hq2 BD.out.2.2.2.2.2.2.2.2 BD.out.2.2.2.2.2.2.2.1
                  have f3 : (e2 : Int) / 2 ^ s = (R2 : Int) := by rw [castdiv, FF.2]
                  have f4 : min s 64 = s := by have := S0.out; omega
                  clear hR1 hR2 he2 hq2 FF hR3
                  go_wp2_with fail
                  go_ret2
                  exact ⟨rfl, rfl⟩
                · have C2 : decide ((4294967296 : Int) ≤ (r' : Int)) = false := decide_eq_false (by omega)
                  have B2 : Hid (q' < 18446744073709551616 ∧ r' < 4294967296) := by have := B1.out; exact ⟨by omega, by omega⟩
                  clear hq' hr' c1 c2
                  go_wp2_with fail
                  go_round
                  case rel => exact ⟨q', r', rfl, rfl, B2, E2, G2⟩
                  case measure => have := HQ.out; simp [intOf]; omega
              · have D1 : decide ((4294967296 : Int) ≤ (q : Int)) = false := decide_eq_false (by omega)
                obtain ⟨x, hx⟩ : ∃ x, x = q * b := ⟨_, rfl⟩
                obtain ⟨z, hz⟩ : ∃ z, z = 4294967296 * r := ⟨_, rfl⟩
                obtain ⟨t, ht⟩ : ∃ t, t = z + d0 := ⟨_, rfl⟩
                have hxb : x ≤ 4294967295 * 4294967295 := by rw [hx]; have := BD.out; exact Nat.mul_le_mul (by omega) (by omega)
                have p1 : (q : Int) * (b : Int) = (x : Int) := by rw [hx]; simp
                have p1' : IntKind.u64.wrap (x : Int) = (x : Int) := wrapn (by omega)
                have p2 : IntKind.u64.wrap (4294967296 * (r : Int)) = (z : Int) := by have := B1.out; rw [IntKind.wrap_u64]; omega
                have p3 : IntKind.u64.wrap ((z : Int) + (d0 : Int)) = (t : Int) := by have := B1.out; have := BD.out; rw [IntKind.wrap_u64]; omega
                have TG : Hid ((t < x) ↔ (u2 * 4294967296 + d0 < q * (a * 4294967296 + b))) := by
                  have := V.too_great (b := b) (d := d0) E1.out
                  rw [← hx] at this
                  rw [ht, hz, Nat.mul_comm 4294967296 r]; exact this
                by_cases c3 : t < x
                · have hlt := TG.out.1 c3
                  obtain ⟨q', hq'⟩ : ∃ q', q' = q - 1 := ⟨_, rfl⟩
                  obtain ⟨r', hr'⟩ : ∃ r', r' = r + a := ⟨_, rfl⟩
                  have hq1 : 1 ≤ q := by
                    rcases Nat.eq_zero_or_pos q with h | h
                    · rw [h, Nat.zero_mul] at hlt; omega
                    · exact h
                  have q1 : IntKind.u64.wrap ((q : Int) - 1) = (q' : Int) := by have := B1.out; rw [IntKind.wrap_u64]; omega
                  have q2 : IntKind.u64.wrap ((r : Int) + (a : Int)) = (r' : Int) := by have := B1.out; have := BD.out; rw [IntKind.wrap_u64]; omega
                  have HQ : Hid (q' = q - 1 ∧ 1 ≤ q) := ⟨hq', hq1⟩
                  have E2 : Hid (q' * a + r' = u2) := V.step_eq E1.out hq1 hq' hr'
                  have G2 : Hid ((u2 * 4294967296 + d0) / (a * 4294967296 + b) ≤ q') := by
                    have := V.digit_le hlt
                    rw [hq']; exact this
                  by_cases c2 : 4294967296 ≤ r'
                  · have C2 : decide ((4294967296 : Int) ≤ (r' : Int)) = true := decide_eq_true (by omega)
                    have QE : Hid (q' = (u2 * 4294967296 + d0) / (a * 4294967296 + b)) := by
                      have hbd := BD.out
                      have hh := HAB.out
                      have hu2 := HUY.out
                      exact V.digit_eq G2.out (V.wide_rest E2.out (by omega) (by omega) c2).2 (by omega)
                    clear hq' hr' c1 c2 hx hz ht hxb hlt hq1
                    have FF := V.final HY.out BD.out.2.2.2.2.2.2.2.2 HU2.out HD.out
                    rw [← HQY.out, ← HU3.out] at FF
                    have hq2 : q' = (u2 * 4294967296 + d0) / Y := by rw [HAB.out]; exact QE.out
                    rw [← hq2] at FF
                    have hR1 := HR1.out
                    have hR2 := HR2.out
                    obtain ⟨e2, he2⟩ : ∃ R, R = (u2 * 4294967296 + d0) % Y := ⟨_, rfl⟩
                    rw [← hR1, ← hR2, ← he2] at FF
                    have hR3 : R1 < 18446744073709551616 := by
                      rw [hR1]
                      have := S0.out
                      exact Nat.div_lt_of_lt_mul (V.lt_words this.2.1 this.2.2.1)
                    have f1 : IntKind.u64.wrap (IntKind.u64.wrap ((Q : Int) * 4294967296) + (q' : Int)) = (R1 : Int) := by
                      have := FF.1
                      rw [IntKind.wrap_u64, IntKind.wrap_u64]; omega
                    have f2 : IntKind.u64.wrap (IntKind.u64.wrap (IntKind.u64.wrap ((u2 : Int) * 4294967296) + (d0 : Int)) - IntKind.u64.wrap ((q' : Int) * (Y : Int))) = (e2 : Int) := by
                      rw [IntKind.wrap_u64, IntKind.wrap_u64, IntKind.wrap_u64, IntKind.wrap_u64, he2]
                      exact V.rem_wrap hq2 BD.out.2.2.2.2.2.2.2.2 BD.out.2.2.2.2.2.2.2.1
                    have f3 : (e2 : Int) / 2 ^ s = (R2 : Int) := by rw [castdiv, FF.2]
                    have f4 : min s 64 = s := by have := S0.out; omega
                    clear hR1 hR2 he2 hq2 FF hR3
                    go_wp2_with fail
                    go_ret2
                    exact ⟨rfl, rfl⟩
                  · have C2 : decide ((4294967296 : Int) ≤ (r' : Int)) = false := decide_eq_false (by omega)
                    have B2 : Hid (q' < 18446744073709551616 ∧ r' < 4294967296) := by have := B1.out; exact ⟨by omega, by omega⟩
                    clear hq' hr' c1 c2 hx hz ht hxb hlt hq1
                    go_wp2_with fail
                    go_round
                    case rel => exact ⟨q', r', rfl, rfl, B2, E2, G2⟩
                    case measure => have := HQ.out; simp [intOf]; omega
                · have QE : Hid (q = (u2 * 4294967296 + d0) / (a * 4294967296 + b)) := V.digit_eq G1.out (fun h => c3 (TG.out.2 h)) (by have := BD.out; omega)
                  clear c1 hx hz ht hxb
                  have FF := V.final HY.out BD.out.2.2.2.2.2.2.2.2 HU2.out HD.out
                  rw [← HQY.out, ← HU3.out] at FF
                  have hq2 : q = (u2 * 4294967296 + d0) / Y := by rw [HAB.out]; exact QE.out
                  rw [← hq2] at FF
                  have hR1 := HR1.out
                  have hR2 := HR2.out
                  obtain ⟨e2, he2⟩ : ∃ R, R = (u2 * 4294967296 + d0) % Y := ⟨_, rfl⟩
                  rw [← hR1, ← hR2, ← he2] at FF
                  have hR3 : R1 < 18446744073709551616 := by
                    rw [hR1]
                    have := S0.out
                    exact Nat.div_lt_of_lt_mul (V.lt_words this.2.1 this.2.2.1)
                  have f1 : IntKind.u64.wrap (IntKind.u64.wrap ((Q : Int) * 4294967296) + (q : Int)) = (R1 : Int) := by
                    have := FF.1
                    rw [IntKind.wrap_u64, IntKind.wrap_u64]; omega
                  have f2 : IntKind.u64.wrap (IntKind.u64.wrap (IntKind.u64.wrap ((u2 : Int) * 4294967296) + (d0 : Int)) - IntKind.u64.wrap ((q : Int) * (Y : Int))) = (e2 : Int) := by
                    rw [IntKind.wrap_u64, IntKind.wrap_u64, IntKind.wrap_u64, IntKind.wrap_u64, he2]
                    exact V.rem_wrap hq2 BD.out.2.2.2.2.2.2.2.2 BD.out.2.2.2.2.2.2.2.1
                  have f3 : (e2 : Int) / 2 ^ s = (R2 : Int) := by rw [castdiv, FF.2]
                  have f4 : min s 64 = s := by have := S0.out; omega
                  clear hR1 hR2 he2 hq2 FF hR3
                  go_wp2_with fail
                  go_ret2
                  exact ⟨rfl, rfl⟩
          · have C2 : decide ((4294967296 : Int) ≤ (r' : Int)) = false := decide_eq_false (by omega)
            have B2 : Hid (q' < 18446744073709551616 ∧ r' < 4294967296) := by have := B1.out; exact ⟨by omega, by omega⟩
            clear hq' hr' c1 c2 hx hz ht hxb hlt hq1
            go_wp2_with fail
            go_round
            case rel => exact ⟨q', r', rfl, rfl, B2, E2, G2⟩
            case measure => have := HQ.out; simp [intOf]; omega
        · have QE : Hid (q = (u * 4294967296 + d1) / (a * 4294967296 + b)) := V.digit_eq G1.out (fun h => c3 (TG.out.2 h)) (by have := BD.out; omega)
          clear c1 hx hz ht hxb
          generalize q = Q at *
          obtain ⟨u2, hu2⟩ : ∃ u2, u2 = (u * 4294967296 + d1) % Y := ⟨_, rfl⟩
          have hQY : Q = (u * 4294967296 + d1) / Y := by rw [HAB.out]; exact QE.out
          have k1 : u2 < Y := by rw [hu2]; exact Nat.mod_lt _ BD.out.2.2.2.2.2.2.2.2
          have k2 : Y < 18446744073709551616 := BD.out.2.2.2.2.2.2.2.1
          have s1 : IntKind.u64.wrap (IntKind.u64.wrap (IntKind.u64.wrap ((u : Int) * 4294967296) + (d1 : Int)) - IntKind.u64.wrap ((Q : Int) * (Y : Int))) = (u2 : Int) := by
            rw [IntKind.wrap_u64, IntKind.wrap_u64, IntKind.wrap_u64, IntKind.wrap_u64, hu2]
            exact V.rem_wrap hQY (by omega) k2
          obtain ⟨p0, hp0⟩ : ∃ q, q = u2 / a := ⟨_, rfl⟩
          obtain ⟨n0, hn0⟩ : ∃ r, r = u2 % a := ⟨_, rfl⟩
          have e0 : p0 * a + n0 = u2 := by rw [hp0, hn0, Nat.mul_comm]; exact Nat.div_add_mod u2 a
          have em : n0 < a := by rw [hn0]; exact Nat.mod_lt _ (by have := BD.out; omega)
          have kp : p0 < 18446744073709551616 := by rw [hp0]; exact Nat.lt_of_le_of_lt (Nat.div_le_self _ _) (by omega)
          have s2 : IntKind.u64.wrap ((u2 : Int) / (a : Int)) = (p0 : Int) := by
            have : (u2 : Int) / (a : Int) = ((u2 / a : Nat) : Int) := by simp
            rw [this, ← hp0, wrapn kp]
          obtain ⟨K2, hK2⟩ : ∃ k, k = u2 - n0 := ⟨_, rfl⟩
          have s3 : (p0 : Int) * (a : Int) = (K2 : Int) := by
            have : p0 * a = K2 := by omega
            rw [← this]; simp
          have s4 : IntKind.u64.wrap (K2 : Int) = (K2 : Int) := wrapn (by omega)
          have s5 : IntKind.u64.wrap ((u2 : Int) - (K2 : Int)) = (n0 : Int) := by
            have : (u2 : Int) - (K2 : Int) = (n0 : Int) := by omega
            rw [this]; exact wrapn (by omega)
          have G0 := hid (V.guess_ge (a := a) (b := b) (u := u2) (d := d0) (by omega) BD.out.2.2.2.2.1)
          rw [← hp0] at G0
          have E0 := hid e0
          have B0 : Hid (p0 < 18446744073709551616 ∧ n0 < 4294967296) := ⟨kp, by have := BD.out; omega⟩
          have HUY : Hid (u2 < Y) := k1
          have HU3 := hid hu2
          have HQY := hid hQY
          clear hu2 hQY k1 k2 hp0 hn0 e0 em kp hK2
          go_wp2_with fail
          clear s1 s2 s3 s4 s5
          go_loop [18, 16] (fun t1 t2 => ∃ q r : Nat, t1 = .int .u64 q ∧ t2 = .int .u64 r ∧ Hid (q < 18446744073709551616 ∧ r < 4294967296) ∧ Hid (q * a + r = u2) ∧ Hid ((u2 * 4294967296 + d0) / (a * 4294967296 + b) ≤ q)) (fun t1 _ => (intOf t1).toNat)
          case atStart => exact ⟨p0, n0, rfl, rfl, B0, E0, G0⟩
          case round =>
            obtain ⟨q, r, rfl, rfl, B1, E1, G1⟩ := hrel
            clear E0 G0 B0
            by_cases c1 : 4294967296 ≤ q
            · obtain ⟨q', hq'⟩ : ∃ q', q' = q - 1 := ⟨_, rfl⟩
              obtain ⟨r', hr'⟩ : ∃ r', r' = r + a := ⟨_, rfl⟩
              have q1 : IntKind.u64.wrap ((q : Int) - 1) = (q' : Int) := by have := B1.out; rw [IntKind.wrap_u64]; omega
              have q2 : IntKind.u64.wrap ((r : Int) + (a : Int)) = (r' : Int) := by have := B1.out; have := BD.out; rw [IntKind.wrap_u64]; omega
              have C1 : (4294967296 : Int) ≤ (q : Int) := by omega
              have HQ := hid hq'
              have E2 : Hid (q' * a + r' = u2) := V.step_eq E1.out (by omega) hq' hr'
              have G2 : Hid ((u2 * 4294967296 + d0) / (a * 4294967296 + b) ≤ q') := by
                have hbd := BD.out
                have hh := HAB.out
                have hu2 := HUY.out
                have hlt := V.wide_great (V := a * 4294967296 + b) (u := u2) (d := d0) (q := q) (by omega) (by omega) c1
                have := V.digit_le hlt
                rw [hq']; exact this
              by_cases c2 : 4294967296 ≤ r'
              · have C2 : decide ((4294967296 : Int) ≤ (r' : Int)) = true := decide_eq_true (by omega)
                have QE : Hid (q' = (u2 * 4294967296 + d0) / (a * 4294967296 + b)) := by
                  have hbd := BD.out
                  have hh := HAB.out
                  have hu2 := HUY.out
                  exact V.digit_eq G2.out (V.wide_rest E2.out (by omega) (by omega) c2).2 (by omega)
                clear hq' hr' c1 c2
                have FF := V.final HY.out BD.out.2.2.2.2.2.2.2.2 HU2.out HD.out
                rw [← HQY.out, ← HU3.out] at FF
                have hq2 : q' = (u2 * 4294967296 + d0) / Y := by rw [HAB.out]; exact QE.out
                rw [← hq2] at FF
                have hR1 := HR1.out
                have hR2 := HR2.out
                obtain ⟨e2, he2⟩ : ∃ R, R = (u2 * 4294967296 + d0) % Y := ⟨_, rfl⟩
                rw [← hR1, ← hR2, ← he2] at FF
                have hR3 : R1 < 18446744073709551616 := by
                  rw [hR1]
                  have := S0.out
                  exact Nat.div_lt_of_lt_mul (V.lt_words this.2.1 this.2.2.1)
                have f1 : IntKind.u64.wrap (IntKind.u64.wrap ((Q : Int) * 4294967296) + (q' : Int)) = (R1 : Int) := by
                  have := FF.1
                  rw [IntKind.wrap_u64, IntKind.wrap_u64]; omega
                have f2 : IntKind.u64.wrap (IntKind.u64.wrap (IntKind.u64.wrap ((u2 : Int) * 4294967296) + (d0 : Int)) - IntKind.u64.wrap ((q' : Int) * (Y : Int))) = (e2 : Int) := by
                  rw [IntKind.wrap_u64, IntKind.wrap_u64, IntKind.wrap_u64, IntKind.wrap_u64, he2]
                  exact V.rem_wrap hq2 BD.out.2.2.2.2.2.2.2.2 BD.out.2.2.2.2.2.2.2.1
                have f3 : (e2 : Int) / 2 ^ s = (R2 : Int) := by rw [castdiv, FF.2]
                have f4 : min s 64 = s := by have := S0.out; omega
                clear hR1 hR2 he2 hq2 FF hR3
                go_wp2_with fail
                go_ret2
                exact ⟨rfl, rfl⟩
              · have C2 : decide ((4294967296 : Int) ≤ (r' : Int)) = false := decide_eq_false (by omega)
                have B2 : Hid (q' < 18446744073709551616 ∧ r' < 4294967296) := by have := B1.out; exact ⟨by omega, by omega⟩
                clear hq' hr' c1 c2
                go_wp2_with fail
                go_round
                case rel => exact ⟨q', r', rfl, rfl, B2, E2, G2⟩
                case measure => have := HQ.out; simp [intOf]; omega
            · have D1 : decide ((4294967296 : Int) ≤ (q : Int)) = false := decide_eq_false (by omega)
              obtain ⟨x, hx⟩ : ∃ x, x = q * b := ⟨_, rfl⟩
              obtain ⟨z, hz⟩ : ∃ z, z = 4294967296 * r := ⟨_, rfl⟩
              obtain ⟨t, ht⟩ : ∃ t, t = z + d0 := ⟨_, rfl⟩
              have hxb : x ≤ 4294967295 * 4294967295 := by rw [hx]; have := BD.out; exact Nat.mul_le_mul (by omega) (by omega)
              have p1 : (q : Int) * (b : Int) = (x : Int) := by rw [hx]; simp
              have p1' : IntKind.u64.wrap (x : Int) = (x : Int) := wrapn (by omega)
              have p2 : IntKind.u64.wrap (4294967296 * (r : Int)) = (z : Int) := by have := B1.out; rw [IntKind.wrap_u64]; omega
              have p3 : IntKind.u64.wrap ((z : Int) + (d0 : Int)) = (t : Int) := by have := B1.out; have := BD.out; rw [IntKind.wrap_u64]; omega
              have TG : Hid ((t < x) ↔ (u2 * 4294967296 + d0 < q * (a * 4294967296 + b))) := by
                have := V.too_great (b := b) (d := d0) E1.out
                rw [← hx] at this
                rw [ht, hz, Nat.mul_comm 4294967296 r]; exact this
              by_cases c3 : t < x
              · have hlt := TG.out.1 c3
                obtain ⟨q', hq'⟩ : ∃ q', q' = q - 1 := ⟨_, rfl⟩
                obtain ⟨r', hr'⟩ : ∃ r', r' = r + a := ⟨_, rfl⟩
                have hq1 : 1 ≤ q := by
                  rcases Nat.eq_zero_or_pos q with h | h
                  · rw [h, Nat.zero_mul] at hlt; omega
                  · exact h
                have q1 : IntKind.u64.wrap ((q : Int) - 1) = (q' : Int) := by have := B1.out; rw [IntKind.wrap_u64]; omega
                have q2 : IntKind.u64.wrap ((r : Int) + (a : Int)) = (r' : Int) := by have := B1.out; have := BD.out; rw [IntKind.wrap_u64]; omega
                have HQ : Hid (q' = q - 1 ∧ 1 ≤ q) := ⟨hq', hq1⟩
                have E2 : Hid (q' * a + r' = u2) := V.step_eq E1.out hq1 hq' hr'
                have G2 : Hid ((u2 * 4294967296 + d0) / (a * 4294967296 + b) ≤ q') := by
                  have := V.digit_le hlt
                  rw [hq']; exact this
                by_cases c2 : 4294967296 ≤ r'
                · have C2 : decide ((4294967296 : Int) ≤ (r' : Int)) = true := decide_eq_true (by omega)
                  have QE : Hid (q' = (u2 * 4294967296 + d0) / (a * 4294967296 + b)) := by
                    have hbd := BD.out
                    have hh := HAB.out
                    have hu2 := HUY.out
                    exact V.digit_eq G2.out (V.wide_rest E2.out (by omega) (by omega) c2).2 (by omega)
                  clear hq' hr' c1 c2 hx hz ht hxb hlt hq1
                  have FF := V.final HY.out BD.out.2.2.2.2.2.2.2.2 HU2.out HD.out
                  rw [← HQY.out, ← HU3.out] at FF
                  have hq2 : q' = (u2 * 4294967296 + d0) / Y := by rw [HAB.out]; exact QE.out
                  rw [← hq2] at FF
                  have hR1 := HR1.out
                  have hR2 := HR2.out
                  obtain ⟨e2, he2⟩ : ∃ R, R = (u2 * 4294967296 + d0) % Y := ⟨_, rfl⟩
                  rw [← hR1, ← hR2, ← he2] at FF
                  have hR3 : R1 < 18446744073709551616 := by
                    rw [hR1]
                    have := S0.out
                    exact Nat.div_lt_of_lt_mul (V.lt_words this.2.1 this.2.2.1)
                  have f1 : IntKind.u64.wrap (IntKind.u64.wrap ((Q : Int) * 4294967296) + (q' : Int)) = (R1 : Int) := by
                    have := FF.1
                    rw [IntKind.wrap_u64, IntKind.wrap_u64]; omega
                  have f2 : IntKind.u64.wrap (IntKind.u64.wrap (IntKind.u64.wrap ((u2 : Int) * 4294967296) + (d0 : Int)) - IntKind.u64.wrap ((q' : Int) * (Y : Int))) = (e2 : Int) := by
                    rw [IntKind.wrap_u64, IntKind.wrap_u64, IntKind.wrap_u64, IntKind.wrap_u64, he2]
                    exact V.rem_wrap hq2 BD.out.2.2.2.2.2.2.2.2 BD.out.2.2.2.2.2.2.2.1
                  have f3 : (e2 : Int) / 2 ^ s = (R2 : Int) := by rw [castdiv, FF.2]
                  have f4 : min s 64 = s := by have := S0.out; omega
                  clear hR1 hR2 he2 hq2 FF hR3
                  go_wp2_with fail
                  go_ret2
                  exact ⟨rfl, rfl⟩
                · have C2 : decide ((4294967296 : Int) ≤ (r' : Int)) = false := decide_eq_false (by omega)
                  have B2 : Hid (q' < 18446744073709551616 ∧ r' < 4294967296) := by have := B1.out; exact ⟨by omega, by omega⟩
                  clear hq' hr' c1 c2 hx hz ht hxb hlt hq1
                  go_wp2_with fail
                  go_round
                  case rel => exact ⟨q', r', rfl, rfl, B2, E2, G2⟩
                  case measure => have := HQ.out; simp [intOf]; omega
              · have QE : Hid (q = (u2 * 4294967296 + d0) / (a * 4294967296 + b)) := V.digit_eq G1.out (fun h => c3 (TG.out.2 h)) (by have := BD.out; omega)
                clear c1 hx hz ht hxb
                have FF := V.final HY.out BD.out.2.2.2.2.2.2.2.2 HU2.out HD.out
                rw [← HQY.out, ← HU3.out] at FF
                have hq2 : q = (u2 * 4294967296 + d0) / Y := by rw [HAB.out]; exact QE.out
                rw [← hq2] at FF
                have hR1 := HR1.out
                have hR2 := HR2.out
                obtain ⟨e2, he2⟩ : ∃ R, R = (u2 * 4294967296 + d0) % Y := ⟨_, rfl⟩
                rw [← hR1, ← hR2, ← he2] at FF
                have hR3 : R1 < 18446744073709551616 := by
                  rw [hR1]
                  have := S0.out
                  exact Nat.div_lt_of_lt_mul (V.lt_words this.2.1 this.2.2.1)
                have f1 : IntKind.u64.wrap (IntKind.u64.wrap ((Q : Int) * 4294967296) + (q : Int)) = (R1 : Int) := by
                  have := FF.1
                  rw [IntKind.wrap_u64, IntKind.wrap_u64]; omega
                have f2 : IntKind.u64.wrap (IntKind.u64.wrap (IntKind.u64.wrap ((u2 : Int) * 4294967296) + (d0 : Int)) - IntKind.u64.wrap ((q : Int) * (Y : Int))) = (e2 : Int) := by
                  rw [IntKind.wrap_u64, IntKind.wrap_u64, IntKind.wrap_u64, IntKind.wrap_u64, he2]
                  exact V.rem_wrap hq2 BD.out.2.2.2.2.2.2.2.2 BD.out.2.2.2.2.2.2.2.1
                have f3 : (e2 : Int) / 2 ^ s = (R2 : Int) := by rw [castdiv, FF.2]
                have f4 : min s 64 = s := by have := S0.out; omega
                clear hR1 hR2 he2 hq2 FF hR3
                go_wp2_with fail
                go_ret2
                exact ⟨rfl, rfl⟩
end Go.Proofs.YtlbffibpcjjpkaaDoor

namespace Go.Proofs.YtlbffibpcjjpkaaDoor
open Go.RowKit
set_option maxHeartbeats 2000000
theorem div64_any (hi lo y R1 R2 : Nat) (g1 : R1 = (hi * 18446744073709551616 + lo) / y) (g2 : R2 = (hi * 18446744073709551616 + lo) % y) (h1 : hi < y) (h2 : lo < 18446744073709551616) (h3 : y < 18446744073709551616) (w : World) : Calls Tryd.prog 73 #[.int .u64 hi, .int .u64 lo, .int .u64 y] w fun e w' => e = .returned (.tuple #[.int .u64 R1, .int .u64 R2]) ∧ Below w.heap.size w w' := by
  by_cases h0 : hi = 0
  · subst h0
    rw [Nat.zero_mul, Nat.zero_add] at g1 g2
    have r1 : IntKind.u64.wrap ((lo : Int) / (y : Int)) = (R1 : Int) := by
      have : (lo : Int) / (y : Int) = ((lo / y : Nat) : Int) := by simp
      rw [this, ← g1, wrapn (by rw [g1]; exact Nat.lt_of_le_of_lt (Nat.div_le_self _ _) h2)]
    have r2 : (lo : Int) % (y : Int) = (R2 : Int) := by rw [g2]; simp
    have r3 : IntKind.u64.wrap ((lo : Int).tdiv (y : Int)) = (R1 : Int) := by rw [Int.tdiv_eq_ediv_of_nonneg (by omega)]; exact r1
    have r4 : (lo : Int).tmod (y : Int) = (R2 : Int) := by rw [Int.tmod_eq_emod_of_nonneg (by omega)]; exact r2
    have hby : ((y : Int) == 0) = false := beq_eq_false_iff_ne.2 (by omega)
    have hle : ¬ ((y : Int) ≤ 0) := by omega
    clear g1 g2 h3
    go_enter Tryd.func73, Tryd.ntmps73
    go_wp2_with fail
    go_quiet (fail)
    go_wp2_with fail
    go_ret2
    exact ⟨rfl, below_drewN (Below.refl _ _) _⟩
  · refine (div64_yes hi lo y R1 R2 g1 g2 h0 h1 h2 h3 w).mono ?_
    rintro e w' ⟨rfl, rfl⟩
    exact ⟨rfl, Below.refl _ _⟩
end Go.Proofs.YtlbffibpcjjpkaaDoor

namespace Go.Proofs.YtlbffibpcjjpkaaDoor
open Go.RowKit
end Go.Proofs.YtlbffibpcjjpkaaDoor

namespace Go.Proofs.YtlbffibpcjjpkaaDoor
open Go.RowKit
theorem msplit_no (a b c : Nat) (ha : a < 18446744073709551616) (hb : b < 18446744073709551616) (h : c ≤ a * b / 18446744073709551616) (w : World) :
    Calls Tryd.prog 57 #[.int .u64 a, .int .u64 b, .int .u64 c] w fun e w' => e = .returned (.tuple #[.int .u64 0, .int .u64 0, .bool false]) ∧ w = w' := by
  have m := Tryd.bits_Mul64 a b ha hb
  obtain ⟨hi, hh⟩ : ∃ x, x = a * b / 18446744073709551616 := ⟨_, rfl⟩
  obtain ⟨lo, hl⟩ : ∃ x, x = a * b % 18446744073709551616 := ⟨_, rfl⟩
  rw [← hh, ← hl] at m
  rw [← hh] at h
  have M0 := hid m
  clear m hh hl ha hb
  go_enter Tryd.func57, Tryd.ntmps57
  go_wp2_with fail
  refine (M0.out _).mono ?_
  rintro e w' ⟨rfl, rfl⟩
  go_wp2_with fail
  go_ret3
  exact ⟨rfl, rfl⟩
theorem msplit_yes (a b c R1 R2 : Nat) (ha : a < 18446744073709551616) (hb : b < 18446744073709551616) (hc : c < 18446744073709551616) (h : a * b / 18446744073709551616 < c) (g1 : R1 = a * b / c) (g2 : R2 = a * b % c) (w : World) :
    Calls Tryd.prog 57 #[.int .u64 a, .int .u64 b, .int .u64 c] w fun e w' => e = .returned (.tuple #[.int .u64 R1, .int .u64 R2, .bool (decide ((R1 : Int) ≤ 1152921504606846976))]) ∧ Below w.heap.size w w' := by
  have m := Tryd.bits_Mul64 a b ha hb
  have e := Nat.div_add_mod (a * b) 18446744073709551616
  have hl2 : a * b % 18446744073709551616 < 18446744073709551616 := Nat.mod_lt _ (by omega)
  obtain ⟨hi, hh⟩ : ∃ x, x = a * b / 18446744073709551616 := ⟨_, rfl⟩
  obtain ⟨lo, hl⟩ : ∃ x, x = a * b % 18446744073709551616 := ⟨_, rfl⟩
  rw [← hh, ← hl] at m e
  rw [← hh] at h
  rw [← hl] at hl2
  rw [Nat.mul_comm] at e
  rw [← e] at g1 g2
  have D0 := hid (div64_any hi lo c R1 R2 g1 g2 h hl2 hc)
  have M0 := hid m
  clear m hh hl ha hb g1 g2 e hl2 hc
  go_enter Tryd.func57, Tryd.ntmps57
  go_wp2_with fail
  refine (M0.out _).mono ?_
  rintro e w' ⟨rfl, rfl⟩
  go_wp2_with fail
  refine (D0.out _).mono ?_
  rintro e w2 ⟨rfl, hb2⟩
  go_wp2_with fail
  go_ret3
  exact ⟨rfl, hb2⟩
end Go.Proofs.YtlbffibpcjjpkaaDoor

namespace Go.Proofs.YtlbffibpcjjpkaaDoor
open Go Go.RowKit V
namespace M
theorem chk_ok {a : Int} (h : chk a = 0) : Amt a := by
  by_cases q : Amt a
  · exact q
  · rw [chk_no q] at h; omega
theorem chks_ok {l : List Int} (h : chks l = 0) : ∀ a ∈ l, Amt a := by
  by_cases q : ∀ a ∈ l, Amt a
  · exact q
  · rw [chks_no q] at h; omega
theorem chk_nok {a : Int} (h : ¬ chk a = 0) : ¬ Amt a := fun q => h (chk_yes q)
theorem ck_ok {a b c : Int} (h : ckE a b c = 0) : POk a b c := by
  by_cases q : POk a b c
  · exact q
  · rw [ck_no q] at h; omega
theorem ck_nok {a b c : Int} (h : ¬ ckE a b c = 0) : ¬ POk a b c := fun q => h (ck_yes q)
def spQ (a b c : Int) : Int := if c ≤ a * b / 18446744073709551616 then 0 else a * b / c
def spR (a b c : Int) : Int := if c ≤ a * b / 18446744073709551616 then 0 else a * b % c
def spB (a b c : Int) : Bool := if c ≤ a * b / 18446744073709551616 then false else decide (a * b / c ≤ 1152921504606846976)
end M
theorem v_mwithin (n a b : Int) : V.Fn Tryd.prog 41 [] [.one (.val (.int .i64 n)), .one (.val (.int .i64 a)), .one (.val (.int .i64 b))] (.bool (decide (a ≤ n ∧ n ≤ b))) := by
  refine V.Fn.mk_ V.Tok V.mixed Tryd.func41 rfl Tryd.ntmps41 (by kernel_rfl) rfl rfl ?_
  repeat' ((conv => whnf); first | refine V.NCond.mk ?_ | refine V.NPick.l ?_ | refine V.NIf.not_ ?_ | refine V.NIf.dec_ ?_ | refine V.a4 ?_ | refine V.a5 ?_ | refine V.NIf.mk (fun _ => ?_) (fun _ => ?_) | refine V.a7 ?_ | refine V.a8 ?_ | refine V.a9 ?_ | refine V.NBoth.mk ?_ ?_ | refine V.b1 ?_ | refine V.b2 ?_ | refine V.NTF.dec ?_ | refine V.b3 ?_ | refine V.b4 ?_ | (refine V.NDraw.any (by kernel_rfl) ?_) | fail)
  · exact ⟨_, rfl, by simp_all⟩
  · exact congrArg Value.bool (by simp_all; omega)
theorem v_check (a : Int) : V.Fn Tryd.prog 26 [] [.one (.val (.int .i64 a))] (.int .i64 (M.chk a)) := by
  refine V.Fn.mk_ V.Tok V.mixed Tryd.func26 rfl Tryd.ntmps26 (by kernel_rfl) rfl rfl ?_
  repeat' ((conv => whnf); first | refine V.NCond.mk ?_ | refine V.NPick.l ?_ | refine V.NIf.not_ ?_ | refine V.NIf.dec_ ?_ | refine V.a4 ?_ | refine V.a5 ?_ | refine V.NIf.mk (fun _ => ?_) (fun _ => ?_) | refine V.a7 ?_ | refine V.a8 ?_ | refine V.a9 ?_ | refine V.NBoth.mk ?_ ?_ | refine V.b1 ?_ | refine V.b2 ?_ | refine V.NTF.dec ?_ | refine V.b3 ?_ | refine V.b4 ?_ | (first | refine V.Fn.k0 (v_mwithin _ _ _) rfl ?_ | refine V.Fn.q0 (v_mwithin _ _ _) rfl ?_ | refine V.Fn.a0 (v_mwithin _ _ _) rfl ?_) | (refine V.NDraw.any (by kernel_rfl) ?_) | fail)
  all_goals ((conv => whnf); refine congrArg _ ?_; unfold M.chk M.Amt; (repeat' split) <;> first | rfl | omega | (exfalso; omega) | (simp_all; done) | (simp_all; omega))
theorem v_split (a b c : Int) (ha : 0 ≤ a ∧ a < 18446744073709551616) (hb : 0 ≤ b ∧ b < 18446744073709551616) (hc : 0 ≤ c ∧ c < 18446744073709551616) :
    V.Fn Tryd.prog 57 [] [.one (.val (.int .u64 a)), .one (.val (.int .u64 b)), .one (.val (.int .u64 c))] (.tuple #[.int .u64 (M.spQ a b c), .int .u64 (M.spR a b c), .bool (M.spB a b c)]) := by
  obtain ⟨x, rfl⟩ := Int.eq_ofNat_of_zero_le ha.1
  obtain ⟨y, rfl⟩ := Int.eq_ofNat_of_zero_le hb.1
  obtain ⟨z, rfl⟩ := Int.eq_ofNat_of_zero_le hc.1
  have e : (x : Int) * y / 18446744073709551616 = ((x * y / 18446744073709551616 : Nat) : Int) := by simp
  by_cases h : z ≤ x * y / 18446744073709551616
  · have h' : (z : Int) ≤ (x : Int) * y / 18446744073709551616 := by rw [e]; exact Int.ofNat_le.2 h
    rw [show M.spQ x y z = 0 from if_pos h', show M.spR x y z = 0 from if_pos h', show M.spB x y z = false from if_pos h']
    refine Fn.of_calls (xs := [.int .u64 x, .int .u64 y, .int .u64 z]) (by kernel_rfl) V.S_ fun w => ?_
    refine (msplit_no x y z (by omega) (by omega) h w).mono ?_
    rintro e w' ⟨rfl, rfl⟩
    exact ⟨rfl, Belw.refl _ _⟩
  · have h' : ¬ (z : Int) ≤ (x : Int) * y / 18446744073709551616 := by rw [e]; exact fun q => h (Int.ofNat_le.1 q)
    rw [show M.spQ x y z = _ from if_neg h', show M.spR x y z = _ from if_neg h', show M.spB x y z = _ from if_neg h']
    refine Fn.of_calls (xs := [.int .u64 x, .int .u64 y, .int .u64 z]) (by kernel_rfl) V.S_ fun w => ?_
    refine (msplit_yes x y z (x * y / z) (x * y % z) (by omega) (by omega) (by omega) (by omega) rfl rfl w).mono ?_
    rintro e w' ⟨rfl, hb⟩
    exact ⟨by simp, .low hb⟩
namespace M
def rawQ (a b c : Int) : Int := if 0 ≤ a then IntKind.i64.wrap (spQ a b c) else if spR (0 - a) b c = 0 then IntKind.i64.wrap (0 - IntKind.i64.wrap (spQ (0 - a) b c)) else IntKind.i64.wrap (IntKind.i64.wrap (0 - IntKind.i64.wrap (spQ (0 - a) b c)) - 1)
def rawR (a b c : Int) : Int := if 0 ≤ a then spR a b c else if spR (0 - a) b c = 0 then 0 else c - spR (0 - a) b c
def rawB (a b c : Int) : Bool := if 0 ≤ a then spB a b c else if spR (0 - a) b c = 0 then spB (0 - a) b c else (spB (0 - a) b c && decide (spQ (0 - a) b c < 1152921504606846976))
theorem raw_1 {a b c : Int} (h : 0 ≤ a) : rawQ a b c = IntKind.i64.wrap (spQ a b c) ∧ rawR a b c = spR a b c ∧ rawB a b c = spB a b c := ⟨if_pos h, if_pos h, if_pos h⟩
theorem raw_2 {a b c : Int} (h : ¬ 0 ≤ a) (k : spR (0 - a) b c = 0) : rawQ a b c = IntKind.i64.wrap (0 - IntKind.i64.wrap (spQ (0 - a) b c)) ∧ rawR a b c = 0 ∧ rawB a b c = spB (0 - a) b c := by
  unfold rawQ rawR rawB; rw [if_neg h, if_pos k, if_neg h, if_pos k, if_neg h, if_pos k]; exact ⟨rfl, rfl, rfl⟩
theorem raw_3 {a b c : Int} (h : ¬ 0 ≤ a) (k : ¬ spR (0 - a) b c = 0) : rawQ a b c = IntKind.i64.wrap (IntKind.i64.wrap (0 - IntKind.i64.wrap (spQ (0 - a) b c)) - 1) ∧ rawR a b c = c - spR (0 - a) b c ∧ rawB a b c = (spB (0 - a) b c && decide (spQ (0 - a) b c < 1152921504606846976)) := by
  unfold rawQ rawR rawB; rw [if_neg h, if_neg k, if_neg h, if_neg k, if_neg h, if_neg k]; exact ⟨rfl, rfl, rfl⟩
theorem spR_bd {a b c : Int} (hc : 1 ≤ c) : 0 ≤ spR a b c ∧ spR a b c < c := by
  unfold spR; split
  · omega
  · exact r_bd hc
theorem i64w {e : Int} (h : -9223372036854775808 ≤ e ∧ e ≤ 9223372036854775807) : IntKind.i64.wrap e = e := IntWalk.i64_in e h
theorem sp_in {a b c : Int} (hc : 1 ≤ c ∧ c ≤ 1099511627776) (ha : 0 ≤ a) (hb : 0 ≤ b) (k : a * b / c ≤ 1152921504606846976) : spQ a b c = a * b / c ∧ spR a b c = a * b % c ∧ spB a b c = true := by
  have hab : 0 ≤ a * b := Int.mul_nonneg ha hb
  have e := qr (a * b) c
  have r := r_bd (x := a * b) hc.1
  have lt : ¬ c ≤ a * b / 18446744073709551616 := by
    intro q
    have h1 : c * 18446744073709551616 ≤ a * b := (Int.le_ediv_iff_mul_le (by omega)).1 q
    have h2 : c * (a * b / c) ≤ c * 1152921504606846976 := Int.mul_le_mul_of_nonneg_left k (by omega)
    omega
  exact ⟨if_neg lt, if_neg lt, (if_neg lt).trans (decide_eq_true k)⟩
theorem sp_out {a b c : Int} (hc : 1 ≤ c ∧ c ≤ 1099511627776) (ha : 0 ≤ a) (hb : 0 ≤ b) (k : spB a b c = true) : a * b / c ≤ 1152921504606846976 := by
  unfold spB at k
  split at k
  · cases k
  · exact of_decide_eq_true k
theorem raw_at {a b c : Int} (h : POk a b c) : (rawB a b c = true ↔ Amt (a * b / c)) ∧ (Amt (a * b / c) → rawQ a b c = a * b / c ∧ rawR a b c = a * b % c) := by
  obtain ⟨⟨a0, a1⟩, ⟨b0, b1⟩, hc⟩ := h
  by_cases ha : 0 ≤ a
  · obtain ⟨e1, e2, e3⟩ := raw_1 (b := b) (c := c) ha
    have q0 : 0 ≤ a * b / c := Int.ediv_nonneg (Int.mul_nonneg ha b0) (by omega)
    rw [e1, e2, e3]
    refine ⟨⟨fun k => ⟨by omega, sp_out hc ha b0 k⟩, fun k => (sp_in hc ha b0 k.2).2.2⟩, fun k => ?_⟩
    obtain ⟨s1, s2, _⟩ := sp_in hc ha b0 k.2
    have k2 := k.2
    rw [s1, s2, i64w (by omega)]; exact ⟨rfl, rfl⟩
  · have hn : 0 ≤ 0 - a := by omega
    have em : a * b = -((0 - a) * b) := by rw [Int.zero_sub, Int.neg_mul, Int.neg_neg]
    have q0 : 0 ≤ (0 - a) * b / c := Int.ediv_nonneg (Int.mul_nonneg hn b0) (by omega)
    rw [em]
    by_cases k : (0 - a) * b / c ≤ 1152921504606846976
    · obtain ⟨s1, s2, s3⟩ := sp_in hc hn b0 k
      rcases neg_part (x := (0 - a) * b) hc.1 with ⟨z, n1, n2⟩ | ⟨z, n1, n2⟩
      · obtain ⟨e1, e2, e3⟩ := raw_2 (b := b) (c := c) ha (by rw [s2]; exact z)
        rw [e1, e2, e3, n1, n2, s1, s3, i64w (e := (0 - a) * b / c) (by omega), i64w (by omega)]
        refine ⟨⟨fun _ => ⟨by omega, by omega⟩, fun _ => rfl⟩, fun _ => ⟨by omega, rfl⟩⟩
      · obtain ⟨e1, e2, e3⟩ := raw_3 (b := b) (c := c) ha (by rw [s2]; omega)
        rw [e1, e2, e3, n1, n2, s1, s2, s3, i64w (e := (0 - a) * b / c) (by omega), i64w (e := 0 - _) (by omega), i64w (by omega)]
        refine ⟨?_, fun _ => ⟨by omega, rfl⟩⟩
        unfold Amt
        simp only [Bool.true_and, decide_eq_true_eq]
        omega
    · have sb : spB (0 - a) b c = false := by
        rw [Bool.eq_false_iff]; exact fun q => k (sp_out hc hn b0 q)
      have na : ¬ Amt (-((0 - a) * b) / c) := by
        unfold Amt
        rcases neg_part (x := (0 - a) * b) hc.1 with ⟨z, n1, n2⟩ | ⟨z, n1, n2⟩ <;> omega
      have rb : rawB a b c = false := by
        by_cases z : spR (0 - a) b c = 0
        · rw [(raw_2 (b := b) (c := c) ha z).2.2]; exact sb
        · rw [(raw_3 (b := b) (c := c) ha z).2.2, sb]; rfl
      rw [rb]
      exact ⟨⟨fun q => (nomatch q), fun q => absurd q na⟩, fun q => absurd q na⟩
theorem raw_ok {a b c : Int} (h : POk a b c) (k : rawB a b c = true) : Amt (a * b / c) ∧ rawQ a b c = a * b / c ∧ rawR a b c = a * b % c := ⟨(raw_at h).1.1 k, (raw_at h).2 ((raw_at h).1.1 k)⟩
theorem raw_nok {a b c : Int} (h : POk a b c) (k : ¬ rawB a b c = true) : ¬ Amt (a * b / c) := fun q => k ((raw_at h).1.2 q)
end M
set_option maxHeartbeats 1000000 in
theorem v_raw (a b c : Int) (h : M.POk a b c) : V.Fn Tryd.prog 43 [] [.one (.val (.int .i64 a)), .one (.val (.int .i64 b)), .one (.val (.int .i64 c))] (.tuple #[.int .i64 (M.rawQ a b c), .int .i64 (M.rawR a b c), .bool (M.rawB a b c)]) := by
  obtain ⟨⟨a0, a1⟩, ⟨b0, b1⟩, c0, c1⟩ := h
  have r1 := M.spR_bd (a := a) (b := b) c0
  have r2 := M.spR_bd (a := 0 - a) (b := b) c0
  refine V.Fn.mk_ V.Tok V.mixed Tryd.func43 rfl Tryd.ntmps43 (by kernel_rfl) rfl rfl ?_
  repeat' ((conv => whnf); first | refine V.NCond.mk ?_ | refine V.NPick.l ?_ | refine V.NIf.not_ ?_ | refine V.NIf.dec_ ?_ | refine V.a4 ?_ | refine V.a5 ?_ | refine V.NIf.mk (fun _ => ?_) (fun _ => ?_) | refine V.a7 ?_ | refine V.a8 ?_ | refine V.a9 ?_ | refine V.NBoth.mk ?_ ?_ | refine V.b1 ?_ | refine V.b2 ?_ | refine V.NTF.dec ?_ | refine V.b3 ?_ | refine V.b4 ?_ | (first | refine V.Fn.k0 (v_split a b c (by omega) (by omega) (by omega)) rfl ?_ | refine V.Fn.q0 (v_split a b c (by omega) (by omega) (by omega)) rfl ?_ | refine V.Fn.a0 (v_split a b c (by omega) (by omega) (by omega)) rfl ?_) | (first | refine V.Fn.k0 (v_split (0 - a) b c (by omega) (by omega) (by omega)) rfl ?_ | refine V.Fn.q0 (v_split (0 - a) b c (by omega) (by omega) (by omega)) rfl ?_ | refine V.Fn.a0 (v_split (0 - a) b c (by omega) (by omega) (by omega)) rfl ?_) | (refine NWrap.mk ?_) | (refine V.NDraw.any (by kernel_rfl) ?_) | fail)
  · obtain ⟨e1, e2, e3⟩ := M.raw_1 (a := a) (b := b) (c := c) (by assumption)
    rw [e1, e2, e3]; exact V.S_
  · obtain ⟨e1, e2, e3⟩ := M.raw_2 (a := a) (b := b) (c := c) (by assumption) (by assumption)
    rw [e1, e2, e3]; exact V.S_
  all_goals obtain ⟨e1, e2, e3⟩ := M.raw_3 (a := a) (b := b) (c := c) (by assumption) (by assumption)
  all_goals rw [e1, e2, e3]
  all_goals (conv => whnf)
  all_goals (repeat' (first | exact rfl | exact trivial | (refine ⟨_, rfl, ?_⟩; simp_all; done) | (refine ⟨?_, ?_⟩) | exact congrArg Value.bool (by simp_all) | (simp_all; done)))
theorem v_mcheck (a b c : Int) : V.Fn Tryd.prog 42 [] [.one (.val (.int .i64 a)), .one (.val (.int .i64 b)), .one (.val (.int .i64 c))] (.int .i64 (M.ckE a b c)) := by
  refine V.Fn.mk_ V.Tok V.mixed Tryd.func42 rfl Tryd.ntmps42 (by kernel_rfl) rfl rfl ?_
  repeat' ((conv => whnf); first | refine V.NCond.mk ?_ | refine V.NPick.l ?_ | refine V.NIf.not_ ?_ | refine V.NIf.dec_ ?_ | refine V.a4 ?_ | refine V.a5 ?_ | refine V.NIf.mk (fun _ => ?_) (fun _ => ?_) | refine V.a7 ?_ | refine V.a8 ?_ | refine V.a9 ?_ | refine V.NBoth.mk ?_ ?_ | refine V.b1 ?_ | refine V.b2 ?_ | refine V.NTF.dec ?_ | refine V.b3 ?_ | refine V.b4 ?_ | (first | refine V.Fn.k0 (v_check _) rfl ?_ | refine V.Fn.q0 (v_check _) rfl ?_ | refine V.Fn.a0 (v_check _) rfl ?_) | (first | refine V.Fn.k0 (v_mwithin _ _ _) rfl ?_ | refine V.Fn.q0 (v_mwithin _ _ _) rfl ?_ | refine V.Fn.a0 (v_mwithin _ _ _) rfl ?_) | (refine V.NDraw.any (by kernel_rfl) ?_) | fail)
  all_goals (conv => whnf)
  all_goals refine congrArg (Value.int .i64) ?_
  all_goals first
    | exact (M.ck_yes ⟨M.chk_ok (by assumption), by omega, by omega⟩).symm
    | exact (M.ck_no fun q => by have := q.2; omega).symm
    | (have k := M.chk_nok (a := a) (by assumption); rw [M.ck_no fun q => k q.1, M.chk_no k])
theorem v_part (a b c : Int) : V.Fn Tryd.prog 27 [] [.one (.val (.int .i64 a)), .one (.val (.int .i64 b)), .one (.val (.int .i64 c))] (.tuple #[.int .i64 (M.prQ a b c), .int .i64 (M.prR a b c), .int .i64 (M.prE a b c)]) := by
  refine V.Fn.mk_ V.Tok V.mixed Tryd.func27 rfl Tryd.ntmps27 (by kernel_rfl) rfl rfl ?_
  repeat' ((conv => whnf); first | refine V.NCond.mk ?_ | refine V.NPick.l ?_ | refine V.NIf.not_ ?_ | refine V.NIf.dec_ ?_ | refine V.a4 ?_ | refine V.a5 ?_ | refine V.NIf.mk (fun _ => ?_) (fun _ => ?_) | refine V.a7 ?_ | refine V.a8 ?_ | refine V.a9 ?_ | refine V.NBoth.mk ?_ ?_ | refine V.b1 ?_ | refine V.b2 ?_ | refine V.NTF.dec ?_ | refine V.b3 ?_ | refine V.b4 ?_ | (first | refine V.Fn.k0 (v_mcheck _ _ _) rfl ?_ | refine V.Fn.q0 (v_mcheck _ _ _) rfl ?_ | refine V.Fn.a0 (v_mcheck _ _ _) rfl ?_) | (first | refine V.Fn.k0 (v_raw a b c (M.ck_ok (by assumption))) rfl ?_ | refine V.Fn.q0 (v_raw a b c (M.ck_ok (by assumption))) rfl ?_ | refine V.Fn.a0 (v_raw a b c (M.ck_ok (by assumption))) rfl ?_) | (refine V.NDraw.any (by kernel_rfl) ?_) | fail)
  · have h := M.ck_ok (by assumption)
    obtain ⟨k, e1, e2⟩ := M.raw_ok h (by assumption)
    rw [e1, e2, (M.pr_3 h k).1, (M.pr_3 h k).2.1, (M.pr_3 h k).2.2]; exact V.S_
  · have h := M.ck_ok (by assumption)
    have k := M.raw_nok h (by assumption)
    rw [(M.pr_2 h k).1, (M.pr_2 h k).2.1, (M.pr_2 h k).2.2]; exact V.S_
  · have h := M.ck_nok (by assumption)
    rw [(M.pr_1 h).1, (M.pr_1 h).2.1, (M.pr_1 h).2.2, M.ck_no h]; exact V.S_
end Go.Proofs.YtlbffibpcjjpkaaDoor

namespace Go.Proofs.YtlbffibpcjjpkaaDoor
namespace M
def le (l : List Int) : List Int := l.filter fun a => !decide (0 ≤ a)
end M
namespace M
end M
end Go.Proofs.YtlbffibpcjjpkaaDoor

namespace Go.Proofs.YtlbffibpcjjpkaaDoor
open Go Go.RowKit V
namespace M
end M
namespace M
end M
namespace M
end M
end Go.Proofs.YtlbffibpcjjpkaaDoor

namespace Go.Proofs.YtlbffibpcjjpkaaDoor
namespace P
def Ok (p : Int) : Prop := 0 ≤ p ∧ p ≤ 1099511627776
instance (p : Int) : Decidable (Ok p) := by unfold Ok; exact inferInstance
def chk (p : Int) : Int := if Ok p then 0 else 3
theorem chk_yes {p : Int} (h : Ok p) : chk p = 0 := if_pos h
theorem chk_no {p : Int} (h : ¬ Ok p) : chk p = 3 := if_neg h
def chks (l : List Int) : Int := if l.length ≠ 20 then 1 else if ∀ p ∈ l, Ok p then 0 else 3
theorem chks_ok {l : List Int} (h : chks l = 0) : l.length = 20 ∧ ∀ p ∈ l, Ok p := by
  unfold chks at h
  split at h
  · omega
  · split at h
    · exact ⟨by omega, by assumption⟩
    · omega
def pr (l : List Int) (pa : Int) : Int := l.getD (pa - 1).toNat default
theorem pr_ok {l : List Int} (h : chks l = 0) {pa : Int} (h1 : 1 ≤ pa ∧ pa ≤ 20) : Ok (pr l pa) := by
  obtain ⟨h2, h3⟩ := chks_ok h
  exact h3 _ (getD_mem (by omega))
end P
end Go.Proofs.YtlbffibpcjjpkaaDoor

namespace Go.Proofs.YtlbffibpcjjpkaaDoor
open Go Go.RowKit V
theorem v_pcheck (p : Int) : V.Fn Tryd.prog 19 [] [.one (.val (.int .i64 p))] (.int .i64 (P.chk p)) := by
  refine V.Fn.mk_ V.Tok V.mixed Tryd.func19 rfl Tryd.ntmps19 (by kernel_rfl) rfl rfl ?_
  repeat' ((conv => whnf); first | refine V.NCond.mk ?_ | refine V.NPick.l ?_ | refine V.NIf.not_ ?_ | refine V.NIf.dec_ ?_ | refine V.a4 ?_ | refine V.a5 ?_ | refine V.NIf.mk (fun _ => ?_) (fun _ => ?_) | refine V.a7 ?_ | refine V.a8 ?_ | refine V.a9 ?_ | refine V.NBoth.mk ?_ ?_ | refine V.b1 ?_ | refine V.b2 ?_ | refine V.NTF.dec ?_ | refine V.b3 ?_ | refine V.b4 ?_ | (refine V.NDraw.any (by kernel_rfl) ?_) | fail)
  all_goals ((conv => whnf); refine congrArg _ ?_; unfold P.chk P.Ok; (repeat' split) <;> first | rfl | omega | (exfalso; omega) | (simp_all; done) | (simp_all; omega))
theorem v_cost (u p : Int) : V.Fn Tryd.prog 10 [] [.one (.val (.int .i64 u)), .one (.val (.int .i64 p))] (.tuple #[.int .i64 (M.prQ u p 10000), .int .i64 (M.prR u p 10000), .int .i64 (M.prE u p 10000)]) := by
  have h1 : ¬ M.chk u = 0 → M.prE u p 10000 = 3 ∧ M.prQ u p 10000 = 0 ∧ M.prR u p 10000 = 0 ∧ M.chk u = 3 := fun h => by
    by_cases q : M.Amt u
    · exact absurd (M.chk_yes q) h
    · obtain ⟨a, b, c⟩ := M.pr_1 (a := u) (b := p) (c := 10000) (fun k => q k.1)
      exact ⟨a, b, c, M.chk_no q⟩
  have h2 : ¬ P.chk p = 0 → M.prE u p 10000 = 3 ∧ M.prQ u p 10000 = 0 ∧ M.prR u p 10000 = 0 ∧ P.chk p = 3 := fun h => by
    by_cases q : P.Ok p
    · exact absurd (P.chk_yes q) h
    · obtain ⟨a, b, c⟩ := M.pr_1 (a := u) (b := p) (c := 10000) (fun k => q k.2.1)
      exact ⟨a, b, c, P.chk_no q⟩
  refine V.Fn.mk_ V.Tok V.mixed Tryd.func10 rfl Tryd.ntmps10 (by kernel_rfl) rfl rfl ?_
  repeat' ((conv => whnf); first | refine V.NCond.mk ?_ | refine V.NPick.l ?_ | refine V.NIf.not_ ?_ | refine V.NIf.dec_ ?_ | refine V.a4 ?_ | refine V.a5 ?_ | refine V.NIf.mk (fun _ => ?_) (fun _ => ?_) | refine V.a7 ?_ | refine V.a8 ?_ | refine V.a9 ?_ | refine V.NBoth.mk ?_ ?_ | refine V.b1 ?_ | refine V.b2 ?_ | refine V.NTF.dec ?_ | refine V.b3 ?_ | refine V.b4 ?_ | (first | refine V.Fn.k0 (v_check _) rfl ?_ | refine V.Fn.q0 (v_check _) rfl ?_ | refine V.Fn.a0 (v_check _) rfl ?_) | (first | refine V.Fn.k0 (v_pcheck _) rfl ?_ | refine V.Fn.q0 (v_pcheck _) rfl ?_ | refine V.Fn.a0 (v_pcheck _) rfl ?_) | (first | refine V.Fn.k0 (v_part _ _ _) rfl ?_ | refine V.Fn.q0 (v_part _ _ _) rfl ?_ | refine V.Fn.a0 (v_part _ _ _) rfl ?_) | (refine V.NDraw.any (by kernel_rfl) ?_) | fail)
  all_goals (conv => whnf)
  · exact V.S_
  · obtain ⟨a, b, c, d⟩ := h2 (by assumption)
    rw [a, b, c, d]; exact V.S_
  · obtain ⟨a, b, c, d⟩ := h1 (by assumption)
    rw [a, b, c, d]; exact V.S_
end Go.Proofs.YtlbffibpcjjpkaaDoor

namespace Go.Proofs.YtlbffibpcjjpkaaDoor
open Go
namespace Pr
def Dg (b : UInt8) : Prop := 48 ≤ b.toNat ∧ b.toNat ≤ 57
instance (b : UInt8) : Decidable (Dg b) := by unfold Dg; exact inferInstance
def ten : List UInt8 := [48, 49, 50, 51, 52, 53, 54, 55, 56, 57]
theorem ten_has (b : UInt8) : ten.contains b = true ↔ Dg b := by
  unfold Dg
  constructor
  · intro h
    have h2 : b ∈ ten := by simpa using h
    simp only [ten, List.mem_cons, List.not_mem_nil, or_false] at h2
    rcases h2 with rfl | rfl | rfl | rfl | rfl | rfl | rfl | rfl | rfl | rfl <;> decide
  · rintro ⟨h1, h2⟩
    have e : b = UInt8.ofNat b.toNat := by simp
    generalize b.toNat = n at *
    have : n = 48 ∨ n = 49 ∨ n = 50 ∨ n = 51 ∨ n = 52 ∨ n = 53 ∨ n = 54 ∨ n = 55 ∨ n = 56 ∨ n = 57 := by omega
    rcases this with rfl | rfl | rfl | rfl | rfl | rfl | rfl | rfl | rfl | rfl <;> subst e <;> rfl
theorem drop_nil {α : Type} {p : α → Bool} : ∀ {l : List α}, l.dropWhile p = [] ↔ ∀ b ∈ l, p b = true
  | [] => by simp
  | b :: l => by
    by_cases h : p b = true
    · simp [List.dropWhile_cons, h, drop_nil (l := l)]
    · simp [List.dropWhile_cons, h]
theorem trim_nil {l : List UInt8} : Lib.trimS l ten = [] ↔ ∀ b ∈ l, Dg b := by
  unfold Lib.trimS Lib.trimLeftS Lib.trimRightS
  rw [drop_nil]
  constructor
  · intro h b hb
    rw [← ten_has]
    rcases Decidable.em (l.reverse.dropWhile (ten.contains ·) = []) with q | q
    · exact drop_nil.1 q b (by simpa using hb)
    · exfalso
      cases hd : l.reverse.dropWhile (ten.contains ·) with
      | nil => exact q hd
      | cons x m =>
        have h1 : ten.contains x = true := h x (by rw [hd]; simp)
        have h2 : ¬ ten.contains x = true := by
          have : ∀ (l : List UInt8), l.dropWhile (ten.contains ·) = x :: m → ¬ ten.contains x = true := by
            intro l
            induction l with
            | nil => intro e; cases e
            | cons y l ih =>
              intro e
              rw [List.dropWhile_cons] at e
              split at e
              · exact ih e
              · injection e with e1 e2
                subst e1
                assumption
          exact this _ hd
        exact h2 h1
  · intro h b hb
    rw [ten_has]
    refine h b ?_
    have h1 : b ∈ l.reverse.dropWhile (ten.contains ·) := by simpa using hb
    have := (List.dropWhile_suffix (ten.contains ·) (l := l.reverse)).subset h1
    simpa using this
def num (l : List UInt8) : Nat := l.foldl (fun a b => a * 10 + (b.toNat - 48)) 0
theorem decFrom_num : ∀ (l : List UInt8) (acc : Nat), (∀ b ∈ l, Dg b) → Lib.decFrom acc l = some (l.foldl (fun a b => a * 10 + (b.toNat - 48)) acc)
  | [], _, _ => rfl
  | b :: l, acc, h => by
    have hb : Dg b := h b (by simp)
    have e : Lib.digitVal b = some (b.toNat - 48) := if_pos hb
    unfold Lib.decFrom
    rw [e]
    exact decFrom_num l _ fun b hb => h b (by simp [hb])
theorem atoi_num {l : List UInt8} (h0 : l ≠ []) (h : ∀ b ∈ l, Dg b) : Lib.atoi l = some ((num l : Nat) : Int) := by
  cases l with
  | nil => exact absurd rfl h0
  | cons b l =>
    have hb : Dg b := h b (by simp)
    have n1 : (b == 45) = false := by
      rw [beq_eq_false_iff_ne]
      rintro rfl
      revert hb; decide
    have n2 : (b == 43) = false := by
      rw [beq_eq_false_iff_ne]
      rintro rfl
      revert hb; decide
    have := decFrom_num (b :: l) 0 h
    show (if b == 45 then _ else if b == 43 then _ else (Lib.decNat (b :: l)).map fun (m : Nat) => (m : Int)) = _
    rw [n1, n2]
    show (Lib.decFrom 0 (b :: l)).map (fun (m : Nat) => (m : Int)) = _
    rw [this]
    rfl
theorem num_snoc (l : List UInt8) (b : UInt8) : num (l ++ [b]) = num l * 10 + (b.toNat - 48) := by unfold num; rw [List.foldl_append]; rfl
theorem num_lt_ : ∀ (l : List UInt8) (acc : Nat), (∀ b ∈ l, Dg b) → l.foldl (fun a b => a * 10 + (b.toNat - 48)) acc < (acc + 1) * 10 ^ l.length
  | [], acc, _ => by simp
  | b :: l, acc, h => by
    have hb : Dg b := h b (by simp)
    have ih := num_lt_ l (acc * 10 + (b.toNat - 48)) fun x hx => h x (by simp [hx])
    have h1 : acc * 10 + (b.toNat - 48) + 1 ≤ (acc + 1) * 10 := by unfold Dg at hb; omega
    have h2 := Nat.mul_le_mul_right (10 ^ l.length) h1
    rw [List.foldl_cons, List.length_cons, Nat.pow_succ, Nat.mul_comm (10 ^ l.length) 10, ← Nat.mul_assoc]
    omega
theorem num_lt {l : List UInt8} (h : ∀ b ∈ l, Dg b) : num l < 10 ^ l.length := by
  have := num_lt_ l 0 h
  unfold num
  omega
def whole (l : List UInt8) : List UInt8 := l.takeWhile fun b => !(b == 46)
def part (l : List UInt8) : List UInt8 := (l.dropWhile fun b => !(b == 46)).drop 1
def point (l : List UInt8) : Bool := l.contains 46
def dig (l : List UInt8) (most : Nat) : Prop := l ≠ [] ∧ l.length ≤ most ∧ ∀ b ∈ l, Dg b
instance (l : List UInt8) (most : Nat) : Decidable (dig l most) := by unfold dig; exact inferInstance
def zeros : List UInt8 := [48, 48, 48, 48]
def rdOk (l : List UInt8) : Prop := dig (whole l) 9 ∧ ¬ (1 < (whole l).length ∧ (whole l).getD 0 0 = 48) ∧ (point l = true → dig (part l) 4 ∧ Lib.hasSuffix (part l) [48] = false)
instance (l : List UInt8) : Decidable (rdOk l) := by unfold rdOk; exact inferInstance
def rdN (l : List UInt8) : Int := (num (whole l ++ (part l ++ zeros).take 4) : Nat)
def rdE (l : List UInt8) : Int := if rdOk l then P.chk (rdN l) else 1
def rdV (l : List UInt8) : Int := if rdE l = 0 then rdN l else 0
def tail4 (p : Int) : List UInt8 := Lib.trimRightB ((Lib.itoa (10000 + p % 10000)).drop 1) 48
def shT (p : Int) : List UInt8 := Lib.itoa (p / 10000) ++ (if tail4 p = [] then [] else 46 :: tail4 p)
def shV (p : Int) : List UInt8 := if P.Ok p then shT p else []
theorem index_at : ∀ (l : List UInt8), (point l = false ∧ Lib.indexByte l 46 = -1 ∧ whole l = l ∧ part l = []) ∨ (point l = true ∧ Lib.indexByte l 46 = ((whole l).length : Nat) ∧ l = whole l ++ 46 :: part l)
  | [] => .inl ⟨rfl, rfl, rfl, rfl⟩
  | b :: l => by
    by_cases h : b = 46
    · subst h
      refine .inr ⟨by simp [point], by simp [Lib.indexByte, whole], by simp [whole, part]⟩
    · have h1 : (b == 46) = false := by simpa using h
      have hw : whole (b :: l) = b :: whole l := by simp [whole, List.takeWhile_cons, h1]
      have hp : part (b :: l) = part l := by simp [part, List.dropWhile_cons, h1]
      have ht : point (b :: l) = point l := by
        have : (46 == b) = false := by rw [beq_eq_false_iff_ne]; exact fun q => h q.symm
        show ((46 == b) || l.contains 46) = l.contains 46
        rw [this]; rfl
      have hi : Lib.indexByte (b :: l) 46 = if Lib.indexByte l 46 == -1 then -1 else Lib.indexByte l 46 + 1 := by
        show (if b == 46 then (0 : Int) else _) = _
        rw [h1]; rfl
      rw [hw, hp, ht, hi]
      rcases index_at l with ⟨e1, e2, e3, e4⟩ | ⟨e1, e2, e3⟩
      · rw [e1, e2, e3, e4]
        exact .inl ⟨rfl, rfl, rfl, rfl⟩
      · refine .inr ⟨e1, ?_, by rw [List.cons_append, ← e3]⟩
        rw [e2]
        have : ((((whole l).length : Nat) : Int) == -1) = false := by rw [beq_eq_false_iff_ne]; omega
        rw [this]
        simp
end Pr
end Go.Proofs.YtlbffibpcjjpkaaDoor

namespace Go.Proofs.YtlbffibpcjjpkaaDoor
open Go Go.RowKit V
namespace V
theorem Svs.valsS {ρ : Rho} : ∀ {vs xs : List Value}, Svs ρ (vs.map fun v => SV.one (.val v)) xs → xs = vs
  | [], _, h => h
  | v :: l, _, ⟨x, r, e, hv, hr⟩ => by
    have : x = v := hv
    subst this
    rw [e, Svs.valsS hr]
theorem Fn.kit {P : Program} {f : FuncId} {os : List Ob} {x : Value} (vs : List Value) (hb : hasBody P f = true) (h : ∀ w, (∀ (i : Nat) o, os[i]? = some o → ∃ ρ v, Ro ρ w v o) → Calls P f vs.toArray w fun e w' => e = .returned x ∧ Below w.heap.size w w') : Fn P f os (vs.map fun v => SV.one (.val v)) x :=
  ⟨hb, fun w ρ xs ho hs => by
    rw [Svs.valsS hs]
    exact (h w fun i o e => by obtain ⟨v, _, q⟩ := ho i o e; exact ⟨ρ, v, q⟩).mono fun _ _ h => ⟨h.1, .low h.2⟩⟩
end V
def ptL : List Value := Lib.pow10Tab.map (Value.int .u64)
def pt : V.Ob := .tab 3 ptL
theorem gPow : Tryd.prog.globalNamed "internal/strconv.uint64pow10" = some 3 := by kernel_rfl
theorem pow_ro {w : World} (h : ∀ (i : Nat) o, [pt][i]? = some o → ∃ ρ v, V.Ro ρ w v o) : Lib.TabIs Tryd.prog w "internal/strconv.uint64pow10" .u64 Lib.pow10Tab := by
  obtain ⟨ρ, v, _, _, hc, cs, t, fr, hh, hl⟩ := h 0 _ rfl
  unfold Lib.TabIs World.var?
  rw [gPow]
  show (match w.heap[3]? with | some (.cells cs _ _) => some cs | _ => none) = _
  rw [hh]
  show some cs = some (ptL).toArray
  congr 1
  apply Array.ext
  · rw [hl]; simp
  · intro i h1 h2
    have e := hc i (ptL[i]'(by simpa using h2)) (List.getElem?_eq_getElem _)
    have e2 : w.cell? ⟨3, i, none⟩ = some cs[i] := by
      simp only [World.cell?, hh]
      rw [Array.getElem?_eq_getElem h1]
      rfl
    rw [e2] at e
    exact Option.some.inj e
def sv (l : List UInt8) : Value := .string ⟨l.toArray⟩
theorem v_index1 (s : ByteArray) (c : UInt8) : V.Fn Tryd.prog 44 [] [.one (.val (.string s)), .one (.val (.string ⟨#[c]⟩))] (.int .i64 (Lib.indexByte s.data.toList c)) :=
  V.Fn.kit [.string s, .string ⟨#[c]⟩] (by kernel_rfl) fun w h => (Tryd.stringslite_Index_one s c w).mono fun e w' ⟨h1, h2⟩ => ⟨h1, by rw [h2]; exact Below.refl _ _⟩
theorem v_hasSuffix (s p : ByteArray) (hs : s.size ≤ 9223372036854775807) : V.Fn Tryd.prog 22 [] [.one (.val (.string s)), .one (.val (.string p))] (.bool (Lib.hasSuffix s.data.toList p.data.toList)) :=
  V.Fn.kit [.string s, .string p] (by kernel_rfl) fun w h => (Tryd.strings_HasSuffix s p w hs).mono fun e w' ⟨h1, h2⟩ => ⟨h1, by rw [h2]; exact Below.refl _ _⟩
theorem v_trimRight (s : ByteArray) (c : UInt8) (hc : c.toNat < 128) (hs : s.size ≤ 9223372036854775807) : V.Fn Tryd.prog 24 [] [.one (.val (.string s)), .one (.val (.string ⟨#[c]⟩))] (sv (Lib.trimRightB s.data.toList c)) :=
  V.Fn.kit [.string s, .string ⟨#[c]⟩] (by kernel_rfl) fun w h => (Tryd.strings_TrimRight_one s c hc w hs).mono fun e w' ⟨h1, h2⟩ => ⟨h1, by rw [h2]; exact Below.refl _ _⟩
theorem v_trim (s cs : ByteArray) (hs : s.size ≤ 9223372036854775807) (hcs : cs.size < 4294967281) (ha : cs.data.toList.all (fun b => decide (b.toNat < 128)) = true) : V.Fn Tryd.prog 32 [] [.one (.val (.string s)), .one (.val (.string cs))] (sv (Lib.trimS s.data.toList cs.data.toList)) :=
  V.Fn.kit [.string s, .string cs] (by kernel_rfl) fun w h => Any.strings_Trim_laid Tryd.lays160 (by kernel_rfl) s cs w hs hcs (ascii_of_all ha)
theorem v_atoi (s : ByteArray) (n : Int) (hl : s.size ≤ 18) (h : Lib.atoi s.data.toList = some n) : V.Fn Tryd.prog 23 [] [.one (.val (.string s))] (.tuple #[.int .i64 n, .nilIface]) :=
  V.Fn.kit [.string s] (by kernel_rfl) fun w _ => (Tryd.strconv_Atoi s n hl h w).mono fun e w' ⟨h1, t, h2⟩ => ⟨h1, by rw [h2]; exact Lib.bytesWorld_below _ _ _⟩
theorem v_itoa (n : Int) (h0 : -9223372036854775808 ≤ n) (h1 : n ≤ 9223372036854775807) : V.Fn Tryd.prog 25 [pt] [.one (.val (.int .i64 n))] (sv (Lib.itoa n)) :=
  V.Fn.kit [.int .i64 n] (by kernel_rfl) fun w h => (Tryd.strconv_Itoa n h0 h1 w (pow_ro h)).mono fun e w' ⟨h1, k, os, h2⟩ => ⟨h1, by rw [h2]; exact Lib.below_grow _ w (Nat.le_refl _) k os⟩
end Go.Proofs.YtlbffibpcjjpkaaDoor

namespace Go.Proofs.YtlbffibpcjjpkaaDoor.V
open Go Go.RowKit
variable [Dr]
end Go.Proofs.YtlbffibpcjjpkaaDoor.V

namespace Go.Proofs.YtlbffibpcjjpkaaDoor.V
open Go Go.RowKit
theorem NShr.nat {k : IntKind} {x y : Int} {K : Int → Prop} (a n : Nat) (hx : x = a) (hy : y = n) (hn : n ≤ k.bits) (hK : K ((a / 2 ^ n : Nat) : Int)) : NShr k x y K := by
  subst hx hy
  have p : (0 : Int) ≤ 2 ^ n := Int.le_of_lt (Int.pow_pos (by omega))
  refine ⟨by omega, ?_⟩
  rw [Int.toNat_natCast, Nat.min_eq_left hn, Int.fdiv_eq_ediv_of_nonneg _ p]
  have e : ((a : Int) / 2 ^ n) = ((a / 2 ^ n : Nat) : Int) := by rw [Int.natCast_ediv]; congr 1
  rw [e]; exact hK
theorem NShl.nat {x y : Int} {K : Int → Prop} (a n : Nat) (hx : x = a) (hy : y = n) (hn : n ≤ 64) (h : a * 2 ^ n < 2 ^ 63) (hK : K ((a * 2 ^ n : Nat) : Int)) : NShl .i64 x y K := by
  subst hx hy
  refine ⟨by omega, ?_⟩
  rw [Int.toNat_natCast, show IntKind.i64.bits = 64 from rfl, Nat.min_eq_left hn]
  have e : ((a : Int) * 2 ^ n) = ((a * 2 ^ n : Nat) : Int) := by rw [Int.natCast_mul]; congr 1
  rw [e, IntWalk.i64_in _ ⟨by omega, by omega⟩]; exact hK
theorem Fn.v0 {P : Program} {f : FuncId} {args : List SV} {x : Value} (h : Fn P f [] args x) (hp : plain0 args = true) {obs : Obs} {nx : Nat} {K : SV → Obs → Nat → Prop} (hK : K (.one (.val x)) obs nx) : NCall P f args obs nx K :=
  NCallQ.to ⟨h.b, .one (.val x), hK, fun B ρ w xs hC hs => (h.c w (fun i => ρ (sg [] i)) xs (fun i o hi => by simp at hi) ((SameS.self hp).is_ hs)).mono fun e w' ⟨he, hw⟩ => ⟨x, he, rfl, hw⟩⟩
theorem NQuo.nat {x y : Int} {K : Int → Prop} (a b : Nat) (hx : x = a) (hy : y = b) (hb : 0 < b) (h : a < 2 ^ 63) (hK : K ((a / b : Nat) : Int)) : NQuo .i64 x y K := by
  subst hx hy
  have e : (a : Int).tdiv (b : Int) = ((a / b : Nat) : Int) := by rw [Int.tdiv_eq_ediv_of_nonneg (by omega), Int.natCast_ediv]
  have l : a / b ≤ a := Nat.div_le_self _ _
  generalize a / b = q at *
  exact NQuo.ok (by omega) (by rw [e]; omega) (by rw [e]; omega) (by rw [e]; exact hK)
theorem NRem.nat {x y : Int} {K : Int → Prop} (a b : Nat) (hx : x = a) (hy : y = b) (hb : 0 < b) (hK : K ((a % b : Nat) : Int)) : NRem x y K := by
  subst hx hy
  exact ⟨by omega, by rw [Int.tmod_eq_emod_of_nonneg (by omega), ← Int.natCast_emod]; exact hK⟩
end Go.Proofs.YtlbffibpcjjpkaaDoor.V

namespace Go.Proofs.YtlbffibpcjjpkaaDoor
open Go Go.RowKit V
theorem ba_size (l : List UInt8) : (⟨l.toArray⟩ : ByteArray).size = l.length := by simp [ByteArray.size]
theorem ba_ext (l : List UInt8) (a b : Nat) : (⟨l.toArray⟩ : ByteArray).extract a b = ⟨((l.drop a).take (b - a)).toArray⟩ := Lib.extract_mk l a b
theorem ba_app (l m : List UInt8) : (⟨l.toArray⟩ : ByteArray) ++ ⟨m.toArray⟩ = ⟨(l ++ m).toArray⟩ := by
  apply ByteArray.ext
  simp
theorem v_lcut (l : List UInt8) (hl : l.length ≤ 9223372036854775806) : V.Fn Tryd.prog 31 [] [.one (.val (sv l)), .one (.val (sv [46]))] (.tuple #[sv (Pr.whole l), sv (Pr.part l), .bool (Pr.point l)]) := by
  have c := v_index1 ⟨l.toArray⟩ 46
  have s1 : (⟨[46].toArray⟩ : ByteArray).size = 1 := rfl
  have s2 := ba_size l
  rcases Pr.index_at l with ⟨e1, e2, e3, e4⟩ | ⟨e1, e2, e3⟩
  · rw [e1, e3, e4]
    rw [show Lib.indexByte (⟨l.toArray⟩ : ByteArray).data.toList 46 = -1 by simpa using e2] at c
    clear e1 e2 e3 e4
    refine V.Fn.mk_ V.Tok V.mixed Tryd.func31 rfl Tryd.ntmps31 (by kernel_rfl) rfl rfl ?_
    repeat' ((conv => whnf); first | (refine V.NIf.yes ?_ ?_; · (omega; done)) | (refine V.NIf.no ?_ ?_; · (omega; done)) | refine V.NCond.mk ?_ | refine V.NPick.l ?_ | refine V.NIf.not_ ?_ | refine V.NIf.dec_ ?_ | refine V.a4 ?_ | refine V.a5 ?_ | refine V.NIf.mk (fun _ => ?_) (fun _ => ?_) | refine V.a7 ?_ | refine V.a8 ?_ | refine V.a9 ?_ | refine V.NBoth.mk ?_ ?_ | refine V.b1 ?_ | refine V.b2 ?_ | refine V.NTF.dec ?_ | refine V.b3 ?_ | refine V.b4 ?_ | (first | refine V.Fn.k0 (c) rfl ?_ | refine V.Fn.q0 (c) rfl ?_ | refine V.Fn.a0 (c) rfl ?_) | (refine V.NDraw.any (by kernel_rfl) ?_) | fail)
    all_goals (conv => whnf)
    all_goals exact ⟨rfl, rfl, rfl, trivial⟩
  · rw [e1]
    rw [show Lib.indexByte (⟨l.toArray⟩ : ByteArray).data.toList 46 = ((Pr.whole l).length : Nat) by simpa using e2] at c
    have ll : l.length = (Pr.whole l).length + 1 + (Pr.part l).length := by rw [congrArg List.length e3, List.length_append, List.length_cons]; omega
    have x1 : (⟨l.toArray⟩ : ByteArray).extract 0 (Pr.whole l).length = ⟨(Pr.whole l).toArray⟩ := by
      rw [ba_ext]; congr 2; rw [List.drop_zero, Nat.sub_zero]
      exact (congrArg (List.take _) e3).trans (List.take_left' rfl)
    have x2 : (⟨l.toArray⟩ : ByteArray).extract ((Pr.whole l).length + 1) (⟨l.toArray⟩ : ByteArray).size = ⟨(Pr.part l).toArray⟩ := by
      rw [ba_ext, s2]; congr 2; rw [List.take_of_length_le (by rw [List.length_drop]; exact Nat.le_refl _)]
      refine (congrArg (List.drop _) (e3.trans (show _ = (Pr.whole l ++ [46]) ++ Pr.part l by simp))).trans (List.drop_left' (by simp))
    clear e1 e2 e3
    generalize Pr.whole l = W at *
    generalize Pr.part l = Q at *
    refine V.Fn.mk_ V.Tok V.mixed Tryd.func31 rfl Tryd.ntmps31 (by kernel_rfl) rfl rfl ?_
    repeat' ((conv => whnf); first | (refine V.NIf.yes ?_ ?_; · (omega; done)) | (refine V.NIf.no ?_ ?_; · (omega; done)) | refine V.NCond.mk ?_ | refine V.NPick.l ?_ | refine V.NIf.not_ ?_ | refine V.NIf.dec_ ?_ | refine V.a4 ?_ | refine V.a5 ?_ | refine V.NIf.mk (fun _ => ?_) (fun _ => ?_) | refine V.a7 ?_ | refine V.a8 ?_ | refine V.a9 ?_ | refine V.NBoth.mk ?_ ?_ | refine V.b1 ?_ | refine V.b2 ?_ | refine V.NTF.dec ?_ | refine V.b3 ?_ | refine V.b4 ?_ | (first | refine V.Fn.k0 (c) rfl ?_ | refine V.Fn.q0 (c) rfl ?_ | refine V.Fn.a0 (c) rfl ?_) | (refine NCut.mk ⟨0, W.length, rfl, rfl, by omega, by omega, ?_⟩) | (refine NCut.mk ⟨W.length + 1, _, (by show ((W.length : Int) + 1) = _; omega), rfl, by omega, by omega, ?_⟩) | (refine V.NDraw.any (by kernel_rfl) ?_) | fail)
    all_goals (conv => whnf)
    all_goals exact ⟨congrArg Value.string x1, congrArg Value.string x2, rfl, trivial⟩
theorem v_cut (l : List UInt8) (hl : l.length ≤ 9223372036854775806) : V.Fn Tryd.prog 20 [] [.one (.val (sv l)), .one (.val (sv [46]))] (.tuple #[sv (Pr.whole l), sv (Pr.part l), .bool (Pr.point l)]) := by
  have c := v_lcut l hl
  refine V.Fn.mk_ V.Tok V.mixed Tryd.func20 rfl Tryd.ntmps20 (by kernel_rfl) rfl rfl ?_
  repeat' ((conv => whnf); first | refine V.NCond.mk ?_ | refine V.NPick.l ?_ | refine V.NIf.not_ ?_ | refine V.NIf.dec_ ?_ | refine V.a4 ?_ | refine V.a5 ?_ | refine V.NIf.mk (fun _ => ?_) (fun _ => ?_) | refine V.a7 ?_ | refine V.a8 ?_ | refine V.a9 ?_ | refine V.NBoth.mk ?_ ?_ | refine V.b1 ?_ | refine V.b2 ?_ | refine V.NTF.dec ?_ | refine V.b3 ?_ | refine V.b4 ?_ | (first | refine V.Fn.k0 (c) rfl ?_ | refine V.Fn.q0 (c) rfl ?_ | refine V.Fn.a0 (c) rfl ?_) | (refine V.NDraw.any (by kernel_rfl) ?_) | fail)
  all_goals (conv => whnf)
  all_goals exact ⟨rfl, rfl, rfl, trivial⟩
theorem tl (l : List UInt8) : (⟨l.toArray⟩ : ByteArray).toList = l := by rw [ByteArray.toList_eq]
theorem tl0 : (⟨#[]⟩ : ByteArray).toList = [] := by rw [ByteArray.toList_eq]
theorem sv_nil {l : List UInt8} : (⟨l.toArray⟩ : ByteArray).toList = (⟨#[]⟩ : ByteArray).toList ↔ l = [] := by rw [tl, tl0]
theorem v_digits (l : List UInt8) (most : Int) (hm : 0 ≤ most ∧ most ≤ 100) : V.Fn Tryd.prog 21 [] [.one (.val (sv l)), .one (.val (.int .i64 most))] (.bool (decide (Pr.dig l most.toNat))) := by
  have s2 := ba_size l
  have n := sv_nil (l := l)
  by_cases h0 : l = []
  · rw [decide_eq_false (fun q => q.1 h0)]
    subst h0
    refine V.Fn.mk_ V.Tok V.mixed Tryd.func21 rfl Tryd.ntmps21 (by kernel_rfl) rfl rfl ?_
    repeat' ((conv => whnf); first | (refine V.NIf.no ?_ ?_; · (exact fun h => h rfl; done)) | (refine V.NIf.yes ?_ ?_; · (exact rfl; done)) | (refine V.NIf.yes ?_ ?_; · (omega; done)) | (refine V.NIf.no ?_ ?_; · (omega; done)) | refine V.NCond.mk ?_ | refine V.NPick.l ?_ | refine V.NIf.not_ ?_ | refine V.NIf.dec_ ?_ | refine V.a4 ?_ | refine V.a5 ?_ | refine V.NIf.mk (fun _ => ?_) (fun _ => ?_) | refine V.a7 ?_ | refine V.a8 ?_ | refine V.a9 ?_ | refine V.NBoth.mk ?_ ?_ | refine V.b1 ?_ | refine V.b2 ?_ | refine V.NTF.dec ?_ | refine V.b3 ?_ | refine V.b4 ?_ | (refine V.NDraw.any (by kernel_rfl) ?_) | fail)
    all_goals (conv => whnf)
  have n1 : ¬ (⟨l.toArray⟩ : ByteArray).toList = (⟨#[]⟩ : ByteArray).toList := fun q => h0 (n.1 q)
  by_cases h1 : (l.length : Int) ≤ most
  · have c := v_trim ⟨l.toArray⟩ ⟨#[48, 49, 50, 51, 52, 53, 54, 55, 56, 57]⟩ (by omega) (by decide) (by decide)
    have e : Lib.trimS (⟨l.toArray⟩ : ByteArray).data.toList (⟨#[48, 49, 50, 51, 52, 53, 54, 55, 56, 57]⟩ : ByteArray).data.toList = Lib.trimS l Pr.ten := by simp [Pr.ten]
    rw [e] at c
    have t := Pr.trim_nil (l := l)
    have t2 := sv_nil (l := Lib.trimS l Pr.ten)
    have hd : Pr.dig l most.toNat ↔ Lib.trimS l Pr.ten = [] := by
      rw [t]
      exact ⟨fun q => q.2.2, fun q => ⟨h0, by omega, q⟩⟩
    generalize Lib.trimS l Pr.ten = m at *
    clear e t
    refine V.Fn.mk_ V.Tok V.mixed Tryd.func21 rfl Tryd.ntmps21 (by kernel_rfl) rfl rfl ?_
    repeat' ((conv => whnf); first | (refine V.NIf.yes ?_ ?_; · (exact n1; done)) | (refine V.NIf.no ?_ ?_; · (exact fun h => h n1; done)) | (refine V.NIf.yes ?_ ?_; · (omega; done)) | (refine V.NIf.no ?_ ?_; · (omega; done)) | refine V.NCond.mk ?_ | refine V.NPick.l ?_ | refine V.NIf.not_ ?_ | refine V.NIf.dec_ ?_ | refine V.a4 ?_ | refine V.a5 ?_ | refine V.NIf.mk (fun _ => ?_) (fun _ => ?_) | refine V.a7 ?_ | refine V.a8 ?_ | refine V.a9 ?_ | refine V.NBoth.mk ?_ ?_ | refine V.b1 ?_ | refine V.b2 ?_ | refine V.NTF.dec ?_ | refine V.b3 ?_ | refine V.b4 ?_ | (first | refine V.Fn.k0 (c) rfl ?_ | refine V.Fn.q0 (c) rfl ?_ | refine V.Fn.a0 (c) rfl ?_) | (refine V.NDraw.any (by kernel_rfl) ?_) | fail)
    all_goals (conv => whnf)
    all_goals exact ⟨_, rfl, t2.trans (hd.symm.trans (decide_eq_true_iff).symm)⟩
  · rw [decide_eq_false (fun q => h1 (by have := q.2.1; omega))]
    refine V.Fn.mk_ V.Tok V.mixed Tryd.func21 rfl Tryd.ntmps21 (by kernel_rfl) rfl rfl ?_
    repeat' ((conv => whnf); first | (refine V.NIf.yes ?_ ?_; · (exact n1; done)) | (refine V.NIf.no ?_ ?_; · (exact fun h => h n1; done)) | (refine V.NIf.yes ?_ ?_; · (omega; done)) | (refine V.NIf.no ?_ ?_; · (omega; done)) | refine V.NCond.mk ?_ | refine V.NPick.l ?_ | refine V.NIf.not_ ?_ | refine V.NIf.dec_ ?_ | refine V.a4 ?_ | refine V.a5 ?_ | refine V.NIf.mk (fun _ => ?_) (fun _ => ?_) | refine V.a7 ?_ | refine V.a8 ?_ | refine V.a9 ?_ | refine V.NBoth.mk ?_ ?_ | refine V.b1 ?_ | refine V.b2 ?_ | refine V.NTF.dec ?_ | refine V.b3 ?_ | refine V.b4 ?_ | (refine V.NDraw.any (by kernel_rfl) ?_) | fail)
    all_goals (conv => whnf)
theorem dig_one {l : List UInt8} {m : Nat} (h : Pr.dig l m) : 0 < l.length := List.length_pos_iff.2 h.1
theorem lead (W : List UInt8) : W.getD 0 0 = 48 ↔ ((W.toArray.getD 0 0).toNat : Int) = 48 := by
  have e : W.toArray.getD 0 0 = W.getD 0 0 := by cases W <;> simp [Array.getD, List.getD]
  rw [e]
  constructor
  · intro h; rw [h]; rfl
  · intro h
    apply UInt8.toNat_inj.1
    have h2 : (48 : UInt8).toNat = 48 := rfl
    omega
theorem Pr.rd_all {l : List UInt8} (h : Pr.rdOk l) : (Pr.whole l ++ (Pr.part l ++ Pr.zeros).take 4) ≠ [] ∧ (Pr.whole l ++ (Pr.part l ++ Pr.zeros).take 4).length ≤ 13 ∧ ∀ b ∈ Pr.whole l ++ (Pr.part l ++ Pr.zeros).take 4, Pr.Dg b := by
  obtain ⟨⟨h1, h2, h3⟩, h4, h5⟩ := h
  refine ⟨fun q => h1 (List.append_eq_nil_iff.1 q).1, ?_, fun b hb => ?_⟩
  · rw [List.length_append, List.length_take]; omega
  · rcases List.mem_append.1 hb with hb | hb
    · exact h3 b hb
    · rcases List.mem_append.1 (List.mem_of_mem_take hb) with hb | hb
      · rcases Pr.index_at l with ⟨e1, e2, e3, e4⟩ | ⟨e1, e2, e3⟩
        · rw [e4] at hb; cases hb
        · exact (h5 e1).1.2.2 b hb
      · have : b = 48 := by simpa [Pr.zeros] using hb
        subst this
        decide
theorem Pr.rd_bd {l : List UInt8} (h : Pr.rdOk l) : 0 ≤ Pr.rdN l ∧ Pr.rdN l < 10000000000000 := by
  obtain ⟨h1, h2, h3⟩ := Pr.rd_all h
  have h4 := Pr.num_lt h3
  have h5 : (10 : Nat) ^ (Pr.whole l ++ (Pr.part l ++ Pr.zeros).take 4).length ≤ 10 ^ 13 := Nat.pow_le_pow_right (by omega) h2
  unfold Pr.rdN
  omega
set_option maxHeartbeats 4000000 in
theorem v_pread (l : List UInt8) (hl : l.length ≤ 9223372036854775806) : V.Fn Tryd.prog 8 [] [.one (.val (sv l))] (.tuple #[.int .i64 (Pr.rdV l), .int .i64 (Pr.rdE l)]) := by
  have c1 := v_cut l hl
  have c2 := v_digits (Pr.whole l) 9 (by omega)
  have c3 := v_digits (Pr.part l) 4 (by omega)
  have sW := ba_size (Pr.whole l)
  have sQ := ba_size (Pr.part l)
  by_cases hA : Pr.dig (Pr.whole l) 9
  · rw [show decide (Pr.dig (Pr.whole l) (9 : Int).toNat) = true from decide_eq_true hA] at c2
    have pos := dig_one hA
    have ld := lead (Pr.whole l)
    by_cases hB : 1 < (Pr.whole l).length ∧ (Pr.whole l).getD 0 0 = 48
    · have e : Pr.rdE l = 1 := if_neg fun q => q.2.1 hB
      rw [e, show Pr.rdV l = 0 from if_neg (by omega)]
      rw [ld] at hB
      clear c3 e ld hA
      obtain ⟨hB, hB2⟩ := hB
      refine V.Fn.mk_ V.Tok V.mixed Tryd.func8 rfl Tryd.ntmps8 (by kernel_rfl) rfl rfl ?_
      repeat' ((conv => whnf); first | (refine V.NIf.yes ?_ ?_; · (exact hB2; done)) | (refine V.NIf.yes ?_ ?_; · (decide; done)) | (refine V.NIf.no ?_ ?_; · (decide; done)) | (refine V.NIf.yes ?_ ?_; · (exact rfl; done)) | (refine V.NIf.no ?_ ?_; · (exact fun h => h rfl; done)) | (refine V.NIf.yes ?_ ?_; · (omega; done)) | (refine V.NIf.no ?_ ?_; · (omega; done)) | refine V.NCond.mk ?_ | refine V.NPick.l ?_ | refine V.NIf.not_ ?_ | refine V.NIf.dec_ ?_ | refine V.a4 ?_ | refine V.a5 ?_ | refine V.NIf.mk (fun _ => ?_) (fun _ => ?_) | refine V.a7 ?_ | refine V.a8 ?_ | refine V.a9 ?_ | refine V.NBoth.mk ?_ ?_ | refine V.b1 ?_ | refine V.b2 ?_ | refine V.NTF.dec ?_ | refine V.b3 ?_ | refine V.b4 ?_ | (first | refine V.Fn.k0 (c1) rfl ?_ | refine V.Fn.q0 (c1) rfl ?_ | refine V.Fn.a0 (c1) rfl ?_) | (first | refine V.Fn.k0 (c2) rfl ?_ | refine V.Fn.q0 (c2) rfl ?_ | refine V.Fn.a0 (c2) rfl ?_) | (refine NIdx.mk ⟨0, rfl, by omega, ?_⟩) | (refine V.NDraw.any (by kernel_rfl) ?_) | fail)
      all_goals (conv => whnf)
      all_goals exact ⟨rfl, rfl, trivial⟩
    have hB2 : ¬ (1 < (Pr.whole l).length ∧ ((Pr.whole l).toArray.getD 0 0).toNat = (48 : Int)) := by rw [← ld]; exact hB
    have ss : Pr.whole l = [] ∨ (Pr.whole l).length = 1 ∨ 1 < (Pr.whole l).length := by
      rcases Nat.lt_or_ge 1 (Pr.whole l).length with q | q
      · exact .inr (.inr q)
      · exact .inr (.inl (by omega))
    have hB3 : (Pr.whole l).length = 1 ∨ (1 < (Pr.whole l).length ∧ ¬ ((Pr.whole l).toArray.getD 0 0).toNat = (48 : Int)) := by
      rcases Nat.lt_or_ge 1 (Pr.whole l).length with q | q
      · exact .inr ⟨q, fun x => hB2 ⟨q, x⟩⟩
      · exact .inl (by omega)
    clear hB2 ss ld
    by_cases hC : Pr.point l = true → Pr.dig (Pr.part l) 4 ∧ Lib.hasSuffix (Pr.part l) [48] = false
    · have ok : Pr.rdOk l := ⟨hA, hB, hC⟩
      obtain ⟨a1, a2, a3⟩ := Pr.rd_all ok
      have bd := Pr.rd_bd ok
      have x2 : (⟨(Pr.whole l).toArray⟩ : ByteArray) ++ ((⟨(Pr.part l).toArray⟩ : ByteArray) ++ ⟨#[48, 48, 48, 48]⟩).extract 0 4 = ⟨(Pr.whole l ++ (Pr.part l ++ Pr.zeros).take 4).toArray⟩ := by
        rw [show (⟨#[48, 48, 48, 48]⟩ : ByteArray) = ⟨Pr.zeros.toArray⟩ from rfl, ba_app, ba_ext, ba_app]; rfl
      have c4 := v_atoi ((⟨(Pr.whole l).toArray⟩ : ByteArray) ++ ((⟨(Pr.part l).toArray⟩ : ByteArray) ++ ⟨#[48, 48, 48, 48]⟩).extract 0 4) (Pr.rdN l) (by rw [x2, ba_size]; omega) (by rw [x2]; exact Pr.atoi_num a1 a3)
      have c5 := v_pcheck (Pr.rdN l)
      have e : Pr.rdE l = P.chk (Pr.rdN l) := if_pos ok
      have qb : (Pr.part l).length ≤ 4 := by
        rcases Pr.index_at l with ⟨e1, e2, e3, e4⟩ | ⟨e1, e2, e3⟩
        · rw [e4]; exact Nat.zero_le _
        · exact (hC e1).1.2.1
      have s4 : (⟨#[48, 48, 48, 48]⟩ : ByteArray).size = 4 := rfl
      have s5 : ((⟨(Pr.part l).toArray⟩ : ByteArray) ++ ⟨#[48, 48, 48, 48]⟩).size = (Pr.part l).length + 4 := by rw [ByteArray.size_append, sQ, s4]
      have s6 : (((⟨(Pr.part l).toArray⟩ : ByteArray) ++ ⟨#[48, 48, 48, 48]⟩).extract 0 4).size = 4 := by rw [ByteArray.size_extract, s5]; omega
      have fin : (P.chk (Pr.rdN l) = 0 ∧ Pr.rdV l = Pr.rdN l ∧ Pr.rdE l = 0) ∨ (¬ P.chk (Pr.rdN l) = 0 ∧ Pr.rdV l = 0 ∧ Pr.rdE l = P.chk (Pr.rdN l)) := by
        unfold Pr.rdV
        rw [e]
        by_cases q : P.chk (Pr.rdN l) = 0
        · exact .inl ⟨q, if_pos q, q⟩
        · exact .inr ⟨q, if_neg q, rfl⟩
      have w9 : (Pr.whole l).length ≤ 9 := hA.2.1
      generalize Pr.rdV l = rv at *
      generalize Pr.rdE l = re at *
      generalize Pr.rdN l = N at *
      generalize P.chk N = pc at *
      clear e ok hB a1 a2 a3 x2
      by_cases hp : Pr.point l = true
      · obtain ⟨d1, d2⟩ := hC hp
        rw [show decide (Pr.dig (Pr.part l) (4 : Int).toNat) = true from decide_eq_true d1] at c3
        have c6 := v_hasSuffix ⟨(Pr.part l).toArray⟩ ⟨#[48]⟩ (by omega)
        rw [show Lib.hasSuffix (⟨(Pr.part l).toArray⟩ : ByteArray).data.toList (⟨#[48]⟩ : ByteArray).data.toList = false by simpa using d2] at c6
        rw [hp] at c1
        clear d1 d2 hp hC hA
        generalize Pr.whole l = W at *
        generalize Pr.part l = Q at *
        rcases fin with ⟨f1, rfl, rfl⟩ | ⟨f1, rfl, rfl⟩ <;> rcases hB3 with hB3 | ⟨hB3, hB4⟩
        all_goals
        · refine V.Fn.mk_ V.Tok V.mixed Tryd.func8 rfl Tryd.ntmps8 (by kernel_rfl) rfl rfl ?_
          repeat' ((conv => whnf); first | (refine V.NIf.yes ?_ ?_; · (exact hB4; done)) | (refine V.NIf.no ?_ ?_; · (exact hB4; done)) | (refine V.NIf.yes ?_ ?_; · (decide; done)) | (refine V.NIf.no ?_ ?_; · (decide; done)) | (refine V.NIf.yes ?_ ?_; · (exact rfl; done)) | (refine V.NIf.no ?_ ?_; · (exact fun h => h rfl; done)) | (refine V.NIf.yes ?_ ?_; · (omega; done)) | (refine V.NIf.no ?_ ?_; · (omega; done)) | refine V.NCond.mk ?_ | refine V.NPick.l ?_ | refine V.NIf.not_ ?_ | refine V.NIf.dec_ ?_ | refine V.a4 ?_ | refine V.a5 ?_ | refine V.NIf.mk (fun _ => ?_) (fun _ => ?_) | refine V.a7 ?_ | refine V.a8 ?_ | refine V.a9 ?_ | refine V.NBoth.mk ?_ ?_ | refine V.b1 ?_ | refine V.b2 ?_ | refine V.NTF.dec ?_ | refine V.b3 ?_ | refine V.b4 ?_ | (first | refine V.Fn.k0 (c1) rfl ?_ | refine V.Fn.q0 (c1) rfl ?_ | refine V.Fn.a0 (c1) rfl ?_) | (first | refine V.Fn.k0 (c2) rfl ?_ | refine V.Fn.q0 (c2) rfl ?_ | refine V.Fn.a0 (c2) rfl ?_) | (first | refine V.Fn.k0 (c3) rfl ?_ | refine V.Fn.q0 (c3) rfl ?_ | refine V.Fn.a0 (c3) rfl ?_) | (first | refine V.Fn.k0 (c6) rfl ?_ | refine V.Fn.q0 (c6) rfl ?_ | refine V.Fn.a0 (c6) rfl ?_) | (first | refine V.Fn.k0 (c4) rfl ?_ | refine V.Fn.q0 (c4) rfl ?_ | refine V.Fn.a0 (c4) rfl ?_) | (first | refine V.Fn.k0 (c5) rfl ?_ | refine V.Fn.q0 (c5) rfl ?_ | refine V.Fn.a0 (c5) rfl ?_) | (refine NIdx.mk ⟨0, rfl, by omega, ?_⟩) | (refine NLe.mk (by omega) ?_) | (refine NCut.mk ⟨0, 4, rfl, rfl, by omega, by omega, ?_⟩) | (refine V.NDraw.any (by kernel_rfl) ?_) | fail)
          all_goals (conv => whnf)
          all_goals exact ⟨rfl, rfl, trivial⟩
      · have hp : Pr.point l = false := by simpa using hp
        rw [hp] at c1
        clear c3 hp hC hA
        generalize Pr.whole l = W at *
        generalize Pr.part l = Q at *
        rcases fin with ⟨f1, rfl, rfl⟩ | ⟨f1, rfl, rfl⟩ <;> rcases hB3 with hB3 | ⟨hB3, hB4⟩
        all_goals
        · refine V.Fn.mk_ V.Tok V.mixed Tryd.func8 rfl Tryd.ntmps8 (by kernel_rfl) rfl rfl ?_
          repeat' ((conv => whnf); first | (refine V.NIf.yes ?_ ?_; · (exact hB4; done)) | (refine V.NIf.no ?_ ?_; · (exact hB4; done)) | (refine V.NIf.yes ?_ ?_; · (decide; done)) | (refine V.NIf.no ?_ ?_; · (decide; done)) | (refine V.NIf.yes ?_ ?_; · (exact rfl; done)) | (refine V.NIf.no ?_ ?_; · (exact fun h => h rfl; done)) | (refine V.NIf.yes ?_ ?_; · (omega; done)) | (refine V.NIf.no ?_ ?_; · (omega; done)) | refine V.NCond.mk ?_ | refine V.NPick.l ?_ | refine V.NIf.not_ ?_ | refine V.NIf.dec_ ?_ | refine V.a4 ?_ | refine V.a5 ?_ | refine V.NIf.mk (fun _ => ?_) (fun _ => ?_) | refine V.a7 ?_ | refine V.a8 ?_ | refine V.a9 ?_ | refine V.NBoth.mk ?_ ?_ | refine V.b1 ?_ | refine V.b2 ?_ | refine V.NTF.dec ?_ | refine V.b3 ?_ | refine V.b4 ?_ | (first | refine V.Fn.k0 (c1) rfl ?_ | refine V.Fn.q0 (c1) rfl ?_ | refine V.Fn.a0 (c1) rfl ?_) | (first | refine V.Fn.k0 (c2) rfl ?_ | refine V.Fn.q0 (c2) rfl ?_ | refine V.Fn.a0 (c2) rfl ?_) | (first | refine V.Fn.k0 (c3) rfl ?_ | refine V.Fn.q0 (c3) rfl ?_ | refine V.Fn.a0 (c3) rfl ?_) | (first | refine V.Fn.k0 (c6) rfl ?_ | refine V.Fn.q0 (c6) rfl ?_ | refine V.Fn.a0 (c6) rfl ?_) | (first | refine V.Fn.k0 (c4) rfl ?_ | refine V.Fn.q0 (c4) rfl ?_ | refine V.Fn.a0 (c4) rfl ?_) | (first | refine V.Fn.k0 (c5) rfl ?_ | refine V.Fn.q0 (c5) rfl ?_ | refine V.Fn.a0 (c5) rfl ?_) | (refine NIdx.mk ⟨0, rfl, by omega, ?_⟩) | (refine NLe.mk (by omega) ?_) | (refine NCut.mk ⟨0, 4, rfl, rfl, by omega, by omega, ?_⟩) | (refine V.NDraw.any (by kernel_rfl) ?_) | fail)
          all_goals (conv => whnf)
          all_goals exact ⟨rfl, rfl, trivial⟩
    · have hp : Pr.point l = true := by
        by_cases q : Pr.point l = true
        · exact q
        · exact absurd (fun x => absurd x q) hC
      have e : Pr.rdE l = 1 := if_neg fun q => hC q.2.2
      rw [e, show Pr.rdV l = 0 from if_neg (by omega)]
      have w9 : (Pr.whole l).length ≤ 9 := hA.2.1
      rw [hp] at c1
      by_cases hd : Pr.dig (Pr.part l) 4
      · have d2 : Lib.hasSuffix (Pr.part l) [48] = true := by
          by_cases q : Lib.hasSuffix (Pr.part l) [48] = true
          · exact q
          · exact absurd (fun _ => ⟨hd, by simpa using q⟩) hC
        rw [show decide (Pr.dig (Pr.part l) (4 : Int).toNat) = true from decide_eq_true hd] at c3
        have q4 := hd.2.1
        have c6 := v_hasSuffix ⟨(Pr.part l).toArray⟩ ⟨#[48]⟩ (by omega)
        rw [show Lib.hasSuffix (⟨(Pr.part l).toArray⟩ : ByteArray).data.toList (⟨#[48]⟩ : ByteArray).data.toList = true by simpa using d2] at c6
        clear d2 hd hC hA hB e hp
        generalize Pr.whole l = W at *
        generalize Pr.part l = Q at *
        rcases hB3 with hB3 | ⟨hB3, hB4⟩
        all_goals
        · refine V.Fn.mk_ V.Tok V.mixed Tryd.func8 rfl Tryd.ntmps8 (by kernel_rfl) rfl rfl ?_
          repeat' ((conv => whnf); first | (refine V.NIf.yes ?_ ?_; · (exact hB4; done)) | (refine V.NIf.no ?_ ?_; · (exact hB4; done)) | (refine V.NIf.yes ?_ ?_; · (decide; done)) | (refine V.NIf.no ?_ ?_; · (decide; done)) | (refine V.NIf.yes ?_ ?_; · (exact rfl; done)) | (refine V.NIf.no ?_ ?_; · (exact fun h => h rfl; done)) | (refine V.NIf.yes ?_ ?_; · (omega; done)) | (refine V.NIf.no ?_ ?_; · (omega; done)) | refine V.NCond.mk ?_ | refine V.NPick.l ?_ | refine V.NIf.not_ ?_ | refine V.NIf.dec_ ?_ | refine V.a4 ?_ | refine V.a5 ?_ | refine V.NIf.mk (fun _ => ?_) (fun _ => ?_) | refine V.a7 ?_ | refine V.a8 ?_ | refine V.a9 ?_ | refine V.NBoth.mk ?_ ?_ | refine V.b1 ?_ | refine V.b2 ?_ | refine V.NTF.dec ?_ | refine V.b3 ?_ | refine V.b4 ?_ | (first | refine V.Fn.k0 (c1) rfl ?_ | refine V.Fn.q0 (c1) rfl ?_ | refine V.Fn.a0 (c1) rfl ?_) | (first | refine V.Fn.k0 (c2) rfl ?_ | refine V.Fn.q0 (c2) rfl ?_ | refine V.Fn.a0 (c2) rfl ?_) | (first | refine V.Fn.k0 (c3) rfl ?_ | refine V.Fn.q0 (c3) rfl ?_ | refine V.Fn.a0 (c3) rfl ?_) | (first | refine V.Fn.k0 (c6) rfl ?_ | refine V.Fn.q0 (c6) rfl ?_ | refine V.Fn.a0 (c6) rfl ?_) | (first | refine V.Fn.k0 (c4) rfl ?_ | refine V.Fn.q0 (c4) rfl ?_ | refine V.Fn.a0 (c4) rfl ?_) | (first | refine V.Fn.k0 (c5) rfl ?_ | refine V.Fn.q0 (c5) rfl ?_ | refine V.Fn.a0 (c5) rfl ?_) | (refine NIdx.mk ⟨0, rfl, by omega, ?_⟩) | (refine NLe.mk (by omega) ?_) | (refine NCut.mk ⟨0, 4, rfl, rfl, by omega, by omega, ?_⟩) | (refine V.NDraw.any (by kernel_rfl) ?_) | fail)
          all_goals (conv => whnf)
          all_goals exact ⟨rfl, rfl, trivial⟩
      · rw [show decide (Pr.dig (Pr.part l) (4 : Int).toNat) = false from decide_eq_false hd] at c3
        clear hd hC hA hB e hp
        generalize Pr.whole l = W at *
        generalize Pr.part l = Q at *
        rcases hB3 with hB3 | ⟨hB3, hB4⟩
        all_goals
        · refine V.Fn.mk_ V.Tok V.mixed Tryd.func8 rfl Tryd.ntmps8 (by kernel_rfl) rfl rfl ?_
          repeat' ((conv => whnf); first | (refine V.NIf.yes ?_ ?_; · (exact hB4; done)) | (refine V.NIf.no ?_ ?_; · (exact hB4; done)) | (refine V.NIf.yes ?_ ?_; · (decide; done)) | (refine V.NIf.no ?_ ?_; · (decide; done)) | (refine V.NIf.yes ?_ ?_; · (exact rfl; done)) | (refine V.NIf.no ?_ ?_; · (exact fun h => h rfl; done)) | (refine V.NIf.yes ?_ ?_; · (omega; done)) | (refine V.NIf.no ?_ ?_; · (omega; done)) | refine V.NCond.mk ?_ | refine V.NPick.l ?_ | refine V.NIf.not_ ?_ | refine V.NIf.dec_ ?_ | refine V.a4 ?_ | refine V.a5 ?_ | refine V.NIf.mk (fun _ => ?_) (fun _ => ?_) | refine V.a7 ?_ | refine V.a8 ?_ | refine V.a9 ?_ | refine V.NBoth.mk ?_ ?_ | refine V.b1 ?_ | refine V.b2 ?_ | refine V.NTF.dec ?_ | refine V.b3 ?_ | refine V.b4 ?_ | (first | refine V.Fn.k0 (c1) rfl ?_ | refine V.Fn.q0 (c1) rfl ?_ | refine V.Fn.a0 (c1) rfl ?_) | (first | refine V.Fn.k0 (c2) rfl ?_ | refine V.Fn.q0 (c2) rfl ?_ | refine V.Fn.a0 (c2) rfl ?_) | (first | refine V.Fn.k0 (c3) rfl ?_ | refine V.Fn.q0 (c3) rfl ?_ | refine V.Fn.a0 (c3) rfl ?_) | (first | refine V.Fn.k0 (c6) rfl ?_ | refine V.Fn.q0 (c6) rfl ?_ | refine V.Fn.a0 (c6) rfl ?_) | (first | refine V.Fn.k0 (c4) rfl ?_ | refine V.Fn.q0 (c4) rfl ?_ | refine V.Fn.a0 (c4) rfl ?_) | (first | refine V.Fn.k0 (c5) rfl ?_ | refine V.Fn.q0 (c5) rfl ?_ | refine V.Fn.a0 (c5) rfl ?_) | (refine NIdx.mk ⟨0, rfl, by omega, ?_⟩) | (refine NLe.mk (by omega) ?_) | (refine NCut.mk ⟨0, 4, rfl, rfl, by omega, by omega, ?_⟩) | (refine V.NDraw.any (by kernel_rfl) ?_) | fail)
          all_goals (conv => whnf)
          all_goals exact ⟨rfl, rfl, trivial⟩
  · rw [show decide (Pr.dig (Pr.whole l) (9 : Int).toNat) = false from decide_eq_false hA] at c2
    have e : Pr.rdE l = 1 := if_neg fun q => hA q.1
    rw [e, show Pr.rdV l = 0 from if_neg (by omega)]
    clear c3
    refine V.Fn.mk_ V.Tok V.mixed Tryd.func8 rfl Tryd.ntmps8 (by kernel_rfl) rfl rfl ?_
    repeat' ((conv => whnf); first | (refine V.NIf.yes ?_ ?_; · (decide; done)) | (refine V.NIf.no ?_ ?_; · (decide; done)) | (refine V.NIf.yes ?_ ?_; · (exact rfl; done)) | (refine V.NIf.no ?_ ?_; · (exact fun h => h rfl; done)) | (refine V.NIf.yes ?_ ?_; · (omega; done)) | (refine V.NIf.no ?_ ?_; · (omega; done)) | refine V.NCond.mk ?_ | refine V.NPick.l ?_ | refine V.NIf.not_ ?_ | refine V.NIf.dec_ ?_ | refine V.a4 ?_ | refine V.a5 ?_ | refine V.NIf.mk (fun _ => ?_) (fun _ => ?_) | refine V.a7 ?_ | refine V.a8 ?_ | refine V.a9 ?_ | refine V.NBoth.mk ?_ ?_ | refine V.b1 ?_ | refine V.b2 ?_ | refine V.NTF.dec ?_ | refine V.b3 ?_ | refine V.b4 ?_ | (first | refine V.Fn.k0 (c1) rfl ?_ | refine V.Fn.q0 (c1) rfl ?_ | refine V.Fn.a0 (c1) rfl ?_) | (first | refine V.Fn.k0 (c2) rfl ?_ | refine V.Fn.q0 (c2) rfl ?_ | refine V.Fn.a0 (c2) rfl ?_) | (refine V.NDraw.any (by kernel_rfl) ?_) | fail)
    all_goals (conv => whnf)
    all_goals exact ⟨rfl, rfl, trivial⟩
theorem dig_len : ∀ (k u : Nat), u < 10 ^ (k + 1) → 1 ≤ (Lib.decDigits u).length ∧ (Lib.decDigits u).length ≤ k + 1
  | 0, u, h => by
    unfold Lib.decDigits
    rw [dif_pos (by omega)]
    simp
  | k + 1, u, h => by
    unfold Lib.decDigits
    by_cases q : u < 10
    · rw [dif_pos q]; simp
    · rw [dif_neg q]
      have := dig_len k (u / 10) (by rw [Nat.pow_succ] at h; omega)
      simp only [List.length_append, List.length_singleton]
      omega
theorem itoa_len {k : Nat} {n : Int} (h0 : 0 ≤ n) (h : n < 10 ^ (k + 1)) : 1 ≤ (Lib.itoa n).length ∧ (Lib.itoa n).length ≤ k + 1 := by
  unfold Lib.itoa
  rw [if_neg (by omega)]
  exact dig_len k n.toNat (by
    have : ((n.toNat : Nat) : Int) < ((10 ^ (k + 1) : Nat) : Int) := by rw [Int.toNat_of_nonneg h0]; exact_mod_cast h
    exact_mod_cast this)
theorem trim_len (l : List UInt8) (c : UInt8) : (Lib.trimRightB l c).length ≤ l.length := by
  unfold Lib.trimRightB
  rw [List.length_reverse]
  have := (List.dropWhile_suffix (· == c) (l := l.reverse)).length_le
  simpa using this
set_option maxHeartbeats 2000000 in
theorem v_show (p : Int) : V.Fn Tryd.prog 9 [pt] [.one (.val (.int .i64 p))] (.tuple #[sv (Pr.shV p), .int .i64 (P.chk p)]) := by
  have c0 := v_pcheck p
  by_cases ok : P.Ok p
  · rw [P.chk_yes ok] at c0 ⊢
    rw [show Pr.shV p = Pr.shT p from if_pos ok]
    obtain ⟨o1, o2⟩ := ok
    obtain ⟨n, rfl⟩ : ∃ n : Nat, p = n := ⟨p.toNat, by omega⟩
    have e1 : (n : Int) % 10000 = ((n % 10000 : Nat) : Int) := by omega
    have e2 : (n : Int) / 10000 = ((n / 10000 : Nat) : Int) := by omega
    have i1 := v_itoa (10000 + ((n % 10000 : Nat) : Int)) (by omega) (by omega)
    have i2 := v_itoa ((n / 10000 : Nat) : Int) (by omega) (by omega)
    have l1 := itoa_len (k := 4) (n := 10000 + ((n % 10000 : Nat) : Int)) (by omega) (by omega)
    have l2 := itoa_len (k := 8) (n := ((n / 10000 : Nat) : Int)) (by omega) (by omega)
    have t1 := trim_len ((Lib.itoa (10000 + ((n % 10000 : Nat) : Int))).drop 1) 48
    rw [List.length_drop] at t1
    unfold Pr.shT Pr.tail4
    rw [e1, e2]
    have b1 := ba_size (Lib.itoa (10000 + ((n % 10000 : Nat) : Int)))
    have b2 := ba_size (Lib.itoa ((n / 10000 : Nat) : Int))
    have x1 : (⟨(Lib.itoa (10000 + ((n % 10000 : Nat) : Int))).toArray⟩ : ByteArray).extract 1 (⟨(Lib.itoa (10000 + ((n % 10000 : Nat) : Int))).toArray⟩ : ByteArray).size = ⟨((Lib.itoa (10000 + ((n % 10000 : Nat) : Int))).drop 1).toArray⟩ := by
      rw [ba_ext, b1, List.take_of_length_le (by rw [List.length_drop]; exact Nat.le_refl _)]
    have x2 : ((⟨(Lib.itoa (10000 + ((n % 10000 : Nat) : Int))).toArray⟩ : ByteArray).extract 1 (⟨(Lib.itoa (10000 + ((n % 10000 : Nat) : Int))).toArray⟩ : ByteArray).size).size ≤ 9223372036854775807 := by
      rw [x1, ba_size, List.length_drop]; omega
    have c3 := v_trimRight ((⟨(Lib.itoa (10000 + ((n % 10000 : Nat) : Int))).toArray⟩ : ByteArray).extract 1 (⟨(Lib.itoa (10000 + ((n % 10000 : Nat) : Int))).toArray⟩ : ByteArray).size) 48 (by decide) x2
    rw [show ((⟨(Lib.itoa (10000 + ((n % 10000 : Nat) : Int))).toArray⟩ : ByteArray).extract 1 (⟨(Lib.itoa (10000 + ((n % 10000 : Nat) : Int))).toArray⟩ : ByteArray).size).data.toList = (Lib.itoa (10000 + ((n % 10000 : Nat) : Int))).drop 1 by rw [x1]] at c3
    clear x1 x2 e1 e2
    generalize Lib.trimRightB ((Lib.itoa (10000 + ((n % 10000 : Nat) : Int))).drop 1) 48 = T at *
    generalize Lib.itoa (10000 + ((n % 10000 : Nat) : Int)) = I at *
    generalize Lib.itoa ((n / 10000 : Nat) : Int) = J at *
    have b3 := ba_size T
    have s1 : (⟨#[46]⟩ : ByteArray).size = 1 := rfl
    have s2 : ((⟨#[46]⟩ : ByteArray) ++ ⟨T.toArray⟩).size = 1 + T.length := by rw [ByteArray.size_append, s1, b3]
    have nT := sv_nil (l := T)
    by_cases hT : T = []
    · rw [if_pos hT]
      subst hT
      refine V.Fn.mk_ V.Tok V.mixed Tryd.func9 rfl Tryd.ntmps9 (by kernel_rfl) rfl rfl ?_
      repeat' ((conv => whnf); first | (refine V.NIf.yes ?_ ?_; · (decide; done)) | (refine V.NIf.no ?_ ?_; · (decide; done)) | (refine V.NIf.yes ?_ ?_; · (exact rfl; done)) | (refine V.NIf.no ?_ ?_; · (exact fun h => h rfl; done)) | (refine V.NIf.yes ?_ ?_; · (omega; done)) | (refine V.NIf.no ?_ ?_; · (omega; done)) | refine V.NCond.mk ?_ | refine V.NPick.l ?_ | refine V.NIf.not_ ?_ | refine V.NIf.dec_ ?_ | refine V.a4 ?_ | refine V.a5 ?_ | refine V.NIf.mk (fun _ => ?_) (fun _ => ?_) | refine V.a7 ?_ | refine V.a8 ?_ | refine V.a9 ?_ | refine V.NBoth.mk ?_ ?_ | refine V.b1 ?_ | refine V.b2 ?_ | refine V.NTF.dec ?_ | refine V.b3 ?_ | refine V.b4 ?_ | (first | refine V.Fn.k0 (c0) rfl ?_ | refine V.Fn.q0 (c0) rfl ?_ | refine V.Fn.a0 (c0) rfl ?_) | ((first | refine V.Fn.k (i1) [0] rfl ?_ ?_ | refine V.Fn.q (i1) [0] rfl ?_ ?_ | refine V.Fn.a (i1) [0] rfl ?_ ?_); · exact V.D_) | ((first | refine V.Fn.k (i2) [0] rfl ?_ ?_ | refine V.Fn.q (i2) [0] rfl ?_ ?_ | refine V.Fn.a (i2) [0] rfl ?_ ?_); · exact V.D_) | (first | refine V.Fn.k0 (c3) rfl ?_ | refine V.Fn.q0 (c3) rfl ?_ | refine V.Fn.a0 (c3) rfl ?_) | (refine NRem.nat n 10000 rfl rfl (by decide) ?_) | (refine NQuo.nat n 10000 rfl rfl (by decide) (by omega) ?_) | (refine NCut.mk ⟨1, _, rfl, rfl, by omega, by omega, ?_⟩) | (refine NLe.mk (by omega) ?_) | (refine V.NDraw.any (by kernel_rfl) ?_) | fail)
      all_goals (conv => whnf)
      all_goals exact ⟨congrArg Value.string (ba_app J []), rfl, trivial⟩
    · rw [if_neg hT]
      have nT : ¬ (⟨T.toArray⟩ : ByteArray).toList = (⟨#[]⟩ : ByteArray).toList := fun q => hT (nT.1 q)
      refine V.Fn.mk_ V.Tok V.mixed Tryd.func9 rfl Tryd.ntmps9 (by kernel_rfl) rfl rfl ?_
      repeat' ((conv => whnf); first | (refine V.NIf.yes ?_ ?_; · (exact nT; done)) | (refine V.NIf.no ?_ ?_; · (exact nT; done)) | (refine V.NIf.yes ?_ ?_; · (decide; done)) | (refine V.NIf.no ?_ ?_; · (decide; done)) | (refine V.NIf.yes ?_ ?_; · (exact rfl; done)) | (refine V.NIf.no ?_ ?_; · (exact fun h => h rfl; done)) | (refine V.NIf.yes ?_ ?_; · (omega; done)) | (refine V.NIf.no ?_ ?_; · (omega; done)) | refine V.NCond.mk ?_ | refine V.NPick.l ?_ | refine V.NIf.not_ ?_ | refine V.NIf.dec_ ?_ | refine V.a4 ?_ | refine V.a5 ?_ | refine V.NIf.mk (fun _ => ?_) (fun _ => ?_) | refine V.a7 ?_ | refine V.a8 ?_ | refine V.a9 ?_ | refine V.NBoth.mk ?_ ?_ | refine V.b1 ?_ | refine V.b2 ?_ | refine V.NTF.dec ?_ | refine V.b3 ?_ | refine V.b4 ?_ | (first | refine V.Fn.k0 (c0) rfl ?_ | refine V.Fn.q0 (c0) rfl ?_ | refine V.Fn.a0 (c0) rfl ?_) | ((first | refine V.Fn.k (i1) [0] rfl ?_ ?_ | refine V.Fn.q (i1) [0] rfl ?_ ?_ | refine V.Fn.a (i1) [0] rfl ?_ ?_); · exact V.D_) | ((first | refine V.Fn.k (i2) [0] rfl ?_ ?_ | refine V.Fn.q (i2) [0] rfl ?_ ?_ | refine V.Fn.a (i2) [0] rfl ?_ ?_); · exact V.D_) | (first | refine V.Fn.k0 (c3) rfl ?_ | refine V.Fn.q0 (c3) rfl ?_ | refine V.Fn.a0 (c3) rfl ?_) | (refine NRem.nat n 10000 rfl rfl (by decide) ?_) | (refine NQuo.nat n 10000 rfl rfl (by decide) (by omega) ?_) | (refine NCut.mk ⟨1, _, rfl, rfl, by omega, by omega, ?_⟩) | (refine NLe.mk (by omega) ?_) | (refine V.NDraw.any (by kernel_rfl) ?_) | fail)
      all_goals (conv => whnf)
      all_goals exact ⟨congrArg Value.string ((congrArg (fun z => (⟨J.toArray⟩ : ByteArray) ++ z) (ba_app [46] T)).trans (ba_app J (46 :: T))), rfl, trivial⟩
  · rw [P.chk_no ok] at c0 ⊢
    rw [show Pr.shV p = [] from if_neg ok]
    refine V.Fn.mk_ V.Tok V.mixed Tryd.func9 rfl Tryd.ntmps9 (by kernel_rfl) rfl rfl ?_
    repeat' ((conv => whnf); first | (refine V.NIf.yes ?_ ?_; · (decide; done)) | (refine V.NIf.no ?_ ?_; · (decide; done)) | (refine V.NIf.yes ?_ ?_; · (exact rfl; done)) | (refine V.NIf.no ?_ ?_; · (exact fun h => h rfl; done)) | (refine V.NIf.yes ?_ ?_; · (omega; done)) | (refine V.NIf.no ?_ ?_; · (omega; done)) | refine V.NCond.mk ?_ | refine V.NPick.l ?_ | refine V.NIf.not_ ?_ | refine V.NIf.dec_ ?_ | refine V.a4 ?_ | refine V.a5 ?_ | refine V.NIf.mk (fun _ => ?_) (fun _ => ?_) | refine V.a7 ?_ | refine V.a8 ?_ | refine V.a9 ?_ | refine V.NBoth.mk ?_ ?_ | refine V.b1 ?_ | refine V.b2 ?_ | refine V.NTF.dec ?_ | refine V.b3 ?_ | refine V.b4 ?_ | (first | refine V.Fn.k0 (c0) rfl ?_ | refine V.Fn.q0 (c0) rfl ?_ | refine V.Fn.a0 (c0) rfl ?_) | (refine V.NDraw.any (by kernel_rfl) ?_) | fail)
    all_goals (conv => whnf)
    all_goals exact ⟨rfl, rfl, trivial⟩
end Go.Proofs.YtlbffibpcjjpkaaDoor

namespace Go.Proofs.YtlbffibpcjjpkaaDoor
open Go Go.RowKit V
def Pr.apE (a b : Int) : Int := if P.Ok a ∧ P.Ok b then (if a = 0 then 1 else M.prE (b - a) 10000 a) else 3
def Pr.apQ (a b : Int) : Int := if P.Ok a ∧ P.Ok b then (if a = 0 then 0 else M.prQ (b - a) 10000 a) else 0
theorem v_apart (a b : Int) : V.Fn Tryd.prog 11 [] [.one (.val (.int .i64 a)), .one (.val (.int .i64 b))] (.tuple #[.int .i64 (Pr.apQ a b), .int .i64 (Pr.apE a b)]) := by
  have c1 := v_pcheck a
  have c2 := v_pcheck b
  have ka : (P.Ok a ∧ P.chk a = 0) ∨ (¬ P.Ok a ∧ P.chk a = 3) := by
    by_cases q : P.Ok a
    · exact .inl ⟨q, P.chk_yes q⟩
    · exact .inr ⟨q, P.chk_no q⟩
  have kb : (P.Ok b ∧ P.chk b = 0) ∨ (¬ P.Ok b ∧ P.chk b = 3) := by
    by_cases q : P.Ok b
    · exact .inl ⟨q, P.chk_yes q⟩
    · exact .inr ⟨q, P.chk_no q⟩
  have hE : (P.Ok a ∧ P.Ok b ∧ a = 0 ∧ Pr.apE a b = 1 ∧ Pr.apQ a b = 0) ∨ (P.Ok a ∧ P.Ok b ∧ ¬ a = 0 ∧ Pr.apE a b = M.prE (b - a) 10000 a ∧ Pr.apQ a b = M.prQ (b - a) 10000 a) ∨ (¬ (P.Ok a ∧ P.Ok b) ∧ Pr.apE a b = 3 ∧ Pr.apQ a b = 0) := by
    unfold Pr.apE Pr.apQ
    by_cases q : P.Ok a ∧ P.Ok b
    · rw [if_pos q, if_pos q]
      by_cases r : a = 0
      · rw [if_pos r, if_pos r]; exact .inl ⟨q.1, q.2, r, rfl, rfl⟩
      · rw [if_neg r, if_neg r]; exact .inr (.inl ⟨q.1, q.2, r, rfl, rfl⟩)
    · rw [if_neg q, if_neg q]; exact .inr (.inr ⟨q, rfl, rfl⟩)
  have c3 := v_part (b - a) 10000 a
  have oka : P.Ok a → 0 ≤ a ∧ a ≤ 1099511627776 := fun h => h
  have okb : P.Ok b → 0 ≤ b ∧ b ≤ 1099511627776 := fun h => h
  generalize Pr.apE a b = e at *
  generalize Pr.apQ a b = q at *
  generalize M.prE (b - a) 10000 a = pe at *
  generalize M.prQ (b - a) 10000 a = pq at *
  generalize M.prR (b - a) 10000 a = pr at *
  by_cases ha : P.Ok a
  · have ka : P.chk a = 0 := P.chk_yes ha
    rw [ka] at c1
    have oka := oka ha
    by_cases hb : P.Ok b
    · have kb : P.chk b = 0 := P.chk_yes hb
      rw [kb] at c2
      have okb := okb hb
      have hE : (a = 0 ∧ e = 1 ∧ q = 0) ∨ (¬ a = 0 ∧ e = pe ∧ q = pq) := by
        rcases hE with h | h | h
        · exact .inl h.2.2
        · exact .inr h.2.2
        · exact absurd ⟨ha, hb⟩ h.1
      rcases hE with ⟨h0, rfl, rfl⟩ | ⟨h0, rfl, rfl⟩
      all_goals
      · refine V.Fn.mk_ V.Tok V.mixed Tryd.func11 rfl Tryd.ntmps11 (by kernel_rfl) rfl rfl ?_
        repeat' ((conv => whnf); first | refine V.NCond.mk ?_ | refine V.NPick.l ?_ | refine V.NIf.not_ ?_ | refine V.NIf.dec_ ?_ | refine V.a4 ?_ | refine V.a5 ?_ | refine V.NIf.mk (fun _ => ?_) (fun _ => ?_) | refine V.a7 ?_ | refine V.a8 ?_ | refine V.a9 ?_ | refine V.NBoth.mk ?_ ?_ | refine V.b1 ?_ | refine V.b2 ?_ | refine V.NTF.dec ?_ | refine V.b3 ?_ | refine V.b4 ?_ | (refine V.NDraw.any (by kernel_rfl) ?_) | fail)
        all_goals (conv => whnf)
        refine V.NLoop.auto (fun (k : Nat) => [(16, .one (.val (.int .i64 k)))]) (fun (k : Nat) => []) [] [] (fun (k : Nat) => 2 - k) (fun (k : Nat) => k ≤ 2) 0 (Nat.zero_le _) V.S_ V.S_ (fun _ => ⟨rfl, rfl⟩) ?_; (conv => whnf); refine ⟨⟨rfl, rfl⟩, ?_⟩
        rintro k hk
        have hk : k = 0 ∨ k = 1 ∨ k = 2 := by have : k ≤ 2 := hk; omega
        rcases hk with rfl | rfl | rfl
        · repeat' ((conv => whnf); first | (refine V.NIf.yes ?_ ?_; · (exact Int.ofNat_lt.2 (Nat.zero_lt_succ _); done)) | (refine V.NIf.yes ?_ ?_; · (decide; done)) | (refine V.NIf.no ?_ ?_; · (decide; done)) | (refine V.NIf.yes ?_ ?_; · (exact rfl; done)) | (refine V.NIf.no ?_ ?_; · (exact fun h => h rfl; done)) | (refine V.NIf.yes ?_ ?_; · (omega; done)) | (refine V.NIf.no ?_ ?_; · (omega; done)) | refine V.NCond.mk ?_ | refine V.NPick.l ?_ | refine V.NIf.not_ ?_ | refine V.NIf.dec_ ?_ | refine V.a4 ?_ | refine V.a5 ?_ | refine V.NIf.mk (fun _ => ?_) (fun _ => ?_) | refine V.a7 ?_ | refine V.a8 ?_ | refine V.a9 ?_ | refine V.NBoth.mk ?_ ?_ | refine V.b1 ?_ | refine V.b2 ?_ | refine V.NTF.dec ?_ | refine V.b3 ?_ | refine V.b4 ?_ | (refine NIdx.mk ⟨0, rfl, Nat.zero_lt_succ _, ?_⟩) | (first | refine V.Fn.k0 (c1) rfl ?_ | refine V.Fn.q0 (c1) rfl ?_ | refine V.Fn.a0 (c1) rfl ?_) | (refine V.NDraw.any (by kernel_rfl) ?_) | fail)
          all_goals (conv => whnf)
          all_goals exact V.NBack.at_ 1 [] (by decide) (by decide) V.S_ rfl V.S_ V.S_ V.S_
        · repeat' ((conv => whnf); first | (refine V.NIf.yes ?_ ?_; · (exact Int.ofNat_lt.2 (Nat.lt_succ_self _); done)) | (refine V.NIf.yes ?_ ?_; · (decide; done)) | (refine V.NIf.no ?_ ?_; · (decide; done)) | (refine V.NIf.yes ?_ ?_; · (exact rfl; done)) | (refine V.NIf.no ?_ ?_; · (exact fun h => h rfl; done)) | (refine V.NIf.yes ?_ ?_; · (omega; done)) | (refine V.NIf.no ?_ ?_; · (omega; done)) | refine V.NCond.mk ?_ | refine V.NPick.l ?_ | refine V.NIf.not_ ?_ | refine V.NIf.dec_ ?_ | refine V.a4 ?_ | refine V.a5 ?_ | refine V.NIf.mk (fun _ => ?_) (fun _ => ?_) | refine V.a7 ?_ | refine V.a8 ?_ | refine V.a9 ?_ | refine V.NBoth.mk ?_ ?_ | refine V.b1 ?_ | refine V.b2 ?_ | refine V.NTF.dec ?_ | refine V.b3 ?_ | refine V.b4 ?_ | (refine NIdx.mk ⟨1, rfl, Nat.lt_succ_self _, ?_⟩) | (first | refine V.Fn.k0 (c2) rfl ?_ | refine V.Fn.q0 (c2) rfl ?_ | refine V.Fn.a0 (c2) rfl ?_) | (refine V.NDraw.any (by kernel_rfl) ?_) | fail)
          all_goals (conv => whnf)
          all_goals exact V.NBack.at_ 2 [] (by decide) (by decide) V.S_ rfl V.S_ V.S_ V.S_
        · repeat' ((conv => whnf); first | (refine V.NIf.no ?_ ?_; · (exact fun h => absurd (Int.ofNat_lt.1 h) (Nat.lt_irrefl _); done)) | (refine V.NIf.yes ?_ ?_; · (decide; done)) | (refine V.NIf.no ?_ ?_; · (decide; done)) | (refine V.NIf.yes ?_ ?_; · (exact rfl; done)) | (refine V.NIf.no ?_ ?_; · (exact fun h => h rfl; done)) | (refine V.NIf.yes ?_ ?_; · (omega; done)) | (refine V.NIf.no ?_ ?_; · (omega; done)) | refine V.NCond.mk ?_ | refine V.NPick.l ?_ | refine V.NIf.not_ ?_ | refine V.NIf.dec_ ?_ | refine V.a4 ?_ | refine V.a5 ?_ | refine V.NIf.mk (fun _ => ?_) (fun _ => ?_) | refine V.a7 ?_ | refine V.a8 ?_ | refine V.a9 ?_ | refine V.NBoth.mk ?_ ?_ | refine V.b1 ?_ | refine V.b2 ?_ | refine V.NTF.dec ?_ | refine V.b3 ?_ | refine V.b4 ?_ | (first | refine V.Fn.k0 (c3) rfl ?_ | refine V.Fn.q0 (c3) rfl ?_ | refine V.Fn.a0 (c3) rfl ?_) | (refine V.NDraw.any (by kernel_rfl) ?_) | fail)
          all_goals (conv => whnf)
          all_goals exact ⟨rfl, rfl, trivial⟩
    · have kb : P.chk b = 3 := P.chk_no hb
      rw [kb] at c2
      obtain ⟨_, rfl, rfl⟩ : ¬ (P.Ok a ∧ P.Ok b) ∧ e = 3 ∧ q = 0 := by
        rcases hE with h | h | h
        · exact absurd h.2.1 hb
        · exact absurd h.2.1 hb
        · exact h
      refine V.Fn.mk_ V.Tok V.mixed Tryd.func11 rfl Tryd.ntmps11 (by kernel_rfl) rfl rfl ?_
      repeat' ((conv => whnf); first | refine V.NCond.mk ?_ | refine V.NPick.l ?_ | refine V.NIf.not_ ?_ | refine V.NIf.dec_ ?_ | refine V.a4 ?_ | refine V.a5 ?_ | refine V.NIf.mk (fun _ => ?_) (fun _ => ?_) | refine V.a7 ?_ | refine V.a8 ?_ | refine V.a9 ?_ | refine V.NBoth.mk ?_ ?_ | refine V.b1 ?_ | refine V.b2 ?_ | refine V.NTF.dec ?_ | refine V.b3 ?_ | refine V.b4 ?_ | (refine V.NDraw.any (by kernel_rfl) ?_) | fail)
      all_goals (conv => whnf)
      refine V.NLoop.auto (fun (k : Nat) => [(16, .one (.val (.int .i64 k)))]) (fun (k : Nat) => []) [] [] (fun (k : Nat) => 2 - k) (fun (k : Nat) => k ≤ 1) 0 (Nat.zero_le _) V.S_ V.S_ (fun _ => ⟨rfl, rfl⟩) ?_; (conv => whnf); refine ⟨⟨rfl, rfl⟩, ?_⟩
      rintro k hk
      have hk : k = 0 ∨ k = 1 := by have : k ≤ 1 := hk; omega
      rcases hk with rfl | rfl
      · repeat' ((conv => whnf); first | (refine V.NIf.yes ?_ ?_; · (exact Int.ofNat_lt.2 (Nat.zero_lt_succ _); done)) | (refine V.NIf.yes ?_ ?_; · (decide; done)) | (refine V.NIf.no ?_ ?_; · (decide; done)) | (refine V.NIf.yes ?_ ?_; · (exact rfl; done)) | (refine V.NIf.no ?_ ?_; · (exact fun h => h rfl; done)) | (refine V.NIf.yes ?_ ?_; · (omega; done)) | (refine V.NIf.no ?_ ?_; · (omega; done)) | refine V.NCond.mk ?_ | refine V.NPick.l ?_ | refine V.NIf.not_ ?_ | refine V.NIf.dec_ ?_ | refine V.a4 ?_ | refine V.a5 ?_ | refine V.NIf.mk (fun _ => ?_) (fun _ => ?_) | refine V.a7 ?_ | refine V.a8 ?_ | refine V.a9 ?_ | refine V.NBoth.mk ?_ ?_ | refine V.b1 ?_ | refine V.b2 ?_ | refine V.NTF.dec ?_ | refine V.b3 ?_ | refine V.b4 ?_ | (refine NIdx.mk ⟨0, rfl, Nat.zero_lt_succ _, ?_⟩) | (first | refine V.Fn.k0 (c1) rfl ?_ | refine V.Fn.q0 (c1) rfl ?_ | refine V.Fn.a0 (c1) rfl ?_) | (refine V.NDraw.any (by kernel_rfl) ?_) | fail)
        all_goals (conv => whnf)
        all_goals exact V.NBack.at_ 1 [] (by decide) (by decide) V.S_ rfl V.S_ V.S_ V.S_
      · repeat' ((conv => whnf); first | (refine V.NIf.yes ?_ ?_; · (exact Int.ofNat_lt.2 (Nat.lt_succ_self _); done)) | (refine V.NIf.yes ?_ ?_; · (decide; done)) | (refine V.NIf.no ?_ ?_; · (decide; done)) | (refine V.NIf.yes ?_ ?_; · (exact rfl; done)) | (refine V.NIf.no ?_ ?_; · (exact fun h => h rfl; done)) | (refine V.NIf.yes ?_ ?_; · (omega; done)) | (refine V.NIf.no ?_ ?_; · (omega; done)) | refine V.NCond.mk ?_ | refine V.NPick.l ?_ | refine V.NIf.not_ ?_ | refine V.NIf.dec_ ?_ | refine V.a4 ?_ | refine V.a5 ?_ | refine V.NIf.mk (fun _ => ?_) (fun _ => ?_) | refine V.a7 ?_ | refine V.a8 ?_ | refine V.a9 ?_ | refine V.NBoth.mk ?_ ?_ | refine V.b1 ?_ | refine V.b2 ?_ | refine V.NTF.dec ?_ | refine V.b3 ?_ | refine V.b4 ?_ | (refine NIdx.mk ⟨1, rfl, Nat.lt_succ_self _, ?_⟩) | (first | refine V.Fn.k0 (c2) rfl ?_ | refine V.Fn.q0 (c2) rfl ?_ | refine V.Fn.a0 (c2) rfl ?_) | (refine V.NDraw.any (by kernel_rfl) ?_) | fail)
        all_goals (conv => whnf)
        all_goals exact ⟨rfl, rfl, trivial⟩
  · have ka : P.chk a = 3 := P.chk_no ha
    rw [ka] at c1
    obtain ⟨_, rfl, rfl⟩ : ¬ (P.Ok a ∧ P.Ok b) ∧ e = 3 ∧ q = 0 := by
      rcases hE with h | h | h
      · exact absurd h.1 ha
      · exact absurd h.1 ha
      · exact h
    refine V.Fn.mk_ V.Tok V.mixed Tryd.func11 rfl Tryd.ntmps11 (by kernel_rfl) rfl rfl ?_
    repeat' ((conv => whnf); first | refine V.NCond.mk ?_ | refine V.NPick.l ?_ | refine V.NIf.not_ ?_ | refine V.NIf.dec_ ?_ | refine V.a4 ?_ | refine V.a5 ?_ | refine V.NIf.mk (fun _ => ?_) (fun _ => ?_) | refine V.a7 ?_ | refine V.a8 ?_ | refine V.a9 ?_ | refine V.NBoth.mk ?_ ?_ | refine V.b1 ?_ | refine V.b2 ?_ | refine V.NTF.dec ?_ | refine V.b3 ?_ | refine V.b4 ?_ | (refine V.NDraw.any (by kernel_rfl) ?_) | fail)
    all_goals (conv => whnf)
    refine V.NLoop.auto (fun (k : Nat) => [(16, .one (.val (.int .i64 k)))]) (fun (k : Nat) => []) [] [] (fun (k : Nat) => 2 - k) (fun (k : Nat) => k = 0) 0 rfl V.S_ V.S_ (fun _ => ⟨rfl, rfl⟩) ?_; (conv => whnf); refine ⟨⟨rfl, rfl⟩, ?_⟩
    rintro k hk
    obtain rfl : k = 0 := hk
    repeat' ((conv => whnf); first | (refine V.NIf.yes ?_ ?_; · (exact Int.ofNat_lt.2 (Nat.zero_lt_succ _); done)) | (refine V.NIf.yes ?_ ?_; · (decide; done)) | (refine V.NIf.no ?_ ?_; · (decide; done)) | (refine V.NIf.yes ?_ ?_; · (exact rfl; done)) | (refine V.NIf.no ?_ ?_; · (exact fun h => h rfl; done)) | (refine V.NIf.yes ?_ ?_; · (omega; done)) | (refine V.NIf.no ?_ ?_; · (omega; done)) | refine V.NCond.mk ?_ | refine V.NPick.l ?_ | refine V.NIf.not_ ?_ | refine V.NIf.dec_ ?_ | refine V.a4 ?_ | refine V.a5 ?_ | refine V.NIf.mk (fun _ => ?_) (fun _ => ?_) | refine V.a7 ?_ | refine V.a8 ?_ | refine V.a9 ?_ | refine V.NBoth.mk ?_ ?_ | refine V.b1 ?_ | refine V.b2 ?_ | refine V.NTF.dec ?_ | refine V.b3 ?_ | refine V.b4 ?_ | (refine NIdx.mk ⟨0, rfl, Nat.zero_lt_succ _, ?_⟩) | (first | refine V.Fn.k0 (c1) rfl ?_ | refine V.Fn.q0 (c1) rfl ?_ | refine V.Fn.a0 (c1) rfl ?_) | (refine V.NDraw.any (by kernel_rfl) ?_) | fail)
    all_goals (conv => whnf)
    all_goals exact ⟨rfl, rfl, trivial⟩
set_option maxHeartbeats 1000000 in
theorem v_priceBegun : V.Fn Tryd.prog 18 [pt] [] (.bool true) := by
  have c1 := v_pread [49, 50, 46, 51, 48, 53] (by decide)
  rw [show Pr.rdV [49, 50, 46, 51, 48, 53] = 123050 by decide, show Pr.rdE [49, 50, 46, 51, 48, 53] = 0 by decide] at c1
  have c2 := v_show 120500
  have c3 := v_cost 3 12345
  have c4 := v_apart 100 99
  have c5 := v_pread [49, 46, 53, 48] (by decide)
  rw [show Pr.rdV [49, 46, 53, 48] = 0 by decide, show Pr.rdE [49, 46, 53, 48] = 1 by decide] at c5
  have c6 := v_pread [57, 57, 57, 57, 57, 57, 57, 57, 57, 46, 57, 57, 57, 57] (by decide)
  rw [show Pr.rdV [57, 57, 57, 57, 57, 57, 57, 57, 57, 46, 57, 57, 57, 57] = 0 by decide, show Pr.rdE [57, 57, 57, 57, 57, 57, 57, 57, 57, 46, 57, 57, 57, 57] = 3 by decide] at c6
  rw [show Pr.shV 120500 = [49, 50, 46, 48, 53] by decide +kernel, show P.chk 120500 = 0 by decide] at c2
  rw [show M.prQ 3 12345 10000 = 3 by decide, show M.prR 3 12345 10000 = 7035 by decide, show M.prE 3 12345 10000 = 0 by decide] at c3
  rw [show Pr.apQ 100 99 = -100 by decide, show Pr.apE 100 99 = 0 by decide] at c4
  refine V.Fn.mk_ V.Tok V.mixed Tryd.func18 rfl Tryd.ntmps18 (by kernel_rfl) rfl rfl ?_
  repeat' ((conv => whnf); first | (refine V.NIf.yes ?_ ?_; · (decide; done)) | (refine V.NIf.no ?_ ?_; · (decide; done)) | (refine V.NIf.yes ?_ ?_; · (exact rfl; done)) | (refine V.NIf.no ?_ ?_; · (exact fun h => h rfl; done)) | (refine V.NIf.yes ?_ ?_; · (omega; done)) | (refine V.NIf.no ?_ ?_; · (omega; done)) | refine V.NCond.mk ?_ | refine V.NPick.l ?_ | refine V.NIf.not_ ?_ | refine V.NIf.dec_ ?_ | refine V.a4 ?_ | refine V.a5 ?_ | refine V.NIf.mk (fun _ => ?_) (fun _ => ?_) | refine V.a7 ?_ | refine V.a8 ?_ | refine V.a9 ?_ | refine V.NBoth.mk ?_ ?_ | refine V.b1 ?_ | refine V.b2 ?_ | refine V.NTF.dec ?_ | refine V.b3 ?_ | refine V.b4 ?_ | (first | refine V.Fn.k0 (c1) rfl ?_ | refine V.Fn.q0 (c1) rfl ?_ | refine V.Fn.a0 (c1) rfl ?_) | ((first | refine V.Fn.k (c2) [0] rfl ?_ ?_ | refine V.Fn.q (c2) [0] rfl ?_ ?_ | refine V.Fn.a (c2) [0] rfl ?_ ?_); · exact V.D_) | (first | refine V.Fn.k0 (c3) rfl ?_ | refine V.Fn.q0 (c3) rfl ?_ | refine V.Fn.a0 (c3) rfl ?_) | (first | refine V.Fn.k0 (c4) rfl ?_ | refine V.Fn.q0 (c4) rfl ?_ | refine V.Fn.a0 (c4) rfl ?_) | (first | refine V.Fn.k0 (c5) rfl ?_ | refine V.Fn.q0 (c5) rfl ?_ | refine V.Fn.a0 (c5) rfl ?_) | (first | refine V.Fn.k0 (c6) rfl ?_ | refine V.Fn.q0 (c6) rfl ?_ | refine V.Fn.a0 (c6) rfl ?_) | (refine V.NDraw.any (by kernel_rfl) ?_) | fail)
  all_goals (conv => whnf)
  all_goals exact ⟨true, rfl, iff_of_true rfl rfl⟩
end Go.Proofs.YtlbffibpcjjpkaaDoor

namespace Go.Proofs.YtlbffibpcjjpkaaDoor
open Go Go.ChangeShapes Go.WideShapes Go.ChangeAt Go.RowKit
def laidList : List (String × DataW Unit) := [("math/bits.deBruijn32tab", Rows.laid_math_bits_deBruijn32tab), ("math/bits.deBruijn64tab", Rows.laid_math_bits_deBruijn64tab), ("internal/strconv.uint64pow10", Rows.laid_internal_strconv_uint64pow10), ("unicode/utf8.acceptRanges", Rows.laid_unicode_utf8_acceptRanges), ("strconv.ErrRange", Rows.laid_strconv_ErrRange), ("strconv.ErrSyntax", Rows.laid_strconv_ErrSyntax), ("unicode/utf8.first", Rows.laid_unicode_utf8_first)]
theorem tPow : (Tryd.prog.globals[3]?).map (·.type) = some 106 := by kernel_rfl
theorem cPow : Tryd.prog.cellsOf 106 = 20 := by kernel_rfl
theorem cU64 : Tryd.prog.cellsOf 74 = 1 := by kernel_rfl
def powZs : List Int := [1, 10, 100, 1000, 10000, 100000, 1000000, 10000000, 100000000, 1000000000, 10000000000, 100000000000, 1000000000000, 10000000000000, 100000000000000, 1000000000000000, 10000000000000000, 100000000000000000, 1000000000000000000, 10000000000000000000]
theorem powZs_is : Lib.pow10Tab = powZs := by decide +kernel
theorem laid_met (os : Os) (args : Array Value) : laidMetH Tryd.prog laidList ((World.laidAll Tryd.prog os laidList).forCall (fun _ _ => 0) ⟨#[], args, []⟩).memory := by
  rw [MakeChecks.laidMetH_plain _ _ _ (by kernel_rfl)]
  exact laidMet_laidAll _ (by kernel_rfl) (by kernel_rfl)
theorem long_of_laid {W : World} (h : laidMetH Tryd.prog laidList W) : V.TabIs W 3 ptL := by
  rw [MakeChecks.laidMetH_plain _ _ _ (by kernel_rfl)] at h
  obtain ⟨ps, ⟨_, _, _, _, _, _, _, _, _, _, ⟨_, _, _, _, _, _, _, _, _, _, ⟨g0, t0, cs0, f0, p0, q0, hg0, ht0, hv0, hd0, _, _⟩, _⟩, _⟩, _, _⟩ := h
  obtain rfl := Option.some.inj (gPow.symm.trans hg0)
  obtain rfl := Option.some.inj (tPow.symm.trans ht0)
  have hcs := Lib.cells_of_tab (k := .u64) (zs := powZs) Tryd.underlying106 Tryd.underlying74 cU64 cPow hd0
  have e : cs0 = ptL.toArray := by
    unfold ptL
    rw [powZs_is, ← hcs]
  subst e
  simp only [World.var?, gPow, Option.bind_some] at hv0
  split at hv0
  · rename_i cs t fr hh
    injection hv0 with hv0
    subst hv0
    refine ⟨?_, fun j u hu => ?_, _, _, _, hh, by simp⟩
    · exact (Array.getElem?_eq_some_iff.1 hh).1
    · simp only [World.cell?, hh]
      have : ptL.toArray[j]? = some u := by simpa using hu
      rw [this]
      rfl
  · cases hv0
end Go.Proofs.YtlbffibpcjjpkaaDoor

namespace Go.Proofs.YtlbffibpcjjpkaaDoor
open Go
namespace Pr
theorem rev_ind {α : Type} {P : List α → Prop} (h0 : P []) (h1 : ∀ l b, P l → P (l ++ [b])) : ∀ l, P l := fun l => by
  have : ∀ m : List α, P m.reverse := by
    intro m
    induction m with
    | nil => exact h0
    | cons b m ih => rw [List.reverse_cons]; exact h1 _ _ ih
  have := this l.reverse
  rwa [List.reverse_reverse] at this
theorem num_app (l m : List UInt8) : num (l ++ m) = num l * 10 ^ m.length + num m := by
  revert m
  refine rev_ind ?_ ?_
  · simp [num]
  · intro m b ih
    rw [← List.append_assoc, num_snoc, num_snoc, ih, List.length_append, List.length_singleton, Nat.pow_succ, Nat.add_mul, Nat.mul_assoc]
    omega
theorem dg_48 {d : Nat} (h : d < 10) : Dg (UInt8.ofNat (48 + d)) ∧ (UInt8.ofNat (48 + d)).toNat - 48 = d := by
  have : (UInt8.ofNat (48 + d)).toNat = 48 + d := by rw [UInt8.toNat_ofNat']; omega
  unfold Dg
  rw [this]
  omega
theorem dg_of {b : UInt8} (h : Dg b) : UInt8.ofNat (48 + (b.toNat - 48)) = b := by
  unfold Dg at h
  rw [show 48 + (b.toNat - 48) = b.toNat by omega]
  simp
theorem dec_eq (u : Nat) : Lib.decDigits u = if u < 10 then [UInt8.ofNat (48 + u)] else Lib.decDigits (u / 10) ++ [UInt8.ofNat (48 + u % 10)] := by
  rw [Lib.decDigits]
  split <;> rfl
theorem dec_num (u : Nat) : num (Lib.decDigits u) = u ∧ (∀ b ∈ Lib.decDigits u, Dg b) ∧ Lib.decDigits u ≠ [] ∧ (0 < u → (Lib.decDigits u).getD 0 0 ≠ 48) ∧ (1 < (Lib.decDigits u).length → 0 < u) := by
  induction u using Nat.strongRecOn with
  | ind u ih =>
    rw [dec_eq]
    by_cases h : u < 10
    · rw [if_pos h]
      obtain ⟨d1, d2⟩ := dg_48 h
      refine ⟨?_, ?_, by simp, ?_, by simp⟩
      · show 0 * 10 + _ = u
        rw [d2]; omega
      · intro b hb
        rw [List.mem_singleton] at hb
        rw [hb]; exact d1
      · intro hu e
        have e : UInt8.ofNat (48 + u) = 48 := e
        rw [e] at d2
        have : (48 : UInt8).toNat - 48 = 0 := rfl
        omega
    · rw [if_neg h]
      obtain ⟨i1, i2, i3, i4, i5⟩ := ih (u / 10) (by omega)
      obtain ⟨d1, d2⟩ := dg_48 (show u % 10 < 10 by omega)
      refine ⟨?_, ?_, by simp, ?_, fun _ => by omega⟩
      · rw [num_snoc, i1, d2]; omega
      · intro b hb
        rcases List.mem_append.1 hb with hb | hb
        · exact i2 b hb
        · rw [List.mem_singleton] at hb
          rw [hb]; exact d1
      · intro _
        have := i4 (by omega)
        cases hd : Lib.decDigits (u / 10) with
        | nil => exact absurd hd i3
        | cons x m =>
          rw [hd] at this
          exact this
theorem num_lead : ∀ {l : List UInt8}, l ≠ [] → (∀ b ∈ l, Dg b) → l.getD 0 0 ≠ 48 → 1 ≤ num l
  | [], h, _, _ => absurd rfl h
  | b :: l, _, h, h0 => by
    have hb : Dg b := h b (by simp)
    have h1 : b ≠ 48 := h0
    have h2 : b.toNat ≠ 48 := fun q => h1 (UInt8.toNat_inj.1 q)
    have e : num (b :: l) = num [b] * 10 ^ l.length + num l := num_app [b] l
    have e2 : num [b] = 0 * 10 + (b.toNat - 48) := rfl
    unfold Dg at hb
    have h3 : 1 ≤ num [b] := by omega
    have h4 : 1 ≤ 10 ^ l.length := Nat.one_le_pow _ _ (by omega)
    have := Nat.mul_le_mul h3 h4
    omega
theorem num_dec : ∀ (l : List UInt8), l ≠ [] → (∀ b ∈ l, Dg b) → ¬ (1 < l.length ∧ l.getD 0 0 = 48) → Lib.decDigits (num l) = l := by
  refine rev_ind (fun h => absurd rfl h) ?_
  intro l b ih _ hd h0
  have hb : Dg b := hd b (by simp)
  cases l with
  | nil =>
    have e : num ([] ++ [b]) = b.toNat - 48 := by show 0 * 10 + (b.toNat - 48) = _; omega
    have hb2 := hb
    unfold Dg at hb2
    rw [e, dec_eq, if_pos (by omega), dg_of hb]
    rfl
  | cons x m =>
    have hx : (x :: m).getD 0 0 ≠ 48 := fun q => h0 ⟨by simp, q⟩
    have hd2 : ∀ b ∈ x :: m, Dg b := fun y hy => hd y (List.mem_append_left _ hy)
    have i := ih (by simp) hd2 fun q => hx q.2
    have n1 := num_lead (by simp) hd2 hx
    rw [num_snoc, dec_eq]
    have hb2 := hb
    unfold Dg at hb2
    rw [if_neg (by omega), show (num (x :: m) * 10 + (b.toNat - 48)) / 10 = num (x :: m) by omega, show (num (x :: m) * 10 + (b.toNat - 48)) % 10 = b.toNat - 48 by omega, i, dg_of hb]
theorem num_inj : ∀ (l m : List UInt8), l.length = m.length → (∀ b ∈ l, Dg b) → (∀ b ∈ m, Dg b) → num l = num m → l = m := by
  refine rev_ind ?_ ?_
  · intro m h _ _ _
    exact (List.eq_nil_of_length_eq_zero h.symm).symm
  · intro l b ih m hl h1 h2 e
    rcases List.eq_nil_or_concat m with rfl | ⟨m', c, rfl⟩
    · simp at hl
    · rw [List.concat_eq_append] at *
      have hb : Dg b := h1 b (by simp)
      have hc : Dg c := h2 c (by simp)
      rw [num_snoc, num_snoc] at e
      unfold Dg at hb hc
      have e1 : num l = num m' := by omega
      have e2 : b.toNat = c.toNat := by omega
      rw [ih m' (by simpa using hl) (fun x hx => h1 x (by simp [hx])) (fun x hx => h2 x (by simp [hx])) e1, UInt8.toNat_inj.1 e2]
def d4 (r : Nat) : List UInt8 := (Lib.decDigits (10000 + r)).drop 1
theorem dec_len : ∀ (k u : Nat), 10 ^ k ≤ u → u < 10 ^ (k + 1) → (Lib.decDigits u).length = k + 1
  | 0, u, _, h => by
    rw [dec_eq, if_pos (by omega)]; rfl
  | k + 1, u, h1, h2 => by
    have h3 : 10 ^ (k + 1) = 10 ^ k * 10 := Nat.pow_succ ..
    have h4 : 10 ^ (k + 1 + 1) = 10 ^ (k + 1) * 10 := Nat.pow_succ ..
    have h5 : 1 ≤ 10 ^ k := Nat.one_le_pow _ _ (by omega)
    rw [dec_eq, if_neg (by omega), List.length_append, dec_len k (u / 10) (by omega) (by omega)]
    rfl
theorem d4_is {r : Nat} (h : r < 10000) : (d4 r).length = 4 ∧ (∀ b ∈ d4 r, Dg b) ∧ num (d4 r) = r := by
  obtain ⟨i1, i2, i3, _, _⟩ := dec_num (10000 + r)
  have l := dec_len 4 (10000 + r) (by omega) (by omega)
  unfold d4
  cases hd : Lib.decDigits (10000 + r) with
  | nil => exact absurd hd i3
  | cons x m =>
    rw [hd] at i1 i2 l
    have lm : m.length = 4 := by simpa using l
    have hx : Dg x := i2 x (by simp)
    have hm : ∀ b ∈ m, Dg b := fun b hb => i2 b (by simp [hb])
    have e : num (x :: m) = num [x] * 10 ^ m.length + num m := num_app [x] m
    have e2 : num [x] = 0 * 10 + (x.toNat - 48) := rfl
    have lt := num_lt hm
    rw [lm] at lt e
    rw [i1, e2] at e
    unfold Dg at hx
    refine ⟨lm, hm, ?_⟩
    show num m = r
    omega
theorem d4_num {l : List UInt8} (h : l.length = 4) (hd : ∀ b ∈ l, Dg b) : d4 (num l) = l := by
  have lt := num_lt hd
  rw [h] at lt
  obtain ⟨a, b, c⟩ := d4_is lt
  exact num_inj _ _ (by rw [a, h]) b hd c
theorem trim_rep (l : List UInt8) (k : Nat) (h : Lib.hasSuffix l [48] = false) : Lib.trimRightB (l ++ List.replicate k 48) 48 = l := by
  unfold Lib.trimRightB
  rw [List.reverse_append, List.reverse_replicate]
  have e : ∀ (k : Nat) (m : List UInt8), (List.replicate k (48 : UInt8) ++ m).dropWhile (· == 48) = m.dropWhile (· == 48) := by
    intro k m
    induction k with
    | zero => rfl
    | succ k ih => rw [List.replicate_succ, List.cons_append, List.dropWhile_cons, if_pos (by decide), ih]
  rw [e]
  rcases List.eq_nil_or_concat l with rfl | ⟨m, b, rfl⟩
  · rfl
  · rw [List.concat_eq_append] at *
    rw [List.reverse_append]
    show ((b :: m.reverse).dropWhile (· == 48)).reverse = _
    have hb : (b == 48) = false := by
      rw [beq_eq_false_iff_ne]
      rintro rfl
      have : Lib.hasSuffix (m ++ [48]) [48] = true := by
        unfold Lib.hasSuffix
        rw [List.isSuffixOf_iff_suffix]
        exact ⟨m, rfl⟩
      rw [this] at h
      cases h
    rw [List.dropWhile_cons, hb]
    simp
theorem trim_back (l : List UInt8) : ∃ k, l = Lib.trimRightB l 48 ++ List.replicate k 48 ∧ Lib.hasSuffix (Lib.trimRightB l 48) [48] = false := by
  revert l
  refine rev_ind ⟨0, rfl, rfl⟩ ?_
  rintro l b ⟨k, i1, i2⟩
  by_cases hb : b = 48
  · subst hb
    have e : Lib.trimRightB (l ++ [48]) 48 = Lib.trimRightB l 48 := by
      unfold Lib.trimRightB
      rw [List.reverse_append]
      rfl
    rw [e]
    refine ⟨k + 1, ?_, i2⟩
    rw [List.replicate_succ', ← List.append_assoc, ← i1]
  · have hb2 : (b == 48) = false := by simpa using hb
    have e : Lib.trimRightB (l ++ [b]) 48 = l ++ [b] := by
      unfold Lib.trimRightB
      rw [List.reverse_append]
      show ((b :: l.reverse).dropWhile (· == 48)).reverse = _
      rw [List.dropWhile_cons, hb2]
      simp
    rw [e]
    refine ⟨0, by simp, ?_⟩
    unfold Lib.hasSuffix
    rw [Bool.eq_false_iff]
    intro q
    rw [List.isSuffixOf_iff_suffix] at q
    obtain ⟨t, ht⟩ := q
    have := List.append_inj_right' ht (by simp)
    injection this with this
    exact hb this.symm
theorem dec_le : ∀ (k u : Nat), u < 10 ^ (k + 1) → (Lib.decDigits u).length ≤ k + 1
  | 0, u, h => by rw [dec_eq, if_pos (by omega)]; exact Nat.le_refl _
  | k + 1, u, h => by
    rw [dec_eq]
    by_cases q : u < 10
    · rw [if_pos q]; simp
    · rw [if_neg q]
      have := dec_le k (u / 10) (by rw [Nat.pow_succ] at h; omega)
      simp only [List.length_append, List.length_singleton]
      omega
theorem no46 {l : List UInt8} (h : ∀ b ∈ l, Dg b) : ∀ b ∈ l, (!(b == 46)) = true := fun b hb => by
  have h2 := h b hb
  have : (b == 46) = false := by
    rw [beq_eq_false_iff_ne]
    rintro rfl
    revert h2; decide
  rw [this]; rfl
theorem take_all {α : Type} {p : α → Bool} : ∀ {l m : List α}, (∀ b ∈ l, p b = true) → (l ++ m).takeWhile p = l ++ m.takeWhile p ∧ (l ++ m).dropWhile p = m.dropWhile p
  | [], m, _ => ⟨rfl, rfl⟩
  | b :: l, m, h => by
    obtain ⟨i1, i2⟩ := take_all (l := l) (m := m) fun x hx => h x (by simp [hx])
    have hb := h b (by simp)
    constructor
    · rw [List.cons_append, List.takeWhile_cons, if_pos hb, i1]; rfl
    · rw [List.cons_append, List.dropWhile_cons, if_pos hb, i2]
theorem parts_1 {W T : List UInt8} (h : ∀ b ∈ W, Dg b) : whole (W ++ 46 :: T) = W ∧ part (W ++ 46 :: T) = T ∧ point (W ++ 46 :: T) = true := by
  obtain ⟨i1, i2⟩ := take_all (m := 46 :: T) (no46 h)
  refine ⟨?_, ?_, ?_⟩
  · unfold whole; rw [i1, List.takeWhile_cons]; simp
  · unfold part; rw [i2, List.dropWhile_cons]; simp
  · unfold point; simp
theorem parts_0 {W : List UInt8} (h : ∀ b ∈ W, Dg b) : whole W = W ∧ part W = [] ∧ point W = false := by
  obtain ⟨i1, i2⟩ := take_all (m := []) (no46 h)
  rw [List.append_nil] at i1 i2
  refine ⟨by unfold whole; rw [i1]; simp, by unfold part; rw [i2]; simp, ?_⟩
  unfold point
  rw [Bool.eq_false_iff]
  intro q
  have : (46 : UInt8) ∈ W := by simpa using q
  have := h _ this
  revert this; decide
theorem take4 {T : List UInt8} (h : T.length ≤ 4) : (T ++ zeros).take 4 = T ++ List.replicate (4 - T.length) 48 := by
  rw [List.take_append, List.take_of_length_le h]
  rw [show zeros = List.replicate 4 48 from rfl, List.take_replicate]
  congr 2
  omega
theorem itoa_nat (n : Nat) : Lib.itoa (n : Int) = Lib.decDigits n := by
  unfold Lib.itoa
  rw [if_neg (by omega)]
  rfl
def shN (n : Nat) : List UInt8 := Lib.decDigits (n / 10000) ++ (if Lib.trimRightB (d4 (n % 10000)) 48 = [] then [] else 46 :: Lib.trimRightB (d4 (n % 10000)) 48)
theorem shT_nat (n : Nat) : shT (n : Int) = shN n := by
  unfold shT tail4 shN d4
  rw [show (n : Int) / 10000 = ((n / 10000 : Nat) : Int) by omega, show (10000 : Int) + (n : Int) % 10000 = ((10000 + n % 10000 : Nat) : Int) by omega, itoa_nat, itoa_nat]
theorem show_read {n : Nat} (h : n < 10000000000000) : rdOk (shN n) ∧ rdN (shN n) = (n : Int) := by
  obtain ⟨w1, w2, w3, w4, w5⟩ := dec_num (n / 10000)
  have wl := dec_le 8 (n / 10000) (by omega)
  obtain ⟨d1, d2, d3⟩ := d4_is (r := n % 10000) (by omega)
  obtain ⟨k, t1, t2⟩ := trim_back (d4 (n % 10000))
  unfold shN
  generalize Lib.trimRightB (d4 (n % 10000)) 48 = T at *
  generalize Lib.decDigits (n / 10000) = W at *
  have tl := congrArg List.length t1
  rw [d1, List.length_append, List.length_replicate] at tl
  have t3 : (T ++ zeros).take 4 = d4 (n % 10000) := by rw [take4 (by omega), t1, show 4 - T.length = k by omega]
  have td : ∀ b ∈ T, Dg b := fun b hb => d2 b (by rw [t1]; exact List.mem_append_left _ hb)
  have hN : ((num (W ++ d4 (n % 10000)) : Nat) : Int) = n := by
    rw [num_app, d1, d3, w1]; omega
  have hW : dig W 9 ∧ ¬ (1 < W.length ∧ W.getD 0 0 = 48) := ⟨⟨w3, wl, w2⟩, fun q => w4 (w5 q.1) q.2⟩
  by_cases hT : T = []
  · rw [if_pos hT, List.append_nil]
    obtain ⟨p1, p2, p3⟩ := parts_0 w2
    unfold rdOk rdN
    rw [p1, p2, p3]
    refine ⟨⟨hW.1, hW.2, fun q => by cases q⟩, ?_⟩
    rw [hT] at t3
    rw [t3]; exact hN
  · rw [if_neg hT]
    obtain ⟨p1, p2, p3⟩ := parts_1 (T := T) w2
    unfold rdOk rdN
    rw [p1, p2, p3, t3]
    exact ⟨⟨hW.1, hW.2, fun _ => ⟨⟨hT, by omega, td⟩, t2⟩⟩, hN⟩
theorem back1 {p : Int} (h : P.Ok p) : rdE (shT p) = 0 ∧ rdV (shT p) = p := by
  obtain ⟨h1, h2⟩ := h
  obtain ⟨n, rfl⟩ : ∃ n : Nat, p = n := ⟨p.toNat, by omega⟩
  obtain ⟨a, b⟩ := show_read (n := n) (by omega)
  rw [shT_nat]
  have e : rdE (shN n) = 0 := (if_pos a).trans (by rw [b]; exact P.chk_yes ⟨h1, h2⟩)
  exact ⟨e, (if_pos e).trans b⟩
theorem read_show {l : List UInt8} (h : rdOk l) : ∃ n : Nat, rdN l = n ∧ shN n = l := by
  obtain ⟨⟨w1, w2, w3⟩, h4, h5⟩ := h
  have q4 : (part l).length ≤ 4 ∧ (∀ b ∈ part l, Dg b) ∧ Lib.hasSuffix (part l) [48] = false := by
    rcases index_at l with ⟨e1, e2, e3, e4⟩ | ⟨e1, e2, e3⟩
    · rw [e4]; exact ⟨Nat.zero_le _, fun b hb => absurd hb List.not_mem_nil, rfl⟩
    · exact ⟨(h5 e1).1.2.1, (h5 e1).1.2.2, (h5 e1).2⟩
  obtain ⟨q1, q2, q3⟩ := q4
  have x1 := take4 q1
  have xl : ((part l ++ zeros).take 4).length = 4 := by rw [x1, List.length_append, List.length_replicate]; omega
  have xd : ∀ b ∈ (part l ++ zeros).take 4, Dg b := fun b hb => by
    rw [x1] at hb
    rcases List.mem_append.1 hb with hb | hb
    · exact q2 b hb
    · rw [(List.mem_replicate.1 hb).2]; decide
  have lt := num_lt xd
  rw [xl] at lt
  refine ⟨num (whole l ++ (part l ++ zeros).take 4), rfl, ?_⟩
  rw [num_app, xl]
  unfold shN
  rw [show (num (whole l) * 10 ^ 4 + num ((part l ++ zeros).take 4)) / 10000 = num (whole l) by omega, show (num (whole l) * 10 ^ 4 + num ((part l ++ zeros).take 4)) % 10000 = num ((part l ++ zeros).take 4) by omega, d4_num xl xd, num_dec _ w1 w3 h4, x1, trim_rep _ _ q3]
  rcases index_at l with ⟨e1, e2, e3, e4⟩ | ⟨e1, e2, e3⟩
  · rw [if_pos e4, List.append_nil, e3]
  · rw [if_neg (h5 e1).1.1, ← e3]
theorem back2 {l : List UInt8} (h : rdE l = 0) : P.Ok (rdV l) ∧ shT (rdV l) = l := by
  have ok : rdOk l := by
    by_cases q : rdOk l
    · exact q
    · rw [show rdE l = 1 from if_neg q] at h
      omega
  have e : rdE l = P.chk (rdN l) := if_pos ok
  have v : rdV l = rdN l := if_pos h
  obtain ⟨n, h1, h2⟩ := read_show ok
  rw [v]
  refine ⟨?_, by rw [h1, shT_nat, h2]⟩
  by_cases q : P.Ok (rdN l)
  · exact q
  · rw [e, P.chk_no q] at h
    omega
end Pr
end Go.Proofs.YtlbffibpcjjpkaaDoor

namespace Go.Proofs.YtlbffibpcjjpkaaDoor
open Go Go.RowKit Go.ChangeShapes Go.WideShapes V
section
variable {H : Type} {enc : TypeId × Value → H} {P : Program} {W : World} {base : Nat} {spare : Nat → Bool} {held : Bool}
end
end Go.Proofs.YtlbffibpcjjpkaaDoor

namespace Go.Proofs.YtlbffibpcjjpkaaDoor
open Go Go.RowKit Go.ChangeShapes Go.WideShapes V
section
variable {H : Type} {enc : TypeId × Value → H} {P : Program} {w : World} {base : Nat} {spare : Nat → Bool} {held : Bool}
theorem open_str {r : Reach} {b0 : Nat} {t : TypeId} {v : Value} {d : DataW H} {ps : List MemPlace} (ht : P.underlying t = some .string) (hval : Value.okWide P w r b0 t v) (hd : DataW.Trod enc P w base spare held t v d ps) :
    ∃ l : List UInt8, v = sv l ∧ d = .lit (.string l) := by
  obtain ⟨s, rfl, rfl, _⟩ := Go.ChangeMaps.open_string ht hval hd
  exact ⟨s.data.toList, by unfold sv; cases s; simp, rfl⟩
theorem str_sized {ts : List TypeId} {ds : List (DataW H)} (hsz : (DataW.weightsEach P ts ds).all (· ≤ reachBytes) = true) {j : Nat} {t : TypeId} {l : List UInt8} (ht : ts[j]? = some t) (hd : ds[j]? = some (.lit (.string l))) : l.length ≤ 140737488351232 := by
  have h := List.all_eq_true.1 hsz _ (DataW.weights_mem_each (P := P) ht hd l.length (by simp [DataW.weights]))
  have h2 : l.length ≤ reachBytes := by simpa using h
  simp only [reachBytes] at h2
  omega
end
end Go.Proofs.YtlbffibpcjjpkaaDoor
