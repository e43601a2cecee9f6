/- Shared texts, one behind the other: DivW2, DivW3, MoneyW, MoneyW2, VMoney, MoneyPl2, VMoneyR, PricePl, VPrice, FailPl, FailPl2, DatePl, VFail, VFailM, VFailL, MarginPl, VNet0, ClaimPl -/
import Derived.Test.YteblbhbfdfifpaaShelf
import Derived.WalkLawsBesides
import Derived.Laws.Bits64b
import Derived.Deep.QuietTactic
import Derived.BigQuiet
import Derived.Maps.OwnSet
import Derived.Maps.AppendAt
import Derived.Test.YteblbhbfdfifpaaZ1
import Derived.Test.YteblbhbfdfifpaaZ2

/- The walk of math/bits.Div64: a number of two words is divided by one word. -/
namespace Go.Proofs.Yteblbhbfdfifpaa
open Go.RowKit
set_option maxRecDepth 100000
set_option maxHeartbeats 2000000

theorem wrapn {a : Nat} (h : a < 18446744073709551616) : IntKind.u64.wrap (a : Int) = (a : Int) := by rw [IntKind.wrap_u64]; omega
theorem wrapm (a : Nat) : IntKind.u64.wrap (a : Int) = ((a % 18446744073709551616 : Nat) : Int) := by rw [IntKind.wrap_u64]; omega
theorem maskn {a : Nat} (ha : a < 18446744073709551616) : bits .and .u64 (a : Int) 4294967295 = ((a % 4294967296 : Nat) : Int) := by
  have h := bits_and_u64_nat a 4294967295 ha (by omega)
  have e : a &&& 4294967295 = a % 4294967296 := Nat.and_two_pow_sub_one_eq_mod a 32
  rw [e] at h
  exact h
theorem castpow (a s : Nat) : (a : Int) * 2 ^ s = ((a * 2 ^ s : Nat) : Int) := by simp
theorem castdiv (a s : Nat) : (a : Int) / 2 ^ s = ((a / 2 ^ s : Nat) : Int) := by simp
theorem div64_yes (hi lo y R1 R2 : Nat) (g1 : R1 = (hi * 18446744073709551616 + lo) / y) (g2 : R2 = (hi * 18446744073709551616 + lo) % y) (h0 : ¬ hi = 0) (h1 : hi < y) (h2 : lo < 18446744073709551616) (h3 : y < 18446744073709551616) (w : World) : Calls Try.prog 94 #[.int .u64 hi, .int .u64 lo, .int .u64 y] w fun e w' => e = .returned (.tuple #[.int .u64 R1, .int .u64 R2]) ∧ w' = w := by
  · have HR1 := hid g1
    have HR2 := hid g2
    clear g1 g2
    obtain ⟨l1, l2, l3, l4⟩ := V.lead (y := y) (by omega) h3
    have hs : ∃ s : Nat, s = 64 - Lib.bitLen y := ⟨_, rfl⟩
    obtain ⟨s, hs⟩ := hs
    rw [← hs] at l3 l4
    have r1 : IntKind.u64.wrap (64 - (Lib.bitLen y : Int)) = (s : Int) := by rw [IntKind.wrap_u64]; omega
    have hs63 : s ≤ 63 := by omega
    have r2 : min s 64 = s := by omega
    have HS := hid hs
    clear hs l1 l2
    obtain ⟨Y, hY⟩ : ∃ Y, Y = y * 2 ^ s := ⟨_, rfl⟩
    rw [← hY] at l3 l4
    have r3 : IntKind.u64.wrap ((y : Int) * 2 ^ s) = (Y : Int) := by
      have : ((y : Int) * 2 ^ s) = ((Y : Nat) : Int) := by rw [hY]; simp
      rw [this, IntKind.wrap_u64]; omega
    have HY := hid hY
    clear hY
    obtain ⟨w1, w2, w3, w4⟩ := V.words (hi := hi) (lo := lo) (y := y) (s := s) hs63 h1 h2 (by rw [← HY.out]; exact l4)
    have r4 : IntKind.u64.wrap ((hi : Int) * 2 ^ s) = ((hi * 2 ^ s : Nat) : Int) := by rw [castpow, wrapn w1]
    have r5 : (lo : Int) / 2 ^ (64 - s) = ((lo / 2 ^ (64 - s) : Nat) : Int) := castdiv _ _
    have r6 : IntKind.u64.wrap ((lo : Int) * 2 ^ s) = ((lo * 2 ^ s % 18446744073709551616 : Nat) : Int) := by rw [castpow, wrapm]
    rw [← HY.out] at w3
    have l5 : lo / 2 ^ (64 - s) < 18446744073709551616 := by omega
    have r7 : bits .or .u64 ((hi * 2 ^ s : Nat) : Int) ((lo / 2 ^ (64 - s) : Nat) : Int) = ((hi * 2 ^ s + lo / 2 ^ (64 - s) : Nat) : Int) := by rw [bits_or_u64_nat _ _ w1 l5, V.or_add w2]
    have l6 : lo * 2 ^ s % 18446744073709551616 < 18446744073709551616 := Nat.mod_lt _ (by omega)
    have HU := hid w4
    clear w4 w2
    generalize hi * 2 ^ s = H at *
    generalize lo / 2 ^ (64 - s) = L at *
    generalize lo * 2 ^ s % 18446744073709551616 = V' at *
    obtain ⟨u, hu⟩ : ∃ u, u = H + L := ⟨_, rfl⟩
    rw [← hu] at r7 w3
    have HU2 : Hid (u * 18446744073709551616 + V' = (hi * 18446744073709551616 + lo) * 2 ^ s) := by rw [hu]; exact HU.out
    clear hu HU
    obtain ⟨a, ha⟩ : ∃ a, a = Y / 4294967296 := ⟨_, rfl⟩
    obtain ⟨b, hb⟩ : ∃ b, b = Y % 4294967296 := ⟨_, rfl⟩
    obtain ⟨d1, hd1⟩ : ∃ d, d = V' / 4294967296 := ⟨_, rfl⟩
    obtain ⟨d0, hd0⟩ : ∃ d, d = V' % 4294967296 := ⟨_, rfl⟩
    have r8 : (Y : Int) / 4294967296 = (a : Int) := by omega
    have r9 : bits .and .u64 (Y : Int) 4294967295 = (b : Int) := by rw [maskn l4, ← hb]
    have r10 : (V' : Int) / 4294967296 = (d1 : Int) := by omega
    have r11 : bits .and .u64 (V' : Int) 4294967295 = (d0 : Int) := by rw [maskn l6, ← hd0]
    have HAB : Hid (Y = a * 4294967296 + b) := show Y = a * 4294967296 + b by omega
    have HD : Hid (V' = d1 * 4294967296 + d0) := show V' = d1 * 4294967296 + d0 by omega
    have ka : 2147483648 ≤ a := by omega
    have ka2 : a < 4294967296 := by omega
    have kb : b < 4294967296 := by omega
    have kd1 : d1 < 4294967296 := by omega
    have kd0 : d0 < 4294967296 := by omega
    have ku : u < 18446744073709551616 := by omega
    clear ha hb hd1 hd0 w1 l5 l6
    obtain ⟨q0, hq0⟩ : ∃ q, q = u / a := ⟨_, rfl⟩
    obtain ⟨m0, hm0⟩ : ∃ r, r = u % a := ⟨_, rfl⟩
    have e0 : q0 * a + m0 = u := by rw [hq0, hm0, Nat.mul_comm]; exact Nat.div_add_mod u a
    have em : m0 < a := by rw [hm0]; exact Nat.mod_lt _ (by omega)
    have kq : q0 < 18446744073709551616 := by rw [hq0]; exact Nat.lt_of_le_of_lt (Nat.div_le_self _ _) ku
    have r12 : IntKind.u64.wrap ((u : Int) / (a : Int)) = (q0 : Int) := by
      have : (u : Int) / (a : Int) = ((u / a : Nat) : Int) := by simp
      rw [this, ← hq0, wrapn kq]
    have r13 : (q0 : Int) * (a : Int) = ((u - m0 : Nat) : Int) := by
      have : q0 * a = u - m0 := by omega
      rw [← this]; simp
    have r14 : IntKind.u64.wrap (((u - m0 : Nat) : Int)) = ((u - m0 : Nat) : Int) := wrapn (by omega)
    have r15 : IntKind.u64.wrap ((u : Int) - ((u - m0 : Nat) : Int)) = (m0 : Int) := by
      have : (u : Int) - ((u - m0 : Nat) : Int) = (m0 : Int) := by omega
      rw [this]; exact wrapn (by omega)
    have G0 := hid (V.guess_ge (a := a) (b := b) (u := u) (d := d1) (by omega) kd1)
    rw [← hq0] at G0
    have E0 := hid e0
    clear hq0 hm0 e0
    generalize hK : u - m0 = K at *
    clear hK
    have hby : ((y : Int) == 0) = false := beq_eq_false_iff_ne.2 (by omega)
    have hc : ((hi : Int) == 0) = false := beq_eq_false_iff_ne.2 (by omega)
    go_enter Try.func94, Try.ntmps94
    go_wp2_with (go_at_call 96; refine (Try.bits_LeadingZeros64 _ _ (by omega) (by omega)).mono ?_; rintro e w' ⟨rfl, rfl⟩)
    clear r1 r2 r3 r4 r5 r6 r7 r8 r9 r10 r11 r12 r13 r14 r15
    have BD : Hid (2147483648 ≤ a ∧ a < 4294967296 ∧ b < 4294967296 ∧ d1 < 4294967296 ∧ d0 < 4294967296 ∧ u < 18446744073709551616 ∧ u < Y ∧ Y < 18446744073709551616 ∧ 0 < Y) := ⟨ka, ka2, kb, kd1, kd0, ku, w3, l4, by omega⟩
    have B0 : Hid (q0 < 18446744073709551616 ∧ m0 < 4294967296) := ⟨kq, by omega⟩
    have S0 : Hid (s ≤ 63 ∧ hi < y ∧ lo < 18446744073709551616 ∧ y < 18446744073709551616) := ⟨hs63, h1, h2, h3⟩
    have ia : (2147483648 : Int) ≤ (a : Int) := by omega
    have HUY : Hid (u < Y) := w3
    clear ka ka2 kb kd1 kd0 ku w3 l3 l4 hs63 h1 h2 h3 kq em
    go_loop [15, 16] (fun t1 t2 => ∃ q r : Nat, t1 = .int .u64 q ∧ t2 = .int .u64 r ∧ Hid (q < 18446744073709551616 ∧ r < 4294967296) ∧ Hid (q * a + r = u) ∧ Hid ((u * 4294967296 + d1) / (a * 4294967296 + b) ≤ q)) (fun t1 _ => (intOf t1).toNat)
    case atStart => exact ⟨q0, m0, rfl, rfl, B0, E0, G0⟩
    case round =>
      obtain ⟨q, r, rfl, rfl, B1, E1, G1⟩ := hrel
      clear E0 G0 B0
      by_cases c1 : 4294967296 ≤ q
      · obtain ⟨q', hq'⟩ : ∃ q', q' = q - 1 := ⟨_, rfl⟩
        obtain ⟨r', hr'⟩ : ∃ r', r' = r + a := ⟨_, rfl⟩
        have q1 : IntKind.u64.wrap ((q : Int) - 1) = (q' : Int) := by have := B1.out; rw [IntKind.wrap_u64]; omega
        have q2 : IntKind.u64.wrap ((r : Int) + (a : Int)) = (r' : Int) := by have := B1.out; have := BD.out; rw [IntKind.wrap_u64]; omega
        have C1 : (4294967296 : Int) ≤ (q : Int) := by omega
        have HQ := hid hq'
        have E2 : Hid (q' * a + r' = u) := V.step_eq E1.out (by omega) hq' hr'
        have G2 : Hid ((u * 4294967296 + d1) / (a * 4294967296 + b) ≤ q') := by
          have hbd := BD.out
          have hh := HAB.out
          have hu2 := HUY.out
          have hlt := V.wide_great (V := a * 4294967296 + b) (u := u) (d := d1) (q := q) (by omega) (by omega) c1
          have := V.digit_le hlt
          rw [hq']; exact this
        by_cases c2 : 4294967296 ≤ r'
        · have C2 : decide ((4294967296 : Int) ≤ (r' : Int)) = true := decide_eq_true (by omega)
          have QE : Hid (q' = (u * 4294967296 + d1) / (a * 4294967296 + b)) := by
            have hbd := BD.out
            have hh := HAB.out
            have hu2 := HUY.out
            exact V.digit_eq G2.out (V.wide_rest E2.out (by omega) (by omega) c2).2 (by omega)
          clear hq' hr' c1 c2
          generalize q' = Q at *
          obtain ⟨u2, hu2⟩ : ∃ u2, u2 = (u * 4294967296 + d1) % Y := ⟨_, rfl⟩
          have hQY : Q = (u * 4294967296 + d1) / Y := by rw [HAB.out]; exact QE.out
          have k1 : u2 < Y := by rw [hu2]; exact Nat.mod_lt _ BD.out.2.2.2.2.2.2.2.2
          have k2 : Y < 18446744073709551616 := BD.out.2.2.2.2.2.2.2.1
          have s1 : IntKind.u64.wrap (IntKind.u64.wrap (IntKind.u64.wrap ((u : Int) * 4294967296) + (d1 : Int)) - IntKind.u64.wrap ((Q : Int) * (Y : Int))) = (u2 : Int) := by
            rw [IntKind.wrap_u64, IntKind.wrap_u64, IntKind.wrap_u64, IntKind.wrap_u64, hu2]
            exact V.rem_wrap hQY (by omega) k2
          obtain ⟨p0, hp0⟩ : ∃ q, q = u2 / a := ⟨_, rfl⟩
          obtain ⟨n0, hn0⟩ : ∃ r, r = u2 % a := ⟨_, rfl⟩
          have e0 : p0 * a + n0 = u2 := by rw [hp0, hn0, Nat.mul_comm]; exact Nat.div_add_mod u2 a
          have em : n0 < a := by rw [hn0]; exact Nat.mod_lt _ (by have := BD.out; omega)
          have kp : p0 < 18446744073709551616 := by rw [hp0]; exact Nat.lt_of_le_of_lt (Nat.div_le_self _ _) (by omega)
          have s2 : IntKind.u64.wrap ((u2 : Int) / (a : Int)) = (p0 : Int) := by
            have : (u2 : Int) / (a : Int) = ((u2 / a : Nat) : Int) := by simp
            rw [this, ← hp0, wrapn kp]
          obtain ⟨K2, hK2⟩ : ∃ k, k = u2 - n0 := ⟨_, rfl⟩
          have s3 : (p0 : Int) * (a : Int) = (K2 : Int) := by
            have : p0 * a = K2 := by omega
            rw [← this]; simp
          have s4 : IntKind.u64.wrap (K2 : Int) = (K2 : Int) := wrapn (by omega)
          have s5 : IntKind.u64.wrap ((u2 : Int) - (K2 : Int)) = (n0 : Int) := by
            have : (u2 : Int) - (K2 : Int) = (n0 : Int) := by omega
            rw [this]; exact wrapn (by omega)
          have G0 := hid (V.guess_ge (a := a) (b := b) (u := u2) (d := d0) (by omega) BD.out.2.2.2.2.1)
          rw [← hp0] at G0
          have E0 := hid e0
          have B0 : Hid (p0 < 18446744073709551616 ∧ n0 < 4294967296) := ⟨kp, by have := BD.out; omega⟩
          have HUY : Hid (u2 < Y) := k1
          have HU3 := hid hu2
          have HQY := hid hQY
          clear hu2 hQY k1 k2 hp0 hn0 e0 em kp hK2
          go_wp2_with fail
          clear s1 s2 s3 s4 s5
          go_loop [18, 16] (fun t1 t2 => ∃ q r : Nat, t1 = .int .u64 q ∧ t2 = .int .u64 r ∧ Hid (q < 18446744073709551616 ∧ r < 4294967296) ∧ Hid (q * a + r = u2) ∧ Hid ((u2 * 4294967296 + d0) / (a * 4294967296 + b) ≤ q)) (fun t1 _ => (intOf t1).toNat)
          case atStart => exact ⟨p0, n0, rfl, rfl, B0, E0, G0⟩
          case round =>
            obtain ⟨q, r, rfl, rfl, B1, E1, G1⟩ := hrel
            clear E0 G0 B0
            by_cases c1 : 4294967296 ≤ q
            · obtain ⟨q', hq'⟩ : ∃ q', q' = q - 1 := ⟨_, rfl⟩
              obtain ⟨r', hr'⟩ : ∃ r', r' = r + a := ⟨_, rfl⟩
              have q1 : IntKind.u64.wrap ((q : Int) - 1) = (q' : Int) := by have := B1.out; rw [IntKind.wrap_u64]; omega
              have q2 : IntKind.u64.wrap ((r : Int) + (a : Int)) = (r' : Int) := by have := B1.out; have := BD.out; rw [IntKind.wrap_u64]; omega
              have C1 : (4294967296 : Int) ≤ (q : Int) := by omega
              have HQ := hid hq'
              have E2 : Hid (q' * a + r' = u2) := V.step_eq E1.out (by omega) hq' hr'
              have G2 : Hid ((u2 * 4294967296 + d0) / (a * 4294967296 + b) ≤ q') := by
                have hbd := BD.out
                have hh := HAB.out
                have hu2 := HUY.out
                have hlt := V.wide_great (V := a * 4294967296 + b) (u := u2) (d := d0) (q := q) (by omega) (by omega) c1
                have := V.digit_le hlt
                rw [hq']; exact this
              by_cases c2 : 4294967296 ≤ r'
              · have C2 : decide ((4294967296 : Int) ≤ (r' : Int)) = true := decide_eq_true (by omega)
                have QE : Hid (q' = (u2 * 4294967296 + d0) / (a * 4294967296 + b)) := by
                  have hbd := BD.out
                  have hh := HAB.out
                  have hu2 := HUY.out
                  exact V.digit_eq G2.out (V.wide_rest E2.out (by omega) (by omega) c2).2 (by omega)
                clear hq' hr' c1 c2
                have FF := V.final HY.out BD.out.2.2.2.2.2.2.2.2 HU2.out HD.out
                rw [← HQY.out, ← HU3.out] at FF
                have hq2 : q' = (u2 * 4294967296 + d0) / Y := by rw [HAB.out]; exact QE.out
                rw [← hq2] at FF
                have hR1 := HR1.out
                have hR2 := HR2.out
                obtain ⟨e2, he2⟩ : ∃ R, R = (u2 * 4294967296 + d0) % Y := ⟨_, rfl⟩
                rw [← hR1, ← hR2, ← he2] at FF
                have hR3 : R1 < 18446744073709551616 := by
                  rw [hR1]
                  have := S0.out
                  exact Nat.div_lt_of_lt_mul (V.lt_words this.2.1 this.2.2.1)
                have f1 : IntKind.u64.wrap (IntKind.u64.wrap ((Q : Int) * 4294967296) + (q' : Int)) = (R1 : Int) := by
                  have := FF.1
                  rw [IntKind.wrap_u64, IntKind.wrap_u64]; omega
                have f2 : IntKind.u64.wrap (IntKind.u64.wrap (IntKind.u64.wrap ((u2 : Int) * 4294967296) + (d0 : Int)) - IntKind.u64.wrap ((q' : Int) * (Y : Int))) = (e2 : Int) := by
                  rw [IntKind.wrap_u64, IntKind.wrap_u64, IntKind.wrap_u64, IntKind.wrap_u64, he2]
                  exact V.rem_wrap hq2 BD.out.2.2.2.2.2.2.2.2 BD.out.2.2.2.2.2.2.2.1
                have f3 : (e2 : Int) / 2 ^ s = (R2 : Int) := by rw [castdiv, FF.2]
                have f4 : min s 64 = s := by have := S0.out; omega
                clear hR1 hR2 he2 hq2 FF hR3
                go_wp2_with fail
                go_ret2
                exact ⟨rfl, rfl⟩
              · have C2 : decide ((4294967296 : Int) ≤ (r' : Int)) = false := decide_eq_false (by omega)
                have B2 : Hid (q' < 18446744073709551616 ∧ r' < 4294967296) := by have := B1.out; exact ⟨by omega, by omega⟩
                clear hq' hr' c1 c2
                go_wp2_with fail
                go_round
                case rel => exact ⟨q', r', rfl, rfl, B2, E2, G2⟩
                case measure => have := HQ.out; simp [intOf]; omega
            · have D1 : decide ((4294967296 : Int) ≤ (q : Int)) = false := decide_eq_false (by omega)
              obtain ⟨x, hx⟩ : ∃ x, x = q * b := ⟨_, rfl⟩
              obtain ⟨z, hz⟩ : ∃ z, z = 4294967296 * r := ⟨_, rfl⟩
              obtain ⟨t, ht⟩ : ∃ t, t = z + d0 := ⟨_, rfl⟩
              have hxb : x ≤ 4294967295 * 4294967295 := by rw [hx]; have := BD.out; exact Nat.mul_le_mul (by omega) (by omega)
              have p1 : (q : Int) * (b : Int) = (x : Int) := by rw [hx]; simp
              have p1' : IntKind.u64.wrap (x : Int) = (x : Int) := wrapn (by omega)
              have p2 : IntKind.u64.wrap (4294967296 * (r : Int)) = (z : Int) := by have := B1.out; rw [IntKind.wrap_u64]; omega
              have p3 : IntKind.u64.wrap ((z : Int) + (d0 : Int)) = (t : Int) := by have := B1.out; have := BD.out; rw [IntKind.wrap_u64]; omega
              have TG : Hid ((t < x) ↔ (u2 * 4294967296 + d0 < q * (a * 4294967296 + b))) := by
                have := V.too_great (b := b) (d := d0) E1.out
                rw [← hx] at this
                rw [ht, hz, Nat.mul_comm 4294967296 r]; exact this
              by_cases c3 : t < x
              · have hlt := TG.out.1 c3
                obtain ⟨q', hq'⟩ : ∃ q', q' = q - 1 := ⟨_, rfl⟩
                obtain ⟨r', hr'⟩ : ∃ r', r' = r + a := ⟨_, rfl⟩
                have hq1 : 1 ≤ q := by
                  rcases Nat.eq_zero_or_pos q with h | h
                  · rw [h, Nat.zero_mul] at hlt; omega
                  · exact h
                have q1 : IntKind.u64.wrap ((q : Int) - 1) = (q' : Int) := by have := B1.out; rw [IntKind.wrap_u64]; omega
                have q2 : IntKind.u64.wrap ((r : Int) + (a : Int)) = (r' : Int) := by have := B1.out; have := BD.out; rw [IntKind.wrap_u64]; omega
                have HQ : Hid (q' = q - 1 ∧ 1 ≤ q) := ⟨hq', hq1⟩
                have E2 : Hid (q' * a + r' = u2) := V.step_eq E1.out hq1 hq' hr'
                have G2 : Hid ((u2 * 4294967296 + d0) / (a * 4294967296 + b) ≤ q') := by
                  have := V.digit_le hlt
                  rw [hq']; exact this
                by_cases c2 : 4294967296 ≤ r'
                · have C2 : decide ((4294967296 : Int) ≤ (r' : Int)) = true := decide_eq_true (by omega)
                  have QE : Hid (q' = (u2 * 4294967296 + d0) / (a * 4294967296 + b)) := by
                    have hbd := BD.out
                    have hh := HAB.out
                    have hu2 := HUY.out
                    exact V.digit_eq G2.out (V.wide_rest E2.out (by omega) (by omega) c2).2 (by omega)
                  clear hq' hr' c1 c2 hx hz ht hxb hlt hq1
                  have FF := V.final HY.out BD.out.2.2.2.2.2.2.2.2 HU2.out HD.out
                  rw [← HQY.out, ← HU3.out] at FF
                  have hq2 : q' = (u2 * 4294967296 + d0) / Y := by rw [HAB.out]; exact QE.out
                  rw [← hq2] at FF
                  have hR1 := HR1.out
                  have hR2 := HR2.out
                  obtain ⟨e2, he2⟩ : ∃ R, R = (u2 * 4294967296 + d0) % Y := ⟨_, rfl⟩
                  rw [← hR1, ← hR2, ← he2] at FF
                  have hR3 : R1 < 18446744073709551616 := by
                    rw [hR1]
                    have := S0.out
                    exact Nat.div_lt_of_lt_mul (V.lt_words this.2.1 this.2.2.1)
                  have f1 : IntKind.u64.wrap (IntKind.u64.wrap ((Q : Int) * 4294967296) + (q' : Int)) = (R1 : Int) := by
                    have := FF.1
                    rw [IntKind.wrap_u64, IntKind.wrap_u64]; omega
                  have f2 : IntKind.u64.wrap (IntKind.u64.wrap (IntKind.u64.wrap ((u2 : Int) * 4294967296) + (d0 : Int)) - IntKind.u64.wrap ((q' : Int) * (Y : Int))) = (e2 : Int) := by
                    rw [IntKind.wrap_u64, IntKind.wrap_u64, IntKind.wrap_u64, IntKind.wrap_u64, he2]
                    exact V.rem_wrap hq2 BD.out.2.2.2.2.2.2.2.2 BD.out.2.2.2.2.2.2.2.1
                  have f3 : (e2 : Int) / 2 ^ s = (R2 : Int) := by rw [castdiv, FF.2]
                  have f4 : min s 64 = s := by have := S0.out; omega
                  clear hR1 hR2 he2 hq2 FF hR3
                  go_wp2_with fail
                  go_ret2
                  exact ⟨rfl, rfl⟩
                · have C2 : decide ((4294967296 : Int) ≤ (r' : Int)) = false := decide_eq_false (by omega)
                  have B2 : Hid (q' < 18446744073709551616 ∧ r' < 4294967296) := by have := B1.out; exact ⟨by omega, by omega⟩
                  clear hq' hr' c1 c2 hx hz ht hxb hlt hq1
                  go_wp2_with fail
                  go_round
                  case rel => exact ⟨q', r', rfl, rfl, B2, E2, G2⟩
                  case measure => have := HQ.out; simp [intOf]; omega
              · have QE : Hid (q = (u2 * 4294967296 + d0) / (a * 4294967296 + b)) := V.digit_eq G1.out (fun h => c3 (TG.out.2 h)) (by have := BD.out; omega)
                clear c1 hx hz ht hxb
                have FF := V.final HY.out BD.out.2.2.2.2.2.2.2.2 HU2.out HD.out
                rw [← HQY.out, ← HU3.out] at FF
                have hq2 : q = (u2 * 4294967296 + d0) / Y := by rw [HAB.out]; exact QE.out
                rw [← hq2] at FF
                have hR1 := HR1.out
                have hR2 := HR2.out
                obtain ⟨e2, he2⟩ : ∃ R, R = (u2 * 4294967296 + d0) % Y := ⟨_, rfl⟩
                rw [← hR1, ← hR2, ← he2] at FF
                have hR3 : R1 < 18446744073709551616 := by
                  rw [hR1]
                  have := S0.out
                  exact Nat.div_lt_of_lt_mul (V.lt_words this.2.1 this.2.2.1)
                have f1 : IntKind.u64.wrap (IntKind.u64.wrap ((Q : Int) * 4294967296) + (q : Int)) = (R1 : Int) := by
                  have := FF.1
                  rw [IntKind.wrap_u64, IntKind.wrap_u64]; omega
                have f2 : IntKind.u64.wrap (IntKind.u64.wrap (IntKind.u64.wrap ((u2 : Int) * 4294967296) + (d0 : Int)) - IntKind.u64.wrap ((q : Int) * (Y : Int))) = (e2 : Int) := by
                  rw [IntKind.wrap_u64, IntKind.wrap_u64, IntKind.wrap_u64, IntKind.wrap_u64, he2]
                  exact V.rem_wrap hq2 BD.out.2.2.2.2.2.2.2.2 BD.out.2.2.2.2.2.2.2.1
                have f3 : (e2 : Int) / 2 ^ s = (R2 : Int) := by rw [castdiv, FF.2]
                have f4 : min s 64 = s := by have := S0.out; omega
                clear hR1 hR2 he2 hq2 FF hR3
                go_wp2_with fail
                go_ret2
                exact ⟨rfl, rfl⟩
        · have C2 : decide ((4294967296 : Int) ≤ (r' : Int)) = false := decide_eq_false (by omega)
          have B2 : Hid (q' < 18446744073709551616 ∧ r' < 4294967296) := by have := B1.out; exact ⟨by omega, by omega⟩
          clear hq' hr' c1 c2
          go_wp2_with fail
          go_round
          case rel => exact ⟨q', r', rfl, rfl, B2, E2, G2⟩
          case measure => have := HQ.out; simp [intOf]; omega
      · have D1 : decide ((4294967296 : Int) ≤ (q : Int)) = false := decide_eq_false (by omega)
        obtain ⟨x, hx⟩ : ∃ x, x = q * b := ⟨_, rfl⟩
        obtain ⟨z, hz⟩ : ∃ z, z = 4294967296 * r := ⟨_, rfl⟩
        obtain ⟨t, ht⟩ : ∃ t, t = z + d1 := ⟨_, rfl⟩
        have hxb : x ≤ 4294967295 * 4294967295 := by rw [hx]; have := BD.out; exact Nat.mul_le_mul (by omega) (by omega)
        have p1 : (q : Int) * (b : Int) = (x : Int) := by rw [hx]; simp
        have p1' : IntKind.u64.wrap (x : Int) = (x : Int) := wrapn (by omega)
        have p2 : IntKind.u64.wrap (4294967296 * (r : Int)) = (z : Int) := by have := B1.out; rw [IntKind.wrap_u64]; omega
        have p3 : IntKind.u64.wrap ((z : Int) + (d1 : Int)) = (t : Int) := by have := B1.out; have := BD.out; rw [IntKind.wrap_u64]; omega
        have TG : Hid ((t < x) ↔ (u * 4294967296 + d1 < q * (a * 4294967296 + b))) := by
          have := V.too_great (b := b) (d := d1) E1.out
          rw [← hx] at this
          rw [ht, hz, Nat.mul_comm 4294967296 r]; exact this
        by_cases c3 : t < x
        · have hlt := TG.out.1 c3
          obtain ⟨q', hq'⟩ : ∃ q', q' = q - 1 := ⟨_, rfl⟩
          obtain ⟨r', hr'⟩ : ∃ r', r' = r + a := ⟨_, rfl⟩
          have hq1 : 1 ≤ q := by
            rcases Nat.eq_zero_or_pos q with h | h
            · rw [h, Nat.zero_mul] at hlt; omega
            · exact h
          have q1 : IntKind.u64.wrap ((q : Int) - 1) = (q' : Int) := by have := B1.out; rw [IntKind.wrap_u64]; omega
          have q2 : IntKind.u64.wrap ((r : Int) + (a : Int)) = (r' : Int) := by have := B1.out; have := BD.out; rw [IntKind.wrap_u64]; omega
          have HQ : Hid (q' = q - 1 ∧ 1 ≤ q) := ⟨hq', hq1⟩
          have E2 : Hid (q' * a + r' = u) := V.step_eq E1.out hq1 hq' hr'
          have G2 : Hid ((u * 4294967296 + d1) / (a * 4294967296 + b) ≤ q') := by
            have := V.digit_le hlt
            rw [hq']; exact this
          by_cases c2 : 4294967296 ≤ r'
          · have C2 : decide ((4294967296 : Int) ≤ (r' : Int)) = true := decide_eq_true (by omega)
            have QE : Hid (q' = (u * 4294967296 + d1) / (a * 4294967296 + b)) := by
              have hbd := BD.out
              have hh := HAB.out
              have hu2 := HUY.out
              exact V.digit_eq G2.out (V.wide_rest E2.out (by omega) (by omega) c2).2 (by omega)
            clear hq' hr' c1 c2 hx hz ht hxb hlt hq1
            generalize q' = Q at *
            obtain ⟨u2, hu2⟩ : ∃ u2, u2 = (u * 4294967296 + d1) % Y := ⟨_, rfl⟩
            have hQY : Q = (u * 4294967296 + d1) / Y := by rw [HAB.out]; exact QE.out
            have k1 : u2 < Y := by rw [hu2]; exact Nat.mod_lt _ BD.out.2.2.2.2.2.2.2.2
            have k2 : Y < 18446744073709551616 := BD.out.2.2.2.2.2.2.2.1
            have s1 : IntKind.u64.wrap (IntKind.u64.wrap (IntKind.u64.wrap ((u : Int) * 4294967296) + (d1 : Int)) - IntKind.u64.wrap ((Q : Int) * (Y : Int))) = (u2 : Int) := by
              rw [IntKind.wrap_u64, IntKind.wrap_u64, IntKind.wrap_u64, IntKind.wrap_u64, hu2]
              exact V.rem_wrap hQY (by omega) k2
            obtain ⟨p0, hp0⟩ : ∃ q, q = u2 / a := ⟨_, rfl⟩
            obtain ⟨n0, hn0⟩ : ∃ r, r = u2 % a := ⟨_, rfl⟩
            have e0 : p0 * a + n0 = u2 := by rw [hp0, hn0, Nat.mul_comm]; exact Nat.div_add_mod u2 a
            have em : n0 < a := by rw [hn0]; exact Nat.mod_lt _ (by have := BD.out; omega)
            have kp : p0 < 18446744073709551616 := by rw [hp0]; exact Nat.lt_of_le_of_lt (Nat.div_le_self _ _) (by omega)
            have s2 : IntKind.u64.wrap ((u2 : Int) / (a : Int)) = (p0 : Int) := by
              have : (u2 : Int) / (a : Int) = ((u2 / a : Nat) : Int) := by simp
              rw [this, ← hp0, wrapn kp]
            obtain ⟨K2, hK2⟩ : ∃ k, k = u2 - n0 := ⟨_, rfl⟩
            have s3 : (p0 : Int) * (a : Int) = (K2 : Int) := by
              have : p0 * a = K2 := by omega
              rw [← this]; simp
            have s4 : IntKind.u64.wrap (K2 : Int) = (K2 : Int) := wrapn (by omega)
            have s5 : IntKind.u64.wrap ((u2 : Int) - (K2 : Int)) = (n0 : Int) := by
              have : (u2 : Int) - (K2 : Int) = (n0 : Int) := by omega
              rw [this]; exact wrapn (by omega)
            have G0 := hid (V.guess_ge (a := a) (b := b) (u := u2) (d := d0) (by omega) BD.out.2.2.2.2.1)
            rw [← hp0] at G0
            have E0 := hid e0
            have B0 : Hid (p0 < 18446744073709551616 ∧ n0 < 4294967296) := ⟨kp, by have := BD.out; omega⟩
            have HUY : Hid (u2 < Y) := k1
            have HU3 := hid hu2
            have HQY := hid hQY
            clear hu2 hQY k1 k2 hp0 hn0 e0 em kp hK2
            go_wp2_with fail
            clear s1 s2 s3 s4 s5
            go_loop [18, 16] (fun t1 t2 => ∃ q r : Nat, t1 = .int .u64 q ∧ t2 = .int .u64 r ∧ Hid (q < 18446744073709551616 ∧ r < 4294967296) ∧ Hid (q * a + r = u2) ∧ Hid ((u2 * 4294967296 + d0) / (a * 4294967296 + b) ≤ q)) (fun t1 _ => (intOf t1).toNat)
            case atStart => exact ⟨p0, n0, rfl, rfl, B0, E0, G0⟩
            case round =>
              obtain ⟨q, r, rfl, rfl, B1, E1, G1⟩ := hrel
              clear E0 G0 B0
              by_cases c1 : 4294967296 ≤ q
              · obtain ⟨q', hq'⟩ : ∃ q', q' = q - 1 := ⟨_, rfl⟩
                obtain ⟨r', hr'⟩ : ∃ r', r' = r + a := ⟨_, rfl⟩
                have q1 : IntKind.u64.wrap ((q : Int) - 1) = (q' : Int) := by have := B1.out; rw [IntKind.wrap_u64]; omega
                have q2 : IntKind.u64.wrap ((r : Int) + (a : Int)) = (r' : Int) := by have := B1.out; have := BD.out; rw [IntKind.wrap_u64]; omega
                have C1 : (4294967296 : Int) ≤ (q : Int) := by omega
                have HQ := hid hq'
                have E2 : Hid (q' * a + r' = u2) := V.step_eq E1.out (by omega) hq' hr'
                have G2 : Hid ((u2 * 4294967296 + d0) / (a * 4294967296 + b) ≤ q') := by
                  have hbd := BD.out
                  have hh := HAB.out
                  have hu2 := HUY.out
                  have hlt := V.wide_great (V := a * 4294967296 + b) (u := u2) (d := d0) (q := q) (by omega) (by omega) c1
                  have := V.digit_le hlt
                  rw [hq']; exact this
                by_cases c2 : 4294967296 ≤ r'
                · have C2 : decide ((4294967296 : Int) ≤ (r' : Int)) = true := decide_eq_true (by omega)
                  have QE : Hid (q' = (u2 * 4294967296 + d0) / (a * 4294967296 + b)) := by
                    have hbd := BD.out
                    have hh := HAB.out
                    have hu2 := HUY.out
                    exact V.digit_eq G2.out (V.wide_rest E2.out (by omega) (by omega) c2).2 (by omega)
                  clear hq' hr' c1 c2
                  have FF := V.final HY.out BD.out.2.2.2.2.2.2.2.2 HU2.out HD.out
                  rw [← HQY.out, ← HU3.out] at FF
                  have hq2 : q' = (u2 * 4294967296 + d0) / Y := by rw [HAB.out]; exact QE.out
                  rw [← hq2] at FF
                  have hR1 := HR1.out
                  have hR2 := HR2.out
                  obtain ⟨e2, he2⟩ : ∃ R, R = (u2 * 4294967296 + d0) % Y := ⟨_, rfl⟩
                  rw [← hR1, ← hR2, ← he2] at FF
                  have hR3 : R1 < 18446744073709551616 := by
                    rw [hR1]
                    have := S0.out
                    exact Nat.div_lt_of_lt_mul (V.lt_words this.2.1 this.2.2.1)
                  have f1 : IntKind.u64.wrap (IntKind.u64.wrap ((Q : Int) * 4294967296) + (q' : Int)) = (R1 : Int) := by
                    have := FF.1
                    rw [IntKind.wrap_u64, IntKind.wrap_u64]; omega
                  have f2 : IntKind.u64.wrap (IntKind.u64.wrap (IntKind.u64.wrap ((u2 : Int) * 4294967296) + (d0 : Int)) - IntKind.u64.wrap ((q' : Int) * (Y : Int))) = (e2 : Int) := by
                    rw [IntKind.wrap_u64, IntKind.wrap_u64, IntKind.wrap_u64, IntKind.wrap_u64, he2]
                    exact V.rem_wrap hq2 BD.out.2.2.2.2.2.2.2.2 BD.out.2.2.2.2.2.2.2.1
                  have f3 : (e2 : Int) / 2 ^ s = (R2 : Int) := by rw [castdiv, FF.2]
                  have f4 : min s 64 = s := by have := S0.out; omega
                  clear hR1 hR2 he2 hq2 FF hR3
                  go_wp2_with fail
                  go_ret2
                  exact ⟨rfl, rfl⟩
                · have C2 : decide ((4294967296 : Int) ≤ (r' : Int)) = false := decide_eq_false (by omega)
                  have B2 : Hid (q' < 18446744073709551616 ∧ r' < 4294967296) := by have := B1.out; exact ⟨by omega, by omega⟩
                  clear hq' hr' c1 c2
                  go_wp2_with fail
                  go_round
                  case rel => exact ⟨q', r', rfl, rfl, B2, E2, G2⟩
                  case measure => have := HQ.out; simp [intOf]; omega
              · have D1 : decide ((4294967296 : Int) ≤ (q : Int)) = false := decide_eq_false (by omega)
                obtain ⟨x, hx⟩ : ∃ x, x = q * b := ⟨_, rfl⟩
                obtain ⟨z, hz⟩ : ∃ z, z = 4294967296 * r := ⟨_, rfl⟩
                obtain ⟨t, ht⟩ : ∃ t, t = z + d0 := ⟨_, rfl⟩
                have hxb : x ≤ 4294967295 * 4294967295 := by rw [hx]; have := BD.out; exact Nat.mul_le_mul (by omega) (by omega)
                have p1 : (q : Int) * (b : Int) = (x : Int) := by rw [hx]; simp
                have p1' : IntKind.u64.wrap (x : Int) = (x : Int) := wrapn (by omega)
                have p2 : IntKind.u64.wrap (4294967296 * (r : Int)) = (z : Int) := by have := B1.out; rw [IntKind.wrap_u64]; omega
                have p3 : IntKind.u64.wrap ((z : Int) + (d0 : Int)) = (t : Int) := by have := B1.out; have := BD.out; rw [IntKind.wrap_u64]; omega
                have TG : Hid ((t < x) ↔ (u2 * 4294967296 + d0 < q * (a * 4294967296 + b))) := by
                  have := V.too_great (b := b) (d := d0) E1.out
                  rw [← hx] at this
                  rw [ht, hz, Nat.mul_comm 4294967296 r]; exact this
                by_cases c3 : t < x
                · have hlt := TG.out.1 c3
                  obtain ⟨q', hq'⟩ : ∃ q', q' = q - 1 := ⟨_, rfl⟩
                  obtain ⟨r', hr'⟩ : ∃ r', r' = r + a := ⟨_, rfl⟩
                  have hq1 : 1 ≤ q := by
                    rcases Nat.eq_zero_or_pos q with h | h
                    · rw [h, Nat.zero_mul] at hlt; omega
                    · exact h
                  have q1 : IntKind.u64.wrap ((q : Int) - 1) = (q' : Int) := by have := B1.out; rw [IntKind.wrap_u64]; omega
                  have q2 : IntKind.u64.wrap ((r : Int) + (a : Int)) = (r' : Int) := by have := B1.out; have := BD.out; rw [IntKind.wrap_u64]; omega
                  have HQ : Hid (q' = q - 1 ∧ 1 ≤ q) := ⟨hq', hq1⟩
                  have E2 : Hid (q' * a + r' = u2) := V.step_eq E1.out hq1 hq' hr'
                  have G2 : Hid ((u2 * 4294967296 + d0) / (a * 4294967296 + b) ≤ q') := by
                    have := V.digit_le hlt
                    rw [hq']; exact this
                  by_cases c2 : 4294967296 ≤ r'
                  · have C2 : decide ((4294967296 : Int) ≤ (r' : Int)) = true := decide_eq_true (by omega)
                    have QE : Hid (q' = (u2 * 4294967296 + d0) / (a * 4294967296 + b)) := by
                      have hbd := BD.out
                      have hh := HAB.out
                      have hu2 := HUY.out
                      exact V.digit_eq G2.out (V.wide_rest E2.out (by omega) (by omega) c2).2 (by omega)
                    clear hq' hr' c1 c2 hx hz ht hxb hlt hq1
                    have FF := V.final HY.out BD.out.2.2.2.2.2.2.2.2 HU2.out HD.out
                    rw [← HQY.out, ← HU3.out] at FF
                    have hq2 : q' = (u2 * 4294967296 + d0) / Y := by rw [HAB.out]; exact QE.out
                    rw [← hq2] at FF
                    have hR1 := HR1.out
                    have hR2 := HR2.out
                    obtain ⟨e2, he2⟩ : ∃ R, R = (u2 * 4294967296 + d0) % Y := ⟨_, rfl⟩
                    rw [← hR1, ← hR2, ← he2] at FF
                    have hR3 : R1 < 18446744073709551616 := by
                      rw [hR1]
                      have := S0.out
                      exact Nat.div_lt_of_lt_mul (V.lt_words this.2.1 this.2.2.1)
                    have f1 : IntKind.u64.wrap (IntKind.u64.wrap ((Q : Int) * 4294967296) + (q' : Int)) = (R1 : Int) := by
                      have := FF.1
                      rw [IntKind.wrap_u64, IntKind.wrap_u64]; omega
                    have f2 : IntKind.u64.wrap (IntKind.u64.wrap (IntKind.u64.wrap ((u2 : Int) * 4294967296) + (d0 : Int)) - IntKind.u64.wrap ((q' : Int) * (Y : Int))) = (e2 : Int) := by
                      rw [IntKind.wrap_u64, IntKind.wrap_u64, IntKind.wrap_u64, IntKind.wrap_u64, he2]
                      exact V.rem_wrap hq2 BD.out.2.2.2.2.2.2.2.2 BD.out.2.2.2.2.2.2.2.1
                    have f3 : (e2 : Int) / 2 ^ s = (R2 : Int) := by rw [castdiv, FF.2]
                    have f4 : min s 64 = s := by have := S0.out; omega
                    clear hR1 hR2 he2 hq2 FF hR3
                    go_wp2_with fail
                    go_ret2
                    exact ⟨rfl, rfl⟩
                  · have C2 : decide ((4294967296 : Int) ≤ (r' : Int)) = false := decide_eq_false (by omega)
                    have B2 : Hid (q' < 18446744073709551616 ∧ r' < 4294967296) := by have := B1.out; exact ⟨by omega, by omega⟩
                    clear hq' hr' c1 c2 hx hz ht hxb hlt hq1
                    go_wp2_with fail
                    go_round
                    case rel => exact ⟨q', r', rfl, rfl, B2, E2, G2⟩
                    case measure => have := HQ.out; simp [intOf]; omega
                · have QE : Hid (q = (u2 * 4294967296 + d0) / (a * 4294967296 + b)) := V.digit_eq G1.out (fun h => c3 (TG.out.2 h)) (by have := BD.out; omega)
                  clear c1 hx hz ht hxb
                  have FF := V.final HY.out BD.out.2.2.2.2.2.2.2.2 HU2.out HD.out
                  rw [← HQY.out, ← HU3.out] at FF
                  have hq2 : q = (u2 * 4294967296 + d0) / Y := by rw [HAB.out]; exact QE.out
                  rw [← hq2] at FF
                  have hR1 := HR1.out
                  have hR2 := HR2.out
                  obtain ⟨e2, he2⟩ : ∃ R, R = (u2 * 4294967296 + d0) % Y := ⟨_, rfl⟩
                  rw [← hR1, ← hR2, ← he2] at FF
                  have hR3 : R1 < 18446744073709551616 := by
                    rw [hR1]
                    have := S0.out
                    exact Nat.div_lt_of_lt_mul (V.lt_words this.2.1 this.2.2.1)
                  have f1 : IntKind.u64.wrap (IntKind.u64.wrap ((Q : Int) * 4294967296) + (q : Int)) = (R1 : Int) := by
                    have := FF.1
                    rw [IntKind.wrap_u64, IntKind.wrap_u64]; omega
                  have f2 : IntKind.u64.wrap (IntKind.u64.wrap (IntKind.u64.wrap ((u2 : Int) * 4294967296) + (d0 : Int)) - IntKind.u64.wrap ((q : Int) * (Y : Int))) = (e2 : Int) := by
                    rw [IntKind.wrap_u64, IntKind.wrap_u64, IntKind.wrap_u64, IntKind.wrap_u64, he2]
                    exact V.rem_wrap hq2 BD.out.2.2.2.2.2.2.2.2 BD.out.2.2.2.2.2.2.2.1
                  have f3 : (e2 : Int) / 2 ^ s = (R2 : Int) := by rw [castdiv, FF.2]
                  have f4 : min s 64 = s := by have := S0.out; omega
                  clear hR1 hR2 he2 hq2 FF hR3
                  go_wp2_with fail
                  go_ret2
                  exact ⟨rfl, rfl⟩
          · have C2 : decide ((4294967296 : Int) ≤ (r' : Int)) = false := decide_eq_false (by omega)
            have B2 : Hid (q' < 18446744073709551616 ∧ r' < 4294967296) := by have := B1.out; exact ⟨by omega, by omega⟩
            clear hq' hr' c1 c2 hx hz ht hxb hlt hq1
            go_wp2_with fail
            go_round
            case rel => exact ⟨q', r', rfl, rfl, B2, E2, G2⟩
            case measure => have := HQ.out; simp [intOf]; omega
        · have QE : Hid (q = (u * 4294967296 + d1) / (a * 4294967296 + b)) := V.digit_eq G1.out (fun h => c3 (TG.out.2 h)) (by have := BD.out; omega)
          clear c1 hx hz ht hxb
          generalize q = Q at *
          obtain ⟨u2, hu2⟩ : ∃ u2, u2 = (u * 4294967296 + d1) % Y := ⟨_, rfl⟩
          have hQY : Q = (u * 4294967296 + d1) / Y := by rw [HAB.out]; exact QE.out
          have k1 : u2 < Y := by rw [hu2]; exact Nat.mod_lt _ BD.out.2.2.2.2.2.2.2.2
          have k2 : Y < 18446744073709551616 := BD.out.2.2.2.2.2.2.2.1
          have s1 : IntKind.u64.wrap (IntKind.u64.wrap (IntKind.u64.wrap ((u : Int) * 4294967296) + (d1 : Int)) - IntKind.u64.wrap ((Q : Int) * (Y : Int))) = (u2 : Int) := by
            rw [IntKind.wrap_u64, IntKind.wrap_u64, IntKind.wrap_u64, IntKind.wrap_u64, hu2]
            exact V.rem_wrap hQY (by omega) k2
          obtain ⟨p0, hp0⟩ : ∃ q, q = u2 / a := ⟨_, rfl⟩
          obtain ⟨n0, hn0⟩ : ∃ r, r = u2 % a := ⟨_, rfl⟩
          have e0 : p0 * a + n0 = u2 := by rw [hp0, hn0, Nat.mul_comm]; exact Nat.div_add_mod u2 a
          have em : n0 < a := by rw [hn0]; exact Nat.mod_lt _ (by have := BD.out; omega)
          have kp : p0 < 18446744073709551616 := by rw [hp0]; exact Nat.lt_of_le_of_lt (Nat.div_le_self _ _) (by omega)
          have s2 : IntKind.u64.wrap ((u2 : Int) / (a : Int)) = (p0 : Int) := by
            have : (u2 : Int) / (a : Int) = ((u2 / a : Nat) : Int) := by simp
            rw [this, ← hp0, wrapn kp]
          obtain ⟨K2, hK2⟩ : ∃ k, k = u2 - n0 := ⟨_, rfl⟩
          have s3 : (p0 : Int) * (a : Int) = (K2 : Int) := by
            have : p0 * a = K2 := by omega
            rw [← this]; simp
          have s4 : IntKind.u64.wrap (K2 : Int) = (K2 : Int) := wrapn (by omega)
          have s5 : IntKind.u64.wrap ((u2 : Int) - (K2 : Int)) = (n0 : Int) := by
            have : (u2 : Int) - (K2 : Int) = (n0 : Int) := by omega
            rw [this]; exact wrapn (by omega)
          have G0 := hid (V.guess_ge (a := a) (b := b) (u := u2) (d := d0) (by omega) BD.out.2.2.2.2.1)
          rw [← hp0] at G0
          have E0 := hid e0
          have B0 : Hid (p0 < 18446744073709551616 ∧ n0 < 4294967296) := ⟨kp, by have := BD.out; omega⟩
          have HUY : Hid (u2 < Y) := k1
          have HU3 := hid hu2
          have HQY := hid hQY
          clear hu2 hQY k1 k2 hp0 hn0 e0 em kp hK2
          go_wp2_with fail
          clear s1 s2 s3 s4 s5
          go_loop [18, 16] (fun t1 t2 => ∃ q r : Nat, t1 = .int .u64 q ∧ t2 = .int .u64 r ∧ Hid (q < 18446744073709551616 ∧ r < 4294967296) ∧ Hid (q * a + r = u2) ∧ Hid ((u2 * 4294967296 + d0) / (a * 4294967296 + b) ≤ q)) (fun t1 _ => (intOf t1).toNat)
          case atStart => exact ⟨p0, n0, rfl, rfl, B0, E0, G0⟩
          case round =>
            obtain ⟨q, r, rfl, rfl, B1, E1, G1⟩ := hrel
            clear E0 G0 B0
            by_cases c1 : 4294967296 ≤ q
            · obtain ⟨q', hq'⟩ : ∃ q', q' = q - 1 := ⟨_, rfl⟩
              obtain ⟨r', hr'⟩ : ∃ r', r' = r + a := ⟨_, rfl⟩
              have q1 : IntKind.u64.wrap ((q : Int) - 1) = (q' : Int) := by have := B1.out; rw [IntKind.wrap_u64]; omega
              have q2 : IntKind.u64.wrap ((r : Int) + (a : Int)) = (r' : Int) := by have := B1.out; have := BD.out; rw [IntKind.wrap_u64]; omega
              have C1 : (4294967296 : Int) ≤ (q : Int) := by omega
              have HQ := hid hq'
              have E2 : Hid (q' * a + r' = u2) := V.step_eq E1.out (by omega) hq' hr'
              have G2 : Hid ((u2 * 4294967296 + d0) / (a * 4294967296 + b) ≤ q') := by
                have hbd := BD.out
                have hh := HAB.out
                have hu2 := HUY.out
                have hlt := V.wide_great (V := a * 4294967296 + b) (u := u2) (d := d0) (q := q) (by omega) (by omega) c1
                have := V.digit_le hlt
                rw [hq']; exact this
              by_cases c2 : 4294967296 ≤ r'
              · have C2 : decide ((4294967296 : Int) ≤ (r' : Int)) = true := decide_eq_true (by omega)
                have QE : Hid (q' = (u2 * 4294967296 + d0) / (a * 4294967296 + b)) := by
                  have hbd := BD.out
                  have hh := HAB.out
                  have hu2 := HUY.out
                  exact V.digit_eq G2.out (V.wide_rest E2.out (by omega) (by omega) c2).2 (by omega)
                clear hq' hr' c1 c2
                have FF := V.final HY.out BD.out.2.2.2.2.2.2.2.2 HU2.out HD.out
                rw [← HQY.out, ← HU3.out] at FF
                have hq2 : q' = (u2 * 4294967296 + d0) / Y := by rw [HAB.out]; exact QE.out
                rw [← hq2] at FF
                have hR1 := HR1.out
                have hR2 := HR2.out
                obtain ⟨e2, he2⟩ : ∃ R, R = (u2 * 4294967296 + d0) % Y := ⟨_, rfl⟩
                rw [← hR1, ← hR2, ← he2] at FF
                have hR3 : R1 < 18446744073709551616 := by
                  rw [hR1]
                  have := S0.out
                  exact Nat.div_lt_of_lt_mul (V.lt_words this.2.1 this.2.2.1)
                have f1 : IntKind.u64.wrap (IntKind.u64.wrap ((Q : Int) * 4294967296) + (q' : Int)) = (R1 : Int) := by
                  have := FF.1
                  rw [IntKind.wrap_u64, IntKind.wrap_u64]; omega
                have f2 : IntKind.u64.wrap (IntKind.u64.wrap (IntKind.u64.wrap ((u2 : Int) * 4294967296) + (d0 : Int)) - IntKind.u64.wrap ((q' : Int) * (Y : Int))) = (e2 : Int) := by
                  rw [IntKind.wrap_u64, IntKind.wrap_u64, IntKind.wrap_u64, IntKind.wrap_u64, he2]
                  exact V.rem_wrap hq2 BD.out.2.2.2.2.2.2.2.2 BD.out.2.2.2.2.2.2.2.1
                have f3 : (e2 : Int) / 2 ^ s = (R2 : Int) := by rw [castdiv, FF.2]
                have f4 : min s 64 = s := by have := S0.out; omega
                clear hR1 hR2 he2 hq2 FF hR3
                go_wp2_with fail
                go_ret2
                exact ⟨rfl, rfl⟩
              · have C2 : decide ((4294967296 : Int) ≤ (r' : Int)) = false := decide_eq_false (by omega)
                have B2 : Hid (q' < 18446744073709551616 ∧ r' < 4294967296) := by have := B1.out; exact ⟨by omega, by omega⟩
                clear hq' hr' c1 c2
                go_wp2_with fail
                go_round
                case rel => exact ⟨q', r', rfl, rfl, B2, E2, G2⟩
                case measure => have := HQ.out; simp [intOf]; omega
            · have D1 : decide ((4294967296 : Int) ≤ (q : Int)) = false := decide_eq_false (by omega)
              obtain ⟨x, hx⟩ : ∃ x, x = q * b := ⟨_, rfl⟩
              obtain ⟨z, hz⟩ : ∃ z, z = 4294967296 * r := ⟨_, rfl⟩
              obtain ⟨t, ht⟩ : ∃ t, t = z + d0 := ⟨_, rfl⟩
              have hxb : x ≤ 4294967295 * 4294967295 := by rw [hx]; have := BD.out; exact Nat.mul_le_mul (by omega) (by omega)
              have p1 : (q : Int) * (b : Int) = (x : Int) := by rw [hx]; simp
              have p1' : IntKind.u64.wrap (x : Int) = (x : Int) := wrapn (by omega)
              have p2 : IntKind.u64.wrap (4294967296 * (r : Int)) = (z : Int) := by have := B1.out; rw [IntKind.wrap_u64]; omega
              have p3 : IntKind.u64.wrap ((z : Int) + (d0 : Int)) = (t : Int) := by have := B1.out; have := BD.out; rw [IntKind.wrap_u64]; omega
              have TG : Hid ((t < x) ↔ (u2 * 4294967296 + d0 < q * (a * 4294967296 + b))) := by
                have := V.too_great (b := b) (d := d0) E1.out
                rw [← hx] at this
                rw [ht, hz, Nat.mul_comm 4294967296 r]; exact this
              by_cases c3 : t < x
              · have hlt := TG.out.1 c3
                obtain ⟨q', hq'⟩ : ∃ q', q' = q - 1 := ⟨_, rfl⟩
                obtain ⟨r', hr'⟩ : ∃ r', r' = r + a := ⟨_, rfl⟩
                have hq1 : 1 ≤ q := by
                  rcases Nat.eq_zero_or_pos q with h | h
                  · rw [h, Nat.zero_mul] at hlt; omega
                  · exact h
                have q1 : IntKind.u64.wrap ((q : Int) - 1) = (q' : Int) := by have := B1.out; rw [IntKind.wrap_u64]; omega
                have q2 : IntKind.u64.wrap ((r : Int) + (a : Int)) = (r' : Int) := by have := B1.out; have := BD.out; rw [IntKind.wrap_u64]; omega
                have HQ : Hid (q' = q - 1 ∧ 1 ≤ q) := ⟨hq', hq1⟩
                have E2 : Hid (q' * a + r' = u2) := V.step_eq E1.out hq1 hq' hr'
                have G2 : Hid ((u2 * 4294967296 + d0) / (a * 4294967296 + b) ≤ q') := by
                  have := V.digit_le hlt
                  rw [hq']; exact this
                by_cases c2 : 4294967296 ≤ r'
                · have C2 : decide ((4294967296 : Int) ≤ (r' : Int)) = true := decide_eq_true (by omega)
                  have QE : Hid (q' = (u2 * 4294967296 + d0) / (a * 4294967296 + b)) := by
                    have hbd := BD.out
                    have hh := HAB.out
                    have hu2 := HUY.out
                    exact V.digit_eq G2.out (V.wide_rest E2.out (by omega) (by omega) c2).2 (by omega)
                  clear hq' hr' c1 c2 hx hz ht hxb hlt hq1
                  have FF := V.final HY.out BD.out.2.2.2.2.2.2.2.2 HU2.out HD.out
                  rw [← HQY.out, ← HU3.out] at FF
                  have hq2 : q' = (u2 * 4294967296 + d0) / Y := by rw [HAB.out]; exact QE.out
                  rw [← hq2] at FF
                  have hR1 := HR1.out
                  have hR2 := HR2.out
                  obtain ⟨e2, he2⟩ : ∃ R, R = (u2 * 4294967296 + d0) % Y := ⟨_, rfl⟩
                  rw [← hR1, ← hR2, ← he2] at FF
                  have hR3 : R1 < 18446744073709551616 := by
                    rw [hR1]
                    have := S0.out
                    exact Nat.div_lt_of_lt_mul (V.lt_words this.2.1 this.2.2.1)
                  have f1 : IntKind.u64.wrap (IntKind.u64.wrap ((Q : Int) * 4294967296) + (q' : Int)) = (R1 : Int) := by
                    have := FF.1
                    rw [IntKind.wrap_u64, IntKind.wrap_u64]; omega
                  have f2 : IntKind.u64.wrap (IntKind.u64.wrap (IntKind.u64.wrap ((u2 : Int) * 4294967296) + (d0 : Int)) - IntKind.u64.wrap ((q' : Int) * (Y : Int))) = (e2 : Int) := by
                    rw [IntKind.wrap_u64, IntKind.wrap_u64, IntKind.wrap_u64, IntKind.wrap_u64, he2]
                    exact V.rem_wrap hq2 BD.out.2.2.2.2.2.2.2.2 BD.out.2.2.2.2.2.2.2.1
                  have f3 : (e2 : Int) / 2 ^ s = (R2 : Int) := by rw [castdiv, FF.2]
                  have f4 : min s 64 = s := by have := S0.out; omega
                  clear hR1 hR2 he2 hq2 FF hR3
                  go_wp2_with fail
                  go_ret2
                  exact ⟨rfl, rfl⟩
                · have C2 : decide ((4294967296 : Int) ≤ (r' : Int)) = false := decide_eq_false (by omega)
                  have B2 : Hid (q' < 18446744073709551616 ∧ r' < 4294967296) := by have := B1.out; exact ⟨by omega, by omega⟩
                  clear hq' hr' c1 c2 hx hz ht hxb hlt hq1
                  go_wp2_with fail
                  go_round
                  case rel => exact ⟨q', r', rfl, rfl, B2, E2, G2⟩
                  case measure => have := HQ.out; simp [intOf]; omega
              · have QE : Hid (q = (u2 * 4294967296 + d0) / (a * 4294967296 + b)) := V.digit_eq G1.out (fun h => c3 (TG.out.2 h)) (by have := BD.out; omega)
                clear c1 hx hz ht hxb
                have FF := V.final HY.out BD.out.2.2.2.2.2.2.2.2 HU2.out HD.out
                rw [← HQY.out, ← HU3.out] at FF
                have hq2 : q = (u2 * 4294967296 + d0) / Y := by rw [HAB.out]; exact QE.out
                rw [← hq2] at FF
                have hR1 := HR1.out
                have hR2 := HR2.out
                obtain ⟨e2, he2⟩ : ∃ R, R = (u2 * 4294967296 + d0) % Y := ⟨_, rfl⟩
                rw [← hR1, ← hR2, ← he2] at FF
                have hR3 : R1 < 18446744073709551616 := by
                  rw [hR1]
                  have := S0.out
                  exact Nat.div_lt_of_lt_mul (V.lt_words this.2.1 this.2.2.1)
                have f1 : IntKind.u64.wrap (IntKind.u64.wrap ((Q : Int) * 4294967296) + (q : Int)) = (R1 : Int) := by
                  have := FF.1
                  rw [IntKind.wrap_u64, IntKind.wrap_u64]; omega
                have f2 : IntKind.u64.wrap (IntKind.u64.wrap (IntKind.u64.wrap ((u2 : Int) * 4294967296) + (d0 : Int)) - IntKind.u64.wrap ((q : Int) * (Y : Int))) = (e2 : Int) := by
                  rw [IntKind.wrap_u64, IntKind.wrap_u64, IntKind.wrap_u64, IntKind.wrap_u64, he2]
                  exact V.rem_wrap hq2 BD.out.2.2.2.2.2.2.2.2 BD.out.2.2.2.2.2.2.2.1
                have f3 : (e2 : Int) / 2 ^ s = (R2 : Int) := by rw [castdiv, FF.2]
                have f4 : min s 64 = s := by have := S0.out; omega
                clear hR1 hR2 he2 hq2 FF hR3
                go_wp2_with fail
                go_ret2
                exact ⟨rfl, rfl⟩
end Go.Proofs.Yteblbhbfdfifpaa

/- math/bits.Div64, whole. -/
namespace Go.Proofs.Yteblbhbfdfifpaa
open Go.RowKit
set_option maxRecDepth 100000
set_option maxHeartbeats 2000000
theorem div64_any (hi lo y R1 R2 : Nat) (g1 : R1 = (hi * 18446744073709551616 + lo) / y) (g2 : R2 = (hi * 18446744073709551616 + lo) % y) (h1 : hi < y) (h2 : lo < 18446744073709551616) (h3 : y < 18446744073709551616) (w : World) : Calls Try.prog 94 #[.int .u64 hi, .int .u64 lo, .int .u64 y] w fun e w' => e = .returned (.tuple #[.int .u64 R1, .int .u64 R2]) ∧ Below w.heap.size w w' := by
  by_cases h0 : hi = 0
  · subst h0
    rw [Nat.zero_mul, Nat.zero_add] at g1 g2
    have r1 : IntKind.u64.wrap ((lo : Int) / (y : Int)) = (R1 : Int) := by
      have : (lo : Int) / (y : Int) = ((lo / y : Nat) : Int) := by simp
      rw [this, ← g1, wrapn (by rw [g1]; exact Nat.lt_of_le_of_lt (Nat.div_le_self _ _) h2)]
    have r2 : (lo : Int) % (y : Int) = (R2 : Int) := by rw [g2]; simp
    have r3 : IntKind.u64.wrap ((lo : Int).tdiv (y : Int)) = (R1 : Int) := by rw [Int.tdiv_eq_ediv_of_nonneg (by omega)]; exact r1
    have r4 : (lo : Int).tmod (y : Int) = (R2 : Int) := by rw [Int.tmod_eq_emod_of_nonneg (by omega)]; exact r2
    have hby : ((y : Int) == 0) = false := beq_eq_false_iff_ne.2 (by omega)
    have hle : ¬ ((y : Int) ≤ 0) := by omega
    clear g1 g2 h3
    go_enter Try.func94, Try.ntmps94
    go_wp2_with fail
    go_quiet (fail)
    go_wp2_with fail
    go_ret2
    exact ⟨rfl, below_drewN (Below.refl _ _) _⟩
  · refine (div64_yes hi lo y R1 R2 g1 g2 h0 h1 h2 h3 w).mono ?_
    rintro e w' ⟨rfl, rfl⟩
    exact ⟨rfl, Below.refl _ _⟩
end Go.Proofs.Yteblbhbfdfifpaa

/- The walks of the package 'money': amounts and parts. -/
namespace Go.Proofs.Yteblbhbfdfifpaa
open Go.RowKit
set_option maxRecDepth 100000

theorem mwithin_any (n a b : Int) (w : World) : Calls Try.prog 84 #[.int .i64 n, .int .i64 a, .int .i64 b] w fun e w' => e = .returned (.bool (decide (a ≤ n ∧ n ≤ b))) ∧ w = w' := by
  go_enter Try.func84, Try.ntmps84
  go_wp2
  all_goals (go_ret; exact ⟨by simp [*] <;> omega, rfl⟩)
theorem mcheck_any (a : Int) (w : World) : Calls Try.prog 76 #[.int .i64 a] w fun e w' => e = .returned (.int .i64 (M.chk a)) ∧ w = w' := by
  by_cases h : -1152921504606846976 ≤ a ∧ a ≤ 1152921504606846976
  · have E := hid (M.chk_yes h)
    have d : decide (-1152921504606846976 ≤ a ∧ a ≤ 1152921504606846976) = true := decide_eq_true h
    clear h
    go_enter Try.func76, Try.ntmps76
    go_wp2_with (go_at_call 84; refine (mwithin_any _ _ _ _).mono ?_; rintro e w' ⟨rfl, rfl⟩)
    go_ret
    exact ⟨ret_int (by rw [E.out]), rfl⟩
  · have E := hid (M.chk_no h)
    have d : decide (-1152921504606846976 ≤ a ∧ a ≤ 1152921504606846976) = false := decide_eq_false h
    clear h
    go_enter Try.func76, Try.ntmps76
    go_wp2_with (go_at_call 84; refine (mwithin_any _ _ _ _).mono ?_; rintro e w' ⟨rfl, rfl⟩)
    go_ret
    exact ⟨ret_int (by rw [E.out]), rfl⟩
end Go.Proofs.Yteblbhbfdfifpaa

/- The walk of split: a product is divided. -/
namespace Go.Proofs.Yteblbhbfdfifpaa
open Go.RowKit
set_option maxRecDepth 100000
theorem msplit_no (a b c : Nat) (ha : a < 18446744073709551616) (hb : b < 18446744073709551616) (h : c ≤ a * b / 18446744073709551616) (w : World) :
    Calls Try.prog 90 #[.int .u64 a, .int .u64 b, .int .u64 c] w fun e w' => e = .returned (.tuple #[.int .u64 0, .int .u64 0, .bool false]) ∧ w = w' := by
  have m := Try.bits_Mul64 a b ha hb
  obtain ⟨hi, hh⟩ : ∃ x, x = a * b / 18446744073709551616 := ⟨_, rfl⟩
  obtain ⟨lo, hl⟩ : ∃ x, x = a * b % 18446744073709551616 := ⟨_, rfl⟩
  rw [← hh, ← hl] at m
  rw [← hh] at h
  have M0 := hid m
  clear m hh hl ha hb
  go_enter Try.func90, Try.ntmps90
  go_wp2_with fail
  refine (M0.out _).mono ?_
  rintro e w' ⟨rfl, rfl⟩
  go_wp2_with fail
  go_ret3
  exact ⟨rfl, rfl⟩
theorem msplit_yes (a b c R1 R2 : Nat) (ha : a < 18446744073709551616) (hb : b < 18446744073709551616) (hc : c < 18446744073709551616) (h : a * b / 18446744073709551616 < c) (g1 : R1 = a * b / c) (g2 : R2 = a * b % c) (w : World) :
    Calls Try.prog 90 #[.int .u64 a, .int .u64 b, .int .u64 c] w fun e w' => e = .returned (.tuple #[.int .u64 R1, .int .u64 R2, .bool (decide ((R1 : Int) ≤ 1152921504606846976))]) ∧ Below w.heap.size w w' := by
  have m := Try.bits_Mul64 a b ha hb
  have e := Nat.div_add_mod (a * b) 18446744073709551616
  have hl2 : a * b % 18446744073709551616 < 18446744073709551616 := Nat.mod_lt _ (by omega)
  obtain ⟨hi, hh⟩ : ∃ x, x = a * b / 18446744073709551616 := ⟨_, rfl⟩
  obtain ⟨lo, hl⟩ : ∃ x, x = a * b % 18446744073709551616 := ⟨_, rfl⟩
  rw [← hh, ← hl] at m e
  rw [← hh] at h
  rw [← hl] at hl2
  rw [Nat.mul_comm] at e
  rw [← e] at g1 g2
  have D0 := hid (div64_any hi lo c R1 R2 g1 g2 h hl2 hc)
  have M0 := hid m
  clear m hh hl ha hb g1 g2 e hl2 hc
  go_enter Try.func90, Try.ntmps90
  go_wp2_with fail
  refine (M0.out _).mono ?_
  rintro e w' ⟨rfl, rfl⟩
  go_wp2_with fail
  refine (D0.out _).mono ?_
  rintro e w2 ⟨rfl, hb2⟩
  go_wp2_with fail
  go_ret3
  exact ⟨rfl, hb2⟩
end Go.Proofs.Yteblbhbfdfifpaa

/- What the functions of the package 'money' answer. -/
namespace Go.Proofs.Yteblbhbfdfifpaa
open Go Go.RowKit V
set_option maxRecDepth 100000
set_option linter.unusedVariables false
namespace M
theorem chk_ok {a : Int} (h : chk a = 0) : Amt a := by
  by_cases q : Amt a
  · exact q
  · rw [chk_no q] at h; omega
theorem chks_ok {l : List Int} (h : chks l = 0) : ∀ a ∈ l, Amt a := by
  by_cases q : ∀ a ∈ l, Amt a
  · exact q
  · rw [chks_no q] at h; omega
theorem chks_two {a b : Int} (h : chks [a, b] = 0) : Amt a ∧ Amt b := ⟨chks_ok h a (by simp), chks_ok h b (by simp)⟩
theorem chks_bad {l : List Int} (h : ¬ chks l = 0) : chks l = 3 := by unfold chks at h ⊢; split <;> simp_all
theorem chks_ntwo {a b : Int} (h : ¬ chks [a, b] = 0) : ¬ (Amt a ∧ Amt b) := fun q => h (chks_yes (by simp [q.1, q.2]))
theorem chk_nok {a : Int} (h : ¬ chk a = 0) : ¬ Amt a := fun q => h (chk_yes q)
theorem ck_ok {a b c : Int} (h : ckE a b c = 0) : POk a b c := by
  by_cases q : POk a b c
  · exact q
  · rw [ck_no q] at h; omega
theorem ck_nok {a b c : Int} (h : ¬ ckE a b c = 0) : ¬ POk a b c := fun q => h (ck_yes q)
def spQ (a b c : Int) : Int := if c ≤ a * b / 18446744073709551616 then 0 else a * b / c
def spR (a b c : Int) : Int := if c ≤ a * b / 18446744073709551616 then 0 else a * b % c
def spB (a b c : Int) : Bool := if c ≤ a * b / 18446744073709551616 then false else decide (a * b / c ≤ 1152921504606846976)
end M
theorem v_mwithin (n a b : Int) : V.Fn Try.prog 84 [] [.one (.val (.int .i64 n)), .one (.val (.int .i64 a)), .one (.val (.int .i64 b))] (.bool (decide (a ≤ n ∧ n ≤ b))) := by
  refine V.Fn.mk_ V.Tok V.mixed Try.func84 rfl Try.ntmps84 (by kernel_rfl) rfl rfl ?_
  repeat' ((conv => whnf); first | refine V.NCond.mk ?_ | refine V.NIf.not_ ?_ | refine V.NIf.dec_ ?_ | refine V.NIf.no (by omega) ?_ | refine V.NIf.yes (by omega) ?_ | refine V.NIf.mk (fun _ => ?_) (fun _ => ?_) | refine V.NWrap.ok (by omega) (by omega) ?_ | refine V.NWrap.u64 (by omega) (by omega) ?_ | refine V.NLt.mk (by omega) ?_ | refine V.NBoth.mk ?_ ?_ | refine V.NTF.yes (by omega) ?_ | refine V.NTF.no (by omega) ?_ | refine V.NTF.dec ?_ | refine V.NDraw.q (by exact rfl) (by kernel_rfl) ?_ | refine V.NApp.one (by first | omega | (simp; omega)) (by first | omega | (simp; omega)) ?_ | (refine V.NDraw.any (by kernel_rfl) ?_) | fail)
  · exact ⟨_, rfl, by simp_all⟩
  · exact congrArg Value.bool (by simp_all; omega)
theorem v_check (a : Int) : V.Fn Try.prog 76 [] [.one (.val (.int .i64 a))] (.int .i64 (M.chk a)) := by
  refine V.Fn.mk_ V.Tok V.mixed Try.func76 rfl Try.ntmps76 (by kernel_rfl) rfl rfl ?_
  repeat' ((conv => whnf); first | refine V.NCond.mk ?_ | refine V.NIf.not_ ?_ | refine V.NIf.dec_ ?_ | refine V.NIf.no (by omega) ?_ | refine V.NIf.yes (by omega) ?_ | refine V.NIf.mk (fun _ => ?_) (fun _ => ?_) | refine V.NWrap.ok (by omega) (by omega) ?_ | refine V.NWrap.u64 (by omega) (by omega) ?_ | refine V.NLt.mk (by omega) ?_ | refine V.NBoth.mk ?_ ?_ | refine V.NTF.yes (by omega) ?_ | refine V.NTF.no (by omega) ?_ | refine V.NTF.dec ?_ | refine V.NDraw.q (by exact rfl) (by kernel_rfl) ?_ | refine V.NApp.one (by first | omega | (simp; omega)) (by first | omega | (simp; omega)) ?_ | (first | refine V.Fn.k0 (v_mwithin _ _ _) rfl ?_ | refine V.Fn.q0 (v_mwithin _ _ _) rfl ?_ | refine V.Fn.a0 (v_mwithin _ _ _) rfl ?_) | (refine V.NDraw.any (by kernel_rfl) ?_) | fail)
  all_goals ((conv => whnf); refine congrArg _ ?_; unfold M.chk M.Amt; (repeat' split) <;> first | rfl | omega | (exfalso; omega) | (simp_all; done) | (simp_all; omega))
theorem v_split (a b c : Int) (ha : 0 ≤ a ∧ a < 18446744073709551616) (hb : 0 ≤ b ∧ b < 18446744073709551616) (hc : 0 ≤ c ∧ c < 18446744073709551616) :
    V.Fn Try.prog 90 [] [.one (.val (.int .u64 a)), .one (.val (.int .u64 b)), .one (.val (.int .u64 c))] (.tuple #[.int .u64 (M.spQ a b c), .int .u64 (M.spR a b c), .bool (M.spB a b c)]) := by
  obtain ⟨x, rfl⟩ := Int.eq_ofNat_of_zero_le ha.1
  obtain ⟨y, rfl⟩ := Int.eq_ofNat_of_zero_le hb.1
  obtain ⟨z, rfl⟩ := Int.eq_ofNat_of_zero_le hc.1
  have e : (x : Int) * y / 18446744073709551616 = ((x * y / 18446744073709551616 : Nat) : Int) := by simp
  by_cases h : z ≤ x * y / 18446744073709551616
  · have h' : (z : Int) ≤ (x : Int) * y / 18446744073709551616 := by rw [e]; exact Int.ofNat_le.2 h
    rw [show M.spQ x y z = 0 from if_pos h', show M.spR x y z = 0 from if_pos h', show M.spB x y z = false from if_pos h']
    refine Fn.of_calls (xs := [.int .u64 x, .int .u64 y, .int .u64 z]) (by kernel_rfl) (by repeat' (first | exact rfl | exact Iff.rfl | exact trivial | exact (fun _ _ => rfl) | exact (fun _ h => absurd h (Nat.not_lt_zero _)) | refine ⟨?_, ?_⟩ | exact Iff.rfl | exact congrArg (fun z => V.SV.one (V.At.val (Value.int .i64 z))) (by omega))) fun w => ?_
    refine (msplit_no x y z (by omega) (by omega) h w).mono ?_
    rintro e w' ⟨rfl, rfl⟩
    exact ⟨rfl, Below.refl _ _⟩
  · have h' : ¬ (z : Int) ≤ (x : Int) * y / 18446744073709551616 := by rw [e]; exact fun q => h (Int.ofNat_le.1 q)
    rw [show M.spQ x y z = _ from if_neg h', show M.spR x y z = _ from if_neg h', show M.spB x y z = _ from if_neg h']
    refine Fn.of_calls (xs := [.int .u64 x, .int .u64 y, .int .u64 z]) (by kernel_rfl) (by repeat' (first | exact rfl | exact Iff.rfl | exact trivial | exact (fun _ _ => rfl) | exact (fun _ h => absurd h (Nat.not_lt_zero _)) | refine ⟨?_, ?_⟩ | exact Iff.rfl | exact congrArg (fun z => V.SV.one (V.At.val (Value.int .i64 z))) (by omega))) fun w => ?_
    refine (msplit_yes x y z (x * y / z) (x * y % z) (by omega) (by omega) (by omega) (by omega) rfl rfl w).mono ?_
    rintro e w' ⟨rfl, hb⟩
    exact ⟨by simp, hb⟩
namespace M
def rawQ (a b c : Int) : Int := if 0 ≤ a then IntKind.i64.wrap (spQ a b c) else if spR (0 - a) b c = 0 then IntKind.i64.wrap (0 - IntKind.i64.wrap (spQ (0 - a) b c)) else IntKind.i64.wrap (IntKind.i64.wrap (0 - IntKind.i64.wrap (spQ (0 - a) b c)) - 1)
def rawR (a b c : Int) : Int := if 0 ≤ a then spR a b c else if spR (0 - a) b c = 0 then 0 else c - spR (0 - a) b c
def rawB (a b c : Int) : Bool := if 0 ≤ a then spB a b c else if spR (0 - a) b c = 0 then spB (0 - a) b c else (spB (0 - a) b c && decide (spQ (0 - a) b c < 1152921504606846976))
theorem raw_1 {a b c : Int} (h : 0 ≤ a) : rawQ a b c = IntKind.i64.wrap (spQ a b c) ∧ rawR a b c = spR a b c ∧ rawB a b c = spB a b c := ⟨if_pos h, if_pos h, if_pos h⟩
theorem raw_2 {a b c : Int} (h : ¬ 0 ≤ a) (k : spR (0 - a) b c = 0) : rawQ a b c = IntKind.i64.wrap (0 - IntKind.i64.wrap (spQ (0 - a) b c)) ∧ rawR a b c = 0 ∧ rawB a b c = spB (0 - a) b c := by
  unfold rawQ rawR rawB; rw [if_neg h, if_pos k, if_neg h, if_pos k, if_neg h, if_pos k]; exact ⟨rfl, rfl, rfl⟩
theorem raw_3 {a b c : Int} (h : ¬ 0 ≤ a) (k : ¬ spR (0 - a) b c = 0) : rawQ a b c = IntKind.i64.wrap (IntKind.i64.wrap (0 - IntKind.i64.wrap (spQ (0 - a) b c)) - 1) ∧ rawR a b c = c - spR (0 - a) b c ∧ rawB a b c = (spB (0 - a) b c && decide (spQ (0 - a) b c < 1152921504606846976)) := by
  unfold rawQ rawR rawB; rw [if_neg h, if_neg k, if_neg h, if_neg k, if_neg h, if_neg k]; exact ⟨rfl, rfl, rfl⟩
theorem spR_bd {a b c : Int} (hc : 1 ≤ c) : 0 ≤ spR a b c ∧ spR a b c < c := by
  unfold spR; split
  · omega
  · exact r_bd hc
theorem tmod2 (x : Int) : x.tmod 2 = 0 ↔ x % 2 = 0 := by rw [← Int.dvd_iff_tmod_eq_zero, ← Int.dvd_iff_emod_eq_zero]
theorem ne_yes {a b c v : Int} (h : prE a b c = 0) (hv : v = up (prQ a b c) (prR a b c) c) (k : chk v = 0) : neV a b c = v ∧ neE a b c = 0 := by
  obtain ⟨p, q⟩ := pr_ok h
  rw [(pr_3 p q).2.1, (pr_3 p q).2.2] at hv
  have k2 := chk_ok k
  rw [hv] at k2
  rw [(ne_3 h k2).1, (ne_3 h k2).2, hv]; exact ⟨rfl, rfl⟩
theorem ne_no {a b c v : Int} (h : prE a b c = 0) (hv : v = up (prQ a b c) (prR a b c) c) (k : ¬ chk v = 0) : neV a b c = 0 ∧ neE a b c = 8 := by
  obtain ⟨p, q⟩ := pr_ok h
  rw [(pr_3 p q).2.1, (pr_3 p q).2.2] at hv
  have k2 := chk_nok k
  rw [hv] at k2
  rw [(ne_2 h k2).1, (ne_2 h k2).2]; exact ⟨rfl, rfl⟩
theorem to_1 {l : List Int} (h : 40 < l.length) : toV l = 0 ∧ toE l = 2 := by
  have e : toE l = 2 := if_pos h
  exact ⟨by unfold toV; rw [if_neg (by omega)], e⟩
theorem to_2 {l : List Int} (h : ¬ 40 < l.length) (k : ¬ chks l = 0) : toV l = 0 ∧ toE l = chks l := by
  have e : toE l = chks l := by unfold toE; rw [if_neg h, if_pos k]
  exact ⟨by unfold toV; rw [if_neg (by omega)], e⟩
theorem to_3 {l : List Int} (h : ¬ 40 < l.length) (k : chks l = 0) (q : ¬ Amt (sum l)) : toV l = 0 ∧ toE l = 8 := by
  have e : toE l = 8 := by unfold toE; rw [if_neg h, if_neg (by omega), if_pos q]
  exact ⟨by unfold toV; rw [if_neg (by omega)], e⟩
theorem i64w {e : Int} (h : -9223372036854775808 ≤ e ∧ e ≤ 9223372036854775807) : IntKind.i64.wrap e = e := IntWalk.i64_in e h
theorem sp_in {a b c : Int} (hc : 1 ≤ c ∧ c ≤ 1099511627776) (ha : 0 ≤ a) (hb : 0 ≤ b) (k : a * b / c ≤ 1152921504606846976) : spQ a b c = a * b / c ∧ spR a b c = a * b % c ∧ spB a b c = true := by
  have hab : 0 ≤ a * b := Int.mul_nonneg ha hb
  have e := qr (a * b) c
  have r := r_bd (x := a * b) hc.1
  have lt : ¬ c ≤ a * b / 18446744073709551616 := by
    intro q
    have h1 : c * 18446744073709551616 ≤ a * b := (Int.le_ediv_iff_mul_le (by omega)).1 q
    have h2 : c * (a * b / c) ≤ c * 1152921504606846976 := Int.mul_le_mul_of_nonneg_left k (by omega)
    omega
  exact ⟨if_neg lt, if_neg lt, (if_neg lt).trans (decide_eq_true k)⟩
theorem sp_out {a b c : Int} (hc : 1 ≤ c ∧ c ≤ 1099511627776) (ha : 0 ≤ a) (hb : 0 ≤ b) (k : spB a b c = true) : a * b / c ≤ 1152921504606846976 := by
  unfold spB at k
  split at k
  · cases k
  · exact of_decide_eq_true k
theorem raw_at {a b c : Int} (h : POk a b c) : (rawB a b c = true ↔ Amt (a * b / c)) ∧ (Amt (a * b / c) → rawQ a b c = a * b / c ∧ rawR a b c = a * b % c) := by
  obtain ⟨⟨a0, a1⟩, ⟨b0, b1⟩, hc⟩ := h
  by_cases ha : 0 ≤ a
  · obtain ⟨e1, e2, e3⟩ := raw_1 (b := b) (c := c) ha
    have q0 : 0 ≤ a * b / c := Int.ediv_nonneg (Int.mul_nonneg ha b0) (by omega)
    rw [e1, e2, e3]
    refine ⟨⟨fun k => ⟨by omega, sp_out hc ha b0 k⟩, fun k => (sp_in hc ha b0 k.2).2.2⟩, fun k => ?_⟩
    obtain ⟨s1, s2, _⟩ := sp_in hc ha b0 k.2
    have k2 := k.2
    rw [s1, s2, i64w (by omega)]; exact ⟨rfl, rfl⟩
  · have hn : 0 ≤ 0 - a := by omega
    have em : a * b = -((0 - a) * b) := by rw [Int.zero_sub, Int.neg_mul, Int.neg_neg]
    have q0 : 0 ≤ (0 - a) * b / c := Int.ediv_nonneg (Int.mul_nonneg hn b0) (by omega)
    rw [em]
    by_cases k : (0 - a) * b / c ≤ 1152921504606846976
    · obtain ⟨s1, s2, s3⟩ := sp_in hc hn b0 k
      rcases neg_part (x := (0 - a) * b) hc.1 with ⟨z, n1, n2⟩ | ⟨z, n1, n2⟩
      · obtain ⟨e1, e2, e3⟩ := raw_2 (b := b) (c := c) ha (by rw [s2]; exact z)
        rw [e1, e2, e3, n1, n2, s1, s3, i64w (e := (0 - a) * b / c) (by omega), i64w (by omega)]
        refine ⟨⟨fun _ => ⟨by omega, by omega⟩, fun _ => rfl⟩, fun _ => ⟨by omega, rfl⟩⟩
      · obtain ⟨e1, e2, e3⟩ := raw_3 (b := b) (c := c) ha (by rw [s2]; omega)
        rw [e1, e2, e3, n1, n2, s1, s2, s3, i64w (e := (0 - a) * b / c) (by omega), i64w (e := 0 - _) (by omega), i64w (by omega)]
        refine ⟨?_, fun _ => ⟨by omega, rfl⟩⟩
        unfold Amt
        simp only [Bool.true_and, decide_eq_true_eq]
        omega
    · have sb : spB (0 - a) b c = false := by
        rw [Bool.eq_false_iff]; exact fun q => k (sp_out hc hn b0 q)
      have na : ¬ Amt (-((0 - a) * b) / c) := by
        unfold Amt
        rcases neg_part (x := (0 - a) * b) hc.1 with ⟨z, n1, n2⟩ | ⟨z, n1, n2⟩ <;> omega
      have rb : rawB a b c = false := by
        by_cases z : spR (0 - a) b c = 0
        · rw [(raw_2 (b := b) (c := c) ha z).2.2]; exact sb
        · rw [(raw_3 (b := b) (c := c) ha z).2.2, sb]; rfl
      rw [rb]
      exact ⟨⟨fun q => (nomatch q), fun q => absurd q na⟩, fun q => absurd q na⟩
theorem raw_ok {a b c : Int} (h : POk a b c) (k : rawB a b c = true) : Amt (a * b / c) ∧ rawQ a b c = a * b / c ∧ rawR a b c = a * b % c := ⟨(raw_at h).1.1 k, (raw_at h).2 ((raw_at h).1.1 k)⟩
theorem raw_nok {a b c : Int} (h : POk a b c) (k : ¬ rawB a b c = true) : ¬ Amt (a * b / c) := fun q => k ((raw_at h).1.2 q)
end M
set_option maxHeartbeats 1000000 in
theorem v_raw (a b c : Int) (h : M.POk a b c) : V.Fn Try.prog 86 [] [.one (.val (.int .i64 a)), .one (.val (.int .i64 b)), .one (.val (.int .i64 c))] (.tuple #[.int .i64 (M.rawQ a b c), .int .i64 (M.rawR a b c), .bool (M.rawB a b c)]) := by
  obtain ⟨⟨a0, a1⟩, ⟨b0, b1⟩, c0, c1⟩ := h
  have r1 := M.spR_bd (a := a) (b := b) c0
  have r2 := M.spR_bd (a := 0 - a) (b := b) c0
  refine V.Fn.mk_ V.Tok V.mixed Try.func86 rfl Try.ntmps86 (by kernel_rfl) rfl rfl ?_
  repeat' ((conv => whnf); first | refine V.NCond.mk ?_ | refine V.NIf.not_ ?_ | refine V.NIf.dec_ ?_ | refine V.NIf.no (by omega) ?_ | refine V.NIf.yes (by omega) ?_ | refine V.NIf.mk (fun _ => ?_) (fun _ => ?_) | refine V.NWrap.ok (by omega) (by omega) ?_ | refine V.NWrap.u64 (by omega) (by omega) ?_ | refine V.NLt.mk (by omega) ?_ | refine V.NBoth.mk ?_ ?_ | refine V.NTF.yes (by omega) ?_ | refine V.NTF.no (by omega) ?_ | refine V.NTF.dec ?_ | refine V.NDraw.q (by exact rfl) (by kernel_rfl) ?_ | refine V.NApp.one (by first | omega | (simp; omega)) (by first | omega | (simp; omega)) ?_ | (first | refine V.Fn.k0 (v_split a b c (by omega) (by omega) (by omega)) rfl ?_ | refine V.Fn.q0 (v_split a b c (by omega) (by omega) (by omega)) rfl ?_ | refine V.Fn.a0 (v_split a b c (by omega) (by omega) (by omega)) rfl ?_) | (first | refine V.Fn.k0 (v_split (0 - a) b c (by omega) (by omega) (by omega)) rfl ?_ | refine V.Fn.q0 (v_split (0 - a) b c (by omega) (by omega) (by omega)) rfl ?_ | refine V.Fn.a0 (v_split (0 - a) b c (by omega) (by omega) (by omega)) rfl ?_) | (refine NWrap.mk ?_) | (refine V.NDraw.any (by kernel_rfl) ?_) | fail)
  · obtain ⟨e1, e2, e3⟩ := M.raw_1 (a := a) (b := b) (c := c) (by assumption)
    rw [e1, e2, e3]; exact (by repeat' (first | exact rfl | exact Iff.rfl | exact trivial | exact (fun _ _ => rfl) | exact (fun _ h => absurd h (Nat.not_lt_zero _)) | refine ⟨?_, ?_⟩ | exact Iff.rfl | exact congrArg (fun z => V.SV.one (V.At.val (Value.int .i64 z))) (by omega)))
  · obtain ⟨e1, e2, e3⟩ := M.raw_2 (a := a) (b := b) (c := c) (by assumption) (by assumption)
    rw [e1, e2, e3]; exact (by repeat' (first | exact rfl | exact Iff.rfl | exact trivial | exact (fun _ _ => rfl) | exact (fun _ h => absurd h (Nat.not_lt_zero _)) | refine ⟨?_, ?_⟩ | exact Iff.rfl | exact congrArg (fun z => V.SV.one (V.At.val (Value.int .i64 z))) (by omega)))
  all_goals obtain ⟨e1, e2, e3⟩ := M.raw_3 (a := a) (b := b) (c := c) (by assumption) (by assumption)
  all_goals rw [e1, e2, e3]
  all_goals (conv => whnf)
  all_goals (repeat' (first | exact rfl | exact trivial | (refine ⟨_, rfl, ?_⟩; simp_all; done) | (refine ⟨?_, ?_⟩) | exact congrArg Value.bool (by simp_all) | (simp_all; done)))
theorem v_mcheck (a b c : Int) : V.Fn Try.prog 85 [] [.one (.val (.int .i64 a)), .one (.val (.int .i64 b)), .one (.val (.int .i64 c))] (.int .i64 (M.ckE a b c)) := by
  refine V.Fn.mk_ V.Tok V.mixed Try.func85 rfl Try.ntmps85 (by kernel_rfl) rfl rfl ?_
  repeat' ((conv => whnf); first | refine V.NCond.mk ?_ | refine V.NIf.not_ ?_ | refine V.NIf.dec_ ?_ | refine V.NIf.no (by omega) ?_ | refine V.NIf.yes (by omega) ?_ | refine V.NIf.mk (fun _ => ?_) (fun _ => ?_) | refine V.NWrap.ok (by omega) (by omega) ?_ | refine V.NWrap.u64 (by omega) (by omega) ?_ | refine V.NLt.mk (by omega) ?_ | refine V.NBoth.mk ?_ ?_ | refine V.NTF.yes (by omega) ?_ | refine V.NTF.no (by omega) ?_ | refine V.NTF.dec ?_ | refine V.NDraw.q (by exact rfl) (by kernel_rfl) ?_ | refine V.NApp.one (by first | omega | (simp; omega)) (by first | omega | (simp; omega)) ?_ | (first | refine V.Fn.k0 (v_check _) rfl ?_ | refine V.Fn.q0 (v_check _) rfl ?_ | refine V.Fn.a0 (v_check _) rfl ?_) | (first | refine V.Fn.k0 (v_mwithin _ _ _) rfl ?_ | refine V.Fn.q0 (v_mwithin _ _ _) rfl ?_ | refine V.Fn.a0 (v_mwithin _ _ _) rfl ?_) | (refine V.NDraw.any (by kernel_rfl) ?_) | fail)
  all_goals (conv => whnf)
  all_goals refine congrArg (Value.int .i64) ?_
  all_goals first
    | exact (M.ck_yes ⟨M.chk_ok (by assumption), by omega, by omega⟩).symm
    | exact (M.ck_no fun q => by have := q.2; omega).symm
    | (have k := M.chk_nok (a := a) (by assumption); rw [M.ck_no fun q => k q.1, M.chk_no k])
theorem v_part (a b c : Int) : V.Fn Try.prog 78 [] [.one (.val (.int .i64 a)), .one (.val (.int .i64 b)), .one (.val (.int .i64 c))] (.tuple #[.int .i64 (M.prQ a b c), .int .i64 (M.prR a b c), .int .i64 (M.prE a b c)]) := by
  refine V.Fn.mk_ V.Tok V.mixed Try.func78 rfl Try.ntmps78 (by kernel_rfl) rfl rfl ?_
  repeat' ((conv => whnf); first | refine V.NCond.mk ?_ | refine V.NIf.not_ ?_ | refine V.NIf.dec_ ?_ | refine V.NIf.no (by omega) ?_ | refine V.NIf.yes (by omega) ?_ | refine V.NIf.mk (fun _ => ?_) (fun _ => ?_) | refine V.NWrap.ok (by omega) (by omega) ?_ | refine V.NWrap.u64 (by omega) (by omega) ?_ | refine V.NLt.mk (by omega) ?_ | refine V.NBoth.mk ?_ ?_ | refine V.NTF.yes (by omega) ?_ | refine V.NTF.no (by omega) ?_ | refine V.NTF.dec ?_ | refine V.NDraw.q (by exact rfl) (by kernel_rfl) ?_ | refine V.NApp.one (by first | omega | (simp; omega)) (by first | omega | (simp; omega)) ?_ | (first | refine V.Fn.k0 (v_mcheck _ _ _) rfl ?_ | refine V.Fn.q0 (v_mcheck _ _ _) rfl ?_ | refine V.Fn.a0 (v_mcheck _ _ _) rfl ?_) | (first | refine V.Fn.k0 (v_raw a b c (M.ck_ok (by assumption))) rfl ?_ | refine V.Fn.q0 (v_raw a b c (M.ck_ok (by assumption))) rfl ?_ | refine V.Fn.a0 (v_raw a b c (M.ck_ok (by assumption))) rfl ?_) | (refine V.NDraw.any (by kernel_rfl) ?_) | fail)
  · have h := M.ck_ok (by assumption)
    obtain ⟨k, e1, e2⟩ := M.raw_ok h (by assumption)
    rw [e1, e2, (M.pr_3 h k).1, (M.pr_3 h k).2.1, (M.pr_3 h k).2.2]; exact (by repeat' (first | exact rfl | exact Iff.rfl | exact trivial | exact (fun _ _ => rfl) | exact (fun _ h => absurd h (Nat.not_lt_zero _)) | refine ⟨?_, ?_⟩ | exact Iff.rfl | exact congrArg (fun z => V.SV.one (V.At.val (Value.int .i64 z))) (by omega)))
  · have h := M.ck_ok (by assumption)
    have k := M.raw_nok h (by assumption)
    rw [(M.pr_2 h k).1, (M.pr_2 h k).2.1, (M.pr_2 h k).2.2]; exact (by repeat' (first | exact rfl | exact Iff.rfl | exact trivial | exact (fun _ _ => rfl) | exact (fun _ h => absurd h (Nat.not_lt_zero _)) | refine ⟨?_, ?_⟩ | exact Iff.rfl | exact congrArg (fun z => V.SV.one (V.At.val (Value.int .i64 z))) (by omega)))
  · have h := M.ck_nok (by assumption)
    rw [(M.pr_1 h).1, (M.pr_1 h).2.1, (M.pr_1 h).2.2, M.ck_no h]; exact (by repeat' (first | exact rfl | exact Iff.rfl | exact trivial | exact (fun _ _ => rfl) | exact (fun _ h => absurd h (Nat.not_lt_zero _)) | refine ⟨?_, ?_⟩ | exact Iff.rfl | exact congrArg (fun z => V.SV.one (V.At.val (Value.int .i64 z))) (by omega)))
end Go.Proofs.Yteblbhbfdfifpaa

/- Plain facts on sums that are taken from above and below. -/
namespace Go.Proofs.Yteblbhbfdfifpaa
namespace M
def mo (l : List Int) : List Int := l.filter fun a => decide (0 ≤ a)
def le (l : List Int) : List Int := l.filter fun a => !decide (0 ≤ a)
theorem mo_snoc {l : List Int} {k : Nat} (h : k < l.length) : mo (l.take (k + 1)) = if 0 ≤ l[k] then mo (l.take k) ++ [l[k]] else mo (l.take k) := by
  unfold mo; rw [List.take_succ_eq_append_getElem h, List.filter_append]; split <;> simp_all
theorem le_snoc {l : List Int} {k : Nat} (h : k < l.length) : le (l.take (k + 1)) = if 0 ≤ l[k] then le (l.take k) else le (l.take k) ++ [l[k]] := by
  unfold le; rw [List.take_succ_eq_append_getElem h, List.filter_append]; split <;> simp_all
theorem mole_len (l : List Int) (k : Nat) (h : k ≤ l.length) : (mo (l.take k)).length ≤ k ∧ (le (l.take k)).length ≤ k := by
  have h1 := List.length_filter_le (fun a : Int => decide (0 ≤ a)) (l.take k)
  have h2 := List.length_filter_le (fun a : Int => !decide (0 ≤ a)) (l.take k)
  rw [List.length_take_of_le h] at h1 h2
  exact ⟨h1, h2⟩
theorem mole_sum : ∀ l : List Int, sum (mo l) + sum (le l) = sum l
  | [] => rfl
  | a :: r => by
    have := mole_sum r
    unfold mo le at *
    by_cases h : 0 ≤ a <;> simp [h, sum] <;> omega
theorem sum_take_drop (l : List Int) (i : Nat) : sum (l.take i) + sum (l.drop i) = sum l := by rw [← sum_append, List.take_append_drop]
theorem sum_take_succ {l : List Int} {i : Nat} (h : i < l.length) : sum (l.take (i + 1)) = sum (l.take i) + l[i] := by
  rw [List.take_succ_eq_append_getElem h, sum_append]; simp [sum]
theorem sum_pos {l : List Int} (h : ∀ a ∈ l, 0 ≤ a) : 0 ≤ sum l := by
  induction l with
  | nil => simp [sum]
  | cons a r ih => have := h a (by simp); have := ih fun x hx => h x (by simp [hx]); simp only [sum]; omega
theorem sum_neg {l : List Int} (h : ∀ a ∈ l, a ≤ 0) : sum l ≤ 0 := by
  induction l with
  | nil => simp [sum]
  | cons a r ih => have := h a (by simp); have := ih fun x hx => h x (by simp [hx]); simp only [sum]; omega
theorem sum_drop_pos {l : List Int} (h : ∀ a ∈ l, 0 ≤ a) (i : Nat) : sum (l.take i) + sum (l.drop i) = sum l ∧ 0 ≤ sum (l.drop i) ∧ (l.length ≤ i → sum (l.drop i) = 0) ∧ (i < l.length → l.getD (0 + i) default ≤ sum (l.drop i) ∧ sum (l.take (i + 1)) = sum (l.take i) + l.getD (0 + i) default) := by
  refine ⟨sum_take_drop l i, sum_pos fun a ha => h a (List.mem_of_mem_drop ha), fun hi => by rw [List.drop_eq_nil_of_le hi]; rfl, fun hi => ?_⟩
  rw [Nat.zero_add, getD_at hi]
  refine ⟨?_, sum_take_succ hi⟩
  rw [List.drop_eq_getElem_cons hi]
  have := sum_pos (l := l.drop (i + 1)) fun a ha => h a (List.mem_of_mem_drop ha)
  simp only [sum]; omega
theorem sum_drop_neg {l : List Int} (h : ∀ a ∈ l, a ≤ 0) (i : Nat) : sum (l.take i) + sum (l.drop i) = sum l ∧ sum (l.drop i) ≤ 0 ∧ (l.length ≤ i → sum (l.drop i) = 0) ∧ (i < l.length → sum (l.drop i) ≤ l.getD (0 + i) default ∧ sum (l.take (i + 1)) = sum (l.take i) + l.getD (0 + i) default) := by
  refine ⟨sum_take_drop l i, sum_neg fun a ha => h a (List.mem_of_mem_drop ha), fun hi => by rw [List.drop_eq_nil_of_le hi]; rfl, fun hi => ?_⟩
  rw [Nat.zero_add, getD_at hi]
  refine ⟨?_, sum_take_succ hi⟩
  rw [List.drop_eq_getElem_cons hi]
  have := sum_neg (l := l.drop (i + 1)) fun a ha => h a (List.mem_of_mem_drop ha)
  simp only [sum]; omega
theorem mo_pos (l : List Int) : ∀ a ∈ mo l, 0 ≤ a := fun a h => by simpa using (List.mem_filter.1 h).2
theorem le_neg (l : List Int) : ∀ a ∈ le l, a ≤ 0 := fun a h => by have := (List.mem_filter.1 h).2; simp at this; omega
end M
namespace M
def sofV (l : List Int) : Int := if -2305843009213693952 ≤ sum l ∧ sum l ≤ 2305843009213693952 then sum l else 0
end M
end Go.Proofs.Yteblbhbfdfifpaa

/- What the document's answers on amounts are. -/
namespace Go.Proofs.Yteblbhbfdfifpaa
open Go Go.RowKit V
set_option maxRecDepth 100000
set_option linter.unusedVariables false
namespace M
theorem chk0 {a : Int} : chk a = 0 ↔ (-1152921504606846976 ≤ a ∧ a ≤ 1152921504606846976) := ⟨chk_ok, chk_yes⟩
end M
namespace M
def poQ (a b c : Int) : Int := if 2305843009213693952 < a * b / c then -1 else a * b / c
def poR (a b c : Int) : Int := if 2305843009213693952 < a * b / c then 0 else a * b % c
theorem bit2 (b : Int) (m : Nat) : b / 2 ^ m = 2 * (b / 2 ^ (m + 1)) + b / 2 ^ m % 2 := by
  have p : (0 : Int) ≤ 2 ^ m := Int.le_of_lt (Int.pow_pos (by omega))
  rw [Int.pow_succ, ← Int.ediv_ediv_of_nonneg p]
  omega
theorem po1 {a b c q r t : Int} {m : Nat} (hJ : q * c + r = a * (b / 2 ^ (m + 1))) (ht : t = b / 2 ^ m % 2) (h1 : t = 1) : (2 * q + a / c + (2 * r + a % c) / c) * c + (2 * r + a % c) % c = a * (b / 2 ^ m) := by
  have h2 := qr a c
  have h3 := qr (2 * r + a % c) c
  have h4 := bit2 b m
  generalize b / 2 ^ m = X at *
  generalize b / 2 ^ (m + 1) = Y at *
  have h5 : X = 2 * Y + 1 := by omega
  clear h4 ht
  grind
theorem po0 {a b c q r t : Int} {m : Nat} (hJ : q * c + r = a * (b / 2 ^ (m + 1))) (ht : t = b / 2 ^ m % 2) (h0 : 0 ≤ t) (h2 : t < 2) (h1 : ¬ t = 1) : (2 * q + (2 * r) / c) * c + (2 * r) % c = a * (b / 2 ^ m) := by
  have h3 := qr (2 * r) c
  have h4 := bit2 b m
  generalize b / 2 ^ m = X at *
  generalize b / 2 ^ (m + 1) = Y at *
  have h5 : X = 2 * Y := by omega
  clear h4 ht
  grind
theorem po_big {a b c Q R : Int} {m : Nat} (ha : 0 ≤ a) (hb : 0 ≤ b) (hc : 1 ≤ c) (h : Q * c + R = a * (b / 2 ^ m)) (hR : 0 ≤ R) (hQ : 2305843009213693952 < Q) : -1 = poQ a b c ∧ 0 = poR a b c := by
  have h1 : b / 2 ^ m ≤ b := Int.ediv_le_self _ hb
  have h2 : a * (b / 2 ^ m) ≤ a * b := Int.mul_le_mul_of_nonneg_left h1 ha
  have h3 : Q ≤ a * b / c := (Int.le_ediv_iff_mul_le (by omega)).2 (by omega)
  unfold poQ poR
  rw [if_pos (by omega), if_pos (by omega)]; exact ⟨rfl, rfl⟩
theorem po_end {a b c q r : Int} (hc : 1 ≤ c) (h : q * c + r = a * (b / 2 ^ 0)) (hr : 0 ≤ r ∧ r < c) (hq : q ≤ 2305843009213693952) : q = poQ a b c ∧ r = poR a b c := by
  have e : b / 2 ^ 0 = b := by simp
  rw [e] at h
  have h1 : a * b / c = q := by
    rw [← h, Int.add_comm, Int.add_mul_ediv_right _ _ (by omega), Int.ediv_eq_zero_of_lt hr.1 hr.2]; omega
  have h2 : a * b % c = r := by
    rw [← h, Int.add_comm, Int.add_mul_emod_self_right]; exact Int.emod_eq_of_lt hr.1 hr.2
  unfold poQ poR
  rw [if_neg (by omega), if_neg (by omega), h1, h2]; exact ⟨rfl, rfl⟩
end M
set_option maxHeartbeats 1000000 in
theorem v_partOf (a b c : Int) (ha : 0 ≤ a ∧ a ≤ 1152921504606846976) (hb : 0 ≤ b ∧ b ≤ 1099511627776) (hc : 1 ≤ c ∧ c ≤ 1099511627776) : V.Fn Try.prog 36 [] [.one (.val (.int .i64 a)), .one (.val (.int .i64 b)), .one (.val (.int .i64 c))] (.tuple #[.int .i64 (M.poQ a b c), .int .i64 (M.poR a b c)]) := by
  refine V.Fn.mk_ V.Tok V.mixed Try.func36 rfl Try.ntmps36 (by kernel_rfl) rfl rfl ?_
  (conv => whnf)
  refine V.NLoop.auto (fun (⟨n, q, r⟩ : Nat × Int × Int) => [(8, .one (.val (.int .i64 q))), (9, .one (.val (.int .i64 r))), (10, .one (.val (.int .i64 ((n : Int) - 1))))]) (fun (⟨n, q, r⟩ : Nat × Int × Int) => []) [] [] (fun (⟨n, q, r⟩ : Nat × Int × Int) => n) (fun (⟨n, q, r⟩ : Nat × Int × Int) => n ≤ 41 ∧ q * c + r = a * (b / 2 ^ n) ∧ (0 ≤ r ∧ r < c) ∧ 0 ≤ q ∧ q ≤ 2305843009213693952) (41, 0, 0) ⟨by omega, (by rw [Int.ediv_eq_zero_of_lt (by omega) (by omega)]; omega), by omega, by omega⟩ (by repeat' (first | exact rfl | exact Iff.rfl | exact trivial | exact (fun _ _ => rfl) | exact (fun _ h => absurd h (Nat.not_lt_zero _)) | refine ⟨?_, ?_⟩ | exact Iff.rfl | exact congrArg (fun z => V.SV.one (V.At.val (Value.int .i64 z))) (by omega))) (by repeat' (first | exact rfl | exact Iff.rfl | exact trivial | exact (fun _ _ => rfl) | exact (fun _ h => absurd h (Nat.not_lt_zero _)) | refine ⟨?_, ?_⟩ | exact Iff.rfl | exact congrArg (fun z => V.SV.one (V.At.val (Value.int .i64 z))) (by omega))) (fun _ => ⟨rfl, rfl⟩) ?_; (conv => whnf); refine ⟨⟨rfl, rfl⟩, ?_⟩
  rintro ⟨n, q, r⟩ ⟨hn, hJ, hr, hq⟩
  cases n with
  | zero =>
    repeat' ((conv => whnf); first | refine V.NCond.mk ?_ | refine V.NIf.not_ ?_ | refine V.NIf.dec_ ?_ | refine V.NIf.no (by omega) ?_ | refine V.NIf.yes (by omega) ?_ | refine V.NIf.mk (fun _ => ?_) (fun _ => ?_) | refine V.NWrap.ok (by omega) (by omega) ?_ | refine V.NWrap.u64 (by omega) (by omega) ?_ | refine V.NLt.mk (by omega) ?_ | refine V.NBoth.mk ?_ ?_ | refine V.NTF.yes (by omega) ?_ | refine V.NTF.no (by omega) ?_ | refine V.NTF.dec ?_ | refine V.NDraw.q (by exact rfl) (by kernel_rfl) ?_ | refine V.NApp.one (by first | omega | (simp; omega)) (by first | omega | (simp; omega)) ?_ | (refine V.NDraw.any (by kernel_rfl) ?_) | fail)
    exact V.nif2 (M.po_end hc.1 hJ hr hq.2)
  | succ m =>
    repeat' ((conv => whnf); first | (refine NRem.pos (y := 2) (by omega) (by omega) ?_; intro t ht ht0 ht1) | refine V.NCond.mk ?_ | refine V.NIf.not_ ?_ | refine V.NIf.dec_ ?_ | refine V.NIf.no (by omega) ?_ | refine V.NIf.yes (by omega) ?_ | refine V.NIf.mk (fun _ => ?_) (fun _ => ?_) | refine V.NWrap.ok (by omega) (by omega) ?_ | refine V.NWrap.u64 (by omega) (by omega) ?_ | refine V.NLt.mk (by omega) ?_ | refine V.NBoth.mk ?_ ?_ | refine V.NTF.yes (by omega) ?_ | refine V.NTF.no (by omega) ?_ | refine V.NTF.dec ?_ | refine V.NDraw.q (by exact rfl) (by kernel_rfl) ?_ | refine V.NApp.one (by first | omega | (simp; omega)) (by first | omega | (simp; omega)) ?_ | (refine NShr.i64 m (by omega) (by omega) (by omega) ?_; intro x hx hx0 hx1) | (refine NRem.pos (by omega) (by omega) ?_; intro z hz hz0 hz1) | (refine NQuo.pos (by omega) (by omega) (by omega) ?_; intro z hz hz0 hz1) | (refine V.NDraw.any (by kernel_rfl) ?_) | fail)
    all_goals (conv => whnf)
    all_goals rename_i hz hz0 hz1 _
    all_goals subst_vars
    · exact V.nif2 (M.po_big ha.1 hb.1 hc.1 (M.po1 hJ rfl (by omega)) (by assumption) (by assumption))
    · refine V.NBack.at_ (m, _, _) [] ⟨by omega, M.po1 hJ rfl (by omega), ⟨by assumption, by assumption⟩, ?_, ?_⟩ (by show m < m + 1; omega) (by repeat' (first | exact rfl | exact Iff.rfl | exact trivial | exact (fun _ _ => rfl) | exact (fun _ h => absurd h (Nat.not_lt_zero _)) | refine ⟨?_, ?_⟩ | exact Iff.rfl | exact congrArg (fun z => V.SV.one (V.At.val (Value.int .i64 z))) (by omega))) rfl (by repeat' (first | exact rfl | exact Iff.rfl | exact trivial | exact (fun _ _ => rfl) | exact (fun _ h => absurd h (Nat.not_lt_zero _)) | refine ⟨?_, ?_⟩ | exact Iff.rfl | exact congrArg (fun z => V.SV.one (V.At.val (Value.int .i64 z))) (by omega))) (by repeat' (first | exact rfl | exact Iff.rfl | exact trivial | exact (fun _ _ => rfl) | exact (fun _ h => absurd h (Nat.not_lt_zero _)) | refine ⟨?_, ?_⟩ | exact Iff.rfl | exact congrArg (fun z => V.SV.one (V.At.val (Value.int .i64 z))) (by omega))) (by repeat' (first | exact rfl | exact Iff.rfl | exact trivial | exact (fun _ _ => rfl) | exact (fun _ h => absurd h (Nat.not_lt_zero _)) | refine ⟨?_, ?_⟩ | exact Iff.rfl | exact congrArg (fun z => V.SV.one (V.At.val (Value.int .i64 z))) (by omega))) <;> omega
    · exact V.nif2 (M.po_big ha.1 hb.1 hc.1 (M.po0 hJ rfl (by omega) (by omega) (by omega)) (by assumption) (by assumption))
    · refine V.NBack.at_ (m, _, _) [] ⟨by omega, M.po0 hJ rfl (by omega) (by omega) (by omega), ⟨by assumption, by assumption⟩, ?_, ?_⟩ (by show m < m + 1; omega) (by repeat' (first | exact rfl | exact Iff.rfl | exact trivial | exact (fun _ _ => rfl) | exact (fun _ h => absurd h (Nat.not_lt_zero _)) | refine ⟨?_, ?_⟩ | exact Iff.rfl | exact congrArg (fun z => V.SV.one (V.At.val (Value.int .i64 z))) (by omega))) rfl (by repeat' (first | exact rfl | exact Iff.rfl | exact trivial | exact (fun _ _ => rfl) | exact (fun _ h => absurd h (Nat.not_lt_zero _)) | refine ⟨?_, ?_⟩ | exact Iff.rfl | exact congrArg (fun z => V.SV.one (V.At.val (Value.int .i64 z))) (by omega))) (by repeat' (first | exact rfl | exact Iff.rfl | exact trivial | exact (fun _ _ => rfl) | exact (fun _ h => absurd h (Nat.not_lt_zero _)) | refine ⟨?_, ?_⟩ | exact Iff.rfl | exact congrArg (fun z => V.SV.one (V.At.val (Value.int .i64 z))) (by omega))) (by repeat' (first | exact rfl | exact Iff.rfl | exact trivial | exact (fun _ _ => rfl) | exact (fun _ h => absurd h (Nat.not_lt_zero _)) | refine ⟨?_, ?_⟩ | exact Iff.rfl | exact congrArg (fun z => V.SV.one (V.At.val (Value.int .i64 z))) (by omega))) <;> omega
namespace M
theorem po_at {a b c : Int} (ha : 0 ≤ a) (hb : 0 ≤ b) (hc : 1 ≤ c) : (poQ a b c = -1 ∧ 2305843009213693952 < a * b / c) ∨ (poQ a b c = a * b / c ∧ poR a b c = a * b % c ∧ 0 ≤ a * b / c ∧ a * b / c ≤ 2305843009213693952 ∧ 0 ≤ a * b % c ∧ a * b % c < c) := by
  have h1 : 0 ≤ a * b / c := Int.ediv_nonneg (Int.mul_nonneg ha hb) (by omega)
  have h2 := r_bd (x := a * b) hc
  unfold poQ poR
  by_cases h : 2305843009213693952 < a * b / c
  · left; rw [if_pos h]; exact ⟨rfl, h⟩
  · right; rw [if_neg h, if_neg h]; exact ⟨rfl, rfl, h1, by omega, h2.1, h2.2⟩
theorem po_key (a b c : Int) (hb : 0 ≤ b) (hc : 1 ≤ c) : (0 ≤ a → (poQ (1 * a) b c = -1 ∧ 2305843009213693952 < a * b / c) ∨ (poQ (1 * a) b c = a * b / c ∧ poR (1 * a) b c = a * b % c ∧ 0 ≤ a * b / c ∧ a * b / c ≤ 2305843009213693952 ∧ 0 ≤ a * b % c ∧ a * b % c < c)) ∧
    (a < 0 → (poQ (-1 * a) b c = -1 ∧ a * b / c < -2305843009213693952) ∨ ((0 ≤ poQ (-1 * a) b c ∧ poQ (-1 * a) b c ≤ 2305843009213693952) ∧ ((poR (-1 * a) b c = 0 ∧ a * b / c = -poQ (-1 * a) b c ∧ a * b % c = 0) ∨ (0 < poR (-1 * a) b c ∧ a * b / c = -poQ (-1 * a) b c - 1 ∧ a * b % c = c - poR (-1 * a) b c ∧ poR (-1 * a) b c < c)))) := by
  refine ⟨fun ha => ?_, fun ha => ?_⟩
  · rw [Int.one_mul]; exact po_at ha hb hc
  · have e : a * b = -(-1 * a * b) := by grind
    rw [e]
    generalize hx : -1 * a = x
    have h1 := po_at (a := x) (by omega) hb hc
    rcases neg_part (x := x * b) hc with ⟨n0, n1, n2⟩ | ⟨n0, n1, n2⟩ <;> rw [n1, n2] <;> omega
end M
end Go.Proofs.Yteblbhbfdfifpaa

/- Plain facts on prices: what units cost. -/
namespace Go.Proofs.Yteblbhbfdfifpaa
set_option linter.unusedVariables false
namespace P
def Ok (p : Int) : Prop := 0 ≤ p ∧ p ≤ 1099511627776
instance (p : Int) : Decidable (Ok p) := by unfold Ok; exact inferInstance
def chk (p : Int) : Int := if Ok p then 0 else 3
theorem chk_yes {p : Int} (h : Ok p) : chk p = 0 := if_pos h
theorem chk_no {p : Int} (h : ¬ Ok p) : chk p = 3 := if_neg h
theorem pok {u p : Int} : M.POk u p 10000 ↔ M.Amt u ∧ Ok p := by
  unfold M.POk Ok
  constructor
  · intro h; exact ⟨h.1, h.2.1⟩
  · intro h; exact ⟨h.1, h.2, by omega⟩
/-- prices of all papers -/
def chks (l : List Int) : Int := if l.length ≠ 20 then 1 else if ∀ p ∈ l, Ok p then 0 else 3
theorem chks_ok {l : List Int} (h : chks l = 0) : l.length = 20 ∧ ∀ p ∈ l, Ok p := by
  unfold chks at h
  split at h
  · omega
  · split at h
    · exact ⟨by omega, by assumption⟩
    · omega
theorem chks_of {l : List Int} (h1 : l.length = 20) (h2 : ∀ p ∈ l, Ok p) : chks l = 0 := by
  unfold chks; rw [if_neg (by omega), if_pos h2]
theorem chks_bad {l : List Int} (h1 : l.length = 20) {p : Int} (hp : p ∈ l) (h2 : ¬ Ok p) : chks l = 3 := by
  unfold chks; rw [if_neg (by omega), if_neg fun q => h2 (q p hp)]
/-- the price of a paper -/
def pr (l : List Int) (pa : Int) : Int := l.getD (pa - 1).toNat default
theorem pr_ok {l : List Int} (h : chks l = 0) {pa : Int} (h1 : 1 ≤ pa ∧ pa ≤ 20) : Ok (pr l pa) := by
  obtain ⟨h2, h3⟩ := chks_ok h
  exact h3 _ (getD_mem (by omega))
/-- what units cost -/
def cost (u p : Int) : Int := u * p / 10000
theorem mul_bd {u p : Int} (hu : 0 ≤ u ∧ u ≤ 1073741824) (hp : Ok p) : 0 ≤ u * p ∧ u * p ≤ 1180591620717411303424 := by
  unfold Ok at hp
  have h1 := Int.mul_nonneg hu.1 hp.1
  have h2 := Int.mul_le_mul hu.2 hp.2 hp.1 (show (0 : Int) ≤ 1073741824 by omega)
  omega
theorem cost_bd {u p : Int} (hu : 0 ≤ u ∧ u ≤ 1073741824) (hp : Ok p) : 0 ≤ cost u p ∧ cost u p ≤ 118059162071741130 := by
  have := mul_bd hu hp
  unfold cost
  generalize u * p = x at *
  omega
theorem cost_mono {u v p : Int} (h : u ≤ v) (hp : Ok p) : cost u p ≤ cost v p := by
  have := Int.mul_le_mul_of_nonneg_right h hp.1
  unfold cost
  generalize u * p = x at *
  generalize v * p = y at *
  omega
theorem part_cost {u p : Int} (hu : 0 ≤ u ∧ u ≤ 1073741824) (hp : Ok p) : M.prE u p 10000 = 0 ∧ M.prQ u p 10000 = cost u p := by
  have h := cost_bd hu hp
  have k : M.POk u p 10000 := pok.2 ⟨by unfold M.Amt; omega, hp⟩
  have a : M.Amt (u * p / 10000) := by unfold M.Amt; unfold cost at h; omega
  exact ⟨(M.pr_3 k a).1, (M.pr_3 k a).2.1⟩
/-- part of an amount, by parts of 10000 -/
theorem rate_bd {n r : Int} (hn : 0 ≤ n) (hr : 0 ≤ r ∧ r ≤ 10000) : 0 ≤ n * r / 10000 ∧ n * r / 10000 ≤ n := by
  have h1 := Int.mul_nonneg hn hr.1
  have h2 := Int.mul_le_mul_of_nonneg_left hr.2 hn
  generalize n * r = x at *
  omega
theorem rate_mono {n m r : Int} (h : n ≤ m) (hr : 0 ≤ r) : n * r / 10000 ≤ m * r / 10000 := by
  have := Int.mul_le_mul_of_nonneg_right h hr
  generalize n * r = x at *
  generalize m * r = y at *
  omega
theorem part_rate {n r : Int} (hn : 0 ≤ n ∧ n ≤ 1152921504606846976) (hr : 0 ≤ r ∧ r ≤ 10000) : M.prE n r 10000 = 0 ∧ M.prQ n r 10000 = n * r / 10000 := by
  have h := rate_bd hn.1 hr
  have k : M.POk n r 10000 := ⟨by unfold M.Amt; omega, by omega, by omega⟩
  have a : M.Amt (n * r / 10000) := by unfold M.Amt; omega
  exact ⟨(M.pr_3 k a).1, (M.pr_3 k a).2.1⟩
end P
end Go.Proofs.Yteblbhbfdfifpaa

/- What the functions on prices answer. -/
namespace Go.Proofs.Yteblbhbfdfifpaa
open Go Go.RowKit V
set_option maxRecDepth 100000
set_option linter.unusedVariables false
theorem v_pcheck (p : Int) : V.Fn Try.prog 42 [] [.one (.val (.int .i64 p))] (.int .i64 (P.chk p)) := by
  refine V.Fn.mk_ V.Tok V.mixed Try.func42 rfl Try.ntmps42 (by kernel_rfl) rfl rfl ?_
  repeat' ((conv => whnf); first | refine V.NCond.mk ?_ | refine V.NIf.not_ ?_ | refine V.NIf.dec_ ?_ | refine V.NIf.no (by omega) ?_ | refine V.NIf.yes (by omega) ?_ | refine V.NIf.mk (fun _ => ?_) (fun _ => ?_) | refine V.NWrap.ok (by omega) (by omega) ?_ | refine V.NWrap.u64 (by omega) (by omega) ?_ | refine V.NLt.mk (by omega) ?_ | refine V.NBoth.mk ?_ ?_ | refine V.NTF.yes (by omega) ?_ | refine V.NTF.no (by omega) ?_ | refine V.NTF.dec ?_ | refine V.NDraw.q (by exact rfl) (by kernel_rfl) ?_ | refine V.NApp.one (by first | omega | (simp; omega)) (by first | omega | (simp; omega)) ?_ | (refine V.NDraw.any (by kernel_rfl) ?_) | fail)
  all_goals ((conv => whnf); refine congrArg _ ?_; unfold P.chk P.Ok; (repeat' split) <;> first | rfl | omega | (exfalso; omega) | (simp_all; done) | (simp_all; omega))
theorem v_rpcheck (p : Int) : V.Fn Try.prog 43 [] [.one (.val (.int .i64 p))] (.int .i64 (P.chk p)) := by
  refine V.Fn.mk_ V.Tok V.mixed Try.func43 rfl Try.ntmps43 (by kernel_rfl) rfl rfl ?_
  repeat' ((conv => whnf); first | refine V.NCond.mk ?_ | refine V.NIf.not_ ?_ | refine V.NIf.dec_ ?_ | refine V.NIf.no (by omega) ?_ | refine V.NIf.yes (by omega) ?_ | refine V.NIf.mk (fun _ => ?_) (fun _ => ?_) | refine V.NWrap.ok (by omega) (by omega) ?_ | refine V.NWrap.u64 (by omega) (by omega) ?_ | refine V.NLt.mk (by omega) ?_ | refine V.NBoth.mk ?_ ?_ | refine V.NTF.yes (by omega) ?_ | refine V.NTF.no (by omega) ?_ | refine V.NTF.dec ?_ | refine V.NDraw.q (by exact rfl) (by kernel_rfl) ?_ | refine V.NApp.one (by first | omega | (simp; omega)) (by first | omega | (simp; omega)) ?_ | (first | refine V.Fn.k0 (v_rbetween _ _ _) rfl ?_ | refine V.Fn.q0 (v_rbetween _ _ _) rfl ?_ | refine V.Fn.a0 (v_rbetween _ _ _) rfl ?_) | (refine V.NDraw.any (by kernel_rfl) ?_) | fail)
  all_goals ((conv => whnf); refine congrArg _ ?_; unfold P.chk P.Ok; (repeat' split) <;> first | rfl | omega | (exfalso; omega) | (simp_all; done) | (simp_all; omega))
theorem v_cost (u p : Int) : V.Fn Try.prog 59 [] [.one (.val (.int .i64 u)), .one (.val (.int .i64 p))] (.tuple #[.int .i64 (M.prQ u p 10000), .int .i64 (M.prR u p 10000), .int .i64 (M.prE u p 10000)]) := by
  have h1 : ¬ M.chk u = 0 → M.prE u p 10000 = 3 ∧ M.prQ u p 10000 = 0 ∧ M.prR u p 10000 = 0 ∧ M.chk u = 3 := fun h => by
    by_cases q : M.Amt u
    · exact absurd (M.chk_yes q) h
    · obtain ⟨a, b, c⟩ := M.pr_1 (a := u) (b := p) (c := 10000) (fun k => q k.1)
      exact ⟨a, b, c, M.chk_no q⟩
  have h2 : ¬ P.chk p = 0 → M.prE u p 10000 = 3 ∧ M.prQ u p 10000 = 0 ∧ M.prR u p 10000 = 0 ∧ P.chk p = 3 := fun h => by
    by_cases q : P.Ok p
    · exact absurd (P.chk_yes q) h
    · obtain ⟨a, b, c⟩ := M.pr_1 (a := u) (b := p) (c := 10000) (fun k => q k.2.1)
      exact ⟨a, b, c, P.chk_no q⟩
  refine V.Fn.mk_ V.Tok V.mixed Try.func59 rfl Try.ntmps59 (by kernel_rfl) rfl rfl ?_
  repeat' ((conv => whnf); first | refine V.NCond.mk ?_ | refine V.NIf.not_ ?_ | refine V.NIf.dec_ ?_ | refine V.NIf.no (by omega) ?_ | refine V.NIf.yes (by omega) ?_ | refine V.NIf.mk (fun _ => ?_) (fun _ => ?_) | refine V.NWrap.ok (by omega) (by omega) ?_ | refine V.NWrap.u64 (by omega) (by omega) ?_ | refine V.NLt.mk (by omega) ?_ | refine V.NBoth.mk ?_ ?_ | refine V.NTF.yes (by omega) ?_ | refine V.NTF.no (by omega) ?_ | refine V.NTF.dec ?_ | refine V.NDraw.q (by exact rfl) (by kernel_rfl) ?_ | refine V.NApp.one (by first | omega | (simp; omega)) (by first | omega | (simp; omega)) ?_ | (first | refine V.Fn.k0 (v_check _) rfl ?_ | refine V.Fn.q0 (v_check _) rfl ?_ | refine V.Fn.a0 (v_check _) rfl ?_) | (first | refine V.Fn.k0 (v_pcheck _) rfl ?_ | refine V.Fn.q0 (v_pcheck _) rfl ?_ | refine V.Fn.a0 (v_pcheck _) rfl ?_) | (first | refine V.Fn.k0 (v_part _ _ _) rfl ?_ | refine V.Fn.q0 (v_part _ _ _) rfl ?_ | refine V.Fn.a0 (v_part _ _ _) rfl ?_) | (refine V.NDraw.any (by kernel_rfl) ?_) | fail)
  all_goals (conv => whnf)
  · exact (by repeat' (first | exact rfl | exact Iff.rfl | exact trivial | exact (fun _ _ => rfl) | exact (fun _ h => absurd h (Nat.not_lt_zero _)) | refine ⟨?_, ?_⟩ | exact Iff.rfl | exact congrArg (fun z => V.SV.one (V.At.val (Value.int .i64 z))) (by omega)))
  · obtain ⟨a, b, c, d⟩ := h2 (by assumption)
    rw [a, b, c, d]; exact (by repeat' (first | exact rfl | exact Iff.rfl | exact trivial | exact (fun _ _ => rfl) | exact (fun _ h => absurd h (Nat.not_lt_zero _)) | refine ⟨?_, ?_⟩ | exact Iff.rfl | exact congrArg (fun z => V.SV.one (V.At.val (Value.int .i64 z))) (by omega)))
  · obtain ⟨a, b, c, d⟩ := h1 (by assumption)
    rw [a, b, c, d]; exact (by repeat' (first | exact rfl | exact Iff.rfl | exact trivial | exact (fun _ _ => rfl) | exact (fun _ h => absurd h (Nat.not_lt_zero _)) | refine ⟨?_, ?_⟩ | exact Iff.rfl | exact congrArg (fun z => V.SV.one (V.At.val (Value.int .i64 z))) (by omega)))
end Go.Proofs.Yteblbhbfdfifpaa

/- Plain facts on fails: what the checks answer, what is left, that ids are found. -/
namespace Go.Proofs.Yteblbhbfdfifpaa

structure Fl where
  id : Int
  fr : Int
  to : Int
  cl : Int
  pa : Int
  day : Int
  un : Int
  de : Int
  bo : Int
  pd : Int

namespace F
def zero : Fl := ⟨0, 0, 0, 0, 0, 0, 0, 0, 0, 0⟩
instance : Inhabited Fl := ⟨zero⟩
def Kn (f : Fl) : Prop := (1 ≤ f.id ∧ f.id ≤ 1099511627776) ∧ (0 ≤ f.fr ∧ f.fr ≤ 30) ∧ (0 ≤ f.to ∧ f.to ≤ 30) ∧ (0 ≤ f.cl ∧ f.cl ≤ 5) ∧ (1 ≤ f.pa ∧ f.pa ≤ 20) ∧ (0 ≤ f.day ∧ f.day ≤ 3652058) ∧ (1 ≤ f.un ∧ f.un ≤ 1073741824)
instance (f : Fl) : Decidable (Kn f) := by unfold Kn; exact inferInstance
def Pt (f : Fl) : Prop := (0 ≤ f.de ∧ f.de ≤ f.un) ∧ (0 ≤ f.bo ∧ f.bo ≤ f.un) ∧ (0 ≤ f.pd ∧ f.pd ≤ f.un)
instance (f : Fl) : Decidable (Pt f) := by unfold Pt; exact inferInstance
def kn (f : Fl) : Bool := decide (Kn f)
def left (f : Fl) : Int := f.un - f.de - f.bo - f.pd
def chk (f : Fl) : Int := if ¬ Kn f then 3 else if f.fr = f.to then 1 else if ¬ Pt f then 3 else if f.un < f.de + f.bo + f.pd then 4 else 0
def Ok (f : Fl) : Prop := Kn f ∧ f.fr ≠ f.to ∧ Pt f ∧ f.de + f.bo + f.pd ≤ f.un
theorem chk_ok {f : Fl} (h : chk f = 0) : Ok f := by
  unfold chk at h
  by_cases a : Kn f
  · rw [if_neg (by simpa using a)] at h
    by_cases b : f.fr = f.to
    · rw [if_pos b] at h; omega
    · rw [if_neg b] at h
      by_cases c : Pt f
      · rw [if_neg (by simpa using c)] at h
        by_cases d : f.un < f.de + f.bo + f.pd
        · rw [if_pos d] at h; omega
        · exact ⟨a, b, c, by omega⟩
      · rw [if_pos c] at h; omega
  · rw [if_pos a] at h; omega
theorem chk_of {f : Fl} (h : Ok f) : chk f = 0 := by
  obtain ⟨a, b, c, d⟩ := h
  unfold chk
  rw [if_neg (by simpa using a), if_neg b, if_neg (by simpa using c), if_neg (by omega)]
theorem chk_range (f : Fl) : chk f = 0 ∨ chk f = 1 ∨ chk f = 3 ∨ chk f = 4 := by
  unfold chk; split
  · simp
  · split
    · simp
    · split
      · simp
      · split <;> simp
theorem chk_1 {f : Fl} (a : ¬ Kn f) : chk f = 3 := if_pos a
theorem chk_2 {f : Fl} (a : Kn f) (b : f.fr = f.to) : chk f = 1 := by unfold chk; rw [if_neg (by simpa using a), if_pos b]
theorem chk_3 {f : Fl} (a : Kn f) (b : f.fr ≠ f.to) (c : ¬ Pt f) : chk f = 3 := by unfold chk; rw [if_neg (by simpa using a), if_neg b, if_pos c]
theorem chk_4 {f : Fl} (a : Kn f) (b : f.fr ≠ f.to) (c : Pt f) (d : f.un < f.de + f.bo + f.pd) : chk f = 4 := by unfold chk; rw [if_neg (by simpa using a), if_neg b, if_neg (by simpa using c), if_pos d]

def opn (f : Fl) : Int := if chk f = 0 then left f else 0
theorem opn_yes {f : Fl} (h : chk f = 0) : opn f = left f := if_pos h
theorem opn_no {f : Fl} (h : ¬ chk f = 0) : opn f = 0 := if_neg h
def less (f : Fl) (u : Int) : Int := if chk f ≠ 0 then chk f else if ¬ (1 ≤ u ∧ u ≤ 1073741824) then 3 else if left f = 0 then 5 else if left f < u then 8 else 0
theorem less_1 {f : Fl} {u : Int} (h : chk f ≠ 0) : less f u = chk f := if_pos h
theorem less_2 {f : Fl} {u : Int} (h : chk f = 0) (a : ¬ (1 ≤ u ∧ u ≤ 1073741824)) : less f u = 3 := by unfold less; rw [if_neg (by simpa using h), if_pos a]
theorem less_3 {f : Fl} {u : Int} (h : chk f = 0) (a : 1 ≤ u ∧ u ≤ 1073741824) (b : left f = 0) : less f u = 5 := by unfold less; rw [if_neg (by simpa using h), if_neg (by simpa using a), if_pos b]
theorem less_4 {f : Fl} {u : Int} (h : chk f = 0) (a : 1 ≤ u ∧ u ≤ 1073741824) (b : left f ≠ 0) (c : left f < u) : less f u = 8 := by unfold less; rw [if_neg (by simpa using h), if_neg (by simpa using a), if_neg b, if_pos c]
theorem less_5 {f : Fl} {u : Int} (h : chk f = 0) (a : 1 ≤ u ∧ u ≤ 1073741824) (b : left f ≠ 0) (c : u ≤ left f) : less f u = 0 := by unfold less; rw [if_neg (by simpa using h), if_neg (by simpa using a), if_neg b, if_neg (by omega)]
theorem less_ok {f : Fl} {u : Int} (h : less f u = 0) : Ok f ∧ 1 ≤ u ∧ u ≤ 1073741824 ∧ u ≤ left f := by
  by_cases a : chk f = 0
  · by_cases b : 1 ≤ u ∧ u ≤ 1073741824
    · by_cases c : left f = 0
      · rw [less_3 a b c] at h; omega
      · by_cases d : left f < u
        · rw [less_4 a b c d] at h; omega
        · exact ⟨chk_ok a, b.1, b.2, by omega⟩
    · rw [less_2 a b] at h; omega
  · rw [less_1 a] at h; exact absurd h a

def addDe (f : Fl) (u : Int) : Fl := ⟨f.id, f.fr, f.to, f.cl, f.pa, f.day, f.un, f.de + u, f.bo, f.pd⟩
def addBo (f : Fl) (u : Int) : Fl := ⟨f.id, f.fr, f.to, f.cl, f.pa, f.day, f.un, f.de, f.bo + u, f.pd⟩
def addPd (f : Fl) (u : Int) : Fl := ⟨f.id, f.fr, f.to, f.cl, f.pa, f.day, f.un, f.de, f.bo, f.pd + u⟩
def deliver (f : Fl) (u : Int) : Fl := if less f u = 0 then addDe f u else zero
def buy (f : Fl) (u : Int) : Fl := if less f u = 0 then addBo f u else zero
def pay (f : Fl) : Fl := if less f 1 = 0 then addPd f (left f) else zero
def paid (f : Fl) : Int := if less f 1 = 0 then left f else 0
theorem ok_bounds {f : Fl} (h : Ok f) : 0 ≤ left f ∧ left f ≤ f.un ∧ f.un ≤ 1073741824 ∧ 0 ≤ f.de ∧ f.de ≤ 1073741824 ∧ 0 ≤ f.bo ∧ f.bo ≤ 1073741824 ∧ 0 ≤ f.pd ∧ f.pd ≤ 1073741824 := by
  obtain ⟨⟨_, _, _, _, _, _, k1, k2⟩, _, ⟨⟨p1, p2⟩, ⟨p3, p4⟩, p5, p6⟩, d⟩ := h
  unfold left; refine ⟨?_, ?_, ?_, ?_, ?_, ?_, ?_, ?_, ?_⟩ <;> omega

theorem deliver_yes {f : Fl} {u : Int} (h : less f u = 0) : deliver f u = addDe f u := if_pos h
theorem deliver_no {f : Fl} {u : Int} (h : ¬ less f u = 0) : deliver f u = zero := if_neg h
theorem buy_yes {f : Fl} {u : Int} (h : less f u = 0) : buy f u = addBo f u := if_pos h
theorem buy_no {f : Fl} {u : Int} (h : ¬ less f u = 0) : buy f u = zero := if_neg h
theorem pay_yes {f : Fl} (h : less f 1 = 0) : pay f = addPd f (left f) ∧ paid f = left f := ⟨if_pos h, if_pos h⟩
theorem pay_no {f : Fl} (h : ¬ less f 1 = 0) : pay f = zero ∧ paid f = 0 := ⟨if_neg h, if_neg h⟩
/-- the checks of a list, behind the ids that were seen -/
def ckFrom : List Int → List Fl → Int
  | _, [] => 0
  | seen, x :: r => if chk x ≠ 0 then chk x else if x.id ∈ seen then 6 else ckFrom (seen ++ [x.id]) r
def checks (l : List Fl) : Int := if 60 < l.length then 2 else ckFrom [] l
def idx (id : Int) : List Fl → Nat → Int
  | [], _ => -1
  | x :: r, k => if x.id = id then k else idx id r (k + 1)
theorem ckFrom_ok : ∀ {l : List Fl} {seen : List Int}, ckFrom seen l = 0 → (∀ x ∈ l, chk x = 0 ∧ x.id ∉ seen) ∧ (l.map (·.id)).Nodup
  | [], _, _ => ⟨by simp, by simp⟩
  | x :: r, seen, h => by
    unfold ckFrom at h
    by_cases a : chk x = 0
    · rw [if_neg (by simpa using a)] at h
      by_cases b : x.id ∈ seen
      · rw [if_pos b] at h; omega
      · rw [if_neg b] at h
        obtain ⟨h1, h2⟩ := ckFrom_ok h
        refine ⟨fun y hy => ?_, ?_⟩
        · rcases List.mem_cons.1 hy with rfl | hy
          · exact ⟨a, b⟩
          · obtain ⟨c, d⟩ := h1 y hy
            exact ⟨c, fun e => d (by simp [e])⟩
        · simp only [List.map_cons, List.nodup_cons]
          refine ⟨fun hm => ?_, h2⟩
          obtain ⟨y, hy, e⟩ := List.mem_map.1 hm
          exact (h1 y hy).2 (by simp [e])
    · rw [if_pos a] at h; exact absurd h a
theorem ckFrom_of : ∀ {l : List Fl} {seen : List Int}, (∀ x ∈ l, chk x = 0 ∧ x.id ∉ seen) → (l.map (·.id)).Nodup → ckFrom seen l = 0
  | [], _, _, _ => rfl
  | x :: r, seen, h1, h2 => by
    simp only [List.map_cons, List.nodup_cons] at h2
    obtain ⟨a, b⟩ := h1 x (by simp)
    unfold ckFrom
    rw [if_neg (by simpa using a), if_neg b]
    refine ckFrom_of (fun y hy => ?_) h2.2
    obtain ⟨c, d⟩ := h1 y (by simp [hy])
    refine ⟨c, fun e => ?_⟩
    rcases List.mem_append.1 e with e | e
    · exact d e
    · exact h2.1 (List.mem_map.2 ⟨y, hy, by simpa using e⟩)
theorem nodup_rev {l : List Int} (h : l.Nodup) : l.reverse.Nodup := by
  unfold List.Nodup at h ⊢
  rw [List.pairwise_reverse]
  rw [List.pairwise_iff_getElem] at h ⊢
  exact fun i j hi hj hij e => h i j hi hj hij e.symm
theorem checks_rev {l : List Fl} (h : checks l = 0) : checks l.reverse = 0 := by
  unfold checks at h ⊢
  by_cases a : 60 < l.length
  · rw [if_pos a] at h; omega
  · rw [if_neg a] at h
    rw [if_neg (by simpa using a)]
    obtain ⟨h1, h2⟩ := ckFrom_ok h
    refine ckFrom_of (fun x hx => ⟨(h1 x (by simpa using hx)).1, by simp⟩) ?_
    rw [List.map_reverse]
    exact nodup_rev h2
theorem checks_len {l : List Fl} (h : checks l ≠ 2) : l.length ≤ 60 := by
  unfold checks at h
  by_cases a : 60 < l.length
  · rw [if_pos a] at h; exact absurd rfl h
  · omega
theorem idx_at : ∀ {l : List Fl} {i k : Nat} (hi : i < l.length), (l.map (·.id)).Nodup → idx (l[i]).id l k = (k + i : Nat)
  | x :: r, 0, k, _, _ => by simp [idx]
  | x :: r, i + 1, k, hi, h => by
    simp only [List.map_cons, List.nodup_cons] at h
    have hi' : i < r.length := by simpa using hi
    have ne : ¬ x.id = (r[i]).id := fun e => h.1 (List.mem_map.2 ⟨r[i], List.getElem_mem hi', e.symm⟩)
    simp only [List.getElem_cons_succ, idx]
    rw [if_neg ne, idx_at hi' h.2]
    congr 1; omega
theorem find_at {l : List Fl} {i : Nat} (h : checks l = 0) (hi : i < l.length) : idx (l[i]).id l 0 = (i : Int) ∧ idx (l[i]).id l.reverse 0 = (l.length : Int) - 1 - i := by
  have hn : (l.map (·.id)).Nodup := by
    unfold checks at h
    by_cases a : 60 < l.length
    · rw [if_pos a] at h; omega
    · rw [if_neg a] at h; exact (ckFrom_ok h).2
  refine ⟨by have := idx_at (k := 0) hi hn; simpa using this, ?_⟩
  have hr : (l.reverse.map (·.id)).Nodup := by rw [List.map_reverse]; exact nodup_rev hn
  have hj : l.length - 1 - i < l.reverse.length := by simp; omega
  have e : l.reverse[l.length - 1 - i] = l[i] := by
    rw [List.getElem_reverse]; congr 1; omega
  have := idx_at (k := 0) hj hr
  rw [e] at this
  rw [this]; omega
theorem idx_lt : ∀ (id : Int) (l : List Fl) (k : Nat), idx id l k = -1 ∨ ((k : Int) ≤ idx id l k ∧ idx id l k < k + l.length)
  | _, [], _ => .inl rfl
  | id, x :: r, k => by
    unfold idx
    by_cases a : x.id = id
    · rw [if_pos a]; right; simp only [List.length_cons]; omega
    · rw [if_neg a]
      rcases idx_lt id r (k + 1) with h | h
      · exact .inl h
      · right; simp only [List.length_cons]; omega
theorem drop_at {l : List Fl} {k : Nat} (hk : k < l.length) : l.drop k = l[k] :: l.drop (k + 1) := List.drop_eq_getElem_cons hk
theorem ckStep_err {l : List Fl} {k : Nat} (hk : k < l.length) (S : List Int) (h : chk l[k] ≠ 0) : ckFrom S (l.drop k) = chk l[k] := by
  rw [drop_at hk]; unfold ckFrom; rw [if_pos h]
theorem ckStep_twice {l : List Fl} {k : Nat} (hk : k < l.length) (S : List Int) (h : chk l[k] = 0) (h2 : l[k].id ∈ S) : ckFrom S (l.drop k) = 6 := by
  rw [drop_at hk]; unfold ckFrom; rw [if_neg (by simpa using h), if_pos h2]
theorem ids_snoc {l : List Fl} {k : Nat} (hk : k < l.length) : (l.take (k + 1)).map (·.id) = (l.take k).map (·.id) ++ [l[k].id] := by
  rw [List.take_succ_eq_append_getElem hk, List.map_append]; rfl
theorem ckStep_on {l : List Fl} {k : Nat} (hk : k < l.length) (h : chk l[k] = 0) (h2 : l[k].id ∉ (l.take k).map (·.id)) : ckFrom ((l.take k).map (·.id)) (l.drop k) = ckFrom ((l.take (k + 1)).map (·.id)) (l.drop (k + 1)) := by
  rw [ids_snoc hk, drop_at hk]
  conv => lhs; unfold ckFrom
  rw [if_neg (by simpa using h), if_neg h2]
theorem ckEnd (l : List Fl) (S : List Int) : ckFrom S (l.drop l.length) = 0 := by rw [List.drop_length]; rfl
theorem idxStep {l : List Fl} {k : Nat} (hk : k < l.length) (id : Int) : idx id (l.drop k) k = if l[k].id = id then (k : Int) else idx id (l.drop (k + 1)) (k + 1) := by
  rw [drop_at hk]; rfl
theorem idxEnd (l : List Fl) (id : Int) (k : Nat) : idx id (l.drop l.length) k = -1 := by rw [List.drop_length]; rfl
theorem mem_take {l : List Fl} {j k : Nat} (hj : j < l.length) (h : j < k) {x : Int} (e : l[j].id = x) : x ∈ (l.take k).map (·.id) := by
  rw [List.mem_map]
  refine ⟨l[j], ?_, e⟩
  rw [List.mem_take_iff_getElem]
  exact ⟨j, by omega, rfl⟩
theorem not_snoc {l : List Fl} {j : Nat} (hj : j < l.length) {x : Int} (h : x ∉ (l.take j).map (·.id)) (ne : ¬ l[j].id = x) : x ∉ (l.take (j + 1)).map (·.id) := by
  rw [ids_snoc hj, List.mem_append]
  intro q
  rcases q with q | q
  · exact h q
  · exact ne (by simpa using Eq.symm (List.mem_singleton.1 q))
theorem checks_many {l : List Fl} (h : 60 < l.length) : checks l = 2 := if_pos h
theorem checks_few {l : List Fl} (h : l.length ≤ 60) : checks l = ckFrom ((l.take 0).map (·.id)) (l.drop 0) := by unfold checks; rw [if_neg (by omega)]; rfl
end F
end Go.Proofs.Yteblbhbfdfifpaa

/- Plain facts on fails that are looked for. -/
namespace Go.Proofs.Yteblbhbfdfifpaa.F
def fndV (id : Int) (l : List Fl) : Int := if checks l ≠ 0 then 0 else if idx id l 0 < 0 then 0 else idx id l 0
def fndE (id : Int) (l : List Fl) : Int := if checks l ≠ 0 then checks l else if idx id l 0 < 0 then 5 else 0
theorem fnd_1 {id : Int} {l : List Fl} (h : checks l ≠ 0) : fndV id l = 0 ∧ fndE id l = checks l := ⟨if_pos h, if_pos h⟩
theorem fnd_2 {id : Int} {l : List Fl} (h : checks l = 0) (k : idx id l 0 < 0) : fndV id l = 0 ∧ fndE id l = 5 := by
  unfold fndV fndE; rw [if_neg (by simpa using h), if_pos k, if_neg (by simpa using h), if_pos k]; exact ⟨rfl, rfl⟩
theorem fnd_3 {id : Int} {l : List Fl} (h : checks l = 0) (k : ¬ idx id l 0 < 0) : fndV id l = idx id l 0 ∧ fndE id l = 0 := by
  unfold fndV fndE; rw [if_neg (by simpa using h), if_neg k, if_neg (by simpa using h), if_neg k]; exact ⟨rfl, rfl⟩
end Go.Proofs.Yteblbhbfdfifpaa.F

/- Plain facts on dates: leap years, lengths of months, the number of a day, that each number has just one date. -/
namespace Go.Proofs.Yteblbhbfdfifpaa.D

def lp (y : Int) : Bool := y % 4 == 0 && (!(y % 100 == 0) || y % 400 == 0)
def L (y : Int) : Int := if y % 4 = 0 ∧ (¬ y % 100 = 0 ∨ y % 400 = 0) then 1 else 0
def ml (y m : Int) : Int := if m = 2 then 28 + L y else if m = 4 ∨ m = 6 ∨ m = 9 ∨ m = 11 then 30 else 31
def cum (y m : Int) : Int :=
  if m ≤ 1 then 0 else if m = 2 then 31 else (if m = 3 then 59 else if m = 4 then 90 else if m = 5 then 120 else if m = 6 then 151 else if m = 7 then 181 else if m = 8 then 212 else if m = 9 then 243 else if m = 10 then 273 else if m = 11 then 304 else 334) + L y
def dby (y : Int) : Int := 365 * (y - 1) + (y - 1) / 4 - (y - 1) / 100 + (y - 1) / 400
def raw (y m d : Int) : Int := dby y + cum y m + d - 1
def Valid (y m d : Int) : Prop := 1 ≤ y ∧ y ≤ 9999 ∧ 1 ≤ m ∧ m ≤ 12 ∧ 1 ≤ d ∧ d ≤ ml y m
instance (y m d : Int) : Decidable (Valid y m d) := by unfold Valid; exact inferInstance

theorem lp_eq (y : Int) : lp y = decide (L y = 1) := by
  unfold lp L
  by_cases a : y % 4 = 0 <;> by_cases b : y % 100 = 0 <;> by_cases c : y % 400 = 0 <;> simp [a, b, c]
theorem L_01 (y : Int) : 0 ≤ L y ∧ L y ≤ 1 := by unfold L; split <;> omega
theorem L_of {y : Int} (h : lp y = true) : L y = 1 := by rw [lp_eq] at h; simpa using h
theorem L_not {y : Int} (h : lp y = false) : L y = 0 := by rw [lp_eq] at h; have := L_01 y; have h : ¬ L y = 1 := by simpa using h
                                                           omega
theorem dby_succ (y : Int) : dby (y + 1) = dby y + 365 + L y := by unfold dby L; split <;> omega
theorem dby_mono {y z : Int} (h : y < z) : dby y + 365 + L y ≤ dby z := by
  rw [← dby_succ]; unfold dby; omega
theorem dby_one : dby 1 = 0 := by decide
theorem dby_bd (y : Int) (h0 : 1 ≤ y) (h : y ≤ 20000) : 0 ≤ dby y ∧ dby y ≤ 10000000 := by unfold dby; omega
theorem dby_400 (y : Int) : dby (y + 400) = dby y + 146097 := by unfold dby; omega
theorem L_400 (y : Int) : L (y + 400) = L y := by
  unfold L
  have a : (y + 400) % 4 = y % 4 := by omega
  have b : (y + 400) % 100 = y % 100 := by omega
  have c : (y + 400) % 400 = y % 400 := by omega
  rw [a, b, c]
theorem dby_max : dby 10000 = 3652059 := by decide
theorem ml_bd (y m : Int) : 28 ≤ ml y m ∧ ml y m ≤ 31 := by have := L_01 y; unfold ml; split <;> (try split) <;> omega
theorem cum_succ (y m : Int) (h1 : 1 ≤ m) (h2 : m ≤ 11) : cum y (m + 1) = cum y m + ml y m := by
  have h : m = 1 ∨ m = 2 ∨ m = 3 ∨ m = 4 ∨ m = 5 ∨ m = 6 ∨ m = 7 ∨ m = 8 ∨ m = 9 ∨ m = 10 ∨ m = 11 := by omega
  rcases h with rfl | rfl | rfl | rfl | rfl | rfl | rfl | rfl | rfl | rfl | rfl <;> simp [cum, ml] <;> omega
theorem cum_one (y : Int) : cum y 1 = 0 := by simp [cum]
theorem cum_12 (y : Int) : cum y 12 + ml y 12 = 365 + L y := by simp [cum, ml]; omega
theorem cum_bd (y m : Int) (h1 : 1 ≤ m) (h2 : m ≤ 12) : 0 ≤ cum y m ∧ cum y m + ml y m ≤ 365 + L y := by
  have h : m = 1 ∨ m = 2 ∨ m = 3 ∨ m = 4 ∨ m = 5 ∨ m = 6 ∨ m = 7 ∨ m = 8 ∨ m = 9 ∨ m = 10 ∨ m = 11 ∨ m = 12 := by omega
  have := L_01 y
  rcases h with rfl | rfl | rfl | rfl | rfl | rfl | rfl | rfl | rfl | rfl | rfl | rfl <;> simp [cum, ml] <;> omega
theorem cum_mono (y : Int) {m k : Int} (h1 : 1 ≤ m) (h : m < k) (h2 : k ≤ 12) : cum y m + ml y m ≤ cum y k := by
  have a : m = 1 ∨ m = 2 ∨ m = 3 ∨ m = 4 ∨ m = 5 ∨ m = 6 ∨ m = 7 ∨ m = 8 ∨ m = 9 ∨ m = 10 ∨ m = 11 := by omega
  have b : k = 2 ∨ k = 3 ∨ k = 4 ∨ k = 5 ∨ k = 6 ∨ k = 7 ∨ k = 8 ∨ k = 9 ∨ k = 10 ∨ k = 11 ∨ k = 12 := by omega
  have := L_01 y
  rcases a with rfl | rfl | rfl | rfl | rfl | rfl | rfl | rfl | rfl | rfl | rfl <;>
    rcases b with rfl | rfl | rfl | rfl | rfl | rfl | rfl | rfl | rfl | rfl | rfl <;>
    first | (exfalso; omega) | (simp [cum, ml]; try omega)
theorem ml_400 (y m : Int) : ml (y + 400) m = ml y m := by unfold ml; rw [L_400]
theorem cum_400 (y m : Int) : cum (y + 400) m = cum y m := by unfold cum; rw [L_400]

theorem raw_bd {y m d : Int} (h : Valid y m d) : 0 ≤ raw y m d ∧ raw y m d ≤ 3652058 := by
  obtain ⟨a, b, c, e, f, g⟩ := h
  have h1 := dby_bd y a (by omega)
  have h2 := cum_bd y m c e
  have h3 : dby y + 365 + L y ≤ 3652059 := by have := dby_mono (y := y) (z := 10000) (by omega); have := dby_max; omega
  unfold raw; omega

/-- later by year, month and day: a greater number -/
theorem raw_lt {y m d z k e : Int} (h : Valid y m d) (h' : Valid z k e) (hl : y < z ∨ (y = z ∧ (m < k ∨ (m = k ∧ d < e)))) : raw y m d < raw z k e := by
  obtain ⟨a1, b1, c1, e1, f1, g1⟩ := h
  obtain ⟨a2, b2, c2, e2, f2, g2⟩ := h'
  have q1 := cum_bd y m c1 e1
  have q2 := cum_bd z k c2 e2
  unfold raw
  rcases hl with hl | ⟨rfl, hl | ⟨rfl, hl⟩⟩
  · have := dby_mono hl; omega
  · have := cum_mono y c1 hl e2; omega
  · omega
theorem raw_inj {y m d z k e : Int} (h : Valid y m d) (h' : Valid z k e) (he : raw y m d = raw z k e) : y = z ∧ m = k ∧ d = e := by
  by_cases a : y < z
  · have := raw_lt h h' (.inl a); omega
  by_cases b : z < y
  · have := raw_lt h' h (.inl b); omega
  obtain rfl : y = z := by omega
  by_cases c : m < k
  · have := raw_lt h h' (.inr ⟨rfl, .inl c⟩); omega
  by_cases d' : k < m
  · have := raw_lt h' h (.inr ⟨rfl, .inl d'⟩); omega
  obtain rfl : m = k := by omega
  refine ⟨rfl, rfl, ?_⟩
  unfold raw at he; omega

/-- the next date -/
def next (t : Int × Int × Int) : Int × Int × Int :=
  if t.2.2 < ml t.1 t.2.1 then (t.1, t.2.1, t.2.2 + 1) else if t.2.1 < 12 then (t.1, t.2.1 + 1, 1) else (t.1 + 1, 1, 1)
def at' : Nat → Int × Int × Int
  | 0 => (1, 1, 1)
  | k + 1 => next (at' k)
theorem at'_ok (k : Nat) : (k : Int) ≤ 3652058 → Valid (at' k).1 (at' k).2.1 (at' k).2.2 ∧ raw (at' k).1 (at' k).2.1 (at' k).2.2 = k := by
  induction k with
  | zero => intro _; refine ⟨⟨by decide, by decide, by decide, by decide, by decide, by decide⟩, by decide⟩
  | succ k ih =>
    intro h
    obtain ⟨v, hr⟩ := ih (by omega)
    show Valid (next (at' k)).1 (next (at' k)).2.1 (next (at' k)).2.2 ∧ raw (next (at' k)).1 (next (at' k)).2.1 (next (at' k)).2.2 = _
    generalize at' k = t at v hr
    obtain ⟨y, m, d⟩ := t
    obtain ⟨a, b, c, e, f, g⟩ := v
    simp only at a b c e f g hr
    unfold next
    simp only
    unfold raw at hr
    split
    · rename_i hd
      refine ⟨⟨a, b, c, e, by simp only; omega, by simp only; omega⟩, ?_⟩
      unfold raw; simp only; omega
    · rename_i hd
      split
      · rename_i hm
        have := cum_succ y m c (by omega)
        have := ml_bd y (m + 1)
        refine ⟨⟨a, b, by simp only; omega, by simp only; omega, by simp only; omega, by simp only; omega⟩, ?_⟩
        unfold raw; simp only; omega
      · rename_i hm
        obtain rfl : m = 12 := by omega
        have h12 := cum_12 y
        have hs := dby_succ y
        have hy : y + 1 ≤ 9999 := by
          apply Classical.byContradiction; intro hc
          obtain rfl : y = 9999 := by omega
          have h1 := dby_max
          have h2 : dby (9999 + 1) = dby 10000 := rfl
          omega
        refine ⟨⟨by simp only; omega, by simp only; omega, by simp only; omega, by simp only; omega, by simp only; omega, by simp only; have := ml_bd (y + 1) 1; omega⟩, ?_⟩
        have h1 := cum_one (y + 1)
        unfold raw; simp only; omega
def yO (n : Int) : Int := (at' n.toNat).1
def mO (n : Int) : Int := (at' n.toNat).2.1
def dO (n : Int) : Int := (at' n.toNat).2.2
theorem of_ok (n : Int) (h0 : 0 ≤ n) (h : n ≤ 3652058) : Valid (yO n) (mO n) (dO n) ∧ raw (yO n) (mO n) (dO n) = n := by
  have := at'_ok n.toNat (by omega)
  rw [show ((n.toNat : Nat) : Int) = n from by omega] at this
  exact this
theorem of_uniq {n y m d : Int} (h : Valid y m d) (e : raw y m d = n) : yO n = y ∧ mO n = m ∧ dO n = d := by
  have hb := raw_bd h
  obtain ⟨v, r⟩ := of_ok n (by omega) (by omega)
  exact raw_inj v h (by omega)
def fromV (y m d : Int) : Int := if Valid y m d then raw y m d else 0
def fromE (y m d : Int) : Int := if Valid y m d then 0 else 3
theorem fromV_yes {y m d : Int} (h : Valid y m d) : fromV y m d = raw y m d := if_pos h
theorem fromV_no {y m d : Int} (h : ¬ Valid y m d) : fromV y m d = 0 := if_neg h
theorem fromE_yes {y m d : Int} (h : Valid y m d) : fromE y m d = 0 := if_pos h
theorem fromE_no {y m d : Int} (h : ¬ Valid y m d) : fromE y m d = 3 := if_neg h
def chk (n : Int) : Int := if 0 ≤ n ∧ n ≤ 3652058 then 0 else 3
theorem chk_yes {n : Int} (h : 0 ≤ n) (h' : n ≤ 3652058) : chk n = 0 := if_pos ⟨h, h'⟩
theorem chk_no {n : Int} (h : ¬ (0 ≤ n ∧ n ≤ 3652058)) : chk n = 3 := if_neg h
theorem of_bds {n : Int} (h0 : 0 ≤ n) (h : n ≤ 3652058) : 1 ≤ yO n ∧ yO n ≤ 9999 ∧ 1 ≤ mO n ∧ mO n ≤ 12 ∧ 1 ≤ dO n ∧ dO n ≤ ml (yO n) (mO n) ∧ n = dby (yO n) + cum (yO n) (mO n) + dO n - 1 ∧ dby (yO n) ≤ n ∧ n < dby (yO n + 1) := by
  obtain ⟨⟨a, b, c, e, f, g⟩, r⟩ := of_ok n h0 h
  have h1 := cum_bd (yO n) (mO n) c e
  have h2 := dby_succ (yO n)
  unfold raw at r
  refine ⟨a, b, c, e, f, g, by omega, by omega, by omega⟩
def yO' (n : Int) : Int := if 0 ≤ n ∧ n ≤ 3652058 then yO n else 0
def mO' (n : Int) : Int := if 0 ≤ n ∧ n ≤ 3652058 then mO n else 0
def dO' (n : Int) : Int := if 0 ≤ n ∧ n ≤ 3652058 then dO n else 0
theorem o_yes {n : Int} (h : 0 ≤ n ∧ n ≤ 3652058) : yO' n = yO n ∧ mO' n = mO n ∧ dO' n = dO n := ⟨if_pos h, if_pos h, if_pos h⟩
theorem o_no {n : Int} (h : ¬ (0 ≤ n ∧ n ≤ 3652058)) : yO' n = 0 ∧ mO' n = 0 ∧ dO' n = 0 := ⟨if_neg h, if_neg h, if_neg h⟩
theorem guess {n : Int} (h0 : 0 ≤ n) (h : n ≤ 3652058) : n / 366 + 1 ≤ yO n := by
  obtain ⟨a, b, _, _, _, _, _, _, h2⟩ := of_bds h0 h
  have : dby (yO n + 1) ≤ 366 * yO n := by unfold dby; omega
  omega
def wk (n : Int) : Int := if 0 ≤ n ∧ n ≤ 3652058 then n % 7 else 0
theorem wk_yes {n : Int} (h : 0 ≤ n ∧ n ≤ 3652058) : wk n = n % 7 := if_pos h
theorem wk_no {n : Int} (h : ¬ (0 ≤ n ∧ n ≤ 3652058)) : wk n = 0 := if_neg h
def leB (y : Int) : Bool := if 1 ≤ y ∧ y ≤ 9999 then lp y else false
def leE (y : Int) : Int := if 1 ≤ y ∧ y ≤ 9999 then 0 else 3
theorem leB_yes {y : Int} (h : 1 ≤ y ∧ y ≤ 9999) : leB y = lp y := if_pos h
theorem leB_no {y : Int} (h : ¬ (1 ≤ y ∧ y ≤ 9999)) : leB y = false := if_neg h
theorem leE_yes {y : Int} (h : 1 ≤ y ∧ y ≤ 9999) : leE y = 0 := if_pos h
theorem leE_no {y : Int} (h : ¬ (1 ≤ y ∧ y ≤ 9999)) : leE y = 3 := if_neg h
/-- months later: 'at': the months since the year 0 -/
def moV (n many : Int) : Int :=
  if ¬ (0 ≤ n ∧ n ≤ 3652058) then 0 else if many < -120000 ∨ 120000 < many then 0 else
  if 12 * yO n + mO n - 1 + many < 12 ∨ 120000 ≤ 12 * yO n + mO n - 1 + many then 0 else
  raw ((12 * yO n + mO n - 1 + many) / 12) ((12 * yO n + mO n - 1 + many) % 12 + 1) (min (dO n) (ml ((12 * yO n + mO n - 1 + many) / 12) ((12 * yO n + mO n - 1 + many) % 12 + 1)))
def moE (n many : Int) : Int :=
  if ¬ (0 ≤ n ∧ n ≤ 3652058) then 3 else if many < -120000 ∨ 120000 < many then 8 else
  if 12 * yO n + mO n - 1 + many < 12 ∨ 120000 ≤ 12 * yO n + mO n - 1 + many then 8 else 0
theorem mo_no {n many : Int} (h : ¬ (0 ≤ n ∧ n ≤ 3652058)) : moV n many = 0 ∧ moE n many = 3 := ⟨if_pos h, if_pos h⟩
theorem mo_wide1 {n many : Int} (h : 0 ≤ n ∧ n ≤ 3652058) (h2 : many < -120000 ∨ 120000 < many) : moV n many = 0 ∧ moE n many = 8 := by
  unfold moV moE; rw [if_neg (by simpa using h), if_pos h2, if_neg (by simpa using h), if_pos h2]; exact ⟨rfl, rfl⟩
theorem mo_yes {n many : Int} (h : 0 ≤ n ∧ n ≤ 3652058) (h2 : -120000 ≤ many) (h3 : many ≤ 120000) :
    (12 * yO n + mO n - 1 + many < 12 ∨ 120000 ≤ 12 * yO n + mO n - 1 + many → moV n many = 0 ∧ moE n many = 8) ∧
    (12 ≤ 12 * yO n + mO n - 1 + many ∧ 12 * yO n + mO n - 1 + many < 120000 → moV n many = raw ((12 * yO n + mO n - 1 + many) / 12) ((12 * yO n + mO n - 1 + many) % 12 + 1) (min (dO n) (ml ((12 * yO n + mO n - 1 + many) / 12) ((12 * yO n + mO n - 1 + many) % 12 + 1))) ∧ moE n many = 0) := by
  unfold moV moE
  have a1 : ¬ ¬ (0 ≤ n ∧ n ≤ 3652058) := by simpa using h
  have a2 : ¬ (many < -120000 ∨ 120000 < many) := by omega
  rw [if_neg a1, if_neg a2, if_neg a1, if_neg a2]
  exact ⟨fun q => by rw [if_pos q, if_pos q]; exact ⟨rfl, rfl⟩, fun q => by rw [if_neg (by omega), if_neg (by omega)]; exact ⟨rfl, rfl⟩⟩
theorem dby_start (y : Int) : dby ((y - 1) / 400 * 400 + 1) = (y - 1) / 400 * 146097 := by unfold dby; omega
theorem dby_4 (n : Int) : dby (1 + n / 146097 * 400) = n / 146097 * 146097 := by unfold dby; omega
theorem guess4 {n : Int} (h0 : 0 ≤ n) (h : n ≤ 3652058) : 1 + n / 146097 * 400 ≤ yO n := by
  obtain ⟨a, b, _, _, _, _, _, _, h2⟩ := of_bds h0 h
  have h3 := dby_4 n
  by_cases hc : 1 + n / 146097 * 400 ≤ yO n
  · exact hc
  · exfalso
    by_cases e : yO n + 1 = 1 + n / 146097 * 400
    · rw [e, h3] at h2; omega
    · have := dby_mono (y := yO n + 1) (z := 1 + n / 146097 * 400) (by omega); have := L_01 (yO n + 1); omega
theorem b1 : fromV 2026 11 16 = 739935 ∧ fromE 2026 11 16 = 0 := by decide
theorem b2 : yO' 739935 = 2026 ∧ mO' 739935 = 11 ∧ dO' 739935 = 16 ∧ chk 739935 = 0 := by
  obtain ⟨e1, e2, e3⟩ := o_yes (n := 739935) (by decide)
  obtain ⟨g1, g2, g3⟩ := of_uniq (n := 739935) (y := 2026) (m := 11) (d := 16) (by decide) (by decide)
  rw [e1, e2, e3]
  exact ⟨g1, g2, g3, by decide⟩
theorem b3 : wk 739935 = 0 := by decide
theorem b4 : leB 1900 = false ∧ leE 1900 = 0 := by decide
theorem b5 : moV 739935 3 = 740027 ∧ moE 739935 3 = 0 := by
  obtain ⟨g1, g2, g3⟩ := of_uniq (n := 739935) (y := 2026) (m := 11) (d := 16) (by decide) (by decide)
  have := (mo_yes (n := 739935) (many := 3) (by decide) (by decide) (by decide)).2 (by rw [g1, g2]; decide)
  rw [g1, g2, g3] at this
  rw [this.1, this.2]
  decide
theorem b6 : fromV 9999 12 31 = 3652058 ∧ fromE 9999 12 31 = 0 := by decide
theorem b7 : fromV 2023 2 29 = 0 ∧ fromE 2023 2 29 = 3 := by decide
theorem of_from {y m d : Int} (h : Valid y m d) : yO' (fromV y m d) = y ∧ mO' (fromV y m d) = m ∧ dO' (fromV y m d) = d ∧ chk (fromV y m d) = 0 := by
  rw [fromV_yes h]
  have hb := raw_bd h
  obtain ⟨e1, e2, e3⟩ := o_yes hb
  obtain ⟨g1, g2, g3⟩ := of_uniq h rfl
  exact ⟨e1.trans g1, e2.trans g2, e3.trans g3, chk_yes hb.1 hb.2⟩
theorem fromV_bd {y m d : Int} (h : Valid y m d) : 0 ≤ fromV y m d ∧ fromV y m d ≤ 3652058 := by rw [fromV_yes h]; exact raw_bd h
theorem from_of {n : Int} (h : 0 ≤ n ∧ n ≤ 3652058) : fromV (yO' n) (mO' n) (dO' n) = n ∧ fromE (yO' n) (mO' n) (dO' n) = 0 := by
  obtain ⟨e1, e2, e3⟩ := o_yes h
  obtain ⟨v, r⟩ := of_ok n h.1 h.2
  rw [e1, e2, e3, fromV_yes v, fromE_yes v]
  exact ⟨r, rfl⟩
theorem round {y m d : Int} (h : Valid y m d) (hy : y ≤ 9599) : fromV (y + 400) m d = fromV y m d + 146097 ∧ fromE (y + 400) m d = 0 ∧ chk (fromV y m d) = 0 ∧ chk (fromV y m d + 146097) = 0 ∧ wk (fromV y m d + 146097) = wk (fromV y m d) := by
  have h' : Valid (y + 400) m d := by
    obtain ⟨a, b, c, e, f, g⟩ := h
    exact ⟨by omega, by omega, c, e, f, by rw [ml_400]; exact g⟩
  have r : raw (y + 400) m d = raw y m d + 146097 := by unfold raw; rw [dby_400, cum_400]; omega
  have b1 := raw_bd h
  have b2 := raw_bd h'
  rw [fromV_yes h', fromE_yes h', fromV_yes h]
  refine ⟨r, rfl, chk_yes b1.1 b1.2, chk_yes (by omega) (by omega), ?_⟩
  rw [wk_yes (by omega), wk_yes b1]
  omega
theorem wk_next {n : Int} (h0 : 0 ≤ n) (h1 : n < 3652058) : wk (n + 1) = (wk n + 1) % 7 ∧ chk (n + 1) = 0 ∧ 0 ≤ wk n ∧ wk n ≤ 6 := by
  rw [wk_yes ⟨by omega, by omega⟩, wk_yes ⟨h0, by omega⟩]
  exact ⟨by omega, chk_yes (by omega) (by omega), by omega, by omega⟩
/-- two days, by year, month and day -/
theorem order {n k : Int} (hn : 0 ≤ n ∧ n ≤ 3652058) (hk : 0 ≤ k ∧ k ≤ 3652058) :
    (yO' n < yO' k ∧ n < k) ∨ (yO' k < yO' n ∧ k < n) ∨ (yO' k = yO' n ∧ mO' n < mO' k ∧ n < k) ∨ (yO' k = yO' n ∧ mO' k < mO' n ∧ k < n) ∨
    (yO' k = yO' n ∧ mO' k = mO' n ∧ dO' n < dO' k ∧ n < k) ∨ (yO' k = yO' n ∧ mO' k = mO' n ∧ dO' k ≤ dO' n ∧ k ≤ n) := by
  obtain ⟨a1, a2, a3⟩ := o_yes hn
  obtain ⟨b1, b2, b3⟩ := o_yes hk
  rw [a1, a2, a3, b1, b2, b3]
  obtain ⟨v, r⟩ := of_ok n hn.1 hn.2
  obtain ⟨v', r'⟩ := of_ok k hk.1 hk.2
  by_cases c1 : yO n < yO k
  · exact .inl ⟨c1, by rw [← r, ← r']; exact raw_lt v v' (.inl c1)⟩
  by_cases c2 : yO k < yO n
  · exact .inr (.inl ⟨c2, by rw [← r, ← r']; exact raw_lt v' v (.inl c2)⟩)
  have c3 : yO k = yO n := by omega
  by_cases c4 : mO n < mO k
  · exact .inr (.inr (.inl ⟨c3, c4, by rw [← r, ← r']; exact raw_lt v v' (.inr ⟨c3.symm, .inl c4⟩)⟩))
  by_cases c5 : mO k < mO n
  · exact .inr (.inr (.inr (.inl ⟨c3, c5, by rw [← r, ← r']; exact raw_lt v' v (.inr ⟨c3, .inl c5⟩)⟩)))
  have c6 : mO k = mO n := by omega
  by_cases c7 : dO n < dO k
  · exact .inr (.inr (.inr (.inr (.inl ⟨c3, c6, c7, by rw [← r, ← r']; exact raw_lt v v' (.inr ⟨c3.symm, .inr ⟨c6.symm, c7⟩⟩)⟩))))
  · refine .inr (.inr (.inr (.inr (.inr ⟨c3, c6, by omega, ?_⟩))))
    by_cases c8 : dO k < dO n
    · have := raw_lt v' v (.inr ⟨c3, .inr ⟨c6, c8⟩⟩); omega
    · have c9 : dO k = dO n := by omega
      rw [← r, ← r', c3, c6, c9]; omega
/-- months there and back -/
theorem back {n many : Int} (h : 0 ≤ n ∧ n ≤ 3652058) (h2 : -120000 ≤ many) (h3 : many ≤ 120000) (h4 : 12 ≤ 12 * yO n + mO n - 1 + many ∧ 12 * yO n + mO n - 1 + many < 120000) :
    moE n many = 0 ∧ chk (moV n many) = 0 ∧ (∃ q, mO' (moV n many) - mO' n - many = 12 * q ∧ -20000 ≤ q ∧ q ≤ 20000) ∧ dO' (moV n many) ≤ dO' n ∧ 1 ≤ dO' (moV n many) ∧ dO' n ≤ 31 ∧ 28 ≤ ml (yO' (moV n many)) (mO' (moV n many)) ∧
    (dO' (moV n many) < dO' n → dO' (moV n many) = ml (yO' (moV n many)) (mO' (moV n many))) ∧ 1 ≤ yO' (moV n many) ∧ yO' (moV n many) ≤ 9999 ∧ 1 ≤ mO' (moV n many) ∧ mO' (moV n many) ≤ 12 ∧ 1 ≤ mO' n ∧ mO' n ≤ 12 ∧
    moE (moV n many) (-many) = 0 ∧ moV (moV n many) (-many) = n - (dO' n - dO' (moV n many)) := by
  obtain ⟨e1, e2⟩ := (mo_yes (many := many) h h2 h3).2 h4
  obtain ⟨c1, c2, c3⟩ := o_yes h
  obtain ⟨b1, b2, b3, b4, b5, b6, b7, b8, b9⟩ := of_bds h.1 h.2
  have hml := ml_bd ((12 * yO n + mO n - 1 + many) / 12) ((12 * yO n + mO n - 1 + many) % 12 + 1)
  have hml2 := ml_bd (yO n) (mO n)
  have hv : Valid ((12 * yO n + mO n - 1 + many) / 12) ((12 * yO n + mO n - 1 + many) % 12 + 1) (min (dO n) (ml ((12 * yO n + mO n - 1 + many) / 12) ((12 * yO n + mO n - 1 + many) % 12 + 1))) := ⟨by omega, by omega, by omega, by omega, by omega, by omega⟩
  have hb := raw_bd hv
  rw [← e1] at hb
  obtain ⟨g1, g2, g3⟩ := of_uniq hv e1.symm
  obtain ⟨d1, d2, d3⟩ := o_yes hb
  have hat : 12 * yO (moV n many) + mO (moV n many) - 1 + -many = 12 * yO n + mO n - 1 := by rw [g1, g2]; omega
  obtain ⟨f1, f2⟩ := (mo_yes (many := -many) hb (by omega) (by omega)).2 (by rw [hat]; omega)
  rw [hat] at f1
  have y1 : (12 * yO n + mO n - 1) / 12 = yO n := by omega
  have m1 : (12 * yO n + mO n - 1) % 12 + 1 = mO n := by omega
  rw [y1, m1, g3] at f1
  rw [f1, f2, e2, d1, d2, d3, c2, c3, g1, g2, g3]
  refine ⟨rfl, chk_yes hb.1 hb.2, ⟨yO n - (12 * yO n + mO n - 1 + many) / 12, by omega, by omega, by omega⟩, by omega, by omega, by omega, hml.1, by omega, by omega, by omega, by omega, by omega, by omega, by omega, rfl, ?_⟩
  unfold raw
  omega
theorem mo_err {n many : Int} (h : 0 ≤ n ∧ n ≤ 3652058) (h4 : ¬ (-120000 ≤ many ∧ many ≤ 120000 ∧ 12 ≤ 12 * yO n + mO n - 1 + many ∧ 12 * yO n + mO n - 1 + many < 120000)) : moV n many = 0 ∧ moE n many = 8 := by
  by_cases h2 : many < -120000 ∨ 120000 < many
  · exact mo_wide1 h h2
  · exact (mo_yes h (by omega) (by omega)).1 (by omega)
theorem long_step (y : Int) (h0 : 1 ≤ y) (h1 : y ≤ 9999) : fromV y 1 1 = dby y ∧ fromE y 1 1 = 0 := by
  have hv : Valid y 1 1 := ⟨h0, h1, by decide, by decide, by decide, by have := ml_bd y 1; omega⟩
  rw [fromV_yes hv, fromE_yes hv]
  exact ⟨by unfold raw; rw [cum_one]; omega, rfl⟩
theorem long_end (y : Int) : dby (y + 8) - dby y - 2920 = 1 ∨ dby (y + 8) - dby y - 2920 = 2 := by unfold dby; omega
end Go.Proofs.Yteblbhbfdfifpaa.D

/- What the functions of the package 'fail' answer, one fail at a time. -/
namespace Go.Proofs.Yteblbhbfdfifpaa
open Go Go.RowKit V
set_option maxRecDepth 100000
theorem v_fwithin (n a b : Int) : V.Fn Try.prog 66 [] [.one (.val (.int .i64 n)), .one (.val (.int .i64 a)), .one (.val (.int .i64 b))] (.bool (decide (a ≤ n ∧ n ≤ b))) := by
  refine V.Fn.mk_ V.Tok V.mixed Try.func66 rfl Try.ntmps66 (by kernel_rfl) rfl rfl ?_
  repeat' ((conv => whnf); first | refine V.NCond.mk ?_ | refine V.NIf.not_ ?_ | refine V.NIf.dec_ ?_ | refine V.NIf.no (by omega) ?_ | refine V.NIf.yes (by omega) ?_ | refine V.NIf.mk (fun _ => ?_) (fun _ => ?_) | refine V.NWrap.ok (by omega) (by omega) ?_ | refine V.NWrap.u64 (by omega) (by omega) ?_ | refine V.NLt.mk (by omega) ?_ | refine V.NBoth.mk ?_ ?_ | refine V.NTF.yes (by omega) ?_ | refine V.NTF.no (by omega) ?_ | refine V.NTF.dec ?_ | refine V.NDraw.q (by exact rfl) (by kernel_rfl) ?_ | refine V.NApp.one (by first | omega | (simp; omega)) (by first | omega | (simp; omega)) ?_ | (refine V.NDraw.any (by kernel_rfl) ?_) | fail)
  · exact ⟨_, rfl, by simp_all⟩
  · exact congrArg Value.bool (by simp_all; omega)
theorem v_dcheck (n : Int) : V.Fn Try.prog 79 [] [.one (.val (.int .i64 n))] (.int .i64 (D.chk n)) := by
  refine V.Fn.mk_ V.Tok V.mixed Try.func79 rfl Try.ntmps79 (by kernel_rfl) rfl rfl ?_
  repeat' ((conv => whnf); first | refine V.NCond.mk ?_ | refine V.NIf.not_ ?_ | refine V.NIf.dec_ ?_ | refine V.NIf.no (by omega) ?_ | refine V.NIf.yes (by omega) ?_ | refine V.NIf.mk (fun _ => ?_) (fun _ => ?_) | refine V.NWrap.ok (by omega) (by omega) ?_ | refine V.NWrap.u64 (by omega) (by omega) ?_ | refine V.NLt.mk (by omega) ?_ | refine V.NBoth.mk ?_ ?_ | refine V.NTF.yes (by omega) ?_ | refine V.NTF.no (by omega) ?_ | refine V.NTF.dec ?_ | refine V.NDraw.q (by exact rfl) (by kernel_rfl) ?_ | refine V.NApp.one (by first | omega | (simp; omega)) (by first | omega | (simp; omega)) ?_ | (refine V.NDraw.any (by kernel_rfl) ?_) | fail)
  all_goals ((conv => whnf); refine congrArg _ ?_; unfold D.chk; (repeat' split) <;> first | rfl | omega | (exfalso; omega) | (simp_all; done) | (simp_all; omega))
theorem v_known (f : Fl) : V.Fn Try.prog 65 [] [.agg [.val (.int .i64 f.id), .val (.int .i64 f.fr), .val (.int .i64 f.to), .val (.int .i64 f.cl), .val (.int .i64 f.pa), .val (.int .i64 f.day), .val (.int .i64 f.un), .val (.int .i64 f.de), .val (.int .i64 f.bo), .val (.int .i64 f.pd)]] (.bool (decide (F.Kn f))) := by
  have k : D.chk f.day = 0 ↔ (0 ≤ f.day ∧ f.day ≤ 3652058) := by unfold D.chk; split <;> omega
  refine V.Fn.mk_ V.Tok V.mixed Try.func65 rfl Try.ntmps65 (by kernel_rfl) rfl rfl ?_
  repeat' ((conv => whnf); first | refine V.NCond.mk ?_ | refine V.NIf.not_ ?_ | refine V.NIf.dec_ ?_ | refine V.NIf.no (by omega) ?_ | refine V.NIf.yes (by omega) ?_ | refine V.NIf.mk (fun _ => ?_) (fun _ => ?_) | refine V.NWrap.ok (by omega) (by omega) ?_ | refine V.NWrap.u64 (by omega) (by omega) ?_ | refine V.NLt.mk (by omega) ?_ | refine V.NBoth.mk ?_ ?_ | refine V.NTF.yes (by omega) ?_ | refine V.NTF.no (by omega) ?_ | refine V.NTF.dec ?_ | refine V.NDraw.q (by exact rfl) (by kernel_rfl) ?_ | refine V.NApp.one (by first | omega | (simp; omega)) (by first | omega | (simp; omega)) ?_ | (first | refine V.Fn.k0 (v_fwithin _ _ _) rfl ?_ | refine V.Fn.q0 (v_fwithin _ _ _) rfl ?_ | refine V.Fn.a0 (v_fwithin _ _ _) rfl ?_) | (first | refine V.Fn.k0 (v_dcheck _) rfl ?_ | refine V.Fn.q0 (v_dcheck _) rfl ?_ | refine V.Fn.a0 (v_dcheck _) rfl ?_) | (refine V.NDraw.any (by kernel_rfl) ?_) | fail)
  · exact congrArg Value.bool (decide_eq_decide.2 (by unfold F.Kn; omega))
  all_goals exact congrArg Value.bool (decide_eq_false (by unfold F.Kn; omega)).symm
theorem v_fcheck (f : Fl) : V.Fn Try.prog 48 [] [.agg [.val (.int .i64 f.id), .val (.int .i64 f.fr), .val (.int .i64 f.to), .val (.int .i64 f.cl), .val (.int .i64 f.pa), .val (.int .i64 f.day), .val (.int .i64 f.un), .val (.int .i64 f.de), .val (.int .i64 f.bo), .val (.int .i64 f.pd)]] (.int .i64 (F.chk f)) := by
  have kun : F.Kn f → f.un ≤ 1073741824 := fun h => h.2.2.2.2.2.2.2
  refine V.Fn.mk_ V.Tok V.mixed Try.func48 rfl Try.ntmps48 (by kernel_rfl) rfl rfl ?_
  repeat' ((conv => whnf); first | refine V.NCond.mk ?_ | refine V.NIf.not_ ?_ | refine V.NIf.dec_ ?_ | refine V.NIf.no (by omega) ?_ | refine V.NIf.yes (by omega) ?_ | refine V.NIf.mk (fun _ => ?_) (fun _ => ?_) | refine V.NWrap.ok (by omega) (by omega) ?_ | refine V.NWrap.u64 (by omega) (by omega) ?_ | refine V.NLt.mk (by omega) ?_ | refine V.NBoth.mk ?_ ?_ | refine V.NTF.yes (by omega) ?_ | refine V.NTF.no (by omega) ?_ | refine V.NTF.dec ?_ | refine V.NDraw.q (by exact rfl) (by kernel_rfl) ?_ | refine V.NApp.one (by first | omega | (simp; omega)) (by first | omega | (simp; omega)) ?_ | (first | refine V.Fn.k0 (v_fwithin _ _ _) rfl ?_ | refine V.Fn.q0 (v_fwithin _ _ _) rfl ?_ | refine V.Fn.a0 (v_fwithin _ _ _) rfl ?_) | (first | refine V.Fn.k0 (v_known _) rfl ?_ | refine V.Fn.q0 (v_known _) rfl ?_ | refine V.Fn.a0 (v_known _) rfl ?_) | (refine V.NWrap.ok (by have := kun (by assumption); omega) (by have := kun (by assumption); omega) ?_) | (refine V.NDraw.any (by kernel_rfl) ?_) | fail)
  all_goals ((conv => whnf); refine congrArg _ ?_; unfold F.chk F.Pt; (repeat' split) <;> first | rfl | omega | (exfalso; omega) | (simp_all; done) | (simp_all; omega))
theorem v_fleft (f : Fl) (h : F.Ok f) : V.Fn Try.prog 49 [] [.agg [.val (.int .i64 f.id), .val (.int .i64 f.fr), .val (.int .i64 f.to), .val (.int .i64 f.cl), .val (.int .i64 f.pa), .val (.int .i64 f.day), .val (.int .i64 f.un), .val (.int .i64 f.de), .val (.int .i64 f.bo), .val (.int .i64 f.pd)]] (.int .i64 (F.left f)) := by
  have hb := F.ok_bounds h
  refine V.Fn.mk_ V.Tok V.mixed Try.func49 rfl Try.ntmps49 (by kernel_rfl) rfl rfl ?_
  repeat' ((conv => whnf); first | refine V.NCond.mk ?_ | refine V.NIf.not_ ?_ | refine V.NIf.dec_ ?_ | refine V.NIf.no (by omega) ?_ | refine V.NIf.yes (by omega) ?_ | refine V.NIf.mk (fun _ => ?_) (fun _ => ?_) | refine V.NWrap.ok (by omega) (by omega) ?_ | refine V.NWrap.u64 (by omega) (by omega) ?_ | refine V.NLt.mk (by omega) ?_ | refine V.NBoth.mk ?_ ?_ | refine V.NTF.yes (by omega) ?_ | refine V.NTF.no (by omega) ?_ | refine V.NTF.dec ?_ | refine V.NDraw.q (by exact rfl) (by kernel_rfl) ?_ | refine V.NApp.one (by first | omega | (simp; omega)) (by first | omega | (simp; omega)) ?_ | (refine V.NDraw.any (by kernel_rfl) ?_) | fail)
  exact rfl
theorem v_less (f : Fl) (u : Int) : V.Fn Try.prog 62 [] [.agg [.val (.int .i64 f.id), .val (.int .i64 f.fr), .val (.int .i64 f.to), .val (.int .i64 f.cl), .val (.int .i64 f.pa), .val (.int .i64 f.day), .val (.int .i64 f.un), .val (.int .i64 f.de), .val (.int .i64 f.bo), .val (.int .i64 f.pd)], .one (.val (.int .i64 u))] (.int .i64 (F.less f u)) := by
  refine V.Fn.mk_ V.Tok V.mixed Try.func62 rfl Try.ntmps62 (by kernel_rfl) rfl rfl ?_
  repeat' ((conv => whnf); first | refine V.NCond.mk ?_ | refine V.NIf.not_ ?_ | refine V.NIf.dec_ ?_ | refine V.NIf.no (by omega) ?_ | refine V.NIf.yes (by omega) ?_ | refine V.NIf.mk (fun _ => ?_) (fun _ => ?_) | refine V.NWrap.ok (by omega) (by omega) ?_ | refine V.NWrap.u64 (by omega) (by omega) ?_ | refine V.NLt.mk (by omega) ?_ | refine V.NBoth.mk ?_ ?_ | refine V.NTF.yes (by omega) ?_ | refine V.NTF.no (by omega) ?_ | refine V.NTF.dec ?_ | refine V.NDraw.q (by exact rfl) (by kernel_rfl) ?_ | refine V.NApp.one (by first | omega | (simp; omega)) (by first | omega | (simp; omega)) ?_ | (first | refine V.Fn.k0 (v_fwithin _ _ _) rfl ?_ | refine V.Fn.q0 (v_fwithin _ _ _) rfl ?_ | refine V.Fn.a0 (v_fwithin _ _ _) rfl ?_) | (first | refine V.Fn.k0 (v_fcheck _) rfl ?_ | refine V.Fn.q0 (v_fcheck _) rfl ?_ | refine V.Fn.a0 (v_fcheck _) rfl ?_) | (first | refine V.Fn.k0 (v_fleft f (F.chk_ok (by omega))) rfl ?_ | refine V.Fn.q0 (v_fleft f (F.chk_ok (by omega))) rfl ?_ | refine V.Fn.a0 (v_fleft f (F.chk_ok (by omega))) rfl ?_) | (refine V.NDraw.any (by kernel_rfl) ?_) | fail)
  all_goals ((conv => whnf); refine congrArg _ ?_; unfold F.less; (repeat' split) <;> first | rfl | omega | (exfalso; omega) | (simp_all; done) | (simp_all; omega))
theorem v_deliver (f : Fl) (u : Int) : V.Fn Try.prog 44 [] [.agg [.val (.int .i64 f.id), .val (.int .i64 f.fr), .val (.int .i64 f.to), .val (.int .i64 f.cl), .val (.int .i64 f.pa), .val (.int .i64 f.day), .val (.int .i64 f.un), .val (.int .i64 f.de), .val (.int .i64 f.bo), .val (.int .i64 f.pd)], .one (.val (.int .i64 u))] (.tuple #[.agg #[.int .i64 (F.deliver f u).id, .int .i64 (F.deliver f u).fr, .int .i64 (F.deliver f u).to, .int .i64 (F.deliver f u).cl, .int .i64 (F.deliver f u).pa, .int .i64 (F.deliver f u).day, .int .i64 (F.deliver f u).un, .int .i64 (F.deliver f u).de, .int .i64 (F.deliver f u).bo, .int .i64 (F.deliver f u).pd], .int .i64 (F.less f u)]) := by
  have key : F.less f u = 0 → f.de + u ≤ 1073741824 * 2 ∧ 0 ≤ f.de + u := fun h => by have h1 := F.less_ok h; have := F.ok_bounds h1.1; omega
  refine V.Fn.mk_ V.Tok V.mixed Try.func44 rfl Try.ntmps44 (by kernel_rfl) rfl rfl ?_
  repeat' ((conv => whnf); first | refine V.NCond.mk ?_ | refine V.NIf.not_ ?_ | refine V.NIf.dec_ ?_ | refine V.NIf.no (by omega) ?_ | refine V.NIf.yes (by omega) ?_ | refine V.NIf.mk (fun _ => ?_) (fun _ => ?_) | refine V.NWrap.ok (by omega) (by omega) ?_ | refine V.NWrap.u64 (by omega) (by omega) ?_ | refine V.NLt.mk (by omega) ?_ | refine V.NBoth.mk ?_ ?_ | refine V.NTF.yes (by omega) ?_ | refine V.NTF.no (by omega) ?_ | refine V.NTF.dec ?_ | refine V.NDraw.q (by exact rfl) (by kernel_rfl) ?_ | refine V.NApp.one (by first | omega | (simp; omega)) (by first | omega | (simp; omega)) ?_ | (first | refine V.Fn.k0 (v_less _ _) rfl ?_ | refine V.Fn.q0 (v_less _ _) rfl ?_ | refine V.Fn.a0 (v_less _ _) rfl ?_) | (refine V.NDraw.any (by kernel_rfl) ?_) | fail)
  all_goals rename_i h
  · rw [F.deliver_yes h, h]; exact (by repeat' (first | exact rfl | exact Iff.rfl | exact trivial | exact (fun _ _ => rfl) | exact (fun _ h => absurd h (Nat.not_lt_zero _)) | refine ⟨?_, ?_⟩ | exact Iff.rfl | exact congrArg (fun z => V.SV.one (V.At.val (Value.int .i64 z))) (by omega)))
  · rw [F.deliver_no h]; exact (by repeat' (first | exact rfl | exact Iff.rfl | exact trivial | exact (fun _ _ => rfl) | exact (fun _ h => absurd h (Nat.not_lt_zero _)) | refine ⟨?_, ?_⟩ | exact Iff.rfl | exact congrArg (fun z => V.SV.one (V.At.val (Value.int .i64 z))) (by omega)))
theorem v_buy (f : Fl) (u : Int) : V.Fn Try.prog 45 [] [.agg [.val (.int .i64 f.id), .val (.int .i64 f.fr), .val (.int .i64 f.to), .val (.int .i64 f.cl), .val (.int .i64 f.pa), .val (.int .i64 f.day), .val (.int .i64 f.un), .val (.int .i64 f.de), .val (.int .i64 f.bo), .val (.int .i64 f.pd)], .one (.val (.int .i64 u))] (.tuple #[.agg #[.int .i64 (F.buy f u).id, .int .i64 (F.buy f u).fr, .int .i64 (F.buy f u).to, .int .i64 (F.buy f u).cl, .int .i64 (F.buy f u).pa, .int .i64 (F.buy f u).day, .int .i64 (F.buy f u).un, .int .i64 (F.buy f u).de, .int .i64 (F.buy f u).bo, .int .i64 (F.buy f u).pd], .int .i64 (F.less f u)]) := by
  have key : F.less f u = 0 → f.bo + u ≤ 1073741824 * 2 ∧ 0 ≤ f.bo + u := fun h => by have h1 := F.less_ok h; have := F.ok_bounds h1.1; omega
  refine V.Fn.mk_ V.Tok V.mixed Try.func45 rfl Try.ntmps45 (by kernel_rfl) rfl rfl ?_
  repeat' ((conv => whnf); first | refine V.NCond.mk ?_ | refine V.NIf.not_ ?_ | refine V.NIf.dec_ ?_ | refine V.NIf.no (by omega) ?_ | refine V.NIf.yes (by omega) ?_ | refine V.NIf.mk (fun _ => ?_) (fun _ => ?_) | refine V.NWrap.ok (by omega) (by omega) ?_ | refine V.NWrap.u64 (by omega) (by omega) ?_ | refine V.NLt.mk (by omega) ?_ | refine V.NBoth.mk ?_ ?_ | refine V.NTF.yes (by omega) ?_ | refine V.NTF.no (by omega) ?_ | refine V.NTF.dec ?_ | refine V.NDraw.q (by exact rfl) (by kernel_rfl) ?_ | refine V.NApp.one (by first | omega | (simp; omega)) (by first | omega | (simp; omega)) ?_ | (first | refine V.Fn.k0 (v_less _ _) rfl ?_ | refine V.Fn.q0 (v_less _ _) rfl ?_ | refine V.Fn.a0 (v_less _ _) rfl ?_) | (refine V.NDraw.any (by kernel_rfl) ?_) | fail)
  all_goals rename_i h
  · rw [F.buy_yes h, h]; exact (by repeat' (first | exact rfl | exact Iff.rfl | exact trivial | exact (fun _ _ => rfl) | exact (fun _ h => absurd h (Nat.not_lt_zero _)) | refine ⟨?_, ?_⟩ | exact Iff.rfl | exact congrArg (fun z => V.SV.one (V.At.val (Value.int .i64 z))) (by omega)))
  · rw [F.buy_no h]; exact (by repeat' (first | exact rfl | exact Iff.rfl | exact trivial | exact (fun _ _ => rfl) | exact (fun _ h => absurd h (Nat.not_lt_zero _)) | refine ⟨?_, ?_⟩ | exact Iff.rfl | exact congrArg (fun z => V.SV.one (V.At.val (Value.int .i64 z))) (by omega)))
theorem v_pay (f : Fl) : V.Fn Try.prog 46 [] [.agg [.val (.int .i64 f.id), .val (.int .i64 f.fr), .val (.int .i64 f.to), .val (.int .i64 f.cl), .val (.int .i64 f.pa), .val (.int .i64 f.day), .val (.int .i64 f.un), .val (.int .i64 f.de), .val (.int .i64 f.bo), .val (.int .i64 f.pd)]] (.tuple #[.agg #[.int .i64 (F.pay f).id, .int .i64 (F.pay f).fr, .int .i64 (F.pay f).to, .int .i64 (F.pay f).cl, .int .i64 (F.pay f).pa, .int .i64 (F.pay f).day, .int .i64 (F.pay f).un, .int .i64 (F.pay f).de, .int .i64 (F.pay f).bo, .int .i64 (F.pay f).pd], .int .i64 (F.paid f), .int .i64 (F.less f 1)]) := by
  have key : F.less f 1 = 0 → f.pd + F.left f ≤ 1073741824 * 2 ∧ 0 ≤ f.pd + F.left f := fun h => by have h1 := F.less_ok h; have := F.ok_bounds h1.1; omega
  refine V.Fn.mk_ V.Tok V.mixed Try.func46 rfl Try.ntmps46 (by kernel_rfl) rfl rfl ?_
  repeat' ((conv => whnf); first | refine V.NCond.mk ?_ | refine V.NIf.not_ ?_ | refine V.NIf.dec_ ?_ | refine V.NIf.no (by omega) ?_ | refine V.NIf.yes (by omega) ?_ | refine V.NIf.mk (fun _ => ?_) (fun _ => ?_) | refine V.NWrap.ok (by omega) (by omega) ?_ | refine V.NWrap.u64 (by omega) (by omega) ?_ | refine V.NLt.mk (by omega) ?_ | refine V.NBoth.mk ?_ ?_ | refine V.NTF.yes (by omega) ?_ | refine V.NTF.no (by omega) ?_ | refine V.NTF.dec ?_ | refine V.NDraw.q (by exact rfl) (by kernel_rfl) ?_ | refine V.NApp.one (by first | omega | (simp; omega)) (by first | omega | (simp; omega)) ?_ | (first | refine V.Fn.k0 (v_less _ _) rfl ?_ | refine V.Fn.q0 (v_less _ _) rfl ?_ | refine V.Fn.a0 (v_less _ _) rfl ?_) | (first | refine V.Fn.k0 (v_fleft f (F.less_ok (by assumption)).1) rfl ?_ | refine V.Fn.q0 (v_fleft f (F.less_ok (by assumption)).1) rfl ?_ | refine V.Fn.a0 (v_fleft f (F.less_ok (by assumption)).1) rfl ?_) | (refine V.NDraw.any (by kernel_rfl) ?_) | fail)
  all_goals rename_i h
  · rw [(F.pay_yes h).1, (F.pay_yes h).2, h]; exact (by repeat' (first | exact rfl | exact Iff.rfl | exact trivial | exact (fun _ _ => rfl) | exact (fun _ h => absurd h (Nat.not_lt_zero _)) | refine ⟨?_, ?_⟩ | exact Iff.rfl | exact congrArg (fun z => V.SV.one (V.At.val (Value.int .i64 z))) (by omega)))
  · rw [(F.pay_no h).1, (F.pay_no h).2]; exact (by repeat' (first | exact rfl | exact Iff.rfl | exact trivial | exact (fun _ _ => rfl) | exact (fun _ h => absurd h (Nat.not_lt_zero _)) | refine ⟨?_, ?_⟩ | exact Iff.rfl | exact congrArg (fun z => V.SV.one (V.At.val (Value.int .i64 z))) (by omega)))
theorem v_open (f : Fl) : V.Fn Try.prog 25 [] [.agg [.val (.int .i64 f.id), .val (.int .i64 f.fr), .val (.int .i64 f.to), .val (.int .i64 f.cl), .val (.int .i64 f.pa), .val (.int .i64 f.day), .val (.int .i64 f.un), .val (.int .i64 f.de), .val (.int .i64 f.bo), .val (.int .i64 f.pd)]] (.tuple #[.int .i64 (F.opn f), .int .i64 (F.chk f)]) := by
  refine V.Fn.mk_ V.Tok V.mixed Try.func25 rfl Try.ntmps25 (by kernel_rfl) rfl rfl ?_
  repeat' ((conv => whnf); first | refine V.NCond.mk ?_ | refine V.NIf.not_ ?_ | refine V.NIf.dec_ ?_ | refine V.NIf.no (by omega) ?_ | refine V.NIf.yes (by omega) ?_ | refine V.NIf.mk (fun _ => ?_) (fun _ => ?_) | refine V.NWrap.ok (by omega) (by omega) ?_ | refine V.NWrap.u64 (by omega) (by omega) ?_ | refine V.NLt.mk (by omega) ?_ | refine V.NBoth.mk ?_ ?_ | refine V.NTF.yes (by omega) ?_ | refine V.NTF.no (by omega) ?_ | refine V.NTF.dec ?_ | refine V.NDraw.q (by exact rfl) (by kernel_rfl) ?_ | refine V.NApp.one (by first | omega | (simp; omega)) (by first | omega | (simp; omega)) ?_ | (first | refine V.Fn.k0 (v_fcheck _) rfl ?_ | refine V.Fn.q0 (v_fcheck _) rfl ?_ | refine V.Fn.a0 (v_fcheck _) rfl ?_) | (first | refine V.Fn.k0 (v_fleft f (F.chk_ok (by assumption))) rfl ?_ | refine V.Fn.q0 (v_fleft f (F.chk_ok (by assumption))) rfl ?_ | refine V.Fn.a0 (v_fleft f (F.chk_ok (by assumption))) rfl ?_) | (refine V.NDraw.any (by kernel_rfl) ?_) | fail)
  all_goals rename_i h
  · rw [F.opn_yes h, h]; exact (by repeat' (first | exact rfl | exact Iff.rfl | exact trivial | exact (fun _ _ => rfl) | exact (fun _ h => absurd h (Nat.not_lt_zero _)) | refine ⟨?_, ?_⟩ | exact Iff.rfl | exact congrArg (fun z => V.SV.one (V.At.val (Value.int .i64 z))) (by omega)))
  · rw [F.opn_no h]; exact (by repeat' (first | exact rfl | exact Iff.rfl | exact trivial | exact (fun _ _ => rfl) | exact (fun _ h => absurd h (Nat.not_lt_zero _)) | refine ⟨?_, ?_⟩ | exact Iff.rfl | exact congrArg (fun z => V.SV.one (V.At.val (Value.int .i64 z))) (by omega)))
end Go.Proofs.Yteblbhbfdfifpaa

/- The walk of the checks of fails, with a set of ids; as a contract. -/
namespace Go.Proofs.Yteblbhbfdfifpaa
open Go.RowKit Go.Maps
set_option maxRecDepth 100000

theorem fcheck_c (f : Fl) (w : World) : Calls Try.prog 48 #[.agg #[.int .i64 f.id, .int .i64 f.fr, .int .i64 f.to, .int .i64 f.cl, .int .i64 f.pa, .int .i64 f.day, .int .i64 f.un, .int .i64 f.de, .int .i64 f.bo, .int .i64 f.pd]] w fun e w' => e = .returned (.int .i64 (F.chk f)) ∧ Below w.heap.size w w' :=
  (v_fcheck f).calls (xs := [.agg #[.int .i64 f.id, .int .i64 f.fr, .int .i64 f.to, .int .i64 f.cl, .int .i64 f.pa, .int .i64 f.day, .int .i64 f.un, .int .i64 f.de, .int .i64 f.bo, .int .i64 f.pd]]) w
/-- the slice at A holds the fails of l, below block B -/
def FailsAt (w : World) (B : Nat) (A : Option Addr) (l : List Fl) : Prop := ∀ k (hk : k < l.length), ∃ b off, A = some ⟨b, off, none⟩ ∧ b < B ∧
  w.cell? ⟨b, off + k * 10, none⟩ = some (.int .i64 l[k].id) ∧ w.cell? ⟨b, off + k * 10 + 1, none⟩ = some (.int .i64 l[k].fr) ∧ w.cell? ⟨b, off + k * 10 + 2, none⟩ = some (.int .i64 l[k].to) ∧
  w.cell? ⟨b, off + k * 10 + 3, none⟩ = some (.int .i64 l[k].cl) ∧ w.cell? ⟨b, off + k * 10 + 4, none⟩ = some (.int .i64 l[k].pa) ∧ w.cell? ⟨b, off + k * 10 + 5, none⟩ = some (.int .i64 l[k].day) ∧
  w.cell? ⟨b, off + k * 10 + 6, none⟩ = some (.int .i64 l[k].un) ∧ w.cell? ⟨b, off + k * 10 + 7, none⟩ = some (.int .i64 l[k].de) ∧ w.cell? ⟨b, off + k * 10 + 8, none⟩ = some (.int .i64 l[k].bo) ∧
  w.cell? ⟨b, off + k * 10 + 9, none⟩ = some (.int .i64 l[k].pd)
theorem FailsAt.keep {w w' : World} {B : Nat} {A : Option Addr} {l : List Fl} (h : FailsAt w B A l) (hb : Below B w w') : FailsAt w' B A l := by
  intro k hk
  obtain ⟨b, off, e, hB, c0, c1, c2, c3, c4, c5, c6, c7, c8, c9⟩ := h k hk
  have q : ∀ o, w'.cell? ⟨b, o, none⟩ = w.cell? ⟨b, o, none⟩ := fun o => hb.cell (p := ⟨b, o, none⟩) hB
  exact ⟨b, off, e, hB, (q _).trans c0, (q _).trans c1, (q _).trans c2, (q _).trans c3, (q _).trans c4, (q _).trans c5, (q _).trans c6, (q _).trans c7, (q _).trans c8, (q _).trans c9⟩
theorem FailsAt.to {w w' : World} {A : Option Addr} {l : List Fl} (h : FailsAt w w.heap.size A l) (hb : Below w.heap.size w w') : FailsAt w' w'.heap.size A l := by
  intro k hk
  obtain ⟨b, off, e, hB, r⟩ := h.keep hb k hk
  exact ⟨b, off, e, Nat.lt_of_lt_of_le hB hb.size, r⟩

/-- the set of the ids that were seen -/
def idSet (ids : List Int) : DataW Unit := setOf (.agg []) (ids.map (Lit.int .i64))
theorem idSet_zero : idSet [] = .map [] := by simp [idSet, setOf]
theorem idSet_snoc (ids : List Int) (x : Int) : idSet (ids ++ [x]) = (idSet ids).put (.int .i64 x) (.agg []) := by
  unfold idSet; rw [List.map_append]; exact setOf_snoc _ _ _
theorem any_ids (x : Int) : ∀ l : List Int, l.any ((fun y : Lit => y.sameKey (.int .i64 x)) ∘ Lit.int .i64) = l.contains x
  | [] => rfl
  | a :: r => by
    rw [List.any_cons, List.contains_cons, any_ids x r]
    congr 1
    show decide (IntKind.i64 = IntKind.i64 ∧ a = x) = (x == a)
    by_cases e : a = x
    · subst e; simp
    · have e' : ¬ x = a := fun h => e h.symm
      simp [e, e']
theorem has_ids (ids : List Int) (x : Int) : Maps.has (idSet ids) (.int .i64 x) = ids.contains x := by
  unfold idSet
  rw [has_setOf _ _ _ (fun y hy => by obtain ⟨_, _, rfl⟩ := List.mem_map.1 hy; trivial), List.any_map]
  exact any_ids x _
theorem intLaw : Keyed Try.prog 3 := int_keyed Try.underlying3
theorem zeroUnit (w : World) : (zeroValue 79).run Try.prog w = .ok (.agg #[]) w := by kernel_rfl

theorem fchecks_any (A : Option Addr) (l : List Fl) (c : Nat) (w : World) (hn : l.length ≤ 9223372036854775807) (ha : FailsAt w w.heap.size A l) : Calls Try.prog 24 #[.slice A l.length c] w fun e w' => e = .returned (.int .i64 (F.checks l)) ∧ Below w.heap.size w w' := by
  by_cases hm : 60 < l.length
  · have E := hid (F.checks_many hm)
    go_enter Try.func24, Try.ntmps24
    go_wp2
    go_ret
    exact ⟨by rw [E.out]; rfl, Below.refl _ _⟩
  have E := hid (F.checks_few (l := l) (by omega))
  have hmm := @run_makeMap Try.prog
  clear hn
  have hm2 : (l.length : Int) ≤ 60 := by omega
  go_enter Try.func24, Try.ntmps24
  go_wp2
  go_loopw [15] (fun i wr => ∃ k : Nat, k ≤ l.length ∧ i = .int .i64 k ∧ F.checks l = F.ckFrom ((l.take k).map (·.id)) (l.drop k) ∧ wr.ownsMap Try.prog 3 unitElem w.heap.size k (idSet ((l.take k).map (·.id))) ∧ Below w.heap.size w wr ∧ w.heap.size + 1 ≤ wr.heap.size) (fun i _ => l.length - (intOf i).toNat)
  case atStart => exact ⟨0, by omega, rfl, E.out, (show _ by rw [List.take_zero]; exact idSet_zero ▸ World.ownsMap_made _ _ _ _), balloc (Below.refl _ _) _, by simp⟩
  case round =>
    obtain ⟨k, hk, rfl, he, hown, hbw, hsz⟩ := hrel
    generalize hS : (l.take k).map (·.id) = S at *
    have HS := hid hS
    have HE := hid he
    clear he hS
    by_cases hlt : k < l.length
    · obtain ⟨b, off, rfl, hB, c0, c1, c2, c3, c4, c5, c6, c7, c8, c9⟩ := ha.keep hbw k hlt
      by_cases hc : F.chk l[k] = 0
      · have H0 := hid hc
        have hb0 : (F.chk l[k] != 0) = false := by rw [bne_eq_false_iff_eq]; exact hc
        have hkn := (F.chk_ok hc).1.1
        have hkey : keyOf Try.prog 3 (.int .i64 l[k].id) = some (.int .i64 l[k].id) := keyOf_int_mk Try.underlying3 (i64wf (by omega))
        clear hc hkn
        by_cases hmem : l[k].id ∈ S
        · have hh : Maps.has (idSet S) (.int .i64 l[k].id) = true := by rw [has_ids]; exact List.contains_iff_mem.2 hmem
          have HM := hid hmem
          clear hmem
          go_wp2_with (first
            | (go_at_call 48; refine (fcheck_c l[k] _).mono ?_; rintro e w1 ⟨rfl, hb1⟩; have hbw1 := bthen (balloc hbw _) hb1; have hown1 := (hown.alloc _).kept (only_of_below hb1 none) (by simp); obtain ⟨hc1, hf1⟩ := bcell hb1; have hz1 := hb1.size; (try simp at hz1); have hy1 : wr.heap.size < w1.heap.size := (by omega); have hx1 : w.heap.size < w1.heap.size := (by omega))
            | (at_lookup; refine wpList_lookup_own_unit _ rfl _ _ 78 rfl 3 79 intLaw Try.underlying78 (zeroUnit _) w.heap.size k _ rfl hown1 _ _ rfl hkey ?_)
            | (at_mapUpdate; refine wpList_mapUpdate_own _ rfl _ _ _ 78 rfl 3 79 intLaw Try.underlying78 (unitElem (H := Unit)) w.heap.size k _ rfl (hown1.alloc _) (by unfold maxLen; omega) _ _ _ rfl rfl hkey _ [] unitElem_mk ?_; intro w2 hown2 hgrow2))
          go_ret
          exact ⟨ret_int (by rw [HE.out, F.ckStep_twice hlt _ H0.out HM.out]), balloc hbw1 _⟩
        · have hh : Maps.has (idSet S) (.int .i64 l[k].id) = false := by rw [has_ids]; simpa using hmem
          have HM := hid hmem
          clear hmem
          go_wp2_with (first
            | (go_at_call 48; refine (fcheck_c l[k] _).mono ?_; rintro e w1 ⟨rfl, hb1⟩; have hbw1 := bthen (balloc hbw _) hb1; have hown1 := (hown.alloc _).kept (only_of_below hb1 none) (by simp); obtain ⟨hc1, hf1⟩ := bcell hb1; have hz1 := hb1.size; (try simp at hz1); have hy1 : wr.heap.size < w1.heap.size := (by omega); have hx1 : w.heap.size < w1.heap.size := (by omega))
            | (at_lookup; refine wpList_lookup_own_unit _ rfl _ _ 78 rfl 3 79 intLaw Try.underlying78 (zeroUnit _) w.heap.size k _ rfl hown1 _ _ rfl hkey ?_)
            | (at_mapUpdate; refine wpList_mapUpdate_own _ rfl _ _ _ 78 rfl 3 79 intLaw Try.underlying78 (unitElem (H := Unit)) w.heap.size k _ rfl (hown1.alloc _) (by unfold maxLen; omega) _ _ _ rfl rfl hkey _ [] unitElem_mk ?_; intro w2 hown2 hgrow2))
          go_roundw
          case rel =>
            refine ⟨k + 1, by omega, by go_num, by rw [HE.out, ← HS.out]; exact F.ckStep_on hlt H0.out (by rw [HS.out]; exact HM.out), ?_, ?_, ?_⟩
            · rw [F.ids_snoc hlt, idSet_snoc, HS.out]
              exact hown2.mono (by omega)
            · exact (balloc hbw1 _).grown hgrow2 (by simp; omega) (fun j hj => by cases hj; exact Nat.le_refl _)
            · have := hgrow2.size; simp at this; omega
          case measure => simp [intOf]; omega
      · have H0 := hid (F.ckStep_err hlt S hc)
        have hb0 : (F.chk l[k] != 0) = true := by rw [bne_iff_ne]; exact hc
        clear hc
        go_wp2_with (go_at_call 48; refine (fcheck_c l[k] _).mono ?_; rintro e w1 ⟨rfl, hb1⟩; have hbw1 := bthen (balloc hbw _) hb1)
        go_ret
        exact ⟨ret_int (by rw [HE.out, H0.out]), hbw1⟩
    · obtain rfl : k = l.length := by omega
      go_wp2
      go_ret
      exact ⟨ret_int (by rw [HE.out, F.ckEnd]), hbw⟩

def encF (f : Fl) : List Value := [.int .i64 f.id, .int .i64 f.fr, .int .i64 f.to, .int .i64 f.cl, .int .i64 f.pa, .int .i64 f.day, .int .i64 f.un, .int .i64 f.de, .int .i64 f.bo, .int .i64 f.pd]
theorem failsAt_of {w : World} {v : Value} {l : List Fl} (h : V.ArrIs w v 10 l.length (V.ga encF l)) : ∃ A c, v = .slice A l.length c ∧ l.length ≤ 9223372036854775807 ∧ FailsAt w w.heap.size A l := by
  obtain ⟨A, c, rfl, hn, _, hh⟩ := h
  refine ⟨A, c, rfl, hn, fun k hk => ?_⟩
  obtain ⟨a, rfl, hlt, _, hc⟩ := hh k hk
  rw [V.ga_at hk] at hc
  obtain ⟨a0, e0, _, _, hc0⟩ := hh 0 (by omega)
  injection e0 with e0
  subst e0
  rw [V.ga_at (by omega)] at hc0
  have h00 := hc0 0 (.int .i64 (l[0]'(by omega)).id) rfl
  obtain ⟨b, off, spot⟩ := a
  have hspot : spot = none := by
    have : (Addr.add ⟨b, off, spot⟩ (0 * 10 + 0)) = ⟨b, off, spot⟩ := rfl
    rw [this] at h00
    simpa using World.cell?_spot h00
  subst hspot
  have at' : ∀ j u, (encF l[k])[j]? = some u → w.cell? ⟨b, off + k * 10 + j, none⟩ = some u := fun j u hu => by
    have := hc j u hu
    rwa [Go.WideShapes.add_plain, ← Nat.add_assoc] at this
  exact ⟨b, off, rfl, hlt, at' 0 _ rfl, at' 1 _ rfl, at' 2 _ rfl, at' 3 _ rfl, at' 4 _ rfl, at' 5 _ rfl, at' 6 _ rfl, at' 7 _ rfl, at' 8 _ rfl, at' 9 _ rfl⟩
open V in
theorem v_fchecks (l : List Fl) : V.Fn Try.prog 24 [.arr 10 l.length (ga encF l)] [.one (.ref 0)] (.int .i64 (F.checks l)) :=
  ⟨by kernel_rfl, fun w ρ xs hr ha => by
    obtain ⟨x, r, rfl, ⟨hx, _⟩, rfl⟩ := ha
    obtain ⟨v, hv, hA⟩ := hr 0 _ rfl
    rw [hv] at hx
    injection hx with hx
    subst hx
    obtain ⟨A, c, rfl, hn, hF⟩ := failsAt_of hA
    exact fchecks_any A l c w hn hF⟩
end Go.Proofs.Yteblbhbfdfifpaa

/- What the functions on lists of fails answer. -/
namespace Go.Proofs.Yteblbhbfdfifpaa
open Go Go.RowKit V
set_option maxRecDepth 100000
theorem v_findc (f : Fl) (id : Int) : V.Fn Try.prog 64 [.cel [.val (.int .i64 id)]] [.agg [.val (.int .i64 f.id), .val (.int .i64 f.fr), .val (.int .i64 f.to), .val (.int .i64 f.cl), .val (.int .i64 f.pa), .val (.int .i64 f.day), .val (.int .i64 f.un), .val (.int .i64 f.de), .val (.int .i64 f.bo), .val (.int .i64 f.pd)], .one (.ptr 0 0 0 0)] (.bool (decide (f.id = id))) := by
  refine V.Fn.mk_ V.Tok V.mixed Try.func64 rfl Try.ntmps64 (by kernel_rfl) rfl rfl ?_
  repeat' ((conv => whnf); first | refine V.NCond.mk ?_ | refine V.NIf.not_ ?_ | refine V.NIf.dec_ ?_ | refine V.NIf.no (by omega) ?_ | refine V.NIf.yes (by omega) ?_ | refine V.NIf.mk (fun _ => ?_) (fun _ => ?_) | refine V.NWrap.ok (by omega) (by omega) ?_ | refine V.NWrap.u64 (by omega) (by omega) ?_ | refine V.NLt.mk (by omega) ?_ | refine V.NBoth.mk ?_ ?_ | refine V.NTF.yes (by omega) ?_ | refine V.NTF.no (by omega) ?_ | refine V.NTF.dec ?_ | refine V.NDraw.q (by exact rfl) (by kernel_rfl) ?_ | refine V.NApp.one (by first | omega | (simp; omega)) (by first | omega | (simp; omega)) ?_ | (refine V.NDraw.any (by kernel_rfl) ?_) | fail)
  exact ⟨_, rfl, by simp⟩
theorem v_index (l : List Fl) (id : Int) (hn : l.length ≤ 60) : V.Fn Try.prog 63 [.arr 10 l.length (ga encF l), .cel [.val (.int .i64 id)]] [.one (.ref 0), .one (.clo 64 [1])] (.int .i64 (F.idx id l 0)) := by
  refine V.Fn.mk_ V.Tok V.mixed Try.func63 rfl Try.ntmps63 (by kernel_rfl) rfl rfl ?_
  (conv => whnf)
  refine V.NLoop.go (fun (k : Nat) => [(8, .one (.val (.int .i64 k)))]) (fun (k : Nat) => []) [0, 1, 6, 7] [0, 1] (fun (k : Nat) => l.length - k) (fun (k : Nat) => k ≤ l.length ∧ F.idx id l 0 = F.idx id (l.drop k) k) 0 ⟨by omega, rfl⟩ (by repeat' (first | exact rfl | exact Iff.rfl | exact trivial | exact (fun _ _ => rfl) | exact (fun _ h => absurd h (Nat.not_lt_zero _)) | refine ⟨?_, ?_⟩ | exact Iff.rfl | exact congrArg (fun z => V.SV.one (V.At.val (Value.int .i64 z))) (by omega))) (by repeat' (first | exact rfl | exact Iff.rfl | exact trivial | exact (fun _ _ => rfl) | exact (fun _ h => absurd h (Nat.not_lt_zero _)) | refine ⟨?_, ?_⟩ | exact Iff.rfl | exact congrArg (fun z => V.SV.one (V.At.val (Value.int .i64 z))) (by omega))) (fun _ => ⟨rfl, rfl⟩) ?_; (conv => whnf); refine ⟨⟨rfl, rfl⟩, ?_⟩
  rintro k ⟨hk, hJ⟩
  repeat' ((conv => whnf); first | refine V.NCond.mk ?_ | refine V.NIf.not_ ?_ | refine V.NIf.dec_ ?_ | refine V.NIf.no (by omega) ?_ | refine V.NIf.yes (by omega) ?_ | refine V.NIf.mk (fun _ => ?_) (fun _ => ?_) | refine V.NWrap.ok (by omega) (by omega) ?_ | refine V.NWrap.u64 (by omega) (by omega) ?_ | refine V.NLt.mk (by omega) ?_ | refine V.NBoth.mk ?_ ?_ | refine V.NTF.yes (by omega) ?_ | refine V.NTF.no (by omega) ?_ | refine V.NTF.dec ?_ | refine V.NDraw.q (by exact rfl) (by kernel_rfl) ?_ | refine V.NApp.one (by first | omega | (simp; omega)) (by first | omega | (simp; omega)) ?_ | (refine NIdx.mk ⟨_, rfl, by omega, ?_⟩) | ((first | refine V.Fn.k (v_findc (l.getD k default) id) [1] rfl ?_ ?_ | refine V.Fn.q (v_findc (l.getD k default) id) [1] rfl ?_ ?_ | refine V.Fn.a (v_findc (l.getD k default) id) [1] rfl ?_ ?_); · ((repeat' (first | exact rfl | exact Iff.rfl | exact trivial | exact (fun _ _ => rfl) | exact (fun _ h => absurd h (Nat.not_lt_zero _)) | refine ⟨?_, ?_⟩ | exact Iff.rfl | exact congrArg (fun z => V.SV.one (V.At.val (Value.int .i64 z))) (by omega))); done)) | (refine V.NDraw.any (by kernel_rfl) ?_) | fail)
  · refine congrArg (Value.int .i64) ?_
    rw [hJ, F.idxStep (by omega) id, if_pos (by rw [← getD_at]; assumption)]
  · (conv => whnf)
    refine V.NBack.at_ (k + 1) [] ⟨by omega, ?_⟩ (by omega) (by repeat' (first | exact rfl | exact Iff.rfl | exact trivial | exact (fun _ _ => rfl) | exact (fun _ h => absurd h (Nat.not_lt_zero _)) | refine ⟨?_, ?_⟩ | exact Iff.rfl | exact congrArg (fun z => V.SV.one (V.At.val (Value.int .i64 z))) (by omega))) rfl (by repeat' (first | exact rfl | exact Iff.rfl | exact trivial | exact (fun _ _ => rfl) | exact (fun _ h => absurd h (Nat.not_lt_zero _)) | refine ⟨?_, ?_⟩ | exact Iff.rfl | exact congrArg (fun z => V.SV.one (V.At.val (Value.int .i64 z))) (by omega))) (by repeat' (first | exact rfl | exact Iff.rfl | exact trivial | exact (fun _ _ => rfl) | exact (fun _ h => absurd h (Nat.not_lt_zero _)) | refine ⟨?_, ?_⟩ | exact Iff.rfl | exact congrArg (fun z => V.SV.one (V.At.val (Value.int .i64 z))) (by omega))) (by repeat' (first | exact rfl | exact Iff.rfl | exact trivial | exact (fun _ _ => rfl) | exact (fun _ h => absurd h (Nat.not_lt_zero _)) | refine ⟨?_, ?_⟩ | exact Iff.rfl | exact congrArg (fun z => V.SV.one (V.At.val (Value.int .i64 z))) (by omega)))
    rw [hJ, F.idxStep (by omega) id, if_neg (by rw [← getD_at]; assumption)]
  · obtain rfl : k = l.length := by omega
    exact congrArg (Value.int .i64) (by rw [hJ, F.idxEnd])
theorem v_ffind (l : List Fl) (id : Int) : V.Fn Try.prog 47 [.arr 10 l.length (ga encF l)] [.one (.ref 0), .one (.val (.int .i64 id))] (.tuple #[.int .i64 (F.fndV id l), .int .i64 (F.fndE id l)]) := by
  have h60 : F.checks l = 0 → l.length ≤ 60 := fun h => F.checks_len (by rw [h]; decide)
  refine V.Fn.mk_ V.Tok V.mixed Try.func47 rfl Try.ntmps47 (by kernel_rfl) rfl rfl ?_
  repeat' ((conv => whnf); first | refine V.NCond.mk ?_ | refine V.NIf.not_ ?_ | refine V.NIf.dec_ ?_ | refine V.NIf.no (by omega) ?_ | refine V.NIf.yes (by omega) ?_ | refine V.NIf.mk (fun _ => ?_) (fun _ => ?_) | refine V.NWrap.ok (by omega) (by omega) ?_ | refine V.NWrap.u64 (by omega) (by omega) ?_ | refine V.NLt.mk (by omega) ?_ | refine V.NBoth.mk ?_ ?_ | refine V.NTF.yes (by omega) ?_ | refine V.NTF.no (by omega) ?_ | refine V.NTF.dec ?_ | refine V.NDraw.q (by exact rfl) (by kernel_rfl) ?_ | refine V.NApp.one (by first | omega | (simp; omega)) (by first | omega | (simp; omega)) ?_ | ((first | refine V.Fn.k (v_fchecks l) [0] rfl ?_ ?_ | refine V.Fn.q (v_fchecks l) [0] rfl ?_ ?_ | refine V.Fn.a (v_fchecks l) [0] rfl ?_ ?_); · ((repeat' (first | exact rfl | exact Iff.rfl | exact trivial | exact (fun _ _ => rfl) | exact (fun _ h => absurd h (Nat.not_lt_zero _)) | refine ⟨?_, ?_⟩ | exact Iff.rfl | exact congrArg (fun z => V.SV.one (V.At.val (Value.int .i64 z))) (by omega))); done)) | ((first | refine V.Fn.k (v_index l id (h60 (by assumption))) [0, 1] rfl ?_ ?_ | refine V.Fn.q (v_index l id (h60 (by assumption))) [0, 1] rfl ?_ ?_ | refine V.Fn.a (v_index l id (h60 (by assumption))) [0, 1] rfl ?_ ?_); · ((repeat' (first | exact rfl | exact Iff.rfl | exact trivial | exact (fun _ _ => rfl) | exact (fun _ h => absurd h (Nat.not_lt_zero _)) | refine ⟨?_, ?_⟩ | exact Iff.rfl | exact congrArg (fun z => V.SV.one (V.At.val (Value.int .i64 z))) (by omega))); done)) | (refine V.NDraw.any (by kernel_rfl) ?_) | fail)
  · rename_i h k
    rw [(F.fnd_2 h k).1, (F.fnd_2 h k).2]; exact (by repeat' (first | exact rfl | exact Iff.rfl | exact trivial | exact (fun _ _ => rfl) | exact (fun _ h => absurd h (Nat.not_lt_zero _)) | refine ⟨?_, ?_⟩ | exact Iff.rfl | exact congrArg (fun z => V.SV.one (V.At.val (Value.int .i64 z))) (by omega)))
  · rename_i h k
    rw [(F.fnd_3 h k).1, (F.fnd_3 h k).2]; exact (by repeat' (first | exact rfl | exact Iff.rfl | exact trivial | exact (fun _ _ => rfl) | exact (fun _ h => absurd h (Nat.not_lt_zero _)) | refine ⟨?_, ?_⟩ | exact Iff.rfl | exact congrArg (fun z => V.SV.one (V.At.val (Value.int .i64 z))) (by omega)))
  · rename_i h
    rw [(F.fnd_1 h).1, (F.fnd_1 h).2]; exact (by repeat' (first | exact rfl | exact Iff.rfl | exact trivial | exact (fun _ _ => rfl) | exact (fun _ h => absurd h (Nat.not_lt_zero _)) | refine ⟨?_, ?_⟩ | exact Iff.rfl | exact congrArg (fun z => V.SV.one (V.At.val (Value.int .i64 z))) (by omega)))
theorem v_rfopen (f : Fl) (h : F.Kn f ∧ F.Pt f) : V.Fn Try.prog 38 [] [.agg [.val (.int .i64 f.id), .val (.int .i64 f.fr), .val (.int .i64 f.to), .val (.int .i64 f.cl), .val (.int .i64 f.pa), .val (.int .i64 f.day), .val (.int .i64 f.un), .val (.int .i64 f.de), .val (.int .i64 f.bo), .val (.int .i64 f.pd)]] (.int .i64 (F.left f)) := by
  obtain ⟨⟨_, _, _, _, _, _, k1, k2⟩, ⟨p1, p2⟩, ⟨p3, p4⟩, p5, p6⟩ := h
  refine V.Fn.mk_ V.Tok V.mixed Try.func38 rfl Try.ntmps38 (by kernel_rfl) rfl rfl ?_
  repeat' ((conv => whnf); first | refine V.NCond.mk ?_ | refine V.NIf.not_ ?_ | refine V.NIf.dec_ ?_ | refine V.NIf.no (by omega) ?_ | refine V.NIf.yes (by omega) ?_ | refine V.NIf.mk (fun _ => ?_) (fun _ => ?_) | refine V.NWrap.ok (by omega) (by omega) ?_ | refine V.NWrap.u64 (by omega) (by omega) ?_ | refine V.NLt.mk (by omega) ?_ | refine V.NBoth.mk ?_ ?_ | refine V.NTF.yes (by omega) ?_ | refine V.NTF.no (by omega) ?_ | refine V.NTF.dec ?_ | refine V.NDraw.q (by exact rfl) (by kernel_rfl) ?_ | refine V.NApp.one (by first | omega | (simp; omega)) (by first | omega | (simp; omega)) ?_ | (refine V.NDraw.any (by kernel_rfl) ?_) | fail)
  exact congrArg (Value.int .i64) (by unfold F.left; omega)
theorem v_rfcheck (f : Fl) : V.Fn Try.prog 61 [] [.agg [.val (.int .i64 f.id), .val (.int .i64 f.fr), .val (.int .i64 f.to), .val (.int .i64 f.cl), .val (.int .i64 f.pa), .val (.int .i64 f.day), .val (.int .i64 f.un), .val (.int .i64 f.de), .val (.int .i64 f.bo), .val (.int .i64 f.pd)]] (.int .i64 (F.chk f)) := by
  refine V.Fn.mk_ V.Tok V.mixed Try.func61 rfl Try.ntmps61 (by kernel_rfl) rfl rfl ?_
  repeat' ((conv => whnf); first | refine V.NCond.mk ?_ | refine V.NIf.not_ ?_ | refine V.NIf.dec_ ?_ | refine V.NIf.no (by omega) ?_ | refine V.NIf.yes (by omega) ?_ | refine V.NIf.mk (fun _ => ?_) (fun _ => ?_) | refine V.NWrap.ok (by omega) (by omega) ?_ | refine V.NWrap.u64 (by omega) (by omega) ?_ | refine V.NLt.mk (by omega) ?_ | refine V.NBoth.mk ?_ ?_ | refine V.NTF.yes (by omega) ?_ | refine V.NTF.no (by omega) ?_ | refine V.NTF.dec ?_ | refine V.NDraw.q (by exact rfl) (by kernel_rfl) ?_ | refine V.NApp.one (by first | omega | (simp; omega)) (by first | omega | (simp; omega)) ?_ | (first | refine V.Fn.k0 (v_rbetween _ _ _) rfl ?_ | refine V.Fn.q0 (v_rbetween _ _ _) rfl ?_ | refine V.Fn.a0 (v_rbetween _ _ _) rfl ?_) | (first | refine V.Fn.k0 (v_rfopen f (by unfold F.Kn F.Pt; omega)) rfl ?_ | refine V.Fn.q0 (v_rfopen f (by unfold F.Kn F.Pt; omega)) rfl ?_ | refine V.Fn.a0 (v_rfopen f (by unfold F.Kn F.Pt; omega)) rfl ?_) | (refine V.NDraw.any (by kernel_rfl) ?_) | fail)
  all_goals (try simp only [F.left] at *)
  all_goals ((conv => whnf); refine congrArg _ ?_; unfold F.chk F.Pt F.Kn; (repeat' split) <;> first | rfl | omega | (exfalso; omega) | (simp_all; done) | (simp_all; omega))
theorem v_rfchecks (l : List Fl) : V.Fn Try.prog 37 [.arr 10 l.length (ga encF l)] [.one (.ref 0)] (.int .i64 (F.checks l)) := by
  refine V.Fn.mk_ V.Tok V.mixed Try.func37 rfl Try.ntmps37 (by kernel_rfl) rfl rfl ?_
  (conv => whnf)
  refine V.NCond.mk ?_
  refine NIf.mk (fun hm => ?_) (fun hm => ?_)
  · exact congrArg (Value.int .i64) (F.checks_many (by omega)).symm
  have hlen : l.length ≤ 60 := by omega
  (conv => whnf)
  refine V.NLoop.go (fun (k : Nat) => [(3, .one (.val (.int .i64 k)))]) (fun (k : Nat) => []) [0] [0] (fun (k : Nat) => l.length - k) (fun (k : Nat) => k ≤ l.length ∧ F.checks l = F.ckFrom ((l.take k).map (·.id)) (l.drop k)) 0 ⟨by omega, F.checks_few hlen⟩ (by repeat' (first | exact rfl | exact Iff.rfl | exact trivial | exact (fun _ _ => rfl) | exact (fun _ h => absurd h (Nat.not_lt_zero _)) | refine ⟨?_, ?_⟩ | exact Iff.rfl | exact congrArg (fun z => V.SV.one (V.At.val (Value.int .i64 z))) (by omega))) (by repeat' (first | exact rfl | exact Iff.rfl | exact trivial | exact (fun _ _ => rfl) | exact (fun _ h => absurd h (Nat.not_lt_zero _)) | refine ⟨?_, ?_⟩ | exact Iff.rfl | exact congrArg (fun z => V.SV.one (V.At.val (Value.int .i64 z))) (by omega))) (fun _ => ⟨rfl, rfl⟩) ?_; (conv => whnf); refine ⟨⟨rfl, rfl⟩, ?_⟩
  rintro k ⟨hk, hJ⟩
  repeat' ((conv => whnf); first | refine V.NCond.mk ?_ | refine V.NIf.not_ ?_ | refine V.NIf.dec_ ?_ | refine V.NIf.no (by omega) ?_ | refine V.NIf.yes (by omega) ?_ | refine V.NIf.mk (fun _ => ?_) (fun _ => ?_) | refine V.NWrap.ok (by omega) (by omega) ?_ | refine V.NWrap.u64 (by omega) (by omega) ?_ | refine V.NLt.mk (by omega) ?_ | refine V.NBoth.mk ?_ ?_ | refine V.NTF.yes (by omega) ?_ | refine V.NTF.no (by omega) ?_ | refine V.NTF.dec ?_ | refine V.NDraw.q (by exact rfl) (by kernel_rfl) ?_ | refine V.NApp.one (by first | omega | (simp; omega)) (by first | omega | (simp; omega)) ?_ | (refine NIdx.mk ⟨_, rfl, by omega, ?_⟩) | (first | refine V.Fn.k0 (v_rfcheck (l.getD k default)) rfl ?_ | refine V.Fn.q0 (v_rfcheck (l.getD k default)) rfl ?_ | refine V.Fn.a0 (v_rfcheck (l.getD k default)) rfl ?_) | (refine V.NDraw.any (by kernel_rfl) ?_) | fail)
  · rename_i h0
    have hlt : k < l.length := by omega
    rw [getD_at hlt] at h0
    (conv => whnf)
    refine V.NLoop.go (fun (j : Nat) => [(5, .one (.val (.int .i64 j)))]) (fun (j : Nat) => []) [0, 3] [0] (fun (j : Nat) => k - j) (fun (j : Nat) => j ≤ k ∧ l[k].id ∉ (l.take j).map (·.id)) 0 ⟨by omega, by simp⟩ (by repeat' (first | exact rfl | exact Iff.rfl | exact trivial | exact (fun _ _ => rfl) | exact (fun _ h => absurd h (Nat.not_lt_zero _)) | refine ⟨?_, ?_⟩ | exact Iff.rfl | exact congrArg (fun z => V.SV.one (V.At.val (Value.int .i64 z))) (by omega))) (by repeat' (first | exact rfl | exact Iff.rfl | exact trivial | exact (fun _ _ => rfl) | exact (fun _ h => absurd h (Nat.not_lt_zero _)) | refine ⟨?_, ?_⟩ | exact Iff.rfl | exact congrArg (fun z => V.SV.one (V.At.val (Value.int .i64 z))) (by omega))) (fun _ => ⟨rfl, rfl⟩) ?_; (conv => whnf); refine ⟨⟨rfl, rfl⟩, ?_⟩
    rintro j ⟨hj, hnot⟩
    repeat' ((conv => whnf); first | refine V.NCond.mk ?_ | refine V.NIf.not_ ?_ | refine V.NIf.dec_ ?_ | refine V.NIf.no (by omega) ?_ | refine V.NIf.yes (by omega) ?_ | refine V.NIf.mk (fun _ => ?_) (fun _ => ?_) | refine V.NWrap.ok (by omega) (by omega) ?_ | refine V.NWrap.u64 (by omega) (by omega) ?_ | refine V.NLt.mk (by omega) ?_ | refine V.NBoth.mk ?_ ?_ | refine V.NTF.yes (by omega) ?_ | refine V.NTF.no (by omega) ?_ | refine V.NTF.dec ?_ | refine V.NDraw.q (by exact rfl) (by kernel_rfl) ?_ | refine V.NApp.one (by first | omega | (simp; omega)) (by first | omega | (simp; omega)) ?_ | (refine NIdx.mk ⟨_, rfl, by omega, ?_⟩) | (refine NDraw.mk (by kernel_rfl) ?_) | (refine V.NDraw.any (by kernel_rfl) ?_) | fail)
    · rename_i hj2 he
      have hj3 : j < l.length := by omega
      rw [getD_at hj3, getD_at hlt] at he
      refine congrArg (Value.int .i64) ?_
      rw [hJ]; exact (F.ckStep_twice hlt _ h0 (F.mem_take hj3 (by omega) he)).symm
    · rename_i hj2 he
      have hj3 : j < l.length := by omega
      rw [getD_at hj3, getD_at hlt] at he
      (conv => whnf)
      refine V.NBack.at_ (j + 1) [] ⟨by omega, F.not_snoc hj3 hnot he⟩ (by omega) (by repeat' (first | exact rfl | exact Iff.rfl | exact trivial | exact (fun _ _ => rfl) | exact (fun _ h => absurd h (Nat.not_lt_zero _)) | refine ⟨?_, ?_⟩ | exact Iff.rfl | exact congrArg (fun z => V.SV.one (V.At.val (Value.int .i64 z))) (by omega))) rfl (by repeat' (first | exact rfl | exact Iff.rfl | exact trivial | exact (fun _ _ => rfl) | exact (fun _ h => absurd h (Nat.not_lt_zero _)) | refine ⟨?_, ?_⟩ | exact Iff.rfl | exact congrArg (fun z => V.SV.one (V.At.val (Value.int .i64 z))) (by omega))) (by repeat' (first | exact rfl | exact Iff.rfl | exact trivial | exact (fun _ _ => rfl) | exact (fun _ h => absurd h (Nat.not_lt_zero _)) | refine ⟨?_, ?_⟩ | exact Iff.rfl | exact congrArg (fun z => V.SV.one (V.At.val (Value.int .i64 z))) (by omega))) (by repeat' (first | exact rfl | exact Iff.rfl | exact trivial | exact (fun _ _ => rfl) | exact (fun _ h => absurd h (Nat.not_lt_zero _)) | refine ⟨?_, ?_⟩ | exact Iff.rfl | exact congrArg (fun z => V.SV.one (V.At.val (Value.int .i64 z))) (by omega)))
    · obtain rfl : j = k := by omega
      (conv => whnf)
      refine V.NBack.at_ (j + 1) [] ⟨by omega, ?_⟩ (by omega) (by repeat' (first | exact rfl | exact Iff.rfl | exact trivial | exact (fun _ _ => rfl) | exact (fun _ h => absurd h (Nat.not_lt_zero _)) | refine ⟨?_, ?_⟩ | exact Iff.rfl | exact congrArg (fun z => V.SV.one (V.At.val (Value.int .i64 z))) (by omega))) rfl (by repeat' (first | exact rfl | exact Iff.rfl | exact trivial | exact (fun _ _ => rfl) | exact (fun _ h => absurd h (Nat.not_lt_zero _)) | refine ⟨?_, ?_⟩ | exact Iff.rfl | exact congrArg (fun z => V.SV.one (V.At.val (Value.int .i64 z))) (by omega))) (by repeat' (first | exact rfl | exact Iff.rfl | exact trivial | exact (fun _ _ => rfl) | exact (fun _ h => absurd h (Nat.not_lt_zero _)) | refine ⟨?_, ?_⟩ | exact Iff.rfl | exact congrArg (fun z => V.SV.one (V.At.val (Value.int .i64 z))) (by omega))) (by repeat' (first | exact rfl | exact Iff.rfl | exact trivial | exact (fun _ _ => rfl) | exact (fun _ h => absurd h (Nat.not_lt_zero _)) | refine ⟨?_, ?_⟩ | exact Iff.rfl | exact congrArg (fun z => V.SV.one (V.At.val (Value.int .i64 z))) (by omega)))
      rw [hJ]; exact F.ckStep_on hlt h0 hnot
  · refine congrArg (Value.int .i64) ?_
    rw [hJ, F.ckStep_err (by omega) _ (by rw [← getD_at]; assumption), ← getD_at]
  · obtain rfl : k = l.length := by omega
    exact congrArg (Value.int .i64) (by rw [hJ, F.ckEnd])
end Go.Proofs.Yteblbhbfdfifpaa

/- Plain facts on what is put down. -/
namespace Go.Proofs.Yteblbhbfdfifpaa
set_option linter.unusedVariables false
structure St where
  pa : Int
  un : Int
  ct : Int
instance : Inhabited St := ⟨⟨0, 0, 0⟩⟩
namespace K
def Ok (s : St) : Prop := (1 ≤ s.pa ∧ s.pa ≤ 20) ∧ (1 ≤ s.un ∧ s.un ≤ 1073741824) ∧ (0 ≤ s.ct ∧ s.ct ≤ 10000)
instance (s : St) : Decidable (Ok s) := by unfold Ok; exact inferInstance
def chk (l : List St) : Int := if 40 < l.length then 2 else if ∀ s ∈ l, Ok s then 0 else 3
theorem chk_ok {l : List St} (h : chk l = 0) : l.length ≤ 40 ∧ ∀ s ∈ l, Ok s := by
  unfold chk at h
  split at h
  · omega
  · split at h
    · exact ⟨by omega, by assumption⟩
    · omega
theorem chk_of {l : List St} (h1 : l.length ≤ 40) (h2 : ∀ s ∈ l, Ok s) : chk l = 0 := by
  unfold chk; rw [if_neg (by omega), if_pos h2]
theorem chk_bad {l : List St} (h1 : l.length ≤ 40) {s : St} (hs : s ∈ l) (h2 : ¬ Ok s) : chk l = 3 := by
  unfold chk; rw [if_neg (by omega), if_neg fun q => h2 (q s hs)]
/-- what so many units of a stake count -/
def cnt (ps : List Int) (s : St) (u : Int) : Int := P.cost u (P.pr ps s.pa) * s.ct / 10000
theorem cnt_bd {ps : List Int} {s : St} {u : Int} (h : P.chks ps = 0) (hs : Ok s) (hu : 0 ≤ u ∧ u ≤ 1073741824) : 0 ≤ cnt ps s u ∧ cnt ps s u ≤ 118059162071741130 := by
  have h1 := P.cost_bd hu (P.pr_ok h hs.1)
  have h2 := P.rate_bd h1.1 hs.2.2
  unfold cnt; omega
theorem cnt_mono {ps : List Int} {s : St} {u v : Int} (h : P.chks ps = 0) (hs : Ok s) (huv : u ≤ v) : cnt ps s u ≤ cnt ps s v :=
  P.rate_mono (P.cost_mono huv (P.pr_ok h hs.1)) hs.2.2.1
theorem cnt_zero (ps : List Int) (s : St) : cnt ps s 0 = 0 := by unfold cnt P.cost; simp
/-- stakes, and prices -/
def ck (l : List St) (ps : List Int) : Int := if chk l ≠ 0 then chk l else P.chks ps
theorem ck_ok {l : List St} {ps : List Int} (h : ck l ps = 0) : chk l = 0 ∧ P.chks ps = 0 := by
  unfold ck at h
  split at h
  · exact absurd h ‹_›
  · exact ⟨by omega, h⟩
theorem ck_of {l : List St} {ps : List Int} (h1 : chk l = 0) (h2 : P.chks ps = 0) : ck l ps = 0 := by
  unfold ck; rw [if_neg (by omega), h2]
theorem ck_1 {l : List St} {ps : List Int} (h : ¬ chk l = 0) : ck l ps = chk l := if_pos h
theorem ck_2 {l : List St} {ps : List Int} (h : chk l = 0) : ck l ps = P.chks ps := if_neg (by omega)
/-- what all count -/
def cts (ps : List Int) (l : List St) : List Int := l.map fun s => cnt ps s s.un
def val (ps : List Int) (l : List St) : Int := M.sum (cts ps l)
theorem val_snoc {ps : List Int} {l : List St} {k : Nat} (h : k < l.length) : val ps (l.take (k + 1)) = val ps (l.take k) + cnt ps (l.getD k default) (l.getD k default).un := by
  unfold val cts
  rw [List.take_succ_eq_append_getElem h, List.map_append, M.sum_append, getD_at h]; simp [M.sum]
theorem val_app {ps : List Int} {l m : List St} : val ps (l ++ m) = val ps l + val ps m := by
  unfold val cts; rw [List.map_append, M.sum_append]
theorem val_bd {ps : List Int} {l : List St} (h : P.chks ps = 0) (hs : ∀ s ∈ l, Ok s) (hl : l.length ≤ 80) : 0 ≤ val ps l ∧ val ps l ≤ 118059162071741130 * (l.length : Int) := by
  induction l with
  | nil => simp [val, cts, M.sum]
  | cons s l ih =>
    have h1 := ih (fun x hx => hs x (by simp [hx])) (by simp at hl; omega)
    have h2 := cnt_bd (u := s.un) h (hs s (by simp)) (by have := (hs s (by simp)).2.1; omega)
    simp only [val, cts, List.map_cons, M.sum, List.length_cons, Int.natCast_add, Int.mul_add] at *
    omega
theorem val_take {ps : List Int} {l : List St} (h : P.chks ps = 0) (hs : ∀ s ∈ l, Ok s) (hl : l.length ≤ 80) (k : Nat) : val ps (l.take k) ≤ val ps l := by
  have e : val ps l = val ps (l.take k) + val ps (l.drop k) := by rw [← val_app, List.take_append_drop]
  have := val_bd h (fun s hs' => hs s (List.mem_of_mem_drop hs')) (l := l.drop k) (by simp; omega)
  omega
theorem one_le {ps : List Int} {l : List St} (h : P.chks ps = 0) (hs : ∀ s ∈ l, Ok s) (hl : l.length ≤ 80) {i : Nat} (hi : i < l.length) : cnt ps (l.getD i default) (l.getD i default).un ≤ val ps l := by
  have h1 := val_take h hs hl (i + 1)
  have h2 := val_snoc (ps := ps) hi
  have h3 := val_bd h (fun s hs' => hs s (List.mem_of_mem_take hs')) (l := l.take i) (by simp; omega)
  omega
def vE (l : List St) (ps : List Int) : Int := if ck l ps ≠ 0 then ck l ps else if 1152921504606846976 < val ps l then 8 else 0
def vV (l : List St) (ps : List Int) : Int := if vE l ps = 0 then val ps l else 0
theorem v_1 {l : List St} {ps : List Int} (h : ¬ ck l ps = 0) : vE l ps = ck l ps ∧ vV l ps = 0 := by
  have e : vE l ps = ck l ps := if_pos h
  exact ⟨e, if_neg (by omega)⟩
theorem v_2 {l : List St} {ps : List Int} (h : ck l ps = 0) (k : 1152921504606846976 < val ps l) : vE l ps = 8 ∧ vV l ps = 0 := by
  have e : vE l ps = 8 := by unfold vE; rw [if_neg (by omega), if_pos k]
  exact ⟨e, if_neg (by omega)⟩
theorem v_3 {l : List St} {ps : List Int} (h : ck l ps = 0) (k : ¬ 1152921504606846976 < val ps l) : vE l ps = 0 ∧ vV l ps = val ps l := by
  have e : vE l ps = 0 := by unfold vE; rw [if_neg (by omega), if_neg k]
  exact ⟨e, if_pos e⟩
theorem v_ok {l : List St} {ps : List Int} (h : vE l ps = 0) : ck l ps = 0 ∧ val ps l ≤ 1152921504606846976 ∧ vV l ps = val ps l := by
  by_cases a : ck l ps = 0
  · by_cases b : 1152921504606846976 < val ps l
    · rw [(v_2 a b).1] at h; omega
    · exact ⟨a, by omega, (v_3 a b).2⟩
  · rw [(v_1 a).1] at h; exact absurd h a
def vl (ps : List Int) (l : List St) : Int := if 1152921504606846976 < val ps l then 0 else val ps l
theorem vl_yes {ps : List Int} {l : List St} (h : ¬ 1152921504606846976 < val ps l) : vl ps l = val ps l := if_neg h
theorem vl_no {ps : List Int} {l : List St} (h : 1152921504606846976 < val ps l) : vl ps l = 0 := if_pos h
theorem vV_bd {l : List St} {ps : List Int} (h : vE l ps = 0) : 0 ≤ vV l ps ∧ vV l ps ≤ 1152921504606846976 := by
  obtain ⟨a1, a2, a3⟩ := v_ok h
  obtain ⟨c1, c2⟩ := ck_ok a1
  obtain ⟨c3, c4⟩ := chk_ok c1
  have := val_bd c2 c4 (by omega)
  omega
/-- two lists -/
theorem two {l m : List St} {ps : List Int} (h1 : vE l ps = 0) (h2 : vE m ps = 0) : vE (l ++ m) ps = 2 ∨ vE (l ++ m) ps = 8 ∨ (vE (l ++ m) ps = 0 ∧ vV (l ++ m) ps = vV l ps + vV m ps) := by
  obtain ⟨a1, a2, a3⟩ := v_ok h1
  obtain ⟨b1, b2, b3⟩ := v_ok h2
  obtain ⟨c1, c2⟩ := ck_ok a1
  obtain ⟨d1, _⟩ := ck_ok b1
  obtain ⟨c3, c4⟩ := chk_ok c1
  obtain ⟨d3, d4⟩ := chk_ok d1
  by_cases q : 40 < (l ++ m).length
  · left
    have e : chk (l ++ m) = 2 := if_pos q
    exact (v_1 (by rw [ck_1 (by omega)]; omega)).1.trans ((ck_1 (by omega)).trans e)
  · have e : chk (l ++ m) = 0 := chk_of (by omega) fun s hs => by
      rcases List.mem_append.1 hs with h | h
      · exact c4 s h
      · exact d4 s h
    have ek := ck_of e c2
    by_cases k : 1152921504606846976 < val ps (l ++ m)
    · exact .inr (.inl (v_2 ek k).1)
    · obtain ⟨x, y⟩ := v_3 ek k
      exact .inr (.inr ⟨x, by rw [y, val_app, a3, b3]⟩)
/-- stakes that count nothing -/
def noth (l : List St) (k : Nat) : List St := (l.take k).map fun s => ⟨s.pa, s.un, 0⟩
theorem noth_succ {l : List St} {k : Nat} (h : k < l.length) : noth l (k + 1) = noth l k ++ [⟨(l.getD k default).pa, (l.getD k default).un, 0⟩] := by
  unfold noth; rw [List.take_succ_eq_append_getElem h, List.map_append, getD_at h]; rfl
theorem noth_v {l : List St} {ps : List Int} (h : vE l ps = 0) : vE (noth l l.length) ps = 0 ∧ vV (noth l l.length) ps = 0 := by
  obtain ⟨a1, _, _⟩ := v_ok h
  obtain ⟨c1, c2⟩ := ck_ok a1
  obtain ⟨c3, c4⟩ := chk_ok c1
  have e : chk (noth l l.length) = 0 := chk_of (by simp [noth]; omega) fun s hs => by
    unfold noth at hs
    obtain ⟨x, hx, rfl⟩ := List.mem_map.1 hs
    obtain ⟨h1, h2, h3⟩ := c4 x (List.mem_of_mem_take hx)
    exact ⟨h1, h2, Int.le_refl _, (by decide : (0 : Int) ≤ 10000)⟩
  have ev : val ps (noth l l.length) = 0 := by
    unfold val cts noth
    generalize l.take l.length = m
    induction m with
    | nil => rfl
    | cons s m ih =>
      simp only [List.map_cons, M.sum]
      rw [ih]
      show P.cost s.un (P.pr ps s.pa) * 0 / 10000 + 0 = 0
      rw [Int.mul_zero]; rfl
  obtain ⟨x, y⟩ := v_3 (ck_of e c2) (by rw [ev]; decide)
  exact ⟨x, y.trans ev⟩
/-- calls -/
def caE (has need least : Int) : Int := if ¬ ((0 ≤ has ∧ has ≤ 1152921504606846976) ∧ (0 ≤ need ∧ need ≤ 1152921504606846976) ∧ (0 ≤ least ∧ least ≤ 1152921504606846976)) then 3 else 0
def caV (has need least : Int) : Int := if caE has need least = 0 ∧ has < need ∧ least ≤ need - has then need - has else 0
/-- what must stay -/
structure Stay (ps : List Int) (s : St) (oth need m : Int) : Prop where
  b : 0 ≤ m ∧ m ≤ s.un
  y : need ≤ oth + cnt ps s m
  n : m = 0 ∨ oth + cnt ps s (m - 1) < need
theorem stay_one {ps : List Int} {s : St} {oth need m k : Int} (h : P.chks ps = 0) (hs : Ok s) (a : Stay ps s oth need m) (b : Stay ps s oth need k) : m = k := by
  have key : ∀ {m k : Int}, Stay ps s oth need m → Stay ps s oth need k → ¬ m < k := fun {m k} a b q => by
    rcases b.n with e | e
    · have := a.b; omega
    · have := cnt_mono h hs (show m ≤ k - 1 by omega)
      have := a.y; omega
  have h1 := key a b
  have h2 := key b a
  omega
noncomputable def stay (ps : List Int) (s : St) (oth need : Int) : Int := Classical.epsilon (Stay ps s oth need)
theorem stay_is {ps : List Int} {s : St} {oth need m : Int} (h : P.chks ps = 0) (hs : Ok s) (a : Stay ps s oth need m) : stay ps s oth need = m :=
  stay_one h hs (Classical.epsilon_spec ⟨m, a⟩) a
def oth (ps : List Int) (l : List St) (at_ : Nat) : Int := val ps l - cnt ps (l.getD at_ default) (l.getD at_ default).un
def spE (l : List St) (ps : List Int) (need at_ : Int) : Int :=
  if ck l ps ≠ 0 then ck l ps else if ¬ (0 ≤ need ∧ need ≤ 1152921504606846976) then 3 else if at_ < 0 ∨ l.length ≤ at_ then 5 else if 1152921504606846976 < val ps l then 8 else if val ps l < need then 4 else 0
noncomputable def spV (l : List St) (ps : List Int) (need at_ : Int) : Int :=
  if spE l ps need at_ = 0 then (l.getD at_.toNat default).un - stay ps (l.getD at_.toNat default) (oth ps l at_.toNat) need else 0
theorem sp_bad {l : List St} {ps : List Int} {need at_ c : Int} (h : spE l ps need at_ = c) (hc : c ≠ 0) : spV l ps need at_ = 0 ∧ spE l ps need at_ = c := ⟨if_neg (by omega), h⟩
theorem sp_1 {l : List St} {ps : List Int} {need at_ : Int} (h : ¬ ck l ps = 0) : spE l ps need at_ = ck l ps := if_pos h
theorem sp_2 {l : List St} {ps : List Int} {need at_ : Int} (h : ck l ps = 0) (h2 : ¬ (0 ≤ need ∧ need ≤ 1152921504606846976)) : spE l ps need at_ = 3 := (if_neg (by omega)).trans (if_pos h2)
theorem sp_3 {l : List St} {ps : List Int} {need at_ : Int} (h : ck l ps = 0) (h2 : 0 ≤ need ∧ need ≤ 1152921504606846976) (h3 : at_ < 0 ∨ l.length ≤ at_) : spE l ps need at_ = 5 := ((if_neg (by omega)).trans (if_neg (fun q => q h2))).trans (if_pos h3)
theorem sp_4 {l : List St} {ps : List Int} {need at_ : Int} (h : ck l ps = 0) (h2 : 0 ≤ need ∧ need ≤ 1152921504606846976) (h3 : ¬ (at_ < 0 ∨ l.length ≤ at_)) (h4 : 1152921504606846976 < val ps l) : spE l ps need at_ = 8 := (((if_neg (by omega)).trans (if_neg (fun q => q h2))).trans (if_neg h3)).trans (if_pos h4)
theorem sp_5 {l : List St} {ps : List Int} {need at_ : Int} (h : ck l ps = 0) (h2 : 0 ≤ need ∧ need ≤ 1152921504606846976) (h3 : ¬ (at_ < 0 ∨ l.length ≤ at_)) (h4 : ¬ 1152921504606846976 < val ps l) (h5 : val ps l < need) : spE l ps need at_ = 4 := ((((if_neg (by omega)).trans (if_neg (fun q => q h2))).trans (if_neg h3)).trans (if_neg h4)).trans (if_pos h5)
theorem sp_6 {l : List St} {ps : List Int} {need at_ : Int} (h : ck l ps = 0) (h2 : 0 ≤ need ∧ need ≤ 1152921504606846976) (h3 : ¬ (at_ < 0 ∨ l.length ≤ at_)) (h4 : ¬ 1152921504606846976 < val ps l) (h5 : ¬ val ps l < need) : spE l ps need at_ = 0 := ((((if_neg (by omega)).trans (if_neg (fun q => q h2))).trans (if_neg h3)).trans (if_neg h4)).trans (if_neg h5)
theorem sp_no {l : List St} {ps : List Int} {need at_ : Int} (h : ¬ spE l ps need at_ = 0) : spV l ps need at_ = 0 := if_neg h
theorem sp_ok {l : List St} {ps : List Int} {need at_ : Int} (h : spE l ps need at_ = 0) : ck l ps = 0 ∧ (0 ≤ need ∧ need ≤ 1152921504606846976) ∧ (0 ≤ at_ ∧ at_ < l.length) ∧ need ≤ val ps l ∧ val ps l ≤ 1152921504606846976 := by
  unfold spE at h
  split at h
  · exact absurd h ‹_›
  split at h
  · omega
  split at h
  · omega
  split at h
  · omega
  split at h
  · omega
  omega
theorem stay_ex {l : List St} {ps : List Int} {need at_ : Int} (h : spE l ps need at_ = 0) : Stay ps (l.getD at_.toNat default) (oth ps l at_.toNat) need (stay ps (l.getD at_.toNat default) (oth ps l at_.toNat) need) := by
  obtain ⟨h1, h2, h3, h4, h5⟩ := sp_ok h
  obtain ⟨c1, c2⟩ := ck_ok h1
  obtain ⟨c3, c4⟩ := chk_ok c1
  have hs := c4 _ (getD_mem (l := l) (k := at_.toNat) (by omega))
  have ho : oth ps l at_.toNat + cnt ps (l.getD at_.toNat default) (l.getD at_.toNat default).un = val ps l := by unfold oth; omega
  generalize l.getD at_.toNat default = s at *
  have key : ∀ n : Nat, (n : Int) ≤ s.un → need ≤ oth ps l at_.toNat + cnt ps s n → ∃ m, Stay ps s (oth ps l at_.toNat) need m := by
    intro n
    induction n with
    | zero => intro hn hq; exact ⟨0, ⟨by omega, by simpa using hq, .inl rfl⟩⟩
    | succ n ih =>
      intro hn hq
      by_cases q : need ≤ oth ps l at_.toNat + cnt ps s n
      · exact ih (by omega) q
      · exact ⟨((n + 1 : Nat) : Int), ⟨by omega, hq, .inr (by rw [show ((n + 1 : Nat) : Int) - 1 = n by omega]; omega)⟩⟩
  have e : ((s.un.toNat : Nat) : Int) = s.un := Int.toNat_of_nonneg (by have := hs.2.1; omega)
  obtain ⟨m, hm⟩ := key s.un.toNat (by omega) (by
    rw [e]; omega)
  exact Classical.epsilon_spec ⟨m, hm⟩
/-- what a party must put down -/
def nds (fs : List Fl) (ps : List Int) (party : Int) : List Int := (fs.filter fun f => decide (f.fr = party)).map fun f => P.cost (F.left f) (P.pr ps f.pa)
def need (fs : List Fl) (ps : List Int) (party : Int) : Int := M.sum (nds fs ps party)
def nE (fs : List Fl) (ps : List Int) (party rate : Int) : Int :=
  if F.checks fs ≠ 0 then F.checks fs else if P.chks ps ≠ 0 then P.chks ps else if ¬ ((0 ≤ party ∧ party ≤ 30) ∧ (0 ≤ rate ∧ rate ≤ 10000)) then 3 else if 1152921504606846976 < need fs ps party then 8 else 0
def nV (fs : List Fl) (ps : List Int) (party rate : Int) : Int := if nE fs ps party rate = 0 then need fs ps party * rate / 10000 else 0
theorem checks_all {fs : List Fl} (h : F.checks fs = 0) : fs.length ≤ 60 ∧ (∀ f ∈ fs, F.Ok f) ∧ (fs.map (·.id)).Nodup := by
  have h60 : fs.length ≤ 60 := F.checks_len (by omega)
  unfold F.checks at h
  rw [if_neg (by omega)] at h
  obtain ⟨a, b⟩ := F.ckFrom_ok h
  exact ⟨h60, fun f hf => F.chk_ok (a f hf).1, b⟩
theorem checks_of {fs : List Fl} (h : fs.length ≤ 60) (a : ∀ f ∈ fs, F.Ok f) (b : (fs.map (·.id)).Nodup) : F.checks fs = 0 := by
  unfold F.checks
  rw [if_neg (by omega)]
  exact F.ckFrom_of (fun f hf => ⟨F.chk_of (a f hf), by simp⟩) b
theorem left_bd {f : Fl} (h : F.Ok f) : 0 ≤ F.left f ∧ F.left f ≤ 1073741824 := by
  have := F.ok_bounds h; omega
theorem ask_bd {ps : List Int} {f : Fl} (h : P.chks ps = 0) (hf : F.Ok f) : 0 ≤ P.cost (F.left f) (P.pr ps f.pa) ∧ P.cost (F.left f) (P.pr ps f.pa) ≤ 118059162071741130 :=
  P.cost_bd (left_bd hf) (P.pr_ok h hf.1.2.2.2.2.1)
theorem need_snoc {fs : List Fl} {ps : List Int} {party : Int} {k : Nat} (h : k < fs.length) : need (fs.take (k + 1)) ps party = need (fs.take k) ps party + if (fs.getD k default).fr = party then P.cost (F.left (fs.getD k default)) (P.pr ps (fs.getD k default).pa) else 0 := by
  unfold need nds
  rw [List.take_succ_eq_append_getElem h, List.filter_append, List.map_append, M.sum_append, getD_at h]
  by_cases q : fs[k].fr = party <;> simp [q, M.sum]
theorem need_bd {ps : List Int} {party : Int} {fs : List Fl} (h : P.chks ps = 0) (hf : ∀ f ∈ fs, F.Ok f) : 0 ≤ need fs ps party ∧ need fs ps party ≤ 118059162071741130 * (fs.length : Int) := by
  induction fs with
  | nil => simp [need, nds, M.sum]
  | cons f fs ih =>
    have h1 := ih (fun x hx => hf x (by simp [hx]))
    have h2 := ask_bd h (hf f (by simp))
    have e : need (f :: fs) ps party = (if f.fr = party then P.cost (F.left f) (P.pr ps f.pa) else 0) + need fs ps party := by
      unfold need nds
      by_cases q : f.fr = party <;> simp [q, M.sum]
    rw [e, List.length_cons]
    simp only [Int.natCast_add, Int.mul_add]
    split <;> omega
theorem n_1 {fs : List Fl} {ps : List Int} {party rate : Int} (h : ¬ F.checks fs = 0) : nE fs ps party rate = F.checks fs ∧ nV fs ps party rate = 0 := by
  have e : nE fs ps party rate = F.checks fs := if_pos h
  exact ⟨e, if_neg (by omega)⟩
theorem n_2 {fs : List Fl} {ps : List Int} {party rate : Int} (h : F.checks fs = 0) (h2 : ¬ P.chks ps = 0) : nE fs ps party rate = P.chks ps ∧ nV fs ps party rate = 0 := by
  have e : nE fs ps party rate = P.chks ps := (if_neg (by omega)).trans (if_pos h2)
  exact ⟨e, if_neg (by omega)⟩
theorem n_3 {fs : List Fl} {ps : List Int} {party rate : Int} (h : F.checks fs = 0) (h2 : P.chks ps = 0) (h3 : ¬ ((0 ≤ party ∧ party ≤ 30) ∧ (0 ≤ rate ∧ rate ≤ 10000))) : nE fs ps party rate = 3 ∧ nV fs ps party rate = 0 := by
  have e : nE fs ps party rate = 3 := ((if_neg (by omega)).trans (if_neg (by omega))).trans (if_pos h3)
  exact ⟨e, if_neg (by omega)⟩
theorem n_4 {fs : List Fl} {ps : List Int} {party rate : Int} (h : F.checks fs = 0) (h2 : P.chks ps = 0) (h3 : (0 ≤ party ∧ party ≤ 30) ∧ (0 ≤ rate ∧ rate ≤ 10000)) (h4 : 1152921504606846976 < need fs ps party) : nE fs ps party rate = 8 ∧ nV fs ps party rate = 0 := by
  have e : nE fs ps party rate = 8 := (((if_neg (by omega)).trans (if_neg (by omega))).trans (if_neg (fun q => q h3))).trans (if_pos h4)
  exact ⟨e, if_neg (by omega)⟩
theorem n_5 {fs : List Fl} {ps : List Int} {party rate : Int} (h : F.checks fs = 0) (h2 : P.chks ps = 0) (h3 : (0 ≤ party ∧ party ≤ 30) ∧ (0 ≤ rate ∧ rate ≤ 10000)) (h4 : ¬ 1152921504606846976 < need fs ps party) : nE fs ps party rate = 0 ∧ nV fs ps party rate = need fs ps party * rate / 10000 := by
  have e : nE fs ps party rate = 0 := (((if_neg (by omega)).trans (if_neg (by omega))).trans (if_neg (fun q => q h3))).trans (if_neg h4)
  exact ⟨e, if_pos e⟩
theorem n_no {fs : List Fl} {ps : List Int} {party rate : Int} (h : ¬ nE fs ps party rate = 0) : nV fs ps party rate = 0 := if_neg h
theorem n_ok {fs : List Fl} {ps : List Int} {party rate : Int} (h : nE fs ps party rate = 0) : F.checks fs = 0 ∧ P.chks ps = 0 ∧ (0 ≤ party ∧ party ≤ 30) ∧ (0 ≤ rate ∧ rate ≤ 10000) ∧ need fs ps party ≤ 1152921504606846976 ∧ nV fs ps party rate = need fs ps party * rate / 10000 := by
  have e : nV fs ps party rate = need fs ps party * rate / 10000 := if_pos h
  unfold nE at h
  split at h
  · exact absurd h ‹_›
  split at h
  · exact absurd h ‹_›
  split at h
  · omega
  split at h
  · omega
  rename_i a b c d
  exact ⟨Classical.not_not.1 a, Classical.not_not.1 b, by omega, by omega, by omega, e⟩
end K
end Go.Proofs.Yteblbhbfdfifpaa

/- What is asked of dues: plain, and the functions that check them. -/
namespace Go.Proofs.Yteblbhbfdfifpaa
open Go Go.RowKit V
set_option maxRecDepth 100000
set_option linter.unusedVariables false
structure Du where
  fr : Int
  to : Int
  am : Int
instance : Inhabited Du := ⟨⟨0, 0, 0⟩⟩
def encD (d : Du) : List Value := [.int .i64 d.fr, .int .i64 d.to, .int .i64 d.am]
namespace N
def ck1 (d : Du) : Int := if ¬ ((0 ≤ d.fr ∧ d.fr ≤ 30) ∧ (0 ≤ d.to ∧ d.to ≤ 30) ∧ 1 ≤ d.am ∧ d.am ≤ 1152921504606846976) then 3 else if d.fr = d.to then 1 else 0
def chk (l : List Du) : Int := if 60 < l.length then 2 else fb ck1 l
theorem chk_ok {l : List Du} (h : chk l = 0) : l.length ≤ 60 ∧ ∀ d ∈ l, ck1 d = 0 := by
  unfold chk at h
  split at h
  · omega
  · exact ⟨by omega, fb_ok h⟩
theorem ck_ok {d : Du} (h : ck1 d = 0) : (0 ≤ d.fr ∧ d.fr ≤ 30) ∧ (0 ≤ d.to ∧ d.to ≤ 30) ∧ (1 ≤ d.am ∧ d.am ≤ 1152921504606846976) ∧ d.fr ≠ d.to := by
  unfold ck1 at h
  split at h
  · omega
  · split at h <;> omega
end N
end Go.Proofs.Yteblbhbfdfifpaa

/- Plain facts on what papers bring. -/
namespace Go.Proofs.Yteblbhbfdfifpaa
set_option linter.unusedVariables false
structure Ev where
  pa : Int
  ca : Int
  gi : Int
  fo : Int
structure Po where
  ac : Int
  ut : Int
  am : Int
instance : Inhabited Ev := ⟨⟨0, 0, 0, 0⟩⟩
def encE (p : Ev) : List Go.Value := [.int .i64 p.pa, .int .i64 p.ca, .int .i64 p.gi, .int .i64 p.fo]
instance : Inhabited Po := ⟨⟨0, 0, 0⟩⟩
def encP (p : Po) : List Go.Value := [.int .i64 p.ac, .int .i64 p.ut, .int .i64 p.am]
namespace C
def Ok (v : Ev) : Prop := (1 ≤ v.pa ∧ v.pa ≤ 20) ∧ P.Ok v.ca ∧ (0 ≤ v.gi ∧ v.gi ≤ 1000) ∧ (0 ≤ v.fo ∧ v.fo ≤ 1000)
instance (v : Ev) : Decidable (Ok v) := by unfold Ok; exact inferInstance
def Odd (v : Ev) : Prop := ¬ (v.gi = 0 ↔ v.fo = 0) ∨ (v.gi = 0 ∧ v.ca = 0)
instance (v : Ev) : Decidable (Odd v) := by unfold Odd; exact inferInstance
def ev (v : Ev) : Int := if ¬ Ok v then 3 else if Odd v then 1 else 0
theorem ev_ok {v : Ev} (h : ev v = 0) : Ok v ∧ (v.gi = 0 ↔ v.fo = 0) ∧ ¬ (v.gi = 0 ∧ v.ca = 0) := by
  unfold ev at h
  split at h
  · omega
  · split at h
    · omega
    · rename_i a b
      unfold Odd at b
      exact ⟨Classical.not_not.1 a, Classical.not_not.1 fun q => b (.inl q), fun q => b (.inr q)⟩
theorem ev_1 {v : Ev} (h : ¬ Ok v) : ev v = 3 := if_pos h
theorem ev_2 {v : Ev} (h : Ok v) (k : Odd v) : ev v = 1 := (if_neg (fun q => q h)).trans (if_pos k)
theorem ev_3 {v : Ev} (h : Ok v) (k : ¬ Odd v) : ev v = 0 := (if_neg (fun q => q h)).trans (if_neg k)
def uE (v : Ev) (u : Int) : Int := if ev v ≠ 0 then ev v else if ¬ (0 ≤ u ∧ u ≤ 1073741824) then 3 else 0
theorem uE_ok {v : Ev} {u : Int} (h : uE v u = 0) : ev v = 0 ∧ 0 ≤ u ∧ u ≤ 1073741824 := by
  unfold uE at h
  split at h
  · exact absurd h ‹_›
  · split at h
    · omega
    · exact ⟨by omega, by omega, by omega⟩
theorem uE_1 {v : Ev} {u : Int} (h : ¬ ev v = 0) : uE v u = ev v := if_pos h
theorem uE_2 {v : Ev} {u : Int} (h : ev v = 0) (k : ¬ (0 ≤ u ∧ u ≤ 1073741824)) : uE v u = 3 := (if_neg (by omega)).trans (if_pos k)
theorem uE_3 {v : Ev} {u : Int} (h : ev v = 0) (k : 0 ≤ u ∧ u ≤ 1073741824) : uE v u = 0 := (if_neg (by omega)).trans (if_neg (fun q => q k))
def cash (v : Ev) (u : Int) : Int := P.cost u v.ca
def cV (v : Ev) (u : Int) : Int := if uE v u = 0 then cash v u else 0
def fr (v : Ev) (u : Int) : Int := if v.fo = 0 then 0 else u * v.gi / v.fo
def le (v : Ev) (u : Int) : Int := if v.fo = 0 then 0 else u * v.gi % v.fo
def fV (v : Ev) (u : Int) : Int := if uE v u = 0 then fr v u else 0
def lV (v : Ev) (u : Int) : Int := if uE v u = 0 then le v u else 0
theorem mul_bd {v : Ev} {u : Int} (h : Ok v) (hu : 0 ≤ u ∧ u ≤ 1073741824) : 0 ≤ u * v.gi ∧ u * v.gi ≤ 1073741824000 := by
  obtain ⟨_, _, h3, _⟩ := h
  have h1 := Int.mul_nonneg hu.1 h3.1
  have h2 := Int.mul_le_mul hu.2 h3.2 h3.1 (show (0 : Int) ≤ 1073741824 by omega)
  omega
theorem fr_bd {v : Ev} {u : Int} (h : Ok v) (hu : 0 ≤ u ∧ u ≤ 1073741824) : 0 ≤ fr v u ∧ fr v u ≤ 1073741824000 := by
  have hm := mul_bd h hu
  have h4 := h.2.2.2
  unfold fr
  split
  · omega
  · have h1 := Int.ediv_nonneg hm.1 h4.1
    have h2 := Int.ediv_le_self v.fo hm.1
    omega
theorem le_bd {v : Ev} {u : Int} (h : Ok v) : 0 ≤ le v u ∧ le v u ≤ 1000 := by
  have h4 := h.2.2.2
  unfold le
  split
  · omega
  · have h1 := Int.emod_nonneg (u * v.gi) (show v.fo ≠ 0 by assumption)
    have h2 := Int.emod_lt_of_pos (u * v.gi) (show 0 < v.fo by omega)
    omega
theorem fr_zero (v : Ev) : fr v 0 = 0 := by unfold fr; split <;> simp
theorem cash_zero (v : Ev) : cash v 0 = 0 := by unfold cash P.cost; simp
theorem cash_bd {v : Ev} {u : Int} (h : Ok v) (hu : 0 ≤ u ∧ u ≤ 1073741824) : 0 ≤ cash v u ∧ cash v u ≤ 118059162071741130 := P.cost_bd hu h.2.1
def xE (v : Ev) (fs : List Fl) : Int := if ev v ≠ 0 then ev v else F.checks fs
theorem xE_1 {v : Ev} {fs : List Fl} (h : ¬ ev v = 0) : xE v fs = ev v := if_pos h
theorem xE_2 {v : Ev} {fs : List Fl} (h : ev v = 0) : xE v fs = F.checks fs := if_neg (by omega)
theorem xE_ok {v : Ev} {fs : List Fl} (h : xE v fs = 0) : ev v = 0 ∧ F.checks fs = 0 := by
  unfold xE at h
  split at h
  · exact absurd h ‹_›
  · exact ⟨by omega, h⟩
/-- what one brings -/
def duO (v : Ev) (f : Fl) : List Du := if f.pa = v.pa ∧ 0 < F.left f ∧ 0 < cash v (F.left f) then [⟨f.fr, f.to, cash v (F.left f)⟩] else []
def poO (v : Ev) (f : Fl) : List Po := if f.pa = v.pa ∧ 0 < F.left f ∧ 0 < fr v (F.left f) then [⟨f.fr, v.pa, -fr v (F.left f)⟩, ⟨f.to, v.pa, fr v (F.left f)⟩] else []
def dus (v : Ev) (fs : List Fl) : List Du := fs.flatMap (duO v)
def pos (v : Ev) (fs : List Fl) : List Po := fs.flatMap (poO v)
theorem dus_snoc {v : Ev} {fs : List Fl} {k : Nat} (h : k < fs.length) : dus v (fs.take (k + 1)) = dus v (fs.take k) ++ duO v (fs.getD k default) := by
  unfold dus
  rw [List.take_succ_eq_append_getElem h, List.flatMap_append, getD_at h]; simp
theorem pos_snoc {v : Ev} {fs : List Fl} {k : Nat} (h : k < fs.length) : pos v (fs.take (k + 1)) = pos v (fs.take k) ++ poO v (fs.getD k default) := by
  unfold pos
  rw [List.take_succ_eq_append_getElem h, List.flatMap_append, getD_at h]; simp
theorem duO_len (v : Ev) (f : Fl) : (duO v f).length ≤ 1 := by unfold duO; split <;> simp
theorem poO_len (v : Ev) (f : Fl) : (poO v f).length ≤ 2 := by unfold poO; split <;> simp
theorem dus_len (v : Ev) : ∀ fs : List Fl, (dus v fs).length ≤ fs.length
  | [] => Nat.le_refl _
  | f :: fs => by
    have := dus_len v fs
    have := duO_len v f
    unfold dus at *
    rw [List.flatMap_cons, List.length_append, List.length_cons]; omega
theorem pos_len (v : Ev) : ∀ fs : List Fl, (pos v fs).length ≤ 2 * fs.length
  | [] => Nat.le_refl _
  | f :: fs => by
    have := pos_len v fs
    have := poO_len v f
    unfold pos at *
    rw [List.flatMap_cons, List.length_append, List.length_cons]; omega
def dV (v : Ev) (fs : List Fl) : List Du := if xE v fs = 0 then dus v fs else []
def pV (v : Ev) (fs : List Fl) : List Po := if xE v fs = 0 then pos v fs else []
/-- what grows -/
def up (f : Fl) (n : Int) : Fl := ⟨f.id, f.fr, f.to, f.cl, f.pa, f.day, f.un + n, f.de, f.bo, f.pd⟩
def gr (v : Ev) (f : Fl) : Fl := if f.pa = v.pa then up f (fr v (F.left f)) else f
def big (v : Ev) (fs : List Fl) : Prop := ∃ f ∈ fs, 1073741824 < (gr v f).un
noncomputable def gE (v : Ev) (fs : List Fl) : Int := open Classical in if xE v fs ≠ 0 then xE v fs else if big v fs then 8 else 0
noncomputable def gV (v : Ev) (fs : List Fl) : List Fl := if gE v fs = 0 then fs.map (gr v) else []
theorem g_1 {v : Ev} {fs : List Fl} (h : ¬ xE v fs = 0) : gE v fs = xE v fs ∧ gV v fs = [] := by
  have e : gE v fs = xE v fs := if_pos h
  exact ⟨e, if_neg (by omega)⟩
theorem g_2 {v : Ev} {fs : List Fl} (h : xE v fs = 0) (k : big v fs) : gE v fs = 8 ∧ gV v fs = [] := by
  have e : gE v fs = 8 := by unfold gE; rw [if_neg (by omega), if_pos k]
  exact ⟨e, if_neg (by omega)⟩
theorem g_3 {v : Ev} {fs : List Fl} (h : xE v fs = 0) (k : ¬ big v fs) : gE v fs = 0 ∧ gV v fs = fs.map (gr v) := by
  have e : gE v fs = 0 := by unfold gE; rw [if_neg (by omega), if_neg k]
  exact ⟨e, if_pos e⟩
theorem g_ok {v : Ev} {fs : List Fl} (h : gE v fs = 0) : xE v fs = 0 ∧ ¬ big v fs ∧ gV v fs = fs.map (gr v) := by
  by_cases a : xE v fs = 0
  · by_cases b : big v fs
    · rw [(g_2 a b).1] at h; omega
    · exact ⟨a, b, (g_3 a b).2⟩
  · rw [(g_1 a).1] at h; exact absurd h a
def grk (v : Ev) (fs : List Fl) (k : Nat) : List Fl := (fs.take k).map (gr v) ++ fs.drop k
theorem grk_len (v : Ev) (fs : List Fl) (k : Nat) : (grk v fs k).length = fs.length := by simp [grk]; omega
theorem grk_at {v : Ev} {fs : List Fl} {k : Nat} (h : k < fs.length) : (grk v fs k).getD k default = fs.getD k default := by
  unfold grk
  rw [List.getD_eq_getElem?_getD, List.getElem?_append_right (by simp; omega), List.getElem?_drop, List.getD_eq_getElem?_getD]
  congr 2
  simp; omega
theorem grk_succ {v : Ev} {fs : List Fl} {k : Nat} (h : k < fs.length) : (grk v fs k).set k (gr v (fs.getD k default)) = grk v fs (k + 1) := by
  unfold grk
  rw [List.set_append_right _ _ (by simp; omega), List.drop_eq_getElem_cons h, List.take_succ_eq_append_getElem h, List.map_append, List.append_assoc, getD_at h]
  congr 1
  have e : k - ((fs.take k).map (gr v)).length = 0 := by simp; omega
  rw [e]; rfl
theorem grk_same {v : Ev} {fs : List Fl} {k : Nat} (h : k < fs.length) (e : gr v (fs.getD k default) = fs.getD k default) : grk v fs (k + 1) = grk v fs k := by
  unfold grk
  rw [List.take_succ_eq_append_getElem h, List.map_append, List.append_assoc, List.drop_eq_getElem_cons h, ← getD_at h, List.map_cons, e]
  rfl
theorem grk_end (v : Ev) (fs : List Fl) : grk v fs fs.length = fs.map (gr v) := by simp [grk]
theorem gr_zero {v : Ev} {f : Fl} (h : ¬ (f.pa = v.pa ∧ 0 < F.left f)) (h2 : 0 ≤ F.left f) : gr v f = f := by
  unfold gr
  split
  · have e : F.left f = 0 := by omega
    rw [e, fr_zero]
    unfold up; rw [Int.add_zero]
  · rfl
theorem gr_pos {v : Ev} {f : Fl} (h : f.pa = v.pa) : gr v f = up f (fr v (F.left f)) := if_pos h
theorem dus_no {v : Ev} {fs : List Fl} (h : ∀ f ∈ fs, duO v f = []) : dus v fs = [] := List.flatMap_eq_nil_iff.2 h
theorem pos_no {v : Ev} {fs : List Fl} (h : ∀ f ∈ fs, poO v f = []) : pos v fs = [] := List.flatMap_eq_nil_iff.2 h
theorem map_same {v : Ev} : ∀ {fs : List Fl}, (∀ f ∈ fs, gr v f = f) → fs.map (gr v) = fs
  | [], _ => rfl
  | f :: fs, h => by rw [List.map_cons, h f (by simp), map_same fun g hg => h g (by simp [hg])]
/-- where no fail grows -/
theorem g_same {v : Ev} {fs : List Fl} (hx : xE v fs = 0) (h : ∀ f ∈ fs, gr v f = f) : gE v fs = 0 ∧ gV v fs = fs := by
  obtain ⟨_, hall, _⟩ := K.checks_all (xE_ok hx).2
  obtain ⟨a, b⟩ := g_3 hx fun ⟨f, h1, h2⟩ => by
    rw [h f h1] at h2
    have := (F.ok_bounds (hall f h1)).2.2.1
    omega
  exact ⟨a, b.trans (map_same h)⟩
theorem no_cash {v : Ev} (h : v.ca = 0) (f : Fl) : duO v f = [] := if_neg fun q => by
  have e : cash v (F.left f) = 0 := by unfold cash P.cost; rw [h]; simp
  omega
theorem no_fresh {v : Ev} (h : v.fo = 0) (u : Int) : fr v u = 0 := if_pos h
theorem no_pos {v : Ev} (h : v.fo = 0) (f : Fl) : poO v f = [] := if_neg fun q => by rw [no_fresh h] at q; omega
theorem no_gr {v : Ev} (h : v.fo = 0) (f : Fl) : gr v f = f := by
  unfold gr up; rw [no_fresh h, Int.add_zero]; split <;> rfl
theorem oth_du {v : Ev} {f : Fl} (h : ¬ f.pa = v.pa) : duO v f = [] := if_neg fun q => h q.1
theorem oth_po {v : Ev} {f : Fl} (h : ¬ f.pa = v.pa) : poO v f = [] := if_neg fun q => h q.1
theorem oth_gr {v : Ev} {f : Fl} (h : ¬ f.pa = v.pa) : gr v f = f := if_neg h
theorem up_left (f : Fl) (n : Int) : F.left (up f n) = F.left f + n := by unfold F.left up; dsimp only; omega
theorem up_ok {f : Fl} {n : Int} (h : F.Ok f) (hn : 0 ≤ n) (hb : ¬ 1073741824 < f.un + n) : F.Ok (up f n) := by
  have hb := F.ok_bounds h
  unfold F.Ok F.Kn F.Pt up at *
  dsimp only at *
  omega
theorem gr_id (v : Ev) (f : Fl) : (gr v f).id = f.id := by unfold gr up; split <;> rfl
theorem gr_ok {v : Ev} {f : Fl} (hv : Ok v) (h : F.Ok f) (hb : ¬ 1073741824 < (gr v f).un) : F.Ok (gr v f) := by
  unfold gr at *
  split
  · rw [if_pos (by assumption)] at hb
    exact up_ok h (fr_bd hv (K.left_bd h)).1 hb
  · exact h
/-- what has grown can be checked -/
theorem grown_checks {v : Ev} {fs : List Fl} (h : gE v fs = 0) : F.checks (fs.map (gr v)) = 0 := by
  obtain ⟨hx, hb, _⟩ := g_ok h
  obtain ⟨hv, hF⟩ := xE_ok hx
  obtain ⟨n60, hall, hn⟩ := K.checks_all hF
  refine K.checks_of (by simpa using n60) (fun g hg => ?_) ?_
  · obtain ⟨f, hf, rfl⟩ := List.mem_map.1 hg
    exact gr_ok (ev_ok hv).1 (hall f hf) fun q => hb ⟨f, hf, q⟩
  · rw [List.map_map]
    have e : ((fun x : Fl => x.id) ∘ gr v) = fun x => x.id := funext fun f => gr_id v f
    rw [e]; exact hn
end C
end Go.Proofs.Yteblbhbfdfifpaa
