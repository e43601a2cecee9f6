/- The walk of math/bits.Div64: a number of two words is divided by one word. -/
import Derived.Test.YteblbhbfdfifpaaBase
import Derived.Test.YteblbhbfdfifpaaDivPl
import Derived.Test.YteblbhbfdfifpaaDivPl2
import Derived.Test.YteblbhbfdfifpaaDivPl3
import Derived.Test.YteblbhbfdfifpaaShelf
import Derived.WalkLawsBesides
import Derived.Laws.Bits64b
namespace Go.Proofs.Yteblbhbfdfifpaa
open Go.RowKit
set_option maxRecDepth 100000
set_option maxHeartbeats 2000000

theorem wrapn {a : Nat} (h : a < 18446744073709551616) : IntKind.u64.wrap (a : Int) = (a : Int) := by rw [IntKind.wrap_u64]; omega
theorem wrapm (a : Nat) : IntKind.u64.wrap (a : Int) = ((a % 18446744073709551616 : Nat) : Int) := by rw [IntKind.wrap_u64]; omega
theorem maskn {a : Nat} (ha : a < 18446744073709551616) : bits .and .u64 (a : Int) 4294967295 = ((a % 4294967296 : Nat) : Int) := by
  have h := bits_and_u64_nat a 4294967295 ha (by omega)
  have e : a &&& 4294967295 = a % 4294967296 := Nat.and_two_pow_sub_one_eq_mod a 32
  rw [e] at h
  exact h
theorem castpow (a s : Nat) : (a : Int) * 2 ^ s = ((a * 2 ^ s : Nat) : Int) := by simp
theorem castdiv (a s : Nat) : (a : Int) / 2 ^ s = ((a / 2 ^ s : Nat) : Int) := by simp
theorem div64_yes (hi lo y R1 R2 : Nat) (g1 : R1 = (hi * 18446744073709551616 + lo) / y) (g2 : R2 = (hi * 18446744073709551616 + lo) % y) (h0 : ¬ hi = 0) (h1 : hi < y) (h2 : lo < 18446744073709551616) (h3 : y < 18446744073709551616) (w : World) : Calls Try.prog 94 #[.int .u64 hi, .int .u64 lo, .int .u64 y] w fun e w' => e = .returned (.tuple #[.int .u64 R1, .int .u64 R2]) ∧ w' = w := by
  · have HR1 := hid g1
    have HR2 := hid g2
    clear g1 g2
    obtain ⟨l1, l2, l3, l4⟩ := V.lead (y := y) (by omega) h3
    have hs : ∃ s : Nat, s = 64 - Lib.bitLen y := ⟨_, rfl⟩
    obtain ⟨s, hs⟩ := hs
    rw [← hs] at l3 l4
    have r1 : IntKind.u64.wrap (64 - (Lib.bitLen y : Int)) = (s : Int) := by rw [IntKind.wrap_u64]; omega
    have hs63 : s ≤ 63 := by omega
    have r2 : min s 64 = s := by omega
    have HS := hid hs
    clear hs l1 l2
    obtain ⟨Y, hY⟩ : ∃ Y, Y = y * 2 ^ s := ⟨_, rfl⟩
    rw [← hY] at l3 l4
    have r3 : IntKind.u64.wrap ((y : Int) * 2 ^ s) = (Y : Int) := by
      have : ((y : Int) * 2 ^ s) = ((Y : Nat) : Int) := by rw [hY]; simp
      rw [this, IntKind.wrap_u64]; omega
    have HY := hid hY
    clear hY
    obtain ⟨w1, w2, w3, w4⟩ := V.words (hi := hi) (lo := lo) (y := y) (s := s) hs63 h1 h2 (by rw [← HY.out]; exact l4)
    have r4 : IntKind.u64.wrap ((hi : Int) * 2 ^ s) = ((hi * 2 ^ s : Nat) : Int) := by rw [castpow, wrapn w1]
    have r5 : (lo : Int) / 2 ^ (64 - s) = ((lo / 2 ^ (64 - s) : Nat) : Int) := castdiv _ _
    have r6 : IntKind.u64.wrap ((lo : Int) * 2 ^ s) = ((lo * 2 ^ s % 18446744073709551616 : Nat) : Int) := by rw [castpow, wrapm]
    rw [← HY.out] at w3
    have l5 : lo / 2 ^ (64 - s) < 18446744073709551616 := by omega
    have r7 : bits .or .u64 ((hi * 2 ^ s : Nat) : Int) ((lo / 2 ^ (64 - s) : Nat) : Int) = ((hi * 2 ^ s + lo / 2 ^ (64 - s) : Nat) : Int) := by rw [bits_or_u64_nat _ _ w1 l5, V.or_add w2]
    have l6 : lo * 2 ^ s % 18446744073709551616 < 18446744073709551616 := Nat.mod_lt _ (by omega)
    have HU := hid w4
    clear w4 w2
    generalize hi * 2 ^ s = H at *
    generalize lo / 2 ^ (64 - s) = L at *
    generalize lo * 2 ^ s % 18446744073709551616 = V' at *
    obtain ⟨u, hu⟩ : ∃ u, u = H + L := ⟨_, rfl⟩
    rw [← hu] at r7 w3
    have HU2 : Hid (u * 18446744073709551616 + V' = (hi * 18446744073709551616 + lo) * 2 ^ s) := by rw [hu]; exact HU.out
    clear hu HU
    obtain ⟨a, ha⟩ : ∃ a, a = Y / 4294967296 := ⟨_, rfl⟩
    obtain ⟨b, hb⟩ : ∃ b, b = Y % 4294967296 := ⟨_, rfl⟩
    obtain ⟨d1, hd1⟩ : ∃ d, d = V' / 4294967296 := ⟨_, rfl⟩
    obtain ⟨d0, hd0⟩ : ∃ d, d = V' % 4294967296 := ⟨_, rfl⟩
    have r8 : (Y : Int) / 4294967296 = (a : Int) := by omega
    have r9 : bits .and .u64 (Y : Int) 4294967295 = (b : Int) := by rw [maskn l4, ← hb]
    have r10 : (V' : Int) / 4294967296 = (d1 : Int) := by omega
    have r11 : bits .and .u64 (V' : Int) 4294967295 = (d0 : Int) := by rw [maskn l6, ← hd0]
    have HAB : Hid (Y = a * 4294967296 + b) := show Y = a * 4294967296 + b by omega
    have HD : Hid (V' = d1 * 4294967296 + d0) := show V' = d1 * 4294967296 + d0 by omega
    have ka : 2147483648 ≤ a := by omega
    have ka2 : a < 4294967296 := by omega
    have kb : b < 4294967296 := by omega
    have kd1 : d1 < 4294967296 := by omega
    have kd0 : d0 < 4294967296 := by omega
    have ku : u < 18446744073709551616 := by omega
    clear ha hb hd1 hd0 w1 l5 l6
    obtain ⟨q0, hq0⟩ : ∃ q, q = u / a := ⟨_, rfl⟩
    obtain ⟨m0, hm0⟩ : ∃ r, r = u % a := ⟨_, rfl⟩
    have e0 : q0 * a + m0 = u := by rw [hq0, hm0, Nat.mul_comm]; exact Nat.div_add_mod u a
    have em : m0 < a := by rw [hm0]; exact Nat.mod_lt _ (by omega)
    have kq : q0 < 18446744073709551616 := by rw [hq0]; exact Nat.lt_of_le_of_lt (Nat.div_le_self _ _) ku
    have r12 : IntKind.u64.wrap ((u : Int) / (a : Int)) = (q0 : Int) := by
      have : (u : Int) / (a : Int) = ((u / a : Nat) : Int) := by simp
      rw [this, ← hq0, wrapn kq]
    have r13 : (q0 : Int) * (a : Int) = ((u - m0 : Nat) : Int) := by
      have : q0 * a = u - m0 := by omega
      rw [← this]; simp
    have r14 : IntKind.u64.wrap (((u - m0 : Nat) : Int)) = ((u - m0 : Nat) : Int) := wrapn (by omega)
    have r15 : IntKind.u64.wrap ((u : Int) - ((u - m0 : Nat) : Int)) = (m0 : Int) := by
      have : (u : Int) - ((u - m0 : Nat) : Int) = (m0 : Int) := by omega
      rw [this]; exact wrapn (by omega)
    have G0 := hid (V.guess_ge (a := a) (b := b) (u := u) (d := d1) (by omega) kd1)
    rw [← hq0] at G0
    have E0 := hid e0
    clear hq0 hm0 e0
    generalize hK : u - m0 = K at *
    clear hK
    have hby : ((y : Int) == 0) = false := beq_eq_false_iff_ne.2 (by omega)
    have hc : ((hi : Int) == 0) = false := beq_eq_false_iff_ne.2 (by omega)
    go_enter Try.func94, Try.ntmps94
    go_wp2_with (go_at_call 96; refine (Try.bits_LeadingZeros64 _ _ (by omega) (by omega)).mono ?_; rintro e w' ⟨rfl, rfl⟩)
    clear r1 r2 r3 r4 r5 r6 r7 r8 r9 r10 r11 r12 r13 r14 r15
    have BD : Hid (2147483648 ≤ a ∧ a < 4294967296 ∧ b < 4294967296 ∧ d1 < 4294967296 ∧ d0 < 4294967296 ∧ u < 18446744073709551616 ∧ u < Y ∧ Y < 18446744073709551616 ∧ 0 < Y) := ⟨ka, ka2, kb, kd1, kd0, ku, w3, l4, by omega⟩
    have B0 : Hid (q0 < 18446744073709551616 ∧ m0 < 4294967296) := ⟨kq, by omega⟩
    have S0 : Hid (s ≤ 63 ∧ hi < y ∧ lo < 18446744073709551616 ∧ y < 18446744073709551616) := ⟨hs63, h1, h2, h3⟩
    have ia : (2147483648 : Int) ≤ (a : Int) := by omega
    have HUY : Hid (u < Y) := w3
    clear ka ka2 kb kd1 kd0 ku w3 l3 l4 hs63 h1 h2 h3 kq em
    go_loop [15, 16] (fun t1 t2 => ∃ q r : Nat, t1 = .int .u64 q ∧ t2 = .int .u64 r ∧ Hid (q < 18446744073709551616 ∧ r < 4294967296) ∧ Hid (q * a + r = u) ∧ Hid ((u * 4294967296 + d1) / (a * 4294967296 + b) ≤ q)) (fun t1 _ => (intOf t1).toNat)
    case atStart => exact ⟨q0, m0, rfl, rfl, B0, E0, G0⟩
    case round =>
      obtain ⟨q, r, rfl, rfl, B1, E1, G1⟩ := hrel
      clear E0 G0 B0
      by_cases c1 : 4294967296 ≤ q
      · obtain ⟨q', hq'⟩ : ∃ q', q' = q - 1 := ⟨_, rfl⟩
        obtain ⟨r', hr'⟩ : ∃ r', r' = r + a := ⟨_, rfl⟩
        have q1 : IntKind.u64.wrap ((q : Int) - 1) = (q' : Int) := by have := B1.out; rw [IntKind.wrap_u64]; omega
        have q2 : IntKind.u64.wrap ((r : Int) + (a : Int)) = (r' : Int) := by have := B1.out; have := BD.out; rw [IntKind.wrap_u64]; omega
        have C1 : (4294967296 : Int) ≤ (q : Int) := by omega
        have HQ := hid hq'
        have E2 : Hid (q' * a + r' = u) := V.step_eq E1.out (by omega) hq' hr'
        have G2 : Hid ((u * 4294967296 + d1) / (a * 4294967296 + b) ≤ q') := by
          have hbd := BD.out
          have hh := HAB.out
          have hu2 := HUY.out
          have hlt := V.wide_great (V := a * 4294967296 + b) (u := u) (d := d1) (q := q) (by omega) (by omega) c1
          have := V.digit_le hlt
          rw [hq']; exact this
        by_cases c2 : 4294967296 ≤ r'
        · have C2 : decide ((4294967296 : Int) ≤ (r' : Int)) = true := decide_eq_true (by omega)
          have QE : Hid (q' = (u * 4294967296 + d1) / (a * 4294967296 + b)) := by
            have hbd := BD.out
            have hh := HAB.out
            have hu2 := HUY.out
            exact V.digit_eq G2.out (V.wide_rest E2.out (by omega) (by omega) c2).2 (by omega)
          clear hq' hr' c1 c2
          generalize q' = Q at *
          obtain ⟨u2, hu2⟩ : ∃ u2, u2 = (u * 4294967296 + d1) % Y := ⟨_, rfl⟩
          have hQY : Q = (u * 4294967296 + d1) / Y := by rw [HAB.out]; exact QE.out
          have k1 : u2 < Y := by rw [hu2]; exact Nat.mod_lt _ BD.out.2.2.2.2.2.2.2.2
          have k2 : Y < 18446744073709551616 := BD.out.2.2.2.2.2.2.2.1
          have s1 : IntKind.u64.wrap (IntKind.u64.wrap (IntKind.u64.wrap ((u : Int) * 4294967296) + (d1 : Int)) - IntKind.u64.wrap ((Q : Int) * (Y : Int))) = (u2 : Int) := by
            rw [IntKind.wrap_u64, IntKind.wrap_u64, IntKind.wrap_u64, IntKind.wrap_u64, hu2]
            exact V.rem_wrap hQY (by omega) k2
          obtain ⟨p0, hp0⟩ : ∃ q, q = u2 / a := ⟨_, rfl⟩
          obtain ⟨n0, hn0⟩ : ∃ r, r = u2 % a := ⟨_, rfl⟩
          have e0 : p0 * a + n0 = u2 := by rw [hp0, hn0, Nat.mul_comm]; exact Nat.div_add_mod u2 a
          have em : n0 < a := by rw [hn0]; exact Nat.mod_lt _ (by have := BD.out; omega)
          have kp : p0 < 18446744073709551616 := by rw [hp0]; exact Nat.lt_of_le_of_lt (Nat.div_le_self _ _) (by omega)
          have s2 : IntKind.u64.wrap ((u2 : Int) / (a : Int)) = (p0 : Int) := by
            have : (u2 : Int) / (a : Int) = ((u2 / a : Nat) : Int) := by simp
            rw [this, ← hp0, wrapn kp]
          obtain ⟨K2, hK2⟩ : ∃ k, k = u2 - n0 := ⟨_, rfl⟩
          have s3 : (p0 : Int) * (a : Int) = (K2 : Int) := by
            have : p0 * a = K2 := by omega
            rw [← this]; simp
          have s4 : IntKind.u64.wrap (K2 : Int) = (K2 : Int) := wrapn (by omega)
          have s5 : IntKind.u64.wrap ((u2 : Int) - (K2 : Int)) = (n0 : Int) := by
            have : (u2 : Int) - (K2 : Int) = (n0 : Int) := by omega
            rw [this]; exact wrapn (by omega)
          have G0 := hid (V.guess_ge (a := a) (b := b) (u := u2) (d := d0) (by omega) BD.out.2.2.2.2.1)
          rw [← hp0] at G0
          have E0 := hid e0
          have B0 : Hid (p0 < 18446744073709551616 ∧ n0 < 4294967296) := ⟨kp, by have := BD.out; omega⟩
          have HUY : Hid (u2 < Y) := k1
          have HU3 := hid hu2
          have HQY := hid hQY
          clear hu2 hQY k1 k2 hp0 hn0 e0 em kp hK2
          go_wp2_with fail
          clear s1 s2 s3 s4 s5
          go_loop [18, 16] (fun t1 t2 => ∃ q r : Nat, t1 = .int .u64 q ∧ t2 = .int .u64 r ∧ Hid (q < 18446744073709551616 ∧ r < 4294967296) ∧ Hid (q * a + r = u2) ∧ Hid ((u2 * 4294967296 + d0) / (a * 4294967296 + b) ≤ q)) (fun t1 _ => (intOf t1).toNat)
          case atStart => exact ⟨p0, n0, rfl, rfl, B0, E0, G0⟩
          case round =>
            obtain ⟨q, r, rfl, rfl, B1, E1, G1⟩ := hrel
            clear E0 G0 B0
            by_cases c1 : 4294967296 ≤ q
            · obtain ⟨q', hq'⟩ : ∃ q', q' = q - 1 := ⟨_, rfl⟩
              obtain ⟨r', hr'⟩ : ∃ r', r' = r + a := ⟨_, rfl⟩
              have q1 : IntKind.u64.wrap ((q : Int) - 1) = (q' : Int) := by have := B1.out; rw [IntKind.wrap_u64]; omega
              have q2 : IntKind.u64.wrap ((r : Int) + (a : Int)) = (r' : Int) := by have := B1.out; have := BD.out; rw [IntKind.wrap_u64]; omega
              have C1 : (4294967296 : Int) ≤ (q : Int) := by omega
              have HQ := hid hq'
              have E2 : Hid (q' * a + r' = u2) := V.step_eq E1.out (by omega) hq' hr'
              have G2 : Hid ((u2 * 4294967296 + d0) / (a * 4294967296 + b) ≤ q') := by
                have hbd := BD.out
                have hh := HAB.out
                have hu2 := HUY.out
                have hlt := V.wide_great (V := a * 4294967296 + b) (u := u2) (d := d0) (q := q) (by omega) (by omega) c1
                have := V.digit_le hlt
                rw [hq']; exact this
              by_cases c2 : 4294967296 ≤ r'
              · have C2 : decide ((4294967296 : Int) ≤ (r' : Int)) = true := decide_eq_true (by omega)
                have QE : Hid (q' = (u2 * 4294967296 + d0) / (a * 4294967296 + b)) := by
                  have hbd := BD.out
                  have hh := HAB.out
                  have hu2 := HUY.out
                  exact V.digit_eq G2.out (V.wide_rest E2.out (by omega) (by omega) c2).2 (by omega)
                clear hq' hr' c1 c2
                have FF := V.final HY.out BD.out.2.2.2.2.2.2.2.2 HU2.out HD.out
                rw [← HQY.out, ← HU3.out] at FF
                have hq2 : q' = (u2 * 4294967296 + d0) / Y := by rw [HAB.out]; exact QE.out
                rw [← hq2] at FF
                have hR1 := HR1.out
                have hR2 := HR2.out
                obtain ⟨e2, he2⟩ : ∃ R, R = (u2 * 4294967296 + d0) % Y := ⟨_, rfl⟩
                rw [← hR1, ← hR2, ← he2] at FF
                have hR3 : R1 < 18446744073709551616 := by
                  rw [hR1]
                  have := S0.out
                  exact Nat.div_lt_of_lt_mul (V.lt_words this.2.1 this.2.2.1)
                have f1 : IntKind.u64.wrap (IntKind.u64.wrap ((Q : Int) * 4294967296) + (q' : Int)) = (R1 : Int) := by
                  have := FF.1
                  rw [IntKind.wrap_u64, IntKind.wrap_u64]; omega
                have f2 : IntKind.u64.wrap (IntKind.u64.wrap (IntKind.u64.wrap ((u2 : Int) * 4294967296) + (d0 : Int)) - IntKind.u64.wrap ((q' : Int) * (Y : Int))) = (e2 : Int) := by
                  rw [IntKind.wrap_u64, IntKind.wrap_u64, IntKind.wrap_u64, IntKind.wrap_u64, he2]
                  exact V.rem_wrap hq2 BD.out.2.2.2.2.2.2.2.2 BD.out.2.2.2.2.2.2.2.1
                have f3 : (e2 : Int) / 2 ^ s = (R2 : Int) := by rw [castdiv, FF.2]
                have f4 : min s 64 = s := by have := S0.out; omega
                clear hR1 hR2 he2 hq2 FF hR3
                go_wp2_with fail
                go_ret2
                exact ⟨rfl, rfl⟩
              · have C2 : decide ((4294967296 : Int) ≤ (r' : Int)) = false := decide_eq_false (by omega)
                have B2 : Hid (q' < 18446744073709551616 ∧ r' < 4294967296) := by have := B1.out; exact ⟨by omega, by omega⟩
                clear hq' hr' c1 c2
                go_wp2_with fail
                go_round
                case rel => exact ⟨q', r', rfl, rfl, B2, E2, G2⟩
                case measure => have := HQ.out; simp [intOf]; omega
            · have D1 : decide ((4294967296 : Int) ≤ (q : Int)) = false := decide_eq_false (by omega)
              obtain ⟨x, hx⟩ : ∃ x, x = q * b := ⟨_, rfl⟩
              obtain ⟨z, hz⟩ : ∃ z, z = 4294967296 * r := ⟨_, rfl⟩
              obtain ⟨t, ht⟩ : ∃ t, t = z + d0 := ⟨_, rfl⟩
              have hxb : x ≤ 4294967295 * 4294967295 := by rw [hx]; have := BD.out; exact Nat.mul_le_mul (by omega) (by omega)
              have p1 : (q : Int) * (b : Int) = (x : Int) := by rw [hx]; simp
              have p1' : IntKind.u64.wrap (x : Int) = (x : Int) := wrapn (by omega)
              have p2 : IntKind.u64.wrap (4294967296 * (r : Int)) = (z : Int) := by have := B1.out; rw [IntKind.wrap_u64]; omega
              have p3 : IntKind.u64.wrap ((z : Int) + (d0 : Int)) = (t : Int) := by have := B1.out; have := BD.out; rw [IntKind.wrap_u64]; omega
              have TG : Hid ((t < x) ↔ (u2 * 4294967296 + d0 < q * (a * 4294967296 + b))) := by
                have := V.too_great (b := b) (d := d0) E1.out
                rw [← hx] at this
                rw [ht, hz, Nat.mul_comm 4294967296 r]; exact this
              by_cases c3 : t < x
              · have hlt := TG.out.1 c3
                obtain ⟨q', hq'⟩ : ∃ q', q' = q - 1 := ⟨_, rfl⟩
                obtain ⟨r', hr'⟩ : ∃ r', r' = r + a := ⟨_, rfl⟩
                have hq1 : 1 ≤ q := by
                  rcases Nat.eq_zero_or_pos q with h | h
                  · rw [h, Nat.zero_mul] at hlt; omega
                  · exact h
                have q1 : IntKind.u64.wrap ((q : Int) - 1) = (q' : Int) := by have := B1.out; rw [IntKind.wrap_u64]; omega
                have q2 : IntKind.u64.wrap ((r : Int) + (a : Int)) = (r' : Int) := by have := B1.out; have := BD.out; rw [IntKind.wrap_u64]; omega
                have HQ : Hid (q' = q - 1 ∧ 1 ≤ q) := ⟨hq', hq1⟩
                have E2 : Hid (q' * a + r' = u2) := V.step_eq E1.out hq1 hq' hr'
                have G2 : Hid ((u2 * 4294967296 + d0) / (a * 4294967296 + b) ≤ q') := by
                  have := V.digit_le hlt
                  rw [hq']; exact this
                by_cases c2 : 4294967296 ≤ r'
                · have C2 : decide ((4294967296 : Int) ≤ (r' : Int)) = true := decide_eq_true (by omega)
                  have QE : Hid (q' = (u2 * 4294967296 + d0) / (a * 4294967296 + b)) := by
                    have hbd := BD.out
                    have hh := HAB.out
                    have hu2 := HUY.out
                    exact V.digit_eq G2.out (V.wide_rest E2.out (by omega) (by omega) c2).2 (by omega)
                  clear hq' hr' c1 c2 hx hz ht hxb hlt hq1
                  have FF := V.final HY.out BD.out.2.2.2.2.2.2.2.2 HU2.out HD.out
                  rw [← HQY.out, ← HU3.out] at FF
                  have hq2 : q' = (u2 * 4294967296 + d0) / Y := by rw [HAB.out]; exact QE.out
                  rw [← hq2] at FF
                  have hR1 := HR1.out
                  have hR2 := HR2.out
                  obtain ⟨e2, he2⟩ : ∃ R, R = (u2 * 4294967296 + d0) % Y := ⟨_, rfl⟩
                  rw [← hR1, ← hR2, ← he2] at FF
                  have hR3 : R1 < 18446744073709551616 := by
                    rw [hR1]
                    have := S0.out
                    exact Nat.div_lt_of_lt_mul (V.lt_words this.2.1 this.2.2.1)
                  have f1 : IntKind.u64.wrap (IntKind.u64.wrap ((Q : Int) * 4294967296) + (q' : Int)) = (R1 : Int) := by
                    have := FF.1
                    rw [IntKind.wrap_u64, IntKind.wrap_u64]; omega
                  have f2 : IntKind.u64.wrap (IntKind.u64.wrap (IntKind.u64.wrap ((u2 : Int) * 4294967296) + (d0 : Int)) - IntKind.u64.wrap ((q' : Int) * (Y : Int))) = (e2 : Int) := by
                    rw [IntKind.wrap_u64, IntKind.wrap_u64, IntKind.wrap_u64, IntKind.wrap_u64, he2]
                    exact V.rem_wrap hq2 BD.out.2.2.2.2.2.2.2.2 BD.out.2.2.2.2.2.2.2.1
                  have f3 : (e2 : Int) / 2 ^ s = (R2 : Int) := by rw [castdiv, FF.2]
                  have f4 : min s 64 = s := by have := S0.out; omega
                  clear hR1 hR2 he2 hq2 FF hR3
                  go_wp2_with fail
                  go_ret2
                  exact ⟨rfl, rfl⟩
                · have C2 : decide ((4294967296 : Int) ≤ (r' : Int)) = false := decide_eq_false (by omega)
                  have B2 : Hid (q' < 18446744073709551616 ∧ r' < 4294967296) := by have := B1.out; exact ⟨by omega, by omega⟩
                  clear hq' hr' c1 c2 hx hz ht hxb hlt hq1
                  go_wp2_with fail
                  go_round
                  case rel => exact ⟨q', r', rfl, rfl, B2, E2, G2⟩
                  case measure => have := HQ.out; simp [intOf]; omega
              · have QE : Hid (q = (u2 * 4294967296 + d0) / (a * 4294967296 + b)) := V.digit_eq G1.out (fun h => c3 (TG.out.2 h)) (by have := BD.out; omega)
                clear c1 hx hz ht hxb
                have FF := V.final HY.out BD.out.2.2.2.2.2.2.2.2 HU2.out HD.out
                rw [← HQY.out, ← HU3.out] at FF
                have hq2 : q = (u2 * 4294967296 + d0) / Y := by rw [HAB.out]; exact QE.out
                rw [← hq2] at FF
                have hR1 := HR1.out
                have hR2 := HR2.out
                obtain ⟨e2, he2⟩ : ∃ R, R = (u2 * 4294967296 + d0) % Y := ⟨_, rfl⟩
                rw [← hR1, ← hR2, ← he2] at FF
                have hR3 : R1 < 18446744073709551616 := by
                  rw [hR1]
                  have := S0.out
                  exact Nat.div_lt_of_lt_mul (V.lt_words this.2.1 this.2.2.1)
                have f1 : IntKind.u64.wrap (IntKind.u64.wrap ((Q : Int) * 4294967296) + (q : Int)) = (R1 : Int) := by
                  have := FF.1
                  rw [IntKind.wrap_u64, IntKind.wrap_u64]; omega
                have f2 : IntKind.u64.wrap (IntKind.u64.wrap (IntKind.u64.wrap ((u2 : Int) * 4294967296) + (d0 : Int)) - IntKind.u64.wrap ((q : Int) * (Y : Int))) = (e2 : Int) := by
                  rw [IntKind.wrap_u64, IntKind.wrap_u64, IntKind.wrap_u64, IntKind.wrap_u64, he2]
                  exact V.rem_wrap hq2 BD.out.2.2.2.2.2.2.2.2 BD.out.2.2.2.2.2.2.2.1
                have f3 : (e2 : Int) / 2 ^ s = (R2 : Int) := by rw [castdiv, FF.2]
                have f4 : min s 64 = s := by have := S0.out; omega
                clear hR1 hR2 he2 hq2 FF hR3
                go_wp2_with fail
                go_ret2
                exact ⟨rfl, rfl⟩
        · have C2 : decide ((4294967296 : Int) ≤ (r' : Int)) = false := decide_eq_false (by omega)
          have B2 : Hid (q' < 18446744073709551616 ∧ r' < 4294967296) := by have := B1.out; exact ⟨by omega, by omega⟩
          clear hq' hr' c1 c2
          go_wp2_with fail
          go_round
          case rel => exact ⟨q', r', rfl, rfl, B2, E2, G2⟩
          case measure => have := HQ.out; simp [intOf]; omega
      · have D1 : decide ((4294967296 : Int) ≤ (q : Int)) = false := decide_eq_false (by omega)
        obtain ⟨x, hx⟩ : ∃ x, x = q * b := ⟨_, rfl⟩
        obtain ⟨z, hz⟩ : ∃ z, z = 4294967296 * r := ⟨_, rfl⟩
        obtain ⟨t, ht⟩ : ∃ t, t = z + d1 := ⟨_, rfl⟩
        have hxb : x ≤ 4294967295 * 4294967295 := by rw [hx]; have := BD.out; exact Nat.mul_le_mul (by omega) (by omega)
        have p1 : (q : Int) * (b : Int) = (x : Int) := by rw [hx]; simp
        have p1' : IntKind.u64.wrap (x : Int) = (x : Int) := wrapn (by omega)
        have p2 : IntKind.u64.wrap (4294967296 * (r : Int)) = (z : Int) := by have := B1.out; rw [IntKind.wrap_u64]; omega
        have p3 : IntKind.u64.wrap ((z : Int) + (d1 : Int)) = (t : Int) := by have := B1.out; have := BD.out; rw [IntKind.wrap_u64]; omega
        have TG : Hid ((t < x) ↔ (u * 4294967296 + d1 < q * (a * 4294967296 + b))) := by
          have := V.too_great (b := b) (d := d1) E1.out
          rw [← hx] at this
          rw [ht, hz, Nat.mul_comm 4294967296 r]; exact this
        by_cases c3 : t < x
        · have hlt := TG.out.1 c3
          obtain ⟨q', hq'⟩ : ∃ q', q' = q - 1 := ⟨_, rfl⟩
          obtain ⟨r', hr'⟩ : ∃ r', r' = r + a := ⟨_, rfl⟩
          have hq1 : 1 ≤ q := by
            rcases Nat.eq_zero_or_pos q with h | h
            · rw [h, Nat.zero_mul] at hlt; omega
            · exact h
          have q1 : IntKind.u64.wrap ((q : Int) - 1) = (q' : Int) := by have := B1.out; rw [IntKind.wrap_u64]; omega
          have q2 : IntKind.u64.wrap ((r : Int) + (a : Int)) = (r' : Int) := by have := B1.out; have := BD.out; rw [IntKind.wrap_u64]; omega
          have HQ : Hid (q' = q - 1 ∧ 1 ≤ q) := ⟨hq', hq1⟩
          have E2 : Hid (q' * a + r' = u) := V.step_eq E1.out hq1 hq' hr'
          have G2 : Hid ((u * 4294967296 + d1) / (a * 4294967296 + b) ≤ q') := by
            have := V.digit_le hlt
            rw [hq']; exact this
          by_cases c2 : 4294967296 ≤ r'
          · have C2 : decide ((4294967296 : Int) ≤ (r' : Int)) = true := decide_eq_true (by omega)
            have QE : Hid (q' = (u * 4294967296 + d1) / (a * 4294967296 + b)) := by
              have hbd := BD.out
              have hh := HAB.out
              have hu2 := HUY.out
              exact V.digit_eq G2.out (V.wide_rest E2.out (by omega) (by omega) c2).2 (by omega)
            clear hq' hr' c1 c2 hx hz ht hxb hlt hq1
            generalize q' = Q at *
            obtain ⟨u2, hu2⟩ : ∃ u2, u2 = (u * 4294967296 + d1) % Y := ⟨_, rfl⟩
            have hQY : Q = (u * 4294967296 + d1) / Y := by rw [HAB.out]; exact QE.out
            have k1 : u2 < Y := by rw [hu2]; exact Nat.mod_lt _ BD.out.2.2.2.2.2.2.2.2
            have k2 : Y < 18446744073709551616 := BD.out.2.2.2.2.2.2.2.1
            have s1 : IntKind.u64.wrap (IntKind.u64.wrap (IntKind.u64.wrap ((u : Int) * 4294967296) + (d1 : Int)) - IntKind.u64.wrap ((Q : Int) * (Y : Int))) = (u2 : Int) := by
              rw [IntKind.wrap_u64, IntKind.wrap_u64, IntKind.wrap_u64, IntKind.wrap_u64, hu2]
              exact V.rem_wrap hQY (by omega) k2
            obtain ⟨p0, hp0⟩ : ∃ q, q = u2 / a := ⟨_, rfl⟩
            obtain ⟨n0, hn0⟩ : ∃ r, r = u2 % a := ⟨_, rfl⟩
            have e0 : p0 * a + n0 = u2 := by rw [hp0, hn0, Nat.mul_comm]; exact Nat.div_add_mod u2 a
            have em : n0 < a := by rw [hn0]; exact Nat.mod_lt _ (by have := BD.out; omega)
            have kp : p0 < 18446744073709551616 := by rw [hp0]; exact Nat.lt_of_le_of_lt (Nat.div_le_self _ _) (by omega)
            have s2 : IntKind.u64.wrap ((u2 : Int) / (a : Int)) = (p0 : Int) := by
              have : (u2 : Int) / (a : Int) = ((u2 / a : Nat) : Int) := by simp
              rw [this, ← hp0, wrapn kp]
            obtain ⟨K2, hK2⟩ : ∃ k, k = u2 - n0 := ⟨_, rfl⟩
            have s3 : (p0 : Int) * (a : Int) = (K2 : Int) := by
              have : p0 * a = K2 := by omega
              rw [← this]; simp
            have s4 : IntKind.u64.wrap (K2 : Int) = (K2 : Int) := wrapn (by omega)
            have s5 : IntKind.u64.wrap ((u2 : Int) - (K2 : Int)) = (n0 : Int) := by
              have : (u2 : Int) - (K2 : Int) = (n0 : Int) := by omega
              rw [this]; exact wrapn (by omega)
            have G0 := hid (V.guess_ge (a := a) (b := b) (u := u2) (d := d0) (by omega) BD.out.2.2.2.2.1)
            rw [← hp0] at G0
            have E0 := hid e0
            have B0 : Hid (p0 < 18446744073709551616 ∧ n0 < 4294967296) := ⟨kp, by have := BD.out; omega⟩
            have HUY : Hid (u2 < Y) := k1
            have HU3 := hid hu2
            have HQY := hid hQY
            clear hu2 hQY k1 k2 hp0 hn0 e0 em kp hK2
            go_wp2_with fail
            clear s1 s2 s3 s4 s5
            go_loop [18, 16] (fun t1 t2 => ∃ q r : Nat, t1 = .int .u64 q ∧ t2 = .int .u64 r ∧ Hid (q < 18446744073709551616 ∧ r < 4294967296) ∧ Hid (q * a + r = u2) ∧ Hid ((u2 * 4294967296 + d0) / (a * 4294967296 + b) ≤ q)) (fun t1 _ => (intOf t1).toNat)
            case atStart => exact ⟨p0, n0, rfl, rfl, B0, E0, G0⟩
            case round =>
              obtain ⟨q, r, rfl, rfl, B1, E1, G1⟩ := hrel
              clear E0 G0 B0
              by_cases c1 : 4294967296 ≤ q
              · obtain ⟨q', hq'⟩ : ∃ q', q' = q - 1 := ⟨_, rfl⟩
                obtain ⟨r', hr'⟩ : ∃ r', r' = r + a := ⟨_, rfl⟩
                have q1 : IntKind.u64.wrap ((q : Int) - 1) = (q' : Int) := by have := B1.out; rw [IntKind.wrap_u64]; omega
                have q2 : IntKind.u64.wrap ((r : Int) + (a : Int)) = (r' : Int) := by have := B1.out; have := BD.out; rw [IntKind.wrap_u64]; omega
                have C1 : (4294967296 : Int) ≤ (q : Int) := by omega
                have HQ := hid hq'
                have E2 : Hid (q' * a + r' = u2) := V.step_eq E1.out (by omega) hq' hr'
                have G2 : Hid ((u2 * 4294967296 + d0) / (a * 4294967296 + b) ≤ q') := by
                  have hbd := BD.out
                  have hh := HAB.out
                  have hu2 := HUY.out
                  have hlt := V.wide_great (V := a * 4294967296 + b) (u := u2) (d := d0) (q := q) (by omega) (by omega) c1
                  have := V.digit_le hlt
                  rw [hq']; exact this
                by_cases c2 : 4294967296 ≤ r'
                · have C2 : decide ((4294967296 : Int) ≤ (r' : Int)) = true := decide_eq_true (by omega)
                  have QE : Hid (q' = (u2 * 4294967296 + d0) / (a * 4294967296 + b)) := by
                    have hbd := BD.out
                    have hh := HAB.out
                    have hu2 := HUY.out
                    exact V.digit_eq G2.out (V.wide_rest E2.out (by omega) (by omega) c2).2 (by omega)
                  clear hq' hr' c1 c2
                  have FF := V.final HY.out BD.out.2.2.2.2.2.2.2.2 HU2.out HD.out
                  rw [← HQY.out, ← HU3.out] at FF
                  have hq2 : q' = (u2 * 4294967296 + d0) / Y := by rw [HAB.out]; exact QE.out
                  rw [← hq2] at FF
                  have hR1 := HR1.out
                  have hR2 := HR2.out
                  obtain ⟨e2, he2⟩ : ∃ R, R = (u2 * 4294967296 + d0) % Y := ⟨_, rfl⟩
                  rw [← hR1, ← hR2, ← he2] at FF
                  have hR3 : R1 < 18446744073709551616 := by
                    rw [hR1]
                    have := S0.out
                    exact Nat.div_lt_of_lt_mul (V.lt_words this.2.1 this.2.2.1)
                  have f1 : IntKind.u64.wrap (IntKind.u64.wrap ((Q : Int) * 4294967296) + (q' : Int)) = (R1 : Int) := by
                    have := FF.1
                    rw [IntKind.wrap_u64, IntKind.wrap_u64]; omega
                  have f2 : IntKind.u64.wrap (IntKind.u64.wrap (IntKind.u64.wrap ((u2 : Int) * 4294967296) + (d0 : Int)) - IntKind.u64.wrap ((q' : Int) * (Y : Int))) = (e2 : Int) := by
                    rw [IntKind.wrap_u64, IntKind.wrap_u64, IntKind.wrap_u64, IntKind.wrap_u64, he2]
                    exact V.rem_wrap hq2 BD.out.2.2.2.2.2.2.2.2 BD.out.2.2.2.2.2.2.2.1
                  have f3 : (e2 : Int) / 2 ^ s = (R2 : Int) := by rw [castdiv, FF.2]
                  have f4 : min s 64 = s := by have := S0.out; omega
                  clear hR1 hR2 he2 hq2 FF hR3
                  go_wp2_with fail
                  go_ret2
                  exact ⟨rfl, rfl⟩
                · have C2 : decide ((4294967296 : Int) ≤ (r' : Int)) = false := decide_eq_false (by omega)
                  have B2 : Hid (q' < 18446744073709551616 ∧ r' < 4294967296) := by have := B1.out; exact ⟨by omega, by omega⟩
                  clear hq' hr' c1 c2
                  go_wp2_with fail
                  go_round
                  case rel => exact ⟨q', r', rfl, rfl, B2, E2, G2⟩
                  case measure => have := HQ.out; simp [intOf]; omega
              · have D1 : decide ((4294967296 : Int) ≤ (q : Int)) = false := decide_eq_false (by omega)
                obtain ⟨x, hx⟩ : ∃ x, x = q * b := ⟨_, rfl⟩
                obtain ⟨z, hz⟩ : ∃ z, z = 4294967296 * r := ⟨_, rfl⟩
                obtain ⟨t, ht⟩ : ∃ t, t = z + d0 := ⟨_, rfl⟩
                have hxb : x ≤ 4294967295 * 4294967295 := by rw [hx]; have := BD.out; exact Nat.mul_le_mul (by omega) (by omega)
                have p1 : (q : Int) * (b : Int) = (x : Int) := by rw [hx]; simp
                have p1' : IntKind.u64.wrap (x : Int) = (x : Int) := wrapn (by omega)
                have p2 : IntKind.u64.wrap (4294967296 * (r : Int)) = (z : Int) := by have := B1.out; rw [IntKind.wrap_u64]; omega
                have p3 : IntKind.u64.wrap ((z : Int) + (d0 : Int)) = (t : Int) := by have := B1.out; have := BD.out; rw [IntKind.wrap_u64]; omega
                have TG : Hid ((t < x) ↔ (u2 * 4294967296 + d0 < q * (a * 4294967296 + b))) := by
                  have := V.too_great (b := b) (d := d0) E1.out
                  rw [← hx] at this
                  rw [ht, hz, Nat.mul_comm 4294967296 r]; exact this
                by_cases c3 : t < x
                · have hlt := TG.out.1 c3
                  obtain ⟨q', hq'⟩ : ∃ q', q' = q - 1 := ⟨_, rfl⟩
                  obtain ⟨r', hr'⟩ : ∃ r', r' = r + a := ⟨_, rfl⟩
                  have hq1 : 1 ≤ q := by
                    rcases Nat.eq_zero_or_pos q with h | h
                    · rw [h, Nat.zero_mul] at hlt; omega
                    · exact h
                  have q1 : IntKind.u64.wrap ((q : Int) - 1) = (q' : Int) := by have := B1.out; rw [IntKind.wrap_u64]; omega
                  have q2 : IntKind.u64.wrap ((r : Int) + (a : Int)) = (r' : Int) := by have := B1.out; have := BD.out; rw [IntKind.wrap_u64]; omega
                  have HQ : Hid (q' = q - 1 ∧ 1 ≤ q) := ⟨hq', hq1⟩
                  have E2 : Hid (q' * a + r' = u2) := V.step_eq E1.out hq1 hq' hr'
                  have G2 : Hid ((u2 * 4294967296 + d0) / (a * 4294967296 + b) ≤ q') := by
                    have := V.digit_le hlt
                    rw [hq']; exact this
                  by_cases c2 : 4294967296 ≤ r'
                  · have C2 : decide ((4294967296 : Int) ≤ (r' : Int)) = true := decide_eq_true (by omega)
                    have QE : Hid (q' = (u2 * 4294967296 + d0) / (a * 4294967296 + b)) := by
                      have hbd := BD.out
                      have hh := HAB.out
                      have hu2 := HUY.out
                      exact V.digit_eq G2.out (V.wide_rest E2.out (by omega) (by omega) c2).2 (by omega)
                    clear hq' hr' c1 c2 hx hz ht hxb hlt hq1
                    have FF := V.final HY.out BD.out.2.2.2.2.2.2.2.2 HU2.out HD.out
                    rw [← HQY.out, ← HU3.out] at FF
                    have hq2 : q' = (u2 * 4294967296 + d0) / Y := by rw [HAB.out]; exact QE.out
                    rw [← hq2] at FF
                    have hR1 := HR1.out
                    have hR2 := HR2.out
                    obtain ⟨e2, he2⟩ : ∃ R, R = (u2 * 4294967296 + d0) % Y := ⟨_, rfl⟩
                    rw [← hR1, ← hR2, ← he2] at FF
                    have hR3 : R1 < 18446744073709551616 := by
                      rw [hR1]
                      have := S0.out
                      exact Nat.div_lt_of_lt_mul (V.lt_words this.2.1 this.2.2.1)
                    have f1 : IntKind.u64.wrap (IntKind.u64.wrap ((Q : Int) * 4294967296) + (q' : Int)) = (R1 : Int) := by
                      have := FF.1
                      rw [IntKind.wrap_u64, IntKind.wrap_u64]; omega
                    have f2 : IntKind.u64.wrap (IntKind.u64.wrap (IntKind.u64.wrap ((u2 : Int) * 4294967296) + (d0 : Int)) - IntKind.u64.wrap ((q' : Int) * (Y : Int))) = (e2 : Int) := by
                      rw [IntKind.wrap_u64, IntKind.wrap_u64, IntKind.wrap_u64, IntKind.wrap_u64, he2]
                      exact V.rem_wrap hq2 BD.out.2.2.2.2.2.2.2.2 BD.out.2.2.2.2.2.2.2.1
                    have f3 : (e2 : Int) / 2 ^ s = (R2 : Int) := by rw [castdiv, FF.2]
                    have f4 : min s 64 = s := by have := S0.out; omega
                    clear hR1 hR2 he2 hq2 FF hR3
                    go_wp2_with fail
                    go_ret2
                    exact ⟨rfl, rfl⟩
                  · have C2 : decide ((4294967296 : Int) ≤ (r' : Int)) = false := decide_eq_false (by omega)
                    have B2 : Hid (q' < 18446744073709551616 ∧ r' < 4294967296) := by have := B1.out; exact ⟨by omega, by omega⟩
                    clear hq' hr' c1 c2 hx hz ht hxb hlt hq1
                    go_wp2_with fail
                    go_round
                    case rel => exact ⟨q', r', rfl, rfl, B2, E2, G2⟩
                    case measure => have := HQ.out; simp [intOf]; omega
                · have QE : Hid (q = (u2 * 4294967296 + d0) / (a * 4294967296 + b)) := V.digit_eq G1.out (fun h => c3 (TG.out.2 h)) (by have := BD.out; omega)
                  clear c1 hx hz ht hxb
                  have FF := V.final HY.out BD.out.2.2.2.2.2.2.2.2 HU2.out HD.out
                  rw [← HQY.out, ← HU3.out] at FF
                  have hq2 : q = (u2 * 4294967296 + d0) / Y := by rw [HAB.out]; exact QE.out
                  rw [← hq2] at FF
                  have hR1 := HR1.out
                  have hR2 := HR2.out
                  obtain ⟨e2, he2⟩ : ∃ R, R = (u2 * 4294967296 + d0) % Y := ⟨_, rfl⟩
                  rw [← hR1, ← hR2, ← he2] at FF
                  have hR3 : R1 < 18446744073709551616 := by
                    rw [hR1]
                    have := S0.out
                    exact Nat.div_lt_of_lt_mul (V.lt_words this.2.1 this.2.2.1)
                  have f1 : IntKind.u64.wrap (IntKind.u64.wrap ((Q : Int) * 4294967296) + (q : Int)) = (R1 : Int) := by
                    have := FF.1
                    rw [IntKind.wrap_u64, IntKind.wrap_u64]; omega
                  have f2 : IntKind.u64.wrap (IntKind.u64.wrap (IntKind.u64.wrap ((u2 : Int) * 4294967296) + (d0 : Int)) - IntKind.u64.wrap ((q : Int) * (Y : Int))) = (e2 : Int) := by
                    rw [IntKind.wrap_u64, IntKind.wrap_u64, IntKind.wrap_u64, IntKind.wrap_u64, he2]
                    exact V.rem_wrap hq2 BD.out.2.2.2.2.2.2.2.2 BD.out.2.2.2.2.2.2.2.1
                  have f3 : (e2 : Int) / 2 ^ s = (R2 : Int) := by rw [castdiv, FF.2]
                  have f4 : min s 64 = s := by have := S0.out; omega
                  clear hR1 hR2 he2 hq2 FF hR3
                  go_wp2_with fail
                  go_ret2
                  exact ⟨rfl, rfl⟩
          · have C2 : decide ((4294967296 : Int) ≤ (r' : Int)) = false := decide_eq_false (by omega)
            have B2 : Hid (q' < 18446744073709551616 ∧ r' < 4294967296) := by have := B1.out; exact ⟨by omega, by omega⟩
            clear hq' hr' c1 c2 hx hz ht hxb hlt hq1
            go_wp2_with fail
            go_round
            case rel => exact ⟨q', r', rfl, rfl, B2, E2, G2⟩
            case measure => have := HQ.out; simp [intOf]; omega
        · have QE : Hid (q = (u * 4294967296 + d1) / (a * 4294967296 + b)) := V.digit_eq G1.out (fun h => c3 (TG.out.2 h)) (by have := BD.out; omega)
          clear c1 hx hz ht hxb
          generalize q = Q at *
          obtain ⟨u2, hu2⟩ : ∃ u2, u2 = (u * 4294967296 + d1) % Y := ⟨_, rfl⟩
          have hQY : Q = (u * 4294967296 + d1) / Y := by rw [HAB.out]; exact QE.out
          have k1 : u2 < Y := by rw [hu2]; exact Nat.mod_lt _ BD.out.2.2.2.2.2.2.2.2
          have k2 : Y < 18446744073709551616 := BD.out.2.2.2.2.2.2.2.1
          have s1 : IntKind.u64.wrap (IntKind.u64.wrap (IntKind.u64.wrap ((u : Int) * 4294967296) + (d1 : Int)) - IntKind.u64.wrap ((Q : Int) * (Y : Int))) = (u2 : Int) := by
            rw [IntKind.wrap_u64, IntKind.wrap_u64, IntKind.wrap_u64, IntKind.wrap_u64, hu2]
            exact V.rem_wrap hQY (by omega) k2
          obtain ⟨p0, hp0⟩ : ∃ q, q = u2 / a := ⟨_, rfl⟩
          obtain ⟨n0, hn0⟩ : ∃ r, r = u2 % a := ⟨_, rfl⟩
          have e0 : p0 * a + n0 = u2 := by rw [hp0, hn0, Nat.mul_comm]; exact Nat.div_add_mod u2 a
          have em : n0 < a := by rw [hn0]; exact Nat.mod_lt _ (by have := BD.out; omega)
          have kp : p0 < 18446744073709551616 := by rw [hp0]; exact Nat.lt_of_le_of_lt (Nat.div_le_self _ _) (by omega)
          have s2 : IntKind.u64.wrap ((u2 : Int) / (a : Int)) = (p0 : Int) := by
            have : (u2 : Int) / (a : Int) = ((u2 / a : Nat) : Int) := by simp
            rw [this, ← hp0, wrapn kp]
          obtain ⟨K2, hK2⟩ : ∃ k, k = u2 - n0 := ⟨_, rfl⟩
          have s3 : (p0 : Int) * (a : Int) = (K2 : Int) := by
            have : p0 * a = K2 := by omega
            rw [← this]; simp
          have s4 : IntKind.u64.wrap (K2 : Int) = (K2 : Int) := wrapn (by omega)
          have s5 : IntKind.u64.wrap ((u2 : Int) - (K2 : Int)) = (n0 : Int) := by
            have : (u2 : Int) - (K2 : Int) = (n0 : Int) := by omega
            rw [this]; exact wrapn (by omega)
          have G0 := hid (V.guess_ge (a := a) (b := b) (u := u2) (d := d0) (by omega) BD.out.2.2.2.2.1)
          rw [← hp0] at G0
          have E0 := hid e0
          have B0 : Hid (p0 < 18446744073709551616 ∧ n0 < 4294967296) := ⟨kp, by have := BD.out; omega⟩
          have HUY : Hid (u2 < Y) := k1
          have HU3 := hid hu2
          have HQY := hid hQY
          clear hu2 hQY k1 k2 hp0 hn0 e0 em kp hK2
          go_wp2_with fail
          clear s1 s2 s3 s4 s5
          go_loop [18, 16] (fun t1 t2 => ∃ q r : Nat, t1 = .int .u64 q ∧ t2 = .int .u64 r ∧ Hid (q < 18446744073709551616 ∧ r < 4294967296) ∧ Hid (q * a + r = u2) ∧ Hid ((u2 * 4294967296 + d0) / (a * 4294967296 + b) ≤ q)) (fun t1 _ => (intOf t1).toNat)
          case atStart => exact ⟨p0, n0, rfl, rfl, B0, E0, G0⟩
          case round =>
            obtain ⟨q, r, rfl, rfl, B1, E1, G1⟩ := hrel
            clear E0 G0 B0
            by_cases c1 : 4294967296 ≤ q
            · obtain ⟨q', hq'⟩ : ∃ q', q' = q - 1 := ⟨_, rfl⟩
              obtain ⟨r', hr'⟩ : ∃ r', r' = r + a := ⟨_, rfl⟩
              have q1 : IntKind.u64.wrap ((q : Int) - 1) = (q' : Int) := by have := B1.out; rw [IntKind.wrap_u64]; omega
              have q2 : IntKind.u64.wrap ((r : Int) + (a : Int)) = (r' : Int) := by have := B1.out; have := BD.out; rw [IntKind.wrap_u64]; omega
              have C1 : (4294967296 : Int) ≤ (q : Int) := by omega
              have HQ := hid hq'
              have E2 : Hid (q' * a + r' = u2) := V.step_eq E1.out (by omega) hq' hr'
              have G2 : Hid ((u2 * 4294967296 + d0) / (a * 4294967296 + b) ≤ q') := by
                have hbd := BD.out
                have hh := HAB.out
                have hu2 := HUY.out
                have hlt := V.wide_great (V := a * 4294967296 + b) (u := u2) (d := d0) (q := q) (by omega) (by omega) c1
                have := V.digit_le hlt
                rw [hq']; exact this
              by_cases c2 : 4294967296 ≤ r'
              · have C2 : decide ((4294967296 : Int) ≤ (r' : Int)) = true := decide_eq_true (by omega)
                have QE : Hid (q' = (u2 * 4294967296 + d0) / (a * 4294967296 + b)) := by
                  have hbd := BD.out
                  have hh := HAB.out
                  have hu2 := HUY.out
                  exact V.digit_eq G2.out (V.wide_rest E2.out (by omega) (by omega) c2).2 (by omega)
                clear hq' hr' c1 c2
                have FF := V.final HY.out BD.out.2.2.2.2.2.2.2.2 HU2.out HD.out
                rw [← HQY.out, ← HU3.out] at FF
                have hq2 : q' = (u2 * 4294967296 + d0) / Y := by rw [HAB.out]; exact QE.out
                rw [← hq2] at FF
                have hR1 := HR1.out
                have hR2 := HR2.out
                obtain ⟨e2, he2⟩ : ∃ R, R = (u2 * 4294967296 + d0) % Y := ⟨_, rfl⟩
                rw [← hR1, ← hR2, ← he2] at FF
                have hR3 : R1 < 18446744073709551616 := by
                  rw [hR1]
                  have := S0.out
                  exact Nat.div_lt_of_lt_mul (V.lt_words this.2.1 this.2.2.1)
                have f1 : IntKind.u64.wrap (IntKind.u64.wrap ((Q : Int) * 4294967296) + (q' : Int)) = (R1 : Int) := by
                  have := FF.1
                  rw [IntKind.wrap_u64, IntKind.wrap_u64]; omega
                have f2 : IntKind.u64.wrap (IntKind.u64.wrap (IntKind.u64.wrap ((u2 : Int) * 4294967296) + (d0 : Int)) - IntKind.u64.wrap ((q' : Int) * (Y : Int))) = (e2 : Int) := by
                  rw [IntKind.wrap_u64, IntKind.wrap_u64, IntKind.wrap_u64, IntKind.wrap_u64, he2]
                  exact V.rem_wrap hq2 BD.out.2.2.2.2.2.2.2.2 BD.out.2.2.2.2.2.2.2.1
                have f3 : (e2 : Int) / 2 ^ s = (R2 : Int) := by rw [castdiv, FF.2]
                have f4 : min s 64 = s := by have := S0.out; omega
                clear hR1 hR2 he2 hq2 FF hR3
                go_wp2_with fail
                go_ret2
                exact ⟨rfl, rfl⟩
              · have C2 : decide ((4294967296 : Int) ≤ (r' : Int)) = false := decide_eq_false (by omega)
                have B2 : Hid (q' < 18446744073709551616 ∧ r' < 4294967296) := by have := B1.out; exact ⟨by omega, by omega⟩
                clear hq' hr' c1 c2
                go_wp2_with fail
                go_round
                case rel => exact ⟨q', r', rfl, rfl, B2, E2, G2⟩
                case measure => have := HQ.out; simp [intOf]; omega
            · have D1 : decide ((4294967296 : Int) ≤ (q : Int)) = false := decide_eq_false (by omega)
              obtain ⟨x, hx⟩ : ∃ x, x = q * b := ⟨_, rfl⟩
              obtain ⟨z, hz⟩ : ∃ z, z = 4294967296 * r := ⟨_, rfl⟩
              obtain ⟨t, ht⟩ : ∃ t, t = z + d0 := ⟨_, rfl⟩
              have hxb : x ≤ 4294967295 * 4294967295 := by rw [hx]; have := BD.out; exact Nat.mul_le_mul (by omega) (by omega)
              have p1 : (q : Int) * (b : Int) = (x : Int) := by rw [hx]; simp
              have p1' : IntKind.u64.wrap (x : Int) = (x : Int) := wrapn (by omega)
              have p2 : IntKind.u64.wrap (4294967296 * (r : Int)) = (z : Int) := by have := B1.out; rw [IntKind.wrap_u64]; omega
              have p3 : IntKind.u64.wrap ((z : Int) + (d0 : Int)) = (t : Int) := by have := B1.out; have := BD.out; rw [IntKind.wrap_u64]; omega
              have TG : Hid ((t < x) ↔ (u2 * 4294967296 + d0 < q * (a * 4294967296 + b))) := by
                have := V.too_great (b := b) (d := d0) E1.out
                rw [← hx] at this
                rw [ht, hz, Nat.mul_comm 4294967296 r]; exact this
              by_cases c3 : t < x
              · have hlt := TG.out.1 c3
                obtain ⟨q', hq'⟩ : ∃ q', q' = q - 1 := ⟨_, rfl⟩
                obtain ⟨r', hr'⟩ : ∃ r', r' = r + a := ⟨_, rfl⟩
                have hq1 : 1 ≤ q := by
                  rcases Nat.eq_zero_or_pos q with h | h
                  · rw [h, Nat.zero_mul] at hlt; omega
                  · exact h
                have q1 : IntKind.u64.wrap ((q : Int) - 1) = (q' : Int) := by have := B1.out; rw [IntKind.wrap_u64]; omega
                have q2 : IntKind.u64.wrap ((r : Int) + (a : Int)) = (r' : Int) := by have := B1.out; have := BD.out; rw [IntKind.wrap_u64]; omega
                have HQ : Hid (q' = q - 1 ∧ 1 ≤ q) := ⟨hq', hq1⟩
                have E2 : Hid (q' * a + r' = u2) := V.step_eq E1.out hq1 hq' hr'
                have G2 : Hid ((u2 * 4294967296 + d0) / (a * 4294967296 + b) ≤ q') := by
                  have := V.digit_le hlt
                  rw [hq']; exact this
                by_cases c2 : 4294967296 ≤ r'
                · have C2 : decide ((4294967296 : Int) ≤ (r' : Int)) = true := decide_eq_true (by omega)
                  have QE : Hid (q' = (u2 * 4294967296 + d0) / (a * 4294967296 + b)) := by
                    have hbd := BD.out
                    have hh := HAB.out
                    have hu2 := HUY.out
                    exact V.digit_eq G2.out (V.wide_rest E2.out (by omega) (by omega) c2).2 (by omega)
                  clear hq' hr' c1 c2 hx hz ht hxb hlt hq1
                  have FF := V.final HY.out BD.out.2.2.2.2.2.2.2.2 HU2.out HD.out
                  rw [← HQY.out, ← HU3.out] at FF
                  have hq2 : q' = (u2 * 4294967296 + d0) / Y := by rw [HAB.out]; exact QE.out
                  rw [← hq2] at FF
                  have hR1 := HR1.out
                  have hR2 := HR2.out
                  obtain ⟨e2, he2⟩ : ∃ R, R = (u2 * 4294967296 + d0) % Y := ⟨_, rfl⟩
                  rw [← hR1, ← hR2, ← he2] at FF
                  have hR3 : R1 < 18446744073709551616 := by
                    rw [hR1]
                    have := S0.out
                    exact Nat.div_lt_of_lt_mul (V.lt_words this.2.1 this.2.2.1)
                  have f1 : IntKind.u64.wrap (IntKind.u64.wrap ((Q : Int) * 4294967296) + (q' : Int)) = (R1 : Int) := by
                    have := FF.1
                    rw [IntKind.wrap_u64, IntKind.wrap_u64]; omega
                  have f2 : IntKind.u64.wrap (IntKind.u64.wrap (IntKind.u64.wrap ((u2 : Int) * 4294967296) + (d0 : Int)) - IntKind.u64.wrap ((q' : Int) * (Y : Int))) = (e2 : Int) := by
                    rw [IntKind.wrap_u64, IntKind.wrap_u64, IntKind.wrap_u64, IntKind.wrap_u64, he2]
                    exact V.rem_wrap hq2 BD.out.2.2.2.2.2.2.2.2 BD.out.2.2.2.2.2.2.2.1
                  have f3 : (e2 : Int) / 2 ^ s = (R2 : Int) := by rw [castdiv, FF.2]
                  have f4 : min s 64 = s := by have := S0.out; omega
                  clear hR1 hR2 he2 hq2 FF hR3
                  go_wp2_with fail
                  go_ret2
                  exact ⟨rfl, rfl⟩
                · have C2 : decide ((4294967296 : Int) ≤ (r' : Int)) = false := decide_eq_false (by omega)
                  have B2 : Hid (q' < 18446744073709551616 ∧ r' < 4294967296) := by have := B1.out; exact ⟨by omega, by omega⟩
                  clear hq' hr' c1 c2 hx hz ht hxb hlt hq1
                  go_wp2_with fail
                  go_round
                  case rel => exact ⟨q', r', rfl, rfl, B2, E2, G2⟩
                  case measure => have := HQ.out; simp [intOf]; omega
              · have QE : Hid (q = (u2 * 4294967296 + d0) / (a * 4294967296 + b)) := V.digit_eq G1.out (fun h => c3 (TG.out.2 h)) (by have := BD.out; omega)
                clear c1 hx hz ht hxb
                have FF := V.final HY.out BD.out.2.2.2.2.2.2.2.2 HU2.out HD.out
                rw [← HQY.out, ← HU3.out] at FF
                have hq2 : q = (u2 * 4294967296 + d0) / Y := by rw [HAB.out]; exact QE.out
                rw [← hq2] at FF
                have hR1 := HR1.out
                have hR2 := HR2.out
                obtain ⟨e2, he2⟩ : ∃ R, R = (u2 * 4294967296 + d0) % Y := ⟨_, rfl⟩
                rw [← hR1, ← hR2, ← he2] at FF
                have hR3 : R1 < 18446744073709551616 := by
                  rw [hR1]
                  have := S0.out
                  exact Nat.div_lt_of_lt_mul (V.lt_words this.2.1 this.2.2.1)
                have f1 : IntKind.u64.wrap (IntKind.u64.wrap ((Q : Int) * 4294967296) + (q : Int)) = (R1 : Int) := by
                  have := FF.1
                  rw [IntKind.wrap_u64, IntKind.wrap_u64]; omega
                have f2 : IntKind.u64.wrap (IntKind.u64.wrap (IntKind.u64.wrap ((u2 : Int) * 4294967296) + (d0 : Int)) - IntKind.u64.wrap ((q : Int) * (Y : Int))) = (e2 : Int) := by
                  rw [IntKind.wrap_u64, IntKind.wrap_u64, IntKind.wrap_u64, IntKind.wrap_u64, he2]
                  exact V.rem_wrap hq2 BD.out.2.2.2.2.2.2.2.2 BD.out.2.2.2.2.2.2.2.1
                have f3 : (e2 : Int) / 2 ^ s = (R2 : Int) := by rw [castdiv, FF.2]
                have f4 : min s 64 = s := by have := S0.out; omega
                clear hR1 hR2 he2 hq2 FF hR3
                go_wp2_with fail
                go_ret2
                exact ⟨rfl, rfl⟩
end Go.Proofs.Yteblbhbfdfifpaa
