/- Shared texts, one behind the other: DivW2, DivW3, MoneyW, MoneyW2, VMoney, VMoneyR, VPrice, VRange, VCal, DateCk, DateW, DateRW, DateRM, VDate, VCal2 -/
import Derived.Test.YtdeekpcfmgfmcaaShelf
import Derived.WalkLawsBesides
import Derived.Laws.Bits64b
import Derived.Deep.QuietTactic
import Derived.BigQuiet
import Derived.Test.YtdeekpcfmgfmcaaZ1
import Derived.Test.YtdeekpcfmgfmcaaZ2
import Derived.Test.YtdeekpcfmgfmcaaZ3

/- The walk of math/bits.Div64: a number of two words is divided by one word. -/
namespace Go.Proofs.Ytdeekpcfmgfmcaa
open Go.RowKit
set_option maxRecDepth 100000
set_option maxHeartbeats 2000000

theorem wrapn {a : Nat} (h : a < 18446744073709551616) : IntKind.u64.wrap (a : Int) = (a : Int) := by rw [IntKind.wrap_u64]; omega
theorem wrapm (a : Nat) : IntKind.u64.wrap (a : Int) = ((a % 18446744073709551616 : Nat) : Int) := by rw [IntKind.wrap_u64]; omega
theorem maskn {a : Nat} (ha : a < 18446744073709551616) : bits .and .u64 (a : Int) 4294967295 = ((a % 4294967296 : Nat) : Int) := by
  have h := bits_and_u64_nat a 4294967295 ha (by omega)
  have e : a &&& 4294967295 = a % 4294967296 := Nat.and_two_pow_sub_one_eq_mod a 32
  rw [e] at h
  exact h
theorem castpow (a s : Nat) : (a : Int) * 2 ^ s = ((a * 2 ^ s : Nat) : Int) := by simp
theorem castdiv (a s : Nat) : (a : Int) / 2 ^ s = ((a / 2 ^ s : Nat) : Int) := by simp
theorem div64_yes (hi lo y R1 R2 : Nat) (g1 : R1 = (hi * 18446744073709551616 + lo) / y) (g2 : R2 = (hi * 18446744073709551616 + lo) % y) (h0 : ¬ hi = 0) (h1 : hi < y) (h2 : lo < 18446744073709551616) (h3 : y < 18446744073709551616) (w : World) : Calls Try.prog 123 #[.int .u64 hi, .int .u64 lo, .int .u64 y] w fun e w' => e = .returned (.tuple #[.int .u64 R1, .int .u64 R2]) ∧ w' = w := by
  · have HR1 := hid g1
    have HR2 := hid g2
    clear g1 g2
    obtain ⟨l1, l2, l3, l4⟩ := V.lead (y := y) (by omega) h3
    have hs : ∃ s : Nat, s = 64 - Lib.bitLen y := ⟨_, rfl⟩
    obtain ⟨s, hs⟩ := hs
    rw [← hs] at l3 l4
    have r1 : IntKind.u64.wrap (64 - (Lib.bitLen y : Int)) = (s : Int) := by rw [IntKind.wrap_u64]; omega
    have hs63 : s ≤ 63 := by omega
    have r2 : min s 64 = s := by omega
    have HS := hid hs
    clear hs l1 l2
    obtain ⟨Y, hY⟩ : ∃ Y, Y = y * 2 ^ s := ⟨_, rfl⟩
    rw [← hY] at l3 l4
    have r3 : IntKind.u64.wrap ((y : Int) * 2 ^ s) = (Y : Int) := by
      have : ((y : Int) * 2 ^ s) = ((Y : Nat) : Int) := by rw [hY]; simp
      rw [this, IntKind.wrap_u64]; omega
    have HY := hid hY
    clear hY
    obtain ⟨w1, w2, w3, w4⟩ := V.words (hi := hi) (lo := lo) (y := y) (s := s) hs63 h1 h2 (by rw [← HY.out]; exact l4)
    have r4 : IntKind.u64.wrap ((hi : Int) * 2 ^ s) = ((hi * 2 ^ s : Nat) : Int) := by rw [castpow, wrapn w1]
    have r5 : (lo : Int) / 2 ^ (64 - s) = ((lo / 2 ^ (64 - s) : Nat) : Int) := castdiv _ _
    have r6 : IntKind.u64.wrap ((lo : Int) * 2 ^ s) = ((lo * 2 ^ s % 18446744073709551616 : Nat) : Int) := by rw [castpow, wrapm]
    rw [← HY.out] at w3
    have l5 : lo / 2 ^ (64 - s) < 18446744073709551616 := by omega
    have r7 : bits .or .u64 ((hi * 2 ^ s : Nat) : Int) ((lo / 2 ^ (64 - s) : Nat) : Int) = ((hi * 2 ^ s + lo / 2 ^ (64 - s) : Nat) : Int) := by rw [bits_or_u64_nat _ _ w1 l5, V.or_add w2]
    have l6 : lo * 2 ^ s % 18446744073709551616 < 18446744073709551616 := Nat.mod_lt _ (by omega)
    have HU := hid w4
    clear w4 w2
    generalize hi * 2 ^ s = H at *
    generalize lo / 2 ^ (64 - s) = L at *
    generalize lo * 2 ^ s % 18446744073709551616 = V' at *
    obtain ⟨u, hu⟩ : ∃ u, u = H + L := ⟨_, rfl⟩
    rw [← hu] at r7 w3
    have HU2 : Hid (u * 18446744073709551616 + V' = (hi * 18446744073709551616 + lo) * 2 ^ s) := by rw [hu]; exact HU.out
    clear hu HU
    obtain ⟨a, ha⟩ : ∃ a, a = Y / 4294967296 := ⟨_, rfl⟩
    obtain ⟨b, hb⟩ : ∃ b, b = Y % 4294967296 := ⟨_, rfl⟩
    obtain ⟨d1, hd1⟩ : ∃ d, d = V' / 4294967296 := ⟨_, rfl⟩
    obtain ⟨d0, hd0⟩ : ∃ d, d = V' % 4294967296 := ⟨_, rfl⟩
    have r8 : (Y : Int) / 4294967296 = (a : Int) := by omega
    have r9 : bits .and .u64 (Y : Int) 4294967295 = (b : Int) := by rw [maskn l4, ← hb]
    have r10 : (V' : Int) / 4294967296 = (d1 : Int) := by omega
    have r11 : bits .and .u64 (V' : Int) 4294967295 = (d0 : Int) := by rw [maskn l6, ← hd0]
    have HAB : Hid (Y = a * 4294967296 + b) := show Y = a * 4294967296 + b by omega
    have HD : Hid (V' = d1 * 4294967296 + d0) := show V' = d1 * 4294967296 + d0 by omega
    have ka : 2147483648 ≤ a := by omega
    have ka2 : a < 4294967296 := by omega
    have kb : b < 4294967296 := by omega
    have kd1 : d1 < 4294967296 := by omega
    have kd0 : d0 < 4294967296 := by omega
    have ku : u < 18446744073709551616 := by omega
    clear ha hb hd1 hd0 w1 l5 l6
    obtain ⟨q0, hq0⟩ : ∃ q, q = u / a := ⟨_, rfl⟩
    obtain ⟨m0, hm0⟩ : ∃ r, r = u % a := ⟨_, rfl⟩
    have e0 : q0 * a + m0 = u := by rw [hq0, hm0, Nat.mul_comm]; exact Nat.div_add_mod u a
    have em : m0 < a := by rw [hm0]; exact Nat.mod_lt _ (by omega)
    have kq : q0 < 18446744073709551616 := by rw [hq0]; exact Nat.lt_of_le_of_lt (Nat.div_le_self _ _) ku
    have r12 : IntKind.u64.wrap ((u : Int) / (a : Int)) = (q0 : Int) := by
      have : (u : Int) / (a : Int) = ((u / a : Nat) : Int) := by simp
      rw [this, ← hq0, wrapn kq]
    have r13 : (q0 : Int) * (a : Int) = ((u - m0 : Nat) : Int) := by
      have : q0 * a = u - m0 := by omega
      rw [← this]; simp
    have r14 : IntKind.u64.wrap (((u - m0 : Nat) : Int)) = ((u - m0 : Nat) : Int) := wrapn (by omega)
    have r15 : IntKind.u64.wrap ((u : Int) - ((u - m0 : Nat) : Int)) = (m0 : Int) := by
      have : (u : Int) - ((u - m0 : Nat) : Int) = (m0 : Int) := by omega
      rw [this]; exact wrapn (by omega)
    have G0 := hid (V.guess_ge (a := a) (b := b) (u := u) (d := d1) (by omega) kd1)
    rw [← hq0] at G0
    have E0 := hid e0
    clear hq0 hm0 e0
    generalize hK : u - m0 = K at *
    clear hK
    have hby : ((y : Int) == 0) = false := beq_eq_false_iff_ne.2 (by omega)
    have hc : ((hi : Int) == 0) = false := beq_eq_false_iff_ne.2 (by omega)
    go_enter Try.func123, Try.ntmps123
    go_wp2_with (go_at_call 129; refine (Try.bits_LeadingZeros64 _ _ (by omega) (by omega)).mono ?_; rintro e w' ⟨rfl, rfl⟩)
    clear r1 r2 r3 r4 r5 r6 r7 r8 r9 r10 r11 r12 r13 r14 r15
    have BD : Hid (2147483648 ≤ a ∧ a < 4294967296 ∧ b < 4294967296 ∧ d1 < 4294967296 ∧ d0 < 4294967296 ∧ u < 18446744073709551616 ∧ u < Y ∧ Y < 18446744073709551616 ∧ 0 < Y) := ⟨ka, ka2, kb, kd1, kd0, ku, w3, l4, by omega⟩
    have B0 : Hid (q0 < 18446744073709551616 ∧ m0 < 4294967296) := ⟨kq, by omega⟩
    have S0 : Hid (s ≤ 63 ∧ hi < y ∧ lo < 18446744073709551616 ∧ y < 18446744073709551616) := ⟨hs63, h1, h2, h3⟩
    have ia : (2147483648 : Int) ≤ (a : Int) := by omega
    have HUY : Hid (u < Y) := w3
    clear ka ka2 kb kd1 kd0 ku w3 l3 l4 hs63 h1 h2 h3 kq em
    go_loop [15, 16] (fun t1 t2 => ∃ q r : Nat, t1 = .int .u64 q ∧ t2 = .int .u64 r ∧ Hid (q < 18446744073709551616 ∧ r < 4294967296) ∧ Hid (q * a + r = u) ∧ Hid ((u * 4294967296 + d1) / (a * 4294967296 + b) ≤ q)) (fun t1 _ => (intOf t1).toNat)
    case atStart => exact ⟨q0, m0, rfl, rfl, B0, E0, G0⟩
    case round =>
      obtain ⟨q, r, rfl, rfl, B1, E1, G1⟩ := hrel
      clear E0 G0 B0
      by_cases c1 : 4294967296 ≤ q
      · obtain ⟨q', hq'⟩ : ∃ q', q' = q - 1 := ⟨_, rfl⟩
        obtain ⟨r', hr'⟩ : ∃ r', r' = r + a := ⟨_, rfl⟩
        have q1 : IntKind.u64.wrap ((q : Int) - 1) = (q' : Int) := by have := B1.out; rw [IntKind.wrap_u64]; omega
        have q2 : IntKind.u64.wrap ((r : Int) + (a : Int)) = (r' : Int) := by have := B1.out; have := BD.out; rw [IntKind.wrap_u64]; omega
        have C1 : (4294967296 : Int) ≤ (q : Int) := by omega
        have HQ := hid hq'
        have E2 : Hid (q' * a + r' = u) := V.step_eq E1.out (by omega) hq' hr'
        have G2 : Hid ((u * 4294967296 + d1) / (a * 4294967296 + b) ≤ q') := by
          have hbd := BD.out
          have hh := HAB.out
          have hu2 := HUY.out
          have hlt := V.wide_great (V := a * 4294967296 + b) (u := u) (d := d1) (q := q) (by omega) (by omega) c1
          have := V.digit_le hlt
          rw [hq']; exact this
        by_cases c2 : 4294967296 ≤ r'
        · have C2 : decide ((4294967296 : Int) ≤ (r' : Int)) = true := decide_eq_true (by omega)
          have QE : Hid (q' = (u * 4294967296 + d1) / (a * 4294967296 + b)) := by
            have hbd := BD.out
            have hh := HAB.out
            have hu2 := HUY.out
            exact V.digit_eq G2.out (V.wide_rest E2.out (by omega) (by omega) c2).2 (by omega)
          clear hq' hr' c1 c2
          generalize q' = Q at *
          obtain ⟨u2, hu2⟩ : ∃ u2, u2 = (u * 4294967296 + d1) % Y := ⟨_, rfl⟩
          have hQY : Q = (u * 4294967296 + d1) / Y := by rw [HAB.out]; exact QE.out
          have k1 : u2 < Y := by rw [hu2]; exact Nat.mod_lt _ BD.out.2.2.2.2.2.2.2.2
          have k2 : Y < 18446744073709551616 := BD.out.2.2.2.2.2.2.2.1
          have s1 : IntKind.u64.wrap (IntKind.u64.wrap (IntKind.u64.wrap ((u : Int) * 4294967296) + (d1 : Int)) - IntKind.u64.wrap ((Q : Int) * (Y : Int))) = (u2 : Int) := by
            rw [IntKind.wrap_u64, IntKind.wrap_u64, IntKind.wrap_u64, IntKind.wrap_u64, hu2]
            exact V.rem_wrap hQY (by omega) k2
          obtain ⟨p0, hp0⟩ : ∃ q, q = u2 / a := ⟨_, rfl⟩
          obtain ⟨n0, hn0⟩ : ∃ r, r = u2 % a := ⟨_, rfl⟩
          have e0 : p0 * a + n0 = u2 := by rw [hp0, hn0, Nat.mul_comm]; exact Nat.div_add_mod u2 a
          have em : n0 < a := by rw [hn0]; exact Nat.mod_lt _ (by have := BD.out; omega)
          have kp : p0 < 18446744073709551616 := by rw [hp0]; exact Nat.lt_of_le_of_lt (Nat.div_le_self _ _) (by omega)
          have s2 : IntKind.u64.wrap ((u2 : Int) / (a : Int)) = (p0 : Int) := by
            have : (u2 : Int) / (a : Int) = ((u2 / a : Nat) : Int) := by simp
            rw [this, ← hp0, wrapn kp]
          obtain ⟨K2, hK2⟩ : ∃ k, k = u2 - n0 := ⟨_, rfl⟩
          have s3 : (p0 : Int) * (a : Int) = (K2 : Int) := by
            have : p0 * a = K2 := by omega
            rw [← this]; simp
          have s4 : IntKind.u64.wrap (K2 : Int) = (K2 : Int) := wrapn (by omega)
          have s5 : IntKind.u64.wrap ((u2 : Int) - (K2 : Int)) = (n0 : Int) := by
            have : (u2 : Int) - (K2 : Int) = (n0 : Int) := by omega
            rw [this]; exact wrapn (by omega)
          have G0 := hid (V.guess_ge (a := a) (b := b) (u := u2) (d := d0) (by omega) BD.out.2.2.2.2.1)
          rw [← hp0] at G0
          have E0 := hid e0
          have B0 : Hid (p0 < 18446744073709551616 ∧ n0 < 4294967296) := ⟨kp, by have := BD.out; omega⟩
          have HUY : Hid (u2 < Y) := k1
          have HU3 := hid hu2
          have HQY := hid hQY
          clear hu2 hQY k1 k2 hp0 hn0 e0 em kp hK2
          go_wp2_with fail
          clear s1 s2 s3 s4 s5
          go_loop [18, 16] (fun t1 t2 => ∃ q r : Nat, t1 = .int .u64 q ∧ t2 = .int .u64 r ∧ Hid (q < 18446744073709551616 ∧ r < 4294967296) ∧ Hid (q * a + r = u2) ∧ Hid ((u2 * 4294967296 + d0) / (a * 4294967296 + b) ≤ q)) (fun t1 _ => (intOf t1).toNat)
          case atStart => exact ⟨p0, n0, rfl, rfl, B0, E0, G0⟩
          case round =>
            obtain ⟨q, r, rfl, rfl, B1, E1, G1⟩ := hrel
            clear E0 G0 B0
            by_cases c1 : 4294967296 ≤ q
            · obtain ⟨q', hq'⟩ : ∃ q', q' = q - 1 := ⟨_, rfl⟩
              obtain ⟨r', hr'⟩ : ∃ r', r' = r + a := ⟨_, rfl⟩
              have q1 : IntKind.u64.wrap ((q : Int) - 1) = (q' : Int) := by have := B1.out; rw [IntKind.wrap_u64]; omega
              have q2 : IntKind.u64.wrap ((r : Int) + (a : Int)) = (r' : Int) := by have := B1.out; have := BD.out; rw [IntKind.wrap_u64]; omega
              have C1 : (4294967296 : Int) ≤ (q : Int) := by omega
              have HQ := hid hq'
              have E2 : Hid (q' * a + r' = u2) := V.step_eq E1.out (by omega) hq' hr'
              have G2 : Hid ((u2 * 4294967296 + d0) / (a * 4294967296 + b) ≤ q') := by
                have hbd := BD.out
                have hh := HAB.out
                have hu2 := HUY.out
                have hlt := V.wide_great (V := a * 4294967296 + b) (u := u2) (d := d0) (q := q) (by omega) (by omega) c1
                have := V.digit_le hlt
                rw [hq']; exact this
              by_cases c2 : 4294967296 ≤ r'
              · have C2 : decide ((4294967296 : Int) ≤ (r' : Int)) = true := decide_eq_true (by omega)
                have QE : Hid (q' = (u2 * 4294967296 + d0) / (a * 4294967296 + b)) := by
                  have hbd := BD.out
                  have hh := HAB.out
                  have hu2 := HUY.out
                  exact V.digit_eq G2.out (V.wide_rest E2.out (by omega) (by omega) c2).2 (by omega)
                clear hq' hr' c1 c2
                have FF := V.final HY.out BD.out.2.2.2.2.2.2.2.2 HU2.out HD.out
                rw [← HQY.out, ← HU3.out] at FF
                have hq2 : q' = (u2 * 4294967296 + d0) / Y := by rw [HAB.out]; exact QE.out
                rw [← hq2] at FF
                have hR1 := HR1.out
                have hR2 := HR2.out
                obtain ⟨e2, he2⟩ : ∃ R, R = (u2 * 4294967296 + d0) % Y := ⟨_, rfl⟩
                rw [← hR1, ← hR2, ← he2] at FF
                have hR3 : R1 < 18446744073709551616 := by
                  rw [hR1]
                  have := S0.out
                  exact Nat.div_lt_of_lt_mul (V.lt_words this.2.1 this.2.2.1)
                have f1 : IntKind.u64.wrap (IntKind.u64.wrap ((Q : Int) * 4294967296) + (q' : Int)) = (R1 : Int) := by
                  have := FF.1
                  rw [IntKind.wrap_u64, IntKind.wrap_u64]; omega
                have f2 : IntKind.u64.wrap (IntKind.u64.wrap (IntKind.u64.wrap ((u2 : Int) * 4294967296) + (d0 : Int)) - IntKind.u64.wrap ((q' : Int) * (Y : Int))) = (e2 : Int) := by
                  rw [IntKind.wrap_u64, IntKind.wrap_u64, IntKind.wrap_u64, IntKind.wrap_u64, he2]
                  exact V.rem_wrap hq2 BD.out.2.2.2.2.2.2.2.2 BD.out.2.2.2.2.2.2.2.1
                have f3 : (e2 : Int) / 2 ^ s = (R2 : Int) := by rw [castdiv, FF.2]
                have f4 : min s 64 = s := by have := S0.out; omega
                clear hR1 hR2 he2 hq2 FF hR3
                go_wp2_with fail
                go_ret2
                exact ⟨rfl, rfl⟩
              · have C2 : decide ((4294967296 : Int) ≤ (r' : Int)) = false := decide_eq_false (by omega)
                have B2 : Hid (q' < 18446744073709551616 ∧ r' < 4294967296) := by have := B1.out; exact ⟨by omega, by omega⟩
                clear hq' hr' c1 c2
                go_wp2_with fail
                go_round
                case rel => exact ⟨q', r', rfl, rfl, B2, E2, G2⟩
                case measure => have := HQ.out; simp [intOf]; omega
            · have D1 : decide ((4294967296 : Int) ≤ (q : Int)) = false := decide_eq_false (by omega)
              obtain ⟨x, hx⟩ : ∃ x, x = q * b := ⟨_, rfl⟩
              obtain ⟨z, hz⟩ : ∃ z, z = 4294967296 * r := ⟨_, rfl⟩
              obtain ⟨t, ht⟩ : ∃ t, t = z + d0 := ⟨_, rfl⟩
              have hxb : x ≤ 4294967295 * 4294967295 := by rw [hx]; have := BD.out; exact Nat.mul_le_mul (by omega) (by omega)
              have p1 : (q : Int) * (b : Int) = (x : Int) := by rw [hx]; simp
              have p1' : IntKind.u64.wrap (x : Int) = (x : Int) := wrapn (by omega)
              have p2 : IntKind.u64.wrap (4294967296 * (r : Int)) = (z : Int) := by have := B1.out; rw [IntKind.wrap_u64]; omega
              have p3 : IntKind.u64.wrap ((z : Int) + (d0 : Int)) = (t : Int) := by have := B1.out; have := BD.out; rw [IntKind.wrap_u64]; omega
              have TG : Hid ((t < x) ↔ (u2 * 4294967296 + d0 < q * (a * 4294967296 + b))) := by
                have := V.too_great (b := b) (d := d0) E1.out
                rw [← hx] at this
                rw [ht, hz, Nat.mul_comm 4294967296 r]; exact this
              by_cases c3 : t < x
              · have hlt := TG.out.1 c3
                obtain ⟨q', hq'⟩ : ∃ q', q' = q - 1 := ⟨_, rfl⟩
                obtain ⟨r', hr'⟩ : ∃ r', r' = r + a := ⟨_, rfl⟩
                have hq1 : 1 ≤ q := by
                  rcases Nat.eq_zero_or_pos q with h | h
                  · rw [h, Nat.zero_mul] at hlt; omega
                  · exact h
                have q1 : IntKind.u64.wrap ((q : Int) - 1) = (q' : Int) := by have := B1.out; rw [IntKind.wrap_u64]; omega
                have q2 : IntKind.u64.wrap ((r : Int) + (a : Int)) = (r' : Int) := by have := B1.out; have := BD.out; rw [IntKind.wrap_u64]; omega
                have HQ : Hid (q' = q - 1 ∧ 1 ≤ q) := ⟨hq', hq1⟩
                have E2 : Hid (q' * a + r' = u2) := V.step_eq E1.out hq1 hq' hr'
                have G2 : Hid ((u2 * 4294967296 + d0) / (a * 4294967296 + b) ≤ q') := by
                  have := V.digit_le hlt
                  rw [hq']; exact this
                by_cases c2 : 4294967296 ≤ r'
                · have C2 : decide ((4294967296 : Int) ≤ (r' : Int)) = true := decide_eq_true (by omega)
                  have QE : Hid (q' = (u2 * 4294967296 + d0) / (a * 4294967296 + b)) := by
                    have hbd := BD.out
                    have hh := HAB.out
                    have hu2 := HUY.out
                    exact V.digit_eq G2.out (V.wide_rest E2.out (by omega) (by omega) c2).2 (by omega)
                  clear hq' hr' c1 c2 hx hz ht hxb hlt hq1
                  have FF := V.final HY.out BD.out.2.2.2.2.2.2.2.2 HU2.out HD.out
                  rw [← HQY.out, ← HU3.out] at FF
                  have hq2 : q' = (u2 * 4294967296 + d0) / Y := by rw [HAB.out]; exact QE.out
                  rw [← hq2] at FF
                  have hR1 := HR1.out
                  have hR2 := HR2.out
                  obtain ⟨e2, he2⟩ : ∃ R, R = (u2 * 4294967296 + d0) % Y := ⟨_, rfl⟩
                  rw [← hR1, ← hR2, ← he2] at FF
                  have hR3 : R1 < 18446744073709551616 := by
                    rw [hR1]
                    have := S0.out
                    exact Nat.div_lt_of_lt_mul (V.lt_words this.2.1 this.2.2.1)
                  have f1 : IntKind.u64.wrap (IntKind.u64.wrap ((Q : Int) * 4294967296) + (q' : Int)) = (R1 : Int) := by
                    have := FF.1
                    rw [IntKind.wrap_u64, IntKind.wrap_u64]; omega
                  have f2 : IntKind.u64.wrap (IntKind.u64.wrap (IntKind.u64.wrap ((u2 : Int) * 4294967296) + (d0 : Int)) - IntKind.u64.wrap ((q' : Int) * (Y : Int))) = (e2 : Int) := by
                    rw [IntKind.wrap_u64, IntKind.wrap_u64, IntKind.wrap_u64, IntKind.wrap_u64, he2]
                    exact V.rem_wrap hq2 BD.out.2.2.2.2.2.2.2.2 BD.out.2.2.2.2.2.2.2.1
                  have f3 : (e2 : Int) / 2 ^ s = (R2 : Int) := by rw [castdiv, FF.2]
                  have f4 : min s 64 = s := by have := S0.out; omega
                  clear hR1 hR2 he2 hq2 FF hR3
                  go_wp2_with fail
                  go_ret2
                  exact ⟨rfl, rfl⟩
                · have C2 : decide ((4294967296 : Int) ≤ (r' : Int)) = false := decide_eq_false (by omega)
                  have B2 : Hid (q' < 18446744073709551616 ∧ r' < 4294967296) := by have := B1.out; exact ⟨by omega, by omega⟩
                  clear hq' hr' c1 c2 hx hz ht hxb hlt hq1
                  go_wp2_with fail
                  go_round
                  case rel => exact ⟨q', r', rfl, rfl, B2, E2, G2⟩
                  case measure => have := HQ.out; simp [intOf]; omega
              · have QE : Hid (q = (u2 * 4294967296 + d0) / (a * 4294967296 + b)) := V.digit_eq G1.out (fun h => c3 (TG.out.2 h)) (by have := BD.out; omega)
                clear c1 hx hz ht hxb
                have FF := V.final HY.out BD.out.2.2.2.2.2.2.2.2 HU2.out HD.out
                rw [← HQY.out, ← HU3.out] at FF
                have hq2 : q = (u2 * 4294967296 + d0) / Y := by rw [HAB.out]; exact QE.out
                rw [← hq2] at FF
                have hR1 := HR1.out
                have hR2 := HR2.out
                obtain ⟨e2, he2⟩ : ∃ R, R = (u2 * 4294967296 + d0) % Y := ⟨_, rfl⟩
                rw [← hR1, ← hR2, ← he2] at FF
                have hR3 : R1 < 18446744073709551616 := by
                  rw [hR1]
                  have := S0.out
                  exact Nat.div_lt_of_lt_mul (V.lt_words this.2.1 this.2.2.1)
                have f1 : IntKind.u64.wrap (IntKind.u64.wrap ((Q : Int) * 4294967296) + (q : Int)) = (R1 : Int) := by
                  have := FF.1
                  rw [IntKind.wrap_u64, IntKind.wrap_u64]; omega
                have f2 : IntKind.u64.wrap (IntKind.u64.wrap (IntKind.u64.wrap ((u2 : Int) * 4294967296) + (d0 : Int)) - IntKind.u64.wrap ((q : Int) * (Y : Int))) = (e2 : Int) := by
                  rw [IntKind.wrap_u64, IntKind.wrap_u64, IntKind.wrap_u64, IntKind.wrap_u64, he2]
                  exact V.rem_wrap hq2 BD.out.2.2.2.2.2.2.2.2 BD.out.2.2.2.2.2.2.2.1
                have f3 : (e2 : Int) / 2 ^ s = (R2 : Int) := by rw [castdiv, FF.2]
                have f4 : min s 64 = s := by have := S0.out; omega
                clear hR1 hR2 he2 hq2 FF hR3
                go_wp2_with fail
                go_ret2
                exact ⟨rfl, rfl⟩
        · have C2 : decide ((4294967296 : Int) ≤ (r' : Int)) = false := decide_eq_false (by omega)
          have B2 : Hid (q' < 18446744073709551616 ∧ r' < 4294967296) := by have := B1.out; exact ⟨by omega, by omega⟩
          clear hq' hr' c1 c2
          go_wp2_with fail
          go_round
          case rel => exact ⟨q', r', rfl, rfl, B2, E2, G2⟩
          case measure => have := HQ.out; simp [intOf]; omega
      · have D1 : decide ((4294967296 : Int) ≤ (q : Int)) = false := decide_eq_false (by omega)
        obtain ⟨x, hx⟩ : ∃ x, x = q * b := ⟨_, rfl⟩
        obtain ⟨z, hz⟩ : ∃ z, z = 4294967296 * r := ⟨_, rfl⟩
        obtain ⟨t, ht⟩ : ∃ t, t = z + d1 := ⟨_, rfl⟩
        have hxb : x ≤ 4294967295 * 4294967295 := by rw [hx]; have := BD.out; exact Nat.mul_le_mul (by omega) (by omega)
        have p1 : (q : Int) * (b : Int) = (x : Int) := by rw [hx]; simp
        have p1' : IntKind.u64.wrap (x : Int) = (x : Int) := wrapn (by omega)
        have p2 : IntKind.u64.wrap (4294967296 * (r : Int)) = (z : Int) := by have := B1.out; rw [IntKind.wrap_u64]; omega
        have p3 : IntKind.u64.wrap ((z : Int) + (d1 : Int)) = (t : Int) := by have := B1.out; have := BD.out; rw [IntKind.wrap_u64]; omega
        have TG : Hid ((t < x) ↔ (u * 4294967296 + d1 < q * (a * 4294967296 + b))) := by
          have := V.too_great (b := b) (d := d1) E1.out
          rw [← hx] at this
          rw [ht, hz, Nat.mul_comm 4294967296 r]; exact this
        by_cases c3 : t < x
        · have hlt := TG.out.1 c3
          obtain ⟨q', hq'⟩ : ∃ q', q' = q - 1 := ⟨_, rfl⟩
          obtain ⟨r', hr'⟩ : ∃ r', r' = r + a := ⟨_, rfl⟩
          have hq1 : 1 ≤ q := by
            rcases Nat.eq_zero_or_pos q with h | h
            · rw [h, Nat.zero_mul] at hlt; omega
            · exact h
          have q1 : IntKind.u64.wrap ((q : Int) - 1) = (q' : Int) := by have := B1.out; rw [IntKind.wrap_u64]; omega
          have q2 : IntKind.u64.wrap ((r : Int) + (a : Int)) = (r' : Int) := by have := B1.out; have := BD.out; rw [IntKind.wrap_u64]; omega
          have HQ : Hid (q' = q - 1 ∧ 1 ≤ q) := ⟨hq', hq1⟩
          have E2 : Hid (q' * a + r' = u) := V.step_eq E1.out hq1 hq' hr'
          have G2 : Hid ((u * 4294967296 + d1) / (a * 4294967296 + b) ≤ q') := by
            have := V.digit_le hlt
            rw [hq']; exact this
          by_cases c2 : 4294967296 ≤ r'
          · have C2 : decide ((4294967296 : Int) ≤ (r' : Int)) = true := decide_eq_true (by omega)
            have QE : Hid (q' = (u * 4294967296 + d1) / (a * 4294967296 + b)) := by
              have hbd := BD.out
              have hh := HAB.out
              have hu2 := HUY.out
              exact V.digit_eq G2.out (V.wide_rest E2.out (by omega) (by omega) c2).2 (by omega)
            clear hq' hr' c1 c2 hx hz ht hxb hlt hq1
            generalize q' = Q at *
            obtain ⟨u2, hu2⟩ : ∃ u2, u2 = (u * 4294967296 + d1) % Y := ⟨_, rfl⟩
            have hQY : Q = (u * 4294967296 + d1) / Y := by rw [HAB.out]; exact QE.out
            have k1 : u2 < Y := by rw [hu2]; exact Nat.mod_lt _ BD.out.2.2.2.2.2.2.2.2
            have k2 : Y < 18446744073709551616 := BD.out.2.2.2.2.2.2.2.1
            have s1 : IntKind.u64.wrap (IntKind.u64.wrap (IntKind.u64.wrap ((u : Int) * 4294967296) + (d1 : Int)) - IntKind.u64.wrap ((Q : Int) * (Y : Int))) = (u2 : Int) := by
              rw [IntKind.wrap_u64, IntKind.wrap_u64, IntKind.wrap_u64, IntKind.wrap_u64, hu2]
              exact V.rem_wrap hQY (by omega) k2
            obtain ⟨p0, hp0⟩ : ∃ q, q = u2 / a := ⟨_, rfl⟩
            obtain ⟨n0, hn0⟩ : ∃ r, r = u2 % a := ⟨_, rfl⟩
            have e0 : p0 * a + n0 = u2 := by rw [hp0, hn0, Nat.mul_comm]; exact Nat.div_add_mod u2 a
            have em : n0 < a := by rw [hn0]; exact Nat.mod_lt _ (by have := BD.out; omega)
            have kp : p0 < 18446744073709551616 := by rw [hp0]; exact Nat.lt_of_le_of_lt (Nat.div_le_self _ _) (by omega)
            have s2 : IntKind.u64.wrap ((u2 : Int) / (a : Int)) = (p0 : Int) := by
              have : (u2 : Int) / (a : Int) = ((u2 / a : Nat) : Int) := by simp
              rw [this, ← hp0, wrapn kp]
            obtain ⟨K2, hK2⟩ : ∃ k, k = u2 - n0 := ⟨_, rfl⟩
            have s3 : (p0 : Int) * (a : Int) = (K2 : Int) := by
              have : p0 * a = K2 := by omega
              rw [← this]; simp
            have s4 : IntKind.u64.wrap (K2 : Int) = (K2 : Int) := wrapn (by omega)
            have s5 : IntKind.u64.wrap ((u2 : Int) - (K2 : Int)) = (n0 : Int) := by
              have : (u2 : Int) - (K2 : Int) = (n0 : Int) := by omega
              rw [this]; exact wrapn (by omega)
            have G0 := hid (V.guess_ge (a := a) (b := b) (u := u2) (d := d0) (by omega) BD.out.2.2.2.2.1)
            rw [← hp0] at G0
            have E0 := hid e0
            have B0 : Hid (p0 < 18446744073709551616 ∧ n0 < 4294967296) := ⟨kp, by have := BD.out; omega⟩
            have HUY : Hid (u2 < Y) := k1
            have HU3 := hid hu2
            have HQY := hid hQY
            clear hu2 hQY k1 k2 hp0 hn0 e0 em kp hK2
            go_wp2_with fail
            clear s1 s2 s3 s4 s5
            go_loop [18, 16] (fun t1 t2 => ∃ q r : Nat, t1 = .int .u64 q ∧ t2 = .int .u64 r ∧ Hid (q < 18446744073709551616 ∧ r < 4294967296) ∧ Hid (q * a + r = u2) ∧ Hid ((u2 * 4294967296 + d0) / (a * 4294967296 + b) ≤ q)) (fun t1 _ => (intOf t1).toNat)
            case atStart => exact ⟨p0, n0, rfl, rfl, B0, E0, G0⟩
            case round =>
              obtain ⟨q, r, rfl, rfl, B1, E1, G1⟩ := hrel
              clear E0 G0 B0
              by_cases c1 : 4294967296 ≤ q
              · obtain ⟨q', hq'⟩ : ∃ q', q' = q - 1 := ⟨_, rfl⟩
                obtain ⟨r', hr'⟩ : ∃ r', r' = r + a := ⟨_, rfl⟩
                have q1 : IntKind.u64.wrap ((q : Int) - 1) = (q' : Int) := by have := B1.out; rw [IntKind.wrap_u64]; omega
                have q2 : IntKind.u64.wrap ((r : Int) + (a : Int)) = (r' : Int) := by have := B1.out; have := BD.out; rw [IntKind.wrap_u64]; omega
                have C1 : (4294967296 : Int) ≤ (q : Int) := by omega
                have HQ := hid hq'
                have E2 : Hid (q' * a + r' = u2) := V.step_eq E1.out (by omega) hq' hr'
                have G2 : Hid ((u2 * 4294967296 + d0) / (a * 4294967296 + b) ≤ q') := by
                  have hbd := BD.out
                  have hh := HAB.out
                  have hu2 := HUY.out
                  have hlt := V.wide_great (V := a * 4294967296 + b) (u := u2) (d := d0) (q := q) (by omega) (by omega) c1
                  have := V.digit_le hlt
                  rw [hq']; exact this
                by_cases c2 : 4294967296 ≤ r'
                · have C2 : decide ((4294967296 : Int) ≤ (r' : Int)) = true := decide_eq_true (by omega)
                  have QE : Hid (q' = (u2 * 4294967296 + d0) / (a * 4294967296 + b)) := by
                    have hbd := BD.out
                    have hh := HAB.out
                    have hu2 := HUY.out
                    exact V.digit_eq G2.out (V.wide_rest E2.out (by omega) (by omega) c2).2 (by omega)
                  clear hq' hr' c1 c2
                  have FF := V.final HY.out BD.out.2.2.2.2.2.2.2.2 HU2.out HD.out
                  rw [← HQY.out, ← HU3.out] at FF
                  have hq2 : q' = (u2 * 4294967296 + d0) / Y := by rw [HAB.out]; exact QE.out
                  rw [← hq2] at FF
                  have hR1 := HR1.out
                  have hR2 := HR2.out
                  obtain ⟨e2, he2⟩ : ∃ R, R = (u2 * 4294967296 + d0) % Y := ⟨_, rfl⟩
                  rw [← hR1, ← hR2, ← he2] at FF
                  have hR3 : R1 < 18446744073709551616 := by
                    rw [hR1]
                    have := S0.out
                    exact Nat.div_lt_of_lt_mul (V.lt_words this.2.1 this.2.2.1)
                  have f1 : IntKind.u64.wrap (IntKind.u64.wrap ((Q : Int) * 4294967296) + (q' : Int)) = (R1 : Int) := by
                    have := FF.1
                    rw [IntKind.wrap_u64, IntKind.wrap_u64]; omega
                  have f2 : IntKind.u64.wrap (IntKind.u64.wrap (IntKind.u64.wrap ((u2 : Int) * 4294967296) + (d0 : Int)) - IntKind.u64.wrap ((q' : Int) * (Y : Int))) = (e2 : Int) := by
                    rw [IntKind.wrap_u64, IntKind.wrap_u64, IntKind.wrap_u64, IntKind.wrap_u64, he2]
                    exact V.rem_wrap hq2 BD.out.2.2.2.2.2.2.2.2 BD.out.2.2.2.2.2.2.2.1
                  have f3 : (e2 : Int) / 2 ^ s = (R2 : Int) := by rw [castdiv, FF.2]
                  have f4 : min s 64 = s := by have := S0.out; omega
                  clear hR1 hR2 he2 hq2 FF hR3
                  go_wp2_with fail
                  go_ret2
                  exact ⟨rfl, rfl⟩
                · have C2 : decide ((4294967296 : Int) ≤ (r' : Int)) = false := decide_eq_false (by omega)
                  have B2 : Hid (q' < 18446744073709551616 ∧ r' < 4294967296) := by have := B1.out; exact ⟨by omega, by omega⟩
                  clear hq' hr' c1 c2
                  go_wp2_with fail
                  go_round
                  case rel => exact ⟨q', r', rfl, rfl, B2, E2, G2⟩
                  case measure => have := HQ.out; simp [intOf]; omega
              · have D1 : decide ((4294967296 : Int) ≤ (q : Int)) = false := decide_eq_false (by omega)
                obtain ⟨x, hx⟩ : ∃ x, x = q * b := ⟨_, rfl⟩
                obtain ⟨z, hz⟩ : ∃ z, z = 4294967296 * r := ⟨_, rfl⟩
                obtain ⟨t, ht⟩ : ∃ t, t = z + d0 := ⟨_, rfl⟩
                have hxb : x ≤ 4294967295 * 4294967295 := by rw [hx]; have := BD.out; exact Nat.mul_le_mul (by omega) (by omega)
                have p1 : (q : Int) * (b : Int) = (x : Int) := by rw [hx]; simp
                have p1' : IntKind.u64.wrap (x : Int) = (x : Int) := wrapn (by omega)
                have p2 : IntKind.u64.wrap (4294967296 * (r : Int)) = (z : Int) := by have := B1.out; rw [IntKind.wrap_u64]; omega
                have p3 : IntKind.u64.wrap ((z : Int) + (d0 : Int)) = (t : Int) := by have := B1.out; have := BD.out; rw [IntKind.wrap_u64]; omega
                have TG : Hid ((t < x) ↔ (u2 * 4294967296 + d0 < q * (a * 4294967296 + b))) := by
                  have := V.too_great (b := b) (d := d0) E1.out
                  rw [← hx] at this
                  rw [ht, hz, Nat.mul_comm 4294967296 r]; exact this
                by_cases c3 : t < x
                · have hlt := TG.out.1 c3
                  obtain ⟨q', hq'⟩ : ∃ q', q' = q - 1 := ⟨_, rfl⟩
                  obtain ⟨r', hr'⟩ : ∃ r', r' = r + a := ⟨_, rfl⟩
                  have hq1 : 1 ≤ q := by
                    rcases Nat.eq_zero_or_pos q with h | h
                    · rw [h, Nat.zero_mul] at hlt; omega
                    · exact h
                  have q1 : IntKind.u64.wrap ((q : Int) - 1) = (q' : Int) := by have := B1.out; rw [IntKind.wrap_u64]; omega
                  have q2 : IntKind.u64.wrap ((r : Int) + (a : Int)) = (r' : Int) := by have := B1.out; have := BD.out; rw [IntKind.wrap_u64]; omega
                  have HQ : Hid (q' = q - 1 ∧ 1 ≤ q) := ⟨hq', hq1⟩
                  have E2 : Hid (q' * a + r' = u2) := V.step_eq E1.out hq1 hq' hr'
                  have G2 : Hid ((u2 * 4294967296 + d0) / (a * 4294967296 + b) ≤ q') := by
                    have := V.digit_le hlt
                    rw [hq']; exact this
                  by_cases c2 : 4294967296 ≤ r'
                  · have C2 : decide ((4294967296 : Int) ≤ (r' : Int)) = true := decide_eq_true (by omega)
                    have QE : Hid (q' = (u2 * 4294967296 + d0) / (a * 4294967296 + b)) := by
                      have hbd := BD.out
                      have hh := HAB.out
                      have hu2 := HUY.out
                      exact V.digit_eq G2.out (V.wide_rest E2.out (by omega) (by omega) c2).2 (by omega)
                    clear hq' hr' c1 c2 hx hz ht hxb hlt hq1
                    have FF := V.final HY.out BD.out.2.2.2.2.2.2.2.2 HU2.out HD.out
                    rw [← HQY.out, ← HU3.out] at FF
                    have hq2 : q' = (u2 * 4294967296 + d0) / Y := by rw [HAB.out]; exact QE.out
                    rw [← hq2] at FF
                    have hR1 := HR1.out
                    have hR2 := HR2.out
                    obtain ⟨e2, he2⟩ : ∃ R, R = (u2 * 4294967296 + d0) % Y := ⟨_, rfl⟩
                    rw [← hR1, ← hR2, ← he2] at FF
                    have hR3 : R1 < 18446744073709551616 := by
                      rw [hR1]
                      have := S0.out
                      exact Nat.div_lt_of_lt_mul (V.lt_words this.2.1 this.2.2.1)
                    have f1 : IntKind.u64.wrap (IntKind.u64.wrap ((Q : Int) * 4294967296) + (q' : Int)) = (R1 : Int) := by
                      have := FF.1
                      rw [IntKind.wrap_u64, IntKind.wrap_u64]; omega
                    have f2 : IntKind.u64.wrap (IntKind.u64.wrap (IntKind.u64.wrap ((u2 : Int) * 4294967296) + (d0 : Int)) - IntKind.u64.wrap ((q' : Int) * (Y : Int))) = (e2 : Int) := by
                      rw [IntKind.wrap_u64, IntKind.wrap_u64, IntKind.wrap_u64, IntKind.wrap_u64, he2]
                      exact V.rem_wrap hq2 BD.out.2.2.2.2.2.2.2.2 BD.out.2.2.2.2.2.2.2.1
                    have f3 : (e2 : Int) / 2 ^ s = (R2 : Int) := by rw [castdiv, FF.2]
                    have f4 : min s 64 = s := by have := S0.out; omega
                    clear hR1 hR2 he2 hq2 FF hR3
                    go_wp2_with fail
                    go_ret2
                    exact ⟨rfl, rfl⟩
                  · have C2 : decide ((4294967296 : Int) ≤ (r' : Int)) = false := decide_eq_false (by omega)
                    have B2 : Hid (q' < 18446744073709551616 ∧ r' < 4294967296) := by have := B1.out; exact ⟨by omega, by omega⟩
                    clear hq' hr' c1 c2 hx hz ht hxb hlt hq1
                    go_wp2_with fail
                    go_round
                    case rel => exact ⟨q', r', rfl, rfl, B2, E2, G2⟩
                    case measure => have := HQ.out; simp [intOf]; omega
                · have QE : Hid (q = (u2 * 4294967296 + d0) / (a * 4294967296 + b)) := V.digit_eq G1.out (fun h => c3 (TG.out.2 h)) (by have := BD.out; omega)
                  clear c1 hx hz ht hxb
                  have FF := V.final HY.out BD.out.2.2.2.2.2.2.2.2 HU2.out HD.out
                  rw [← HQY.out, ← HU3.out] at FF
                  have hq2 : q = (u2 * 4294967296 + d0) / Y := by rw [HAB.out]; exact QE.out
                  rw [← hq2] at FF
                  have hR1 := HR1.out
                  have hR2 := HR2.out
                  obtain ⟨e2, he2⟩ : ∃ R, R = (u2 * 4294967296 + d0) % Y := ⟨_, rfl⟩
                  rw [← hR1, ← hR2, ← he2] at FF
                  have hR3 : R1 < 18446744073709551616 := by
                    rw [hR1]
                    have := S0.out
                    exact Nat.div_lt_of_lt_mul (V.lt_words this.2.1 this.2.2.1)
                  have f1 : IntKind.u64.wrap (IntKind.u64.wrap ((Q : Int) * 4294967296) + (q : Int)) = (R1 : Int) := by
                    have := FF.1
                    rw [IntKind.wrap_u64, IntKind.wrap_u64]; omega
                  have f2 : IntKind.u64.wrap (IntKind.u64.wrap (IntKind.u64.wrap ((u2 : Int) * 4294967296) + (d0 : Int)) - IntKind.u64.wrap ((q : Int) * (Y : Int))) = (e2 : Int) := by
                    rw [IntKind.wrap_u64, IntKind.wrap_u64, IntKind.wrap_u64, IntKind.wrap_u64, he2]
                    exact V.rem_wrap hq2 BD.out.2.2.2.2.2.2.2.2 BD.out.2.2.2.2.2.2.2.1
                  have f3 : (e2 : Int) / 2 ^ s = (R2 : Int) := by rw [castdiv, FF.2]
                  have f4 : min s 64 = s := by have := S0.out; omega
                  clear hR1 hR2 he2 hq2 FF hR3
                  go_wp2_with fail
                  go_ret2
                  exact ⟨rfl, rfl⟩
          · have C2 : decide ((4294967296 : Int) ≤ (r' : Int)) = false := decide_eq_false (by omega)
            have B2 : Hid (q' < 18446744073709551616 ∧ r' < 4294967296) := by have := B1.out; exact ⟨by omega, by omega⟩
            clear hq' hr' c1 c2 hx hz ht hxb hlt hq1
            go_wp2_with fail
            go_round
            case rel => exact ⟨q', r', rfl, rfl, B2, E2, G2⟩
            case measure => have := HQ.out; simp [intOf]; omega
        · have QE : Hid (q = (u * 4294967296 + d1) / (a * 4294967296 + b)) := V.digit_eq G1.out (fun h => c3 (TG.out.2 h)) (by have := BD.out; omega)
          clear c1 hx hz ht hxb
          generalize q = Q at *
          obtain ⟨u2, hu2⟩ : ∃ u2, u2 = (u * 4294967296 + d1) % Y := ⟨_, rfl⟩
          have hQY : Q = (u * 4294967296 + d1) / Y := by rw [HAB.out]; exact QE.out
          have k1 : u2 < Y := by rw [hu2]; exact Nat.mod_lt _ BD.out.2.2.2.2.2.2.2.2
          have k2 : Y < 18446744073709551616 := BD.out.2.2.2.2.2.2.2.1
          have s1 : IntKind.u64.wrap (IntKind.u64.wrap (IntKind.u64.wrap ((u : Int) * 4294967296) + (d1 : Int)) - IntKind.u64.wrap ((Q : Int) * (Y : Int))) = (u2 : Int) := by
            rw [IntKind.wrap_u64, IntKind.wrap_u64, IntKind.wrap_u64, IntKind.wrap_u64, hu2]
            exact V.rem_wrap hQY (by omega) k2
          obtain ⟨p0, hp0⟩ : ∃ q, q = u2 / a := ⟨_, rfl⟩
          obtain ⟨n0, hn0⟩ : ∃ r, r = u2 % a := ⟨_, rfl⟩
          have e0 : p0 * a + n0 = u2 := by rw [hp0, hn0, Nat.mul_comm]; exact Nat.div_add_mod u2 a
          have em : n0 < a := by rw [hn0]; exact Nat.mod_lt _ (by have := BD.out; omega)
          have kp : p0 < 18446744073709551616 := by rw [hp0]; exact Nat.lt_of_le_of_lt (Nat.div_le_self _ _) (by omega)
          have s2 : IntKind.u64.wrap ((u2 : Int) / (a : Int)) = (p0 : Int) := by
            have : (u2 : Int) / (a : Int) = ((u2 / a : Nat) : Int) := by simp
            rw [this, ← hp0, wrapn kp]
          obtain ⟨K2, hK2⟩ : ∃ k, k = u2 - n0 := ⟨_, rfl⟩
          have s3 : (p0 : Int) * (a : Int) = (K2 : Int) := by
            have : p0 * a = K2 := by omega
            rw [← this]; simp
          have s4 : IntKind.u64.wrap (K2 : Int) = (K2 : Int) := wrapn (by omega)
          have s5 : IntKind.u64.wrap ((u2 : Int) - (K2 : Int)) = (n0 : Int) := by
            have : (u2 : Int) - (K2 : Int) = (n0 : Int) := by omega
            rw [this]; exact wrapn (by omega)
          have G0 := hid (V.guess_ge (a := a) (b := b) (u := u2) (d := d0) (by omega) BD.out.2.2.2.2.1)
          rw [← hp0] at G0
          have E0 := hid e0
          have B0 : Hid (p0 < 18446744073709551616 ∧ n0 < 4294967296) := ⟨kp, by have := BD.out; omega⟩
          have HUY : Hid (u2 < Y) := k1
          have HU3 := hid hu2
          have HQY := hid hQY
          clear hu2 hQY k1 k2 hp0 hn0 e0 em kp hK2
          go_wp2_with fail
          clear s1 s2 s3 s4 s5
          go_loop [18, 16] (fun t1 t2 => ∃ q r : Nat, t1 = .int .u64 q ∧ t2 = .int .u64 r ∧ Hid (q < 18446744073709551616 ∧ r < 4294967296) ∧ Hid (q * a + r = u2) ∧ Hid ((u2 * 4294967296 + d0) / (a * 4294967296 + b) ≤ q)) (fun t1 _ => (intOf t1).toNat)
          case atStart => exact ⟨p0, n0, rfl, rfl, B0, E0, G0⟩
          case round =>
            obtain ⟨q, r, rfl, rfl, B1, E1, G1⟩ := hrel
            clear E0 G0 B0
            by_cases c1 : 4294967296 ≤ q
            · obtain ⟨q', hq'⟩ : ∃ q', q' = q - 1 := ⟨_, rfl⟩
              obtain ⟨r', hr'⟩ : ∃ r', r' = r + a := ⟨_, rfl⟩
              have q1 : IntKind.u64.wrap ((q : Int) - 1) = (q' : Int) := by have := B1.out; rw [IntKind.wrap_u64]; omega
              have q2 : IntKind.u64.wrap ((r : Int) + (a : Int)) = (r' : Int) := by have := B1.out; have := BD.out; rw [IntKind.wrap_u64]; omega
              have C1 : (4294967296 : Int) ≤ (q : Int) := by omega
              have HQ := hid hq'
              have E2 : Hid (q' * a + r' = u2) := V.step_eq E1.out (by omega) hq' hr'
              have G2 : Hid ((u2 * 4294967296 + d0) / (a * 4294967296 + b) ≤ q') := by
                have hbd := BD.out
                have hh := HAB.out
                have hu2 := HUY.out
                have hlt := V.wide_great (V := a * 4294967296 + b) (u := u2) (d := d0) (q := q) (by omega) (by omega) c1
                have := V.digit_le hlt
                rw [hq']; exact this
              by_cases c2 : 4294967296 ≤ r'
              · have C2 : decide ((4294967296 : Int) ≤ (r' : Int)) = true := decide_eq_true (by omega)
                have QE : Hid (q' = (u2 * 4294967296 + d0) / (a * 4294967296 + b)) := by
                  have hbd := BD.out
                  have hh := HAB.out
                  have hu2 := HUY.out
                  exact V.digit_eq G2.out (V.wide_rest E2.out (by omega) (by omega) c2).2 (by omega)
                clear hq' hr' c1 c2
                have FF := V.final HY.out BD.out.2.2.2.2.2.2.2.2 HU2.out HD.out
                rw [← HQY.out, ← HU3.out] at FF
                have hq2 : q' = (u2 * 4294967296 + d0) / Y := by rw [HAB.out]; exact QE.out
                rw [← hq2] at FF
                have hR1 := HR1.out
                have hR2 := HR2.out
                obtain ⟨e2, he2⟩ : ∃ R, R = (u2 * 4294967296 + d0) % Y := ⟨_, rfl⟩
                rw [← hR1, ← hR2, ← he2] at FF
                have hR3 : R1 < 18446744073709551616 := by
                  rw [hR1]
                  have := S0.out
                  exact Nat.div_lt_of_lt_mul (V.lt_words this.2.1 this.2.2.1)
                have f1 : IntKind.u64.wrap (IntKind.u64.wrap ((Q : Int) * 4294967296) + (q' : Int)) = (R1 : Int) := by
                  have := FF.1
                  rw [IntKind.wrap_u64, IntKind.wrap_u64]; omega
                have f2 : IntKind.u64.wrap (IntKind.u64.wrap (IntKind.u64.wrap ((u2 : Int) * 4294967296) + (d0 : Int)) - IntKind.u64.wrap ((q' : Int) * (Y : Int))) = (e2 : Int) := by
                  rw [IntKind.wrap_u64, IntKind.wrap_u64, IntKind.wrap_u64, IntKind.wrap_u64, he2]
                  exact V.rem_wrap hq2 BD.out.2.2.2.2.2.2.2.2 BD.out.2.2.2.2.2.2.2.1
                have f3 : (e2 : Int) / 2 ^ s = (R2 : Int) := by rw [castdiv, FF.2]
                have f4 : min s 64 = s := by have := S0.out; omega
                clear hR1 hR2 he2 hq2 FF hR3
                go_wp2_with fail
                go_ret2
                exact ⟨rfl, rfl⟩
              · have C2 : decide ((4294967296 : Int) ≤ (r' : Int)) = false := decide_eq_false (by omega)
                have B2 : Hid (q' < 18446744073709551616 ∧ r' < 4294967296) := by have := B1.out; exact ⟨by omega, by omega⟩
                clear hq' hr' c1 c2
                go_wp2_with fail
                go_round
                case rel => exact ⟨q', r', rfl, rfl, B2, E2, G2⟩
                case measure => have := HQ.out; simp [intOf]; omega
            · have D1 : decide ((4294967296 : Int) ≤ (q : Int)) = false := decide_eq_false (by omega)
              obtain ⟨x, hx⟩ : ∃ x, x = q * b := ⟨_, rfl⟩
              obtain ⟨z, hz⟩ : ∃ z, z = 4294967296 * r := ⟨_, rfl⟩
              obtain ⟨t, ht⟩ : ∃ t, t = z + d0 := ⟨_, rfl⟩
              have hxb : x ≤ 4294967295 * 4294967295 := by rw [hx]; have := BD.out; exact Nat.mul_le_mul (by omega) (by omega)
              have p1 : (q : Int) * (b : Int) = (x : Int) := by rw [hx]; simp
              have p1' : IntKind.u64.wrap (x : Int) = (x : Int) := wrapn (by omega)
              have p2 : IntKind.u64.wrap (4294967296 * (r : Int)) = (z : Int) := by have := B1.out; rw [IntKind.wrap_u64]; omega
              have p3 : IntKind.u64.wrap ((z : Int) + (d0 : Int)) = (t : Int) := by have := B1.out; have := BD.out; rw [IntKind.wrap_u64]; omega
              have TG : Hid ((t < x) ↔ (u2 * 4294967296 + d0 < q * (a * 4294967296 + b))) := by
                have := V.too_great (b := b) (d := d0) E1.out
                rw [← hx] at this
                rw [ht, hz, Nat.mul_comm 4294967296 r]; exact this
              by_cases c3 : t < x
              · have hlt := TG.out.1 c3
                obtain ⟨q', hq'⟩ : ∃ q', q' = q - 1 := ⟨_, rfl⟩
                obtain ⟨r', hr'⟩ : ∃ r', r' = r + a := ⟨_, rfl⟩
                have hq1 : 1 ≤ q := by
                  rcases Nat.eq_zero_or_pos q with h | h
                  · rw [h, Nat.zero_mul] at hlt; omega
                  · exact h
                have q1 : IntKind.u64.wrap ((q : Int) - 1) = (q' : Int) := by have := B1.out; rw [IntKind.wrap_u64]; omega
                have q2 : IntKind.u64.wrap ((r : Int) + (a : Int)) = (r' : Int) := by have := B1.out; have := BD.out; rw [IntKind.wrap_u64]; omega
                have HQ : Hid (q' = q - 1 ∧ 1 ≤ q) := ⟨hq', hq1⟩
                have E2 : Hid (q' * a + r' = u2) := V.step_eq E1.out hq1 hq' hr'
                have G2 : Hid ((u2 * 4294967296 + d0) / (a * 4294967296 + b) ≤ q') := by
                  have := V.digit_le hlt
                  rw [hq']; exact this
                by_cases c2 : 4294967296 ≤ r'
                · have C2 : decide ((4294967296 : Int) ≤ (r' : Int)) = true := decide_eq_true (by omega)
                  have QE : Hid (q' = (u2 * 4294967296 + d0) / (a * 4294967296 + b)) := by
                    have hbd := BD.out
                    have hh := HAB.out
                    have hu2 := HUY.out
                    exact V.digit_eq G2.out (V.wide_rest E2.out (by omega) (by omega) c2).2 (by omega)
                  clear hq' hr' c1 c2 hx hz ht hxb hlt hq1
                  have FF := V.final HY.out BD.out.2.2.2.2.2.2.2.2 HU2.out HD.out
                  rw [← HQY.out, ← HU3.out] at FF
                  have hq2 : q' = (u2 * 4294967296 + d0) / Y := by rw [HAB.out]; exact QE.out
                  rw [← hq2] at FF
                  have hR1 := HR1.out
                  have hR2 := HR2.out
                  obtain ⟨e2, he2⟩ : ∃ R, R = (u2 * 4294967296 + d0) % Y := ⟨_, rfl⟩
                  rw [← hR1, ← hR2, ← he2] at FF
                  have hR3 : R1 < 18446744073709551616 := by
                    rw [hR1]
                    have := S0.out
                    exact Nat.div_lt_of_lt_mul (V.lt_words this.2.1 this.2.2.1)
                  have f1 : IntKind.u64.wrap (IntKind.u64.wrap ((Q : Int) * 4294967296) + (q' : Int)) = (R1 : Int) := by
                    have := FF.1
                    rw [IntKind.wrap_u64, IntKind.wrap_u64]; omega
                  have f2 : IntKind.u64.wrap (IntKind.u64.wrap (IntKind.u64.wrap ((u2 : Int) * 4294967296) + (d0 : Int)) - IntKind.u64.wrap ((q' : Int) * (Y : Int))) = (e2 : Int) := by
                    rw [IntKind.wrap_u64, IntKind.wrap_u64, IntKind.wrap_u64, IntKind.wrap_u64, he2]
                    exact V.rem_wrap hq2 BD.out.2.2.2.2.2.2.2.2 BD.out.2.2.2.2.2.2.2.1
                  have f3 : (e2 : Int) / 2 ^ s = (R2 : Int) := by rw [castdiv, FF.2]
                  have f4 : min s 64 = s := by have := S0.out; omega
                  clear hR1 hR2 he2 hq2 FF hR3
                  go_wp2_with fail
                  go_ret2
                  exact ⟨rfl, rfl⟩
                · have C2 : decide ((4294967296 : Int) ≤ (r' : Int)) = false := decide_eq_false (by omega)
                  have B2 : Hid (q' < 18446744073709551616 ∧ r' < 4294967296) := by have := B1.out; exact ⟨by omega, by omega⟩
                  clear hq' hr' c1 c2 hx hz ht hxb hlt hq1
                  go_wp2_with fail
                  go_round
                  case rel => exact ⟨q', r', rfl, rfl, B2, E2, G2⟩
                  case measure => have := HQ.out; simp [intOf]; omega
              · have QE : Hid (q = (u2 * 4294967296 + d0) / (a * 4294967296 + b)) := V.digit_eq G1.out (fun h => c3 (TG.out.2 h)) (by have := BD.out; omega)
                clear c1 hx hz ht hxb
                have FF := V.final HY.out BD.out.2.2.2.2.2.2.2.2 HU2.out HD.out
                rw [← HQY.out, ← HU3.out] at FF
                have hq2 : q = (u2 * 4294967296 + d0) / Y := by rw [HAB.out]; exact QE.out
                rw [← hq2] at FF
                have hR1 := HR1.out
                have hR2 := HR2.out
                obtain ⟨e2, he2⟩ : ∃ R, R = (u2 * 4294967296 + d0) % Y := ⟨_, rfl⟩
                rw [← hR1, ← hR2, ← he2] at FF
                have hR3 : R1 < 18446744073709551616 := by
                  rw [hR1]
                  have := S0.out
                  exact Nat.div_lt_of_lt_mul (V.lt_words this.2.1 this.2.2.1)
                have f1 : IntKind.u64.wrap (IntKind.u64.wrap ((Q : Int) * 4294967296) + (q : Int)) = (R1 : Int) := by
                  have := FF.1
                  rw [IntKind.wrap_u64, IntKind.wrap_u64]; omega
                have f2 : IntKind.u64.wrap (IntKind.u64.wrap (IntKind.u64.wrap ((u2 : Int) * 4294967296) + (d0 : Int)) - IntKind.u64.wrap ((q : Int) * (Y : Int))) = (e2 : Int) := by
                  rw [IntKind.wrap_u64, IntKind.wrap_u64, IntKind.wrap_u64, IntKind.wrap_u64, he2]
                  exact V.rem_wrap hq2 BD.out.2.2.2.2.2.2.2.2 BD.out.2.2.2.2.2.2.2.1
                have f3 : (e2 : Int) / 2 ^ s = (R2 : Int) := by rw [castdiv, FF.2]
                have f4 : min s 64 = s := by have := S0.out; omega
                clear hR1 hR2 he2 hq2 FF hR3
                go_wp2_with fail
                go_ret2
                exact ⟨rfl, rfl⟩
end Go.Proofs.Ytdeekpcfmgfmcaa

/- math/bits.Div64, whole. -/
namespace Go.Proofs.Ytdeekpcfmgfmcaa
open Go.RowKit
set_option maxRecDepth 100000
set_option maxHeartbeats 2000000
theorem div64_any (hi lo y R1 R2 : Nat) (g1 : R1 = (hi * 18446744073709551616 + lo) / y) (g2 : R2 = (hi * 18446744073709551616 + lo) % y) (h1 : hi < y) (h2 : lo < 18446744073709551616) (h3 : y < 18446744073709551616) (w : World) : Calls Try.prog 123 #[.int .u64 hi, .int .u64 lo, .int .u64 y] w fun e w' => e = .returned (.tuple #[.int .u64 R1, .int .u64 R2]) ∧ Below w.heap.size w w' := by
  by_cases h0 : hi = 0
  · subst h0
    rw [Nat.zero_mul, Nat.zero_add] at g1 g2
    have r1 : IntKind.u64.wrap ((lo : Int) / (y : Int)) = (R1 : Int) := by
      have : (lo : Int) / (y : Int) = ((lo / y : Nat) : Int) := by simp
      rw [this, ← g1, wrapn (by rw [g1]; exact Nat.lt_of_le_of_lt (Nat.div_le_self _ _) h2)]
    have r2 : (lo : Int) % (y : Int) = (R2 : Int) := by rw [g2]; simp
    have r3 : IntKind.u64.wrap ((lo : Int).tdiv (y : Int)) = (R1 : Int) := by rw [Int.tdiv_eq_ediv_of_nonneg (by omega)]; exact r1
    have r4 : (lo : Int).tmod (y : Int) = (R2 : Int) := by rw [Int.tmod_eq_emod_of_nonneg (by omega)]; exact r2
    have hby : ((y : Int) == 0) = false := beq_eq_false_iff_ne.2 (by omega)
    have hle : ¬ ((y : Int) ≤ 0) := by omega
    clear g1 g2 h3
    go_enter Try.func123, Try.ntmps123
    go_wp2_with fail
    go_quiet (fail)
    go_wp2_with fail
    go_ret2
    exact ⟨rfl, below_drewN (Below.refl _ _) _⟩
  · refine (div64_yes hi lo y R1 R2 g1 g2 h0 h1 h2 h3 w).mono ?_
    rintro e w' ⟨rfl, rfl⟩
    exact ⟨rfl, Below.refl _ _⟩
end Go.Proofs.Ytdeekpcfmgfmcaa

/- The walks of the package 'money': amounts and parts. -/
namespace Go.Proofs.Ytdeekpcfmgfmcaa
open Go.RowKit
set_option maxRecDepth 100000

end Go.Proofs.Ytdeekpcfmgfmcaa

/- The walk of split: a product is divided. -/
namespace Go.Proofs.Ytdeekpcfmgfmcaa
open Go.RowKit
set_option maxRecDepth 100000
theorem msplit_no (a b c : Nat) (ha : a < 18446744073709551616) (hb : b < 18446744073709551616) (h : c ≤ a * b / 18446744073709551616) (w : World) :
    Calls Try.prog 111 #[.int .u64 a, .int .u64 b, .int .u64 c] w fun e w' => e = .returned (.tuple #[.int .u64 0, .int .u64 0, .bool false]) ∧ w = w' := by
  have m := Try.bits_Mul64 a b ha hb
  obtain ⟨hi, hh⟩ : ∃ x, x = a * b / 18446744073709551616 := ⟨_, rfl⟩
  obtain ⟨lo, hl⟩ : ∃ x, x = a * b % 18446744073709551616 := ⟨_, rfl⟩
  rw [← hh, ← hl] at m
  rw [← hh] at h
  have M0 := hid m
  clear m hh hl ha hb
  go_enter Try.func111, Try.ntmps111
  go_wp2_with fail
  refine (M0.out _).mono ?_
  rintro e w' ⟨rfl, rfl⟩
  go_wp2_with fail
  go_ret3
  exact ⟨rfl, rfl⟩
theorem msplit_yes (a b c R1 R2 : Nat) (ha : a < 18446744073709551616) (hb : b < 18446744073709551616) (hc : c < 18446744073709551616) (h : a * b / 18446744073709551616 < c) (g1 : R1 = a * b / c) (g2 : R2 = a * b % c) (w : World) :
    Calls Try.prog 111 #[.int .u64 a, .int .u64 b, .int .u64 c] w fun e w' => e = .returned (.tuple #[.int .u64 R1, .int .u64 R2, .bool (decide ((R1 : Int) ≤ 1152921504606846976))]) ∧ Below w.heap.size w w' := by
  have m := Try.bits_Mul64 a b ha hb
  have e := Nat.div_add_mod (a * b) 18446744073709551616
  have hl2 : a * b % 18446744073709551616 < 18446744073709551616 := Nat.mod_lt _ (by omega)
  obtain ⟨hi, hh⟩ : ∃ x, x = a * b / 18446744073709551616 := ⟨_, rfl⟩
  obtain ⟨lo, hl⟩ : ∃ x, x = a * b % 18446744073709551616 := ⟨_, rfl⟩
  rw [← hh, ← hl] at m e
  rw [← hh] at h
  rw [← hl] at hl2
  rw [Nat.mul_comm] at e
  rw [← e] at g1 g2
  have D0 := hid (div64_any hi lo c R1 R2 g1 g2 h hl2 hc)
  have M0 := hid m
  clear m hh hl ha hb g1 g2 e hl2 hc
  go_enter Try.func111, Try.ntmps111
  go_wp2_with fail
  refine (M0.out _).mono ?_
  rintro e w' ⟨rfl, rfl⟩
  go_wp2_with fail
  refine (D0.out _).mono ?_
  rintro e w2 ⟨rfl, hb2⟩
  go_wp2_with fail
  go_ret3
  exact ⟨rfl, hb2⟩
end Go.Proofs.Ytdeekpcfmgfmcaa

/- What the functions of the package 'money' answer. -/
namespace Go.Proofs.Ytdeekpcfmgfmcaa
open Go Go.RowKit V
set_option maxRecDepth 100000
set_option linter.unusedVariables false
namespace M
theorem chk_ok {a : Int} (h : chk a = 0) : Amt a := by
  by_cases q : Amt a
  · exact q
  · rw [chk_no q] at h; omega
theorem chks_ok {l : List Int} (h : chks l = 0) : ∀ a ∈ l, Amt a := by
  by_cases q : ∀ a ∈ l, Amt a
  · exact q
  · rw [chks_no q] at h; omega
theorem chks_bad {l : List Int} (h : ¬ chks l = 0) : chks l = 3 := by unfold chks at h ⊢; split <;> simp_all
theorem chk_nok {a : Int} (h : ¬ chk a = 0) : ¬ Amt a := fun q => h (chk_yes q)
theorem ck_ok {a b c : Int} (h : ckE a b c = 0) : POk a b c := by
  by_cases q : POk a b c
  · exact q
  · rw [ck_no q] at h; omega
theorem ck_nok {a b c : Int} (h : ¬ ckE a b c = 0) : ¬ POk a b c := fun q => h (ck_yes q)
def spQ (a b c : Int) : Int := if c ≤ a * b / 18446744073709551616 then 0 else a * b / c
def spR (a b c : Int) : Int := if c ≤ a * b / 18446744073709551616 then 0 else a * b % c
def spB (a b c : Int) : Bool := if c ≤ a * b / 18446744073709551616 then false else decide (a * b / c ≤ 1152921504606846976)
end M
theorem v_mwithin (n a b : Int) : V.Fn Try.prog 110 [] [.one (.val (.int .i64 n)), .one (.val (.int .i64 a)), .one (.val (.int .i64 b))] (.bool (decide (a ≤ n ∧ n ≤ b))) := by
  refine V.Fn.mk_ V.Tok V.mixed Try.func110 rfl Try.ntmps110 (by kernel_rfl) rfl rfl ?_
  repeat' ((conv => whnf); first | refine V.NCond.mk ?_ | refine V.NIf.not_ ?_ | refine V.NIf.dec_ ?_ | refine V.NIf.no (by omega) ?_ | refine V.NIf.yes (by omega) ?_ | refine V.NIf.mk (fun _ => ?_) (fun _ => ?_) | refine V.NWrap.ok (by omega) (by omega) ?_ | refine V.NWrap.u64 (by omega) (by omega) ?_ | refine V.NLt.mk (by omega) ?_ | refine V.NBoth.mk ?_ ?_ | refine V.NTF.yes (by omega) ?_ | refine V.NTF.no (by omega) ?_ | refine V.NTF.dec ?_ | refine V.NDraw.q (by exact rfl) (by kernel_rfl) ?_ | refine V.NApp.one (by first | omega | (simp; omega)) (by first | omega | (simp; omega)) ?_ | (refine V.NDraw.any (by kernel_rfl) ?_) | fail)
  · exact ⟨_, rfl, by simp_all⟩
  · exact congrArg Value.bool (by simp_all; omega)
theorem v_check (a : Int) : V.Fn Try.prog 73 [] [.one (.val (.int .i64 a))] (.int .i64 (M.chk a)) := by
  refine V.Fn.mk_ V.Tok V.mixed Try.func73 rfl Try.ntmps73 (by kernel_rfl) rfl rfl ?_
  repeat' ((conv => whnf); first | refine V.NCond.mk ?_ | refine V.NIf.not_ ?_ | refine V.NIf.dec_ ?_ | refine V.NIf.no (by omega) ?_ | refine V.NIf.yes (by omega) ?_ | refine V.NIf.mk (fun _ => ?_) (fun _ => ?_) | refine V.NWrap.ok (by omega) (by omega) ?_ | refine V.NWrap.u64 (by omega) (by omega) ?_ | refine V.NLt.mk (by omega) ?_ | refine V.NBoth.mk ?_ ?_ | refine V.NTF.yes (by omega) ?_ | refine V.NTF.no (by omega) ?_ | refine V.NTF.dec ?_ | refine V.NDraw.q (by exact rfl) (by kernel_rfl) ?_ | refine V.NApp.one (by first | omega | (simp; omega)) (by first | omega | (simp; omega)) ?_ | (first | refine V.Fn.k0 (v_mwithin _ _ _) rfl ?_ | refine V.Fn.q0 (v_mwithin _ _ _) rfl ?_ | refine V.Fn.a0 (v_mwithin _ _ _) rfl ?_) | (refine V.NDraw.any (by kernel_rfl) ?_) | fail)
  all_goals ((conv => whnf); refine congrArg _ ?_; unfold M.chk M.Amt; (repeat' split) <;> first | rfl | omega | (exfalso; omega) | (simp_all; done) | (simp_all; omega))
theorem v_split (a b c : Int) (ha : 0 ≤ a ∧ a < 18446744073709551616) (hb : 0 ≤ b ∧ b < 18446744073709551616) (hc : 0 ≤ c ∧ c < 18446744073709551616) :
    V.Fn Try.prog 111 [] [.one (.val (.int .u64 a)), .one (.val (.int .u64 b)), .one (.val (.int .u64 c))] (.tuple #[.int .u64 (M.spQ a b c), .int .u64 (M.spR a b c), .bool (M.spB a b c)]) := by
  obtain ⟨x, rfl⟩ := Int.eq_ofNat_of_zero_le ha.1
  obtain ⟨y, rfl⟩ := Int.eq_ofNat_of_zero_le hb.1
  obtain ⟨z, rfl⟩ := Int.eq_ofNat_of_zero_le hc.1
  have e : (x : Int) * y / 18446744073709551616 = ((x * y / 18446744073709551616 : Nat) : Int) := by simp
  by_cases h : z ≤ x * y / 18446744073709551616
  · have h' : (z : Int) ≤ (x : Int) * y / 18446744073709551616 := by rw [e]; exact Int.ofNat_le.2 h
    rw [show M.spQ x y z = 0 from if_pos h', show M.spR x y z = 0 from if_pos h', show M.spB x y z = false from if_pos h']
    refine Fn.of_calls (xs := [.int .u64 x, .int .u64 y, .int .u64 z]) (by kernel_rfl) (by repeat' (first | exact rfl | exact Iff.rfl | exact trivial | exact (fun _ _ => rfl) | exact (fun _ h => absurd h (Nat.not_lt_zero _)) | refine ⟨?_, ?_⟩ | exact Iff.rfl | exact congrArg (fun z => V.SV.one (V.At.val (Value.int .i64 z))) (by omega))) fun w => ?_
    refine (msplit_no x y z (by omega) (by omega) h w).mono ?_
    rintro e w' ⟨rfl, rfl⟩
    exact ⟨rfl, Below.refl _ _⟩
  · have h' : ¬ (z : Int) ≤ (x : Int) * y / 18446744073709551616 := by rw [e]; exact fun q => h (Int.ofNat_le.1 q)
    rw [show M.spQ x y z = _ from if_neg h', show M.spR x y z = _ from if_neg h', show M.spB x y z = _ from if_neg h']
    refine Fn.of_calls (xs := [.int .u64 x, .int .u64 y, .int .u64 z]) (by kernel_rfl) (by repeat' (first | exact rfl | exact Iff.rfl | exact trivial | exact (fun _ _ => rfl) | exact (fun _ h => absurd h (Nat.not_lt_zero _)) | refine ⟨?_, ?_⟩ | exact Iff.rfl | exact congrArg (fun z => V.SV.one (V.At.val (Value.int .i64 z))) (by omega))) fun w => ?_
    refine (msplit_yes x y z (x * y / z) (x * y % z) (by omega) (by omega) (by omega) (by omega) rfl rfl w).mono ?_
    rintro e w' ⟨rfl, hb⟩
    exact ⟨by simp, hb⟩
namespace M
def rawQ (a b c : Int) : Int := if 0 ≤ a then IntKind.i64.wrap (spQ a b c) else if spR (0 - a) b c = 0 then IntKind.i64.wrap (0 - IntKind.i64.wrap (spQ (0 - a) b c)) else IntKind.i64.wrap (IntKind.i64.wrap (0 - IntKind.i64.wrap (spQ (0 - a) b c)) - 1)
def rawR (a b c : Int) : Int := if 0 ≤ a then spR a b c else if spR (0 - a) b c = 0 then 0 else c - spR (0 - a) b c
def rawB (a b c : Int) : Bool := if 0 ≤ a then spB a b c else if spR (0 - a) b c = 0 then spB (0 - a) b c else (spB (0 - a) b c && decide (spQ (0 - a) b c < 1152921504606846976))
theorem raw_1 {a b c : Int} (h : 0 ≤ a) : rawQ a b c = IntKind.i64.wrap (spQ a b c) ∧ rawR a b c = spR a b c ∧ rawB a b c = spB a b c := ⟨if_pos h, if_pos h, if_pos h⟩
theorem raw_2 {a b c : Int} (h : ¬ 0 ≤ a) (k : spR (0 - a) b c = 0) : rawQ a b c = IntKind.i64.wrap (0 - IntKind.i64.wrap (spQ (0 - a) b c)) ∧ rawR a b c = 0 ∧ rawB a b c = spB (0 - a) b c := by
  unfold rawQ rawR rawB; rw [if_neg h, if_pos k, if_neg h, if_pos k, if_neg h, if_pos k]; exact ⟨rfl, rfl, rfl⟩
theorem raw_3 {a b c : Int} (h : ¬ 0 ≤ a) (k : ¬ spR (0 - a) b c = 0) : rawQ a b c = IntKind.i64.wrap (IntKind.i64.wrap (0 - IntKind.i64.wrap (spQ (0 - a) b c)) - 1) ∧ rawR a b c = c - spR (0 - a) b c ∧ rawB a b c = (spB (0 - a) b c && decide (spQ (0 - a) b c < 1152921504606846976)) := by
  unfold rawQ rawR rawB; rw [if_neg h, if_neg k, if_neg h, if_neg k, if_neg h, if_neg k]; exact ⟨rfl, rfl, rfl⟩
theorem spR_bd {a b c : Int} (hc : 1 ≤ c) : 0 ≤ spR a b c ∧ spR a b c < c := by
  unfold spR; split
  · omega
  · exact r_bd hc
theorem i64w {e : Int} (h : -9223372036854775808 ≤ e ∧ e ≤ 9223372036854775807) : IntKind.i64.wrap e = e := IntWalk.i64_in e h
theorem sp_in {a b c : Int} (hc : 1 ≤ c ∧ c ≤ 1099511627776) (ha : 0 ≤ a) (hb : 0 ≤ b) (k : a * b / c ≤ 1152921504606846976) : spQ a b c = a * b / c ∧ spR a b c = a * b % c ∧ spB a b c = true := by
  have hab : 0 ≤ a * b := Int.mul_nonneg ha hb
  have e := qr (a * b) c
  have r := r_bd (x := a * b) hc.1
  have lt : ¬ c ≤ a * b / 18446744073709551616 := by
    intro q
    have h1 : c * 18446744073709551616 ≤ a * b := (Int.le_ediv_iff_mul_le (by omega)).1 q
    have h2 : c * (a * b / c) ≤ c * 1152921504606846976 := Int.mul_le_mul_of_nonneg_left k (by omega)
    omega
  exact ⟨if_neg lt, if_neg lt, (if_neg lt).trans (decide_eq_true k)⟩
theorem sp_out {a b c : Int} (hc : 1 ≤ c ∧ c ≤ 1099511627776) (ha : 0 ≤ a) (hb : 0 ≤ b) (k : spB a b c = true) : a * b / c ≤ 1152921504606846976 := by
  unfold spB at k
  split at k
  · cases k
  · exact of_decide_eq_true k
theorem raw_at {a b c : Int} (h : POk a b c) : (rawB a b c = true ↔ Amt (a * b / c)) ∧ (Amt (a * b / c) → rawQ a b c = a * b / c ∧ rawR a b c = a * b % c) := by
  obtain ⟨⟨a0, a1⟩, ⟨b0, b1⟩, hc⟩ := h
  by_cases ha : 0 ≤ a
  · obtain ⟨e1, e2, e3⟩ := raw_1 (b := b) (c := c) ha
    have q0 : 0 ≤ a * b / c := Int.ediv_nonneg (Int.mul_nonneg ha b0) (by omega)
    rw [e1, e2, e3]
    refine ⟨⟨fun k => ⟨by omega, sp_out hc ha b0 k⟩, fun k => (sp_in hc ha b0 k.2).2.2⟩, fun k => ?_⟩
    obtain ⟨s1, s2, _⟩ := sp_in hc ha b0 k.2
    have k2 := k.2
    rw [s1, s2, i64w (by omega)]; exact ⟨rfl, rfl⟩
  · have hn : 0 ≤ 0 - a := by omega
    have em : a * b = -((0 - a) * b) := by rw [Int.zero_sub, Int.neg_mul, Int.neg_neg]
    have q0 : 0 ≤ (0 - a) * b / c := Int.ediv_nonneg (Int.mul_nonneg hn b0) (by omega)
    rw [em]
    by_cases k : (0 - a) * b / c ≤ 1152921504606846976
    · obtain ⟨s1, s2, s3⟩ := sp_in hc hn b0 k
      rcases neg_part (x := (0 - a) * b) hc.1 with ⟨z, n1, n2⟩ | ⟨z, n1, n2⟩
      · obtain ⟨e1, e2, e3⟩ := raw_2 (b := b) (c := c) ha (by rw [s2]; exact z)
        rw [e1, e2, e3, n1, n2, s1, s3, i64w (e := (0 - a) * b / c) (by omega), i64w (by omega)]
        refine ⟨⟨fun _ => ⟨by omega, by omega⟩, fun _ => rfl⟩, fun _ => ⟨by omega, rfl⟩⟩
      · obtain ⟨e1, e2, e3⟩ := raw_3 (b := b) (c := c) ha (by rw [s2]; omega)
        rw [e1, e2, e3, n1, n2, s1, s2, s3, i64w (e := (0 - a) * b / c) (by omega), i64w (e := 0 - _) (by omega), i64w (by omega)]
        refine ⟨?_, fun _ => ⟨by omega, rfl⟩⟩
        unfold Amt
        simp only [Bool.true_and, decide_eq_true_eq]
        omega
    · have sb : spB (0 - a) b c = false := by
        rw [Bool.eq_false_iff]; exact fun q => k (sp_out hc hn b0 q)
      have na : ¬ Amt (-((0 - a) * b) / c) := by
        unfold Amt
        rcases neg_part (x := (0 - a) * b) hc.1 with ⟨z, n1, n2⟩ | ⟨z, n1, n2⟩ <;> omega
      have rb : rawB a b c = false := by
        by_cases z : spR (0 - a) b c = 0
        · rw [(raw_2 (b := b) (c := c) ha z).2.2]; exact sb
        · rw [(raw_3 (b := b) (c := c) ha z).2.2, sb]; rfl
      rw [rb]
      exact ⟨⟨fun q => (nomatch q), fun q => absurd q na⟩, fun q => absurd q na⟩
theorem raw_ok {a b c : Int} (h : POk a b c) (k : rawB a b c = true) : Amt (a * b / c) ∧ rawQ a b c = a * b / c ∧ rawR a b c = a * b % c := ⟨(raw_at h).1.1 k, (raw_at h).2 ((raw_at h).1.1 k)⟩
theorem raw_nok {a b c : Int} (h : POk a b c) (k : ¬ rawB a b c = true) : ¬ Amt (a * b / c) := fun q => k ((raw_at h).1.2 q)
end M
set_option maxHeartbeats 1000000 in
theorem v_raw (a b c : Int) (h : M.POk a b c) : V.Fn Try.prog 75 [] [.one (.val (.int .i64 a)), .one (.val (.int .i64 b)), .one (.val (.int .i64 c))] (.tuple #[.int .i64 (M.rawQ a b c), .int .i64 (M.rawR a b c), .bool (M.rawB a b c)]) := by
  obtain ⟨⟨a0, a1⟩, ⟨b0, b1⟩, c0, c1⟩ := h
  have r1 := M.spR_bd (a := a) (b := b) c0
  have r2 := M.spR_bd (a := 0 - a) (b := b) c0
  refine V.Fn.mk_ V.Tok V.mixed Try.func75 rfl Try.ntmps75 (by kernel_rfl) rfl rfl ?_
  repeat' ((conv => whnf); first | refine V.NCond.mk ?_ | refine V.NIf.not_ ?_ | refine V.NIf.dec_ ?_ | refine V.NIf.no (by omega) ?_ | refine V.NIf.yes (by omega) ?_ | refine V.NIf.mk (fun _ => ?_) (fun _ => ?_) | refine V.NWrap.ok (by omega) (by omega) ?_ | refine V.NWrap.u64 (by omega) (by omega) ?_ | refine V.NLt.mk (by omega) ?_ | refine V.NBoth.mk ?_ ?_ | refine V.NTF.yes (by omega) ?_ | refine V.NTF.no (by omega) ?_ | refine V.NTF.dec ?_ | refine V.NDraw.q (by exact rfl) (by kernel_rfl) ?_ | refine V.NApp.one (by first | omega | (simp; omega)) (by first | omega | (simp; omega)) ?_ | (first | refine V.Fn.k0 (v_split a b c (by omega) (by omega) (by omega)) rfl ?_ | refine V.Fn.q0 (v_split a b c (by omega) (by omega) (by omega)) rfl ?_ | refine V.Fn.a0 (v_split a b c (by omega) (by omega) (by omega)) rfl ?_) | (first | refine V.Fn.k0 (v_split (0 - a) b c (by omega) (by omega) (by omega)) rfl ?_ | refine V.Fn.q0 (v_split (0 - a) b c (by omega) (by omega) (by omega)) rfl ?_ | refine V.Fn.a0 (v_split (0 - a) b c (by omega) (by omega) (by omega)) rfl ?_) | (refine NWrap.mk ?_) | (refine V.NDraw.any (by kernel_rfl) ?_) | fail)
  · obtain ⟨e1, e2, e3⟩ := M.raw_1 (a := a) (b := b) (c := c) (by assumption)
    rw [e1, e2, e3]; exact (by repeat' (first | exact rfl | exact Iff.rfl | exact trivial | exact (fun _ _ => rfl) | exact (fun _ h => absurd h (Nat.not_lt_zero _)) | refine ⟨?_, ?_⟩ | exact Iff.rfl | exact congrArg (fun z => V.SV.one (V.At.val (Value.int .i64 z))) (by omega)))
  · obtain ⟨e1, e2, e3⟩ := M.raw_2 (a := a) (b := b) (c := c) (by assumption) (by assumption)
    rw [e1, e2, e3]; exact (by repeat' (first | exact rfl | exact Iff.rfl | exact trivial | exact (fun _ _ => rfl) | exact (fun _ h => absurd h (Nat.not_lt_zero _)) | refine ⟨?_, ?_⟩ | exact Iff.rfl | exact congrArg (fun z => V.SV.one (V.At.val (Value.int .i64 z))) (by omega)))
  all_goals obtain ⟨e1, e2, e3⟩ := M.raw_3 (a := a) (b := b) (c := c) (by assumption) (by assumption)
  all_goals rw [e1, e2, e3]
  all_goals (conv => whnf)
  all_goals (repeat' (first | exact rfl | exact trivial | (refine ⟨_, rfl, ?_⟩; simp_all; done) | (refine ⟨?_, ?_⟩) | exact congrArg Value.bool (by simp_all) | (simp_all; done)))
theorem v_mcheck (a b c : Int) : V.Fn Try.prog 74 [] [.one (.val (.int .i64 a)), .one (.val (.int .i64 b)), .one (.val (.int .i64 c))] (.int .i64 (M.ckE a b c)) := by
  refine V.Fn.mk_ V.Tok V.mixed Try.func74 rfl Try.ntmps74 (by kernel_rfl) rfl rfl ?_
  repeat' ((conv => whnf); first | refine V.NCond.mk ?_ | refine V.NIf.not_ ?_ | refine V.NIf.dec_ ?_ | refine V.NIf.no (by omega) ?_ | refine V.NIf.yes (by omega) ?_ | refine V.NIf.mk (fun _ => ?_) (fun _ => ?_) | refine V.NWrap.ok (by omega) (by omega) ?_ | refine V.NWrap.u64 (by omega) (by omega) ?_ | refine V.NLt.mk (by omega) ?_ | refine V.NBoth.mk ?_ ?_ | refine V.NTF.yes (by omega) ?_ | refine V.NTF.no (by omega) ?_ | refine V.NTF.dec ?_ | refine V.NDraw.q (by exact rfl) (by kernel_rfl) ?_ | refine V.NApp.one (by first | omega | (simp; omega)) (by first | omega | (simp; omega)) ?_ | (first | refine V.Fn.k0 (v_check _) rfl ?_ | refine V.Fn.q0 (v_check _) rfl ?_ | refine V.Fn.a0 (v_check _) rfl ?_) | (first | refine V.Fn.k0 (v_mwithin _ _ _) rfl ?_ | refine V.Fn.q0 (v_mwithin _ _ _) rfl ?_ | refine V.Fn.a0 (v_mwithin _ _ _) rfl ?_) | (refine V.NDraw.any (by kernel_rfl) ?_) | fail)
  all_goals (conv => whnf)
  all_goals refine congrArg (Value.int .i64) ?_
  all_goals first
    | exact (M.ck_yes ⟨M.chk_ok (by assumption), by omega, by omega⟩).symm
    | exact (M.ck_no fun q => by have := q.2; omega).symm
    | (have k := M.chk_nok (a := a) (by assumption); rw [M.ck_no fun q => k q.1, M.chk_no k])
theorem v_part (a b c : Int) : V.Fn Try.prog 28 [] [.one (.val (.int .i64 a)), .one (.val (.int .i64 b)), .one (.val (.int .i64 c))] (.tuple #[.int .i64 (M.prQ a b c), .int .i64 (M.prR a b c), .int .i64 (M.prE a b c)]) := by
  refine V.Fn.mk_ V.Tok V.mixed Try.func28 rfl Try.ntmps28 (by kernel_rfl) rfl rfl ?_
  repeat' ((conv => whnf); first | refine V.NCond.mk ?_ | refine V.NIf.not_ ?_ | refine V.NIf.dec_ ?_ | refine V.NIf.no (by omega) ?_ | refine V.NIf.yes (by omega) ?_ | refine V.NIf.mk (fun _ => ?_) (fun _ => ?_) | refine V.NWrap.ok (by omega) (by omega) ?_ | refine V.NWrap.u64 (by omega) (by omega) ?_ | refine V.NLt.mk (by omega) ?_ | refine V.NBoth.mk ?_ ?_ | refine V.NTF.yes (by omega) ?_ | refine V.NTF.no (by omega) ?_ | refine V.NTF.dec ?_ | refine V.NDraw.q (by exact rfl) (by kernel_rfl) ?_ | refine V.NApp.one (by first | omega | (simp; omega)) (by first | omega | (simp; omega)) ?_ | (first | refine V.Fn.k0 (v_mcheck _ _ _) rfl ?_ | refine V.Fn.q0 (v_mcheck _ _ _) rfl ?_ | refine V.Fn.a0 (v_mcheck _ _ _) rfl ?_) | (first | refine V.Fn.k0 (v_raw a b c (M.ck_ok (by assumption))) rfl ?_ | refine V.Fn.q0 (v_raw a b c (M.ck_ok (by assumption))) rfl ?_ | refine V.Fn.a0 (v_raw a b c (M.ck_ok (by assumption))) rfl ?_) | (refine V.NDraw.any (by kernel_rfl) ?_) | fail)
  · have h := M.ck_ok (by assumption)
    obtain ⟨k, e1, e2⟩ := M.raw_ok h (by assumption)
    rw [e1, e2, (M.pr_3 h k).1, (M.pr_3 h k).2.1, (M.pr_3 h k).2.2]; exact (by repeat' (first | exact rfl | exact Iff.rfl | exact trivial | exact (fun _ _ => rfl) | exact (fun _ h => absurd h (Nat.not_lt_zero _)) | refine ⟨?_, ?_⟩ | exact Iff.rfl | exact congrArg (fun z => V.SV.one (V.At.val (Value.int .i64 z))) (by omega)))
  · have h := M.ck_ok (by assumption)
    have k := M.raw_nok h (by assumption)
    rw [(M.pr_2 h k).1, (M.pr_2 h k).2.1, (M.pr_2 h k).2.2]; exact (by repeat' (first | exact rfl | exact Iff.rfl | exact trivial | exact (fun _ _ => rfl) | exact (fun _ h => absurd h (Nat.not_lt_zero _)) | refine ⟨?_, ?_⟩ | exact Iff.rfl | exact congrArg (fun z => V.SV.one (V.At.val (Value.int .i64 z))) (by omega)))
  · have h := M.ck_nok (by assumption)
    rw [(M.pr_1 h).1, (M.pr_1 h).2.1, (M.pr_1 h).2.2, M.ck_no h]; exact (by repeat' (first | exact rfl | exact Iff.rfl | exact trivial | exact (fun _ _ => rfl) | exact (fun _ h => absurd h (Nat.not_lt_zero _)) | refine ⟨?_, ?_⟩ | exact Iff.rfl | exact congrArg (fun z => V.SV.one (V.At.val (Value.int .i64 z))) (by omega)))
end Go.Proofs.Ytdeekpcfmgfmcaa

/- What the document's answers on amounts are. -/
namespace Go.Proofs.Ytdeekpcfmgfmcaa
open Go Go.RowKit V
set_option maxRecDepth 100000
set_option linter.unusedVariables false
namespace M
theorem chk0 {a : Int} : chk a = 0 ↔ (-1152921504606846976 ≤ a ∧ a ≤ 1152921504606846976) := ⟨chk_ok, chk_yes⟩
end M
theorem v_acheck (a : Int) : V.Fn Try.prog 79 [] [.one (.val (.int .i64 a))] (.int .i64 (M.chk a)) := by
  refine V.Fn.mk_ V.Tok V.mixed Try.func79 rfl Try.ntmps79 (by kernel_rfl) rfl rfl ?_
  repeat' ((conv => whnf); first | refine V.NCond.mk ?_ | refine V.NIf.not_ ?_ | refine V.NIf.dec_ ?_ | refine V.NIf.no (by omega) ?_ | refine V.NIf.yes (by omega) ?_ | refine V.NIf.mk (fun _ => ?_) (fun _ => ?_) | refine V.NWrap.ok (by omega) (by omega) ?_ | refine V.NWrap.u64 (by omega) (by omega) ?_ | refine V.NLt.mk (by omega) ?_ | refine V.NBoth.mk ?_ ?_ | refine V.NTF.yes (by omega) ?_ | refine V.NTF.no (by omega) ?_ | refine V.NTF.dec ?_ | refine V.NDraw.q (by exact rfl) (by kernel_rfl) ?_ | refine V.NApp.one (by first | omega | (simp; omega)) (by first | omega | (simp; omega)) ?_ | (first | refine V.Fn.k0 (v_rbetween _ _ _) rfl ?_ | refine V.Fn.q0 (v_rbetween _ _ _) rfl ?_ | refine V.Fn.a0 (v_rbetween _ _ _) rfl ?_) | (refine V.NDraw.any (by kernel_rfl) ?_) | fail)
  all_goals ((conv => whnf); refine congrArg _ ?_; unfold M.chk M.Amt; (repeat' split) <;> first | rfl | omega | (exfalso; omega) | (simp_all; done) | (simp_all; omega))
namespace M
def poQ (a b c : Int) : Int := if 2305843009213693952 < a * b / c then -1 else a * b / c
def poR (a b c : Int) : Int := if 2305843009213693952 < a * b / c then 0 else a * b % c
theorem bit2 (b : Int) (m : Nat) : b / 2 ^ m = 2 * (b / 2 ^ (m + 1)) + b / 2 ^ m % 2 := by
  have p : (0 : Int) ≤ 2 ^ m := Int.le_of_lt (Int.pow_pos (by omega))
  rw [Int.pow_succ, ← Int.ediv_ediv_of_nonneg p]
  omega
theorem po1 {a b c q r t : Int} {m : Nat} (hJ : q * c + r = a * (b / 2 ^ (m + 1))) (ht : t = b / 2 ^ m % 2) (h1 : t = 1) : (2 * q + a / c + (2 * r + a % c) / c) * c + (2 * r + a % c) % c = a * (b / 2 ^ m) := by
  have h2 := qr a c
  have h3 := qr (2 * r + a % c) c
  have h4 := bit2 b m
  generalize b / 2 ^ m = X at *
  generalize b / 2 ^ (m + 1) = Y at *
  have h5 : X = 2 * Y + 1 := by omega
  clear h4 ht
  grind
theorem po0 {a b c q r t : Int} {m : Nat} (hJ : q * c + r = a * (b / 2 ^ (m + 1))) (ht : t = b / 2 ^ m % 2) (h0 : 0 ≤ t) (h2 : t < 2) (h1 : ¬ t = 1) : (2 * q + (2 * r) / c) * c + (2 * r) % c = a * (b / 2 ^ m) := by
  have h3 := qr (2 * r) c
  have h4 := bit2 b m
  generalize b / 2 ^ m = X at *
  generalize b / 2 ^ (m + 1) = Y at *
  have h5 : X = 2 * Y := by omega
  clear h4 ht
  grind
theorem po_big {a b c Q R : Int} {m : Nat} (ha : 0 ≤ a) (hb : 0 ≤ b) (hc : 1 ≤ c) (h : Q * c + R = a * (b / 2 ^ m)) (hR : 0 ≤ R) (hQ : 2305843009213693952 < Q) : -1 = poQ a b c ∧ 0 = poR a b c := by
  have h1 : b / 2 ^ m ≤ b := Int.ediv_le_self _ hb
  have h2 : a * (b / 2 ^ m) ≤ a * b := Int.mul_le_mul_of_nonneg_left h1 ha
  have h3 : Q ≤ a * b / c := (Int.le_ediv_iff_mul_le (by omega)).2 (by omega)
  unfold poQ poR
  rw [if_pos (by omega), if_pos (by omega)]; exact ⟨rfl, rfl⟩
theorem po_end {a b c q r : Int} (hc : 1 ≤ c) (h : q * c + r = a * (b / 2 ^ 0)) (hr : 0 ≤ r ∧ r < c) (hq : q ≤ 2305843009213693952) : q = poQ a b c ∧ r = poR a b c := by
  have e : b / 2 ^ 0 = b := by simp
  rw [e] at h
  have h1 : a * b / c = q := by
    rw [← h, Int.add_comm, Int.add_mul_ediv_right _ _ (by omega), Int.ediv_eq_zero_of_lt hr.1 hr.2]; omega
  have h2 : a * b % c = r := by
    rw [← h, Int.add_comm, Int.add_mul_emod_self_right]; exact Int.emod_eq_of_lt hr.1 hr.2
  unfold poQ poR
  rw [if_neg (by omega), if_neg (by omega), h1, h2]; exact ⟨rfl, rfl⟩
end M
set_option maxHeartbeats 1000000 in
theorem v_partOf (a b c : Int) (ha : 0 ≤ a ∧ a ≤ 1152921504606846976) (hb : 0 ≤ b ∧ b ≤ 1099511627776) (hc : 1 ≤ c ∧ c ≤ 1099511627776) : V.Fn Try.prog 80 [] [.one (.val (.int .i64 a)), .one (.val (.int .i64 b)), .one (.val (.int .i64 c))] (.tuple #[.int .i64 (M.poQ a b c), .int .i64 (M.poR a b c)]) := by
  refine V.Fn.mk_ V.Tok V.mixed Try.func80 rfl Try.ntmps80 (by kernel_rfl) rfl rfl ?_
  (conv => whnf)
  refine V.NLoop.auto (fun (⟨n, q, r⟩ : Nat × Int × Int) => [(8, .one (.val (.int .i64 q))), (9, .one (.val (.int .i64 r))), (10, .one (.val (.int .i64 ((n : Int) - 1))))]) (fun (⟨n, q, r⟩ : Nat × Int × Int) => []) [] [] (fun (⟨n, q, r⟩ : Nat × Int × Int) => n) (fun (⟨n, q, r⟩ : Nat × Int × Int) => n ≤ 41 ∧ q * c + r = a * (b / 2 ^ n) ∧ (0 ≤ r ∧ r < c) ∧ 0 ≤ q ∧ q ≤ 2305843009213693952) (41, 0, 0) ⟨by omega, (by rw [Int.ediv_eq_zero_of_lt (by omega) (by omega)]; omega), by omega, by omega⟩ (by repeat' (first | exact rfl | exact Iff.rfl | exact trivial | exact (fun _ _ => rfl) | exact (fun _ h => absurd h (Nat.not_lt_zero _)) | refine ⟨?_, ?_⟩ | exact Iff.rfl | exact congrArg (fun z => V.SV.one (V.At.val (Value.int .i64 z))) (by omega))) (by repeat' (first | exact rfl | exact Iff.rfl | exact trivial | exact (fun _ _ => rfl) | exact (fun _ h => absurd h (Nat.not_lt_zero _)) | refine ⟨?_, ?_⟩ | exact Iff.rfl | exact congrArg (fun z => V.SV.one (V.At.val (Value.int .i64 z))) (by omega))) (fun _ => ⟨rfl, rfl⟩) ?_; (conv => whnf); refine ⟨⟨rfl, rfl⟩, ?_⟩
  rintro ⟨n, q, r⟩ ⟨hn, hJ, hr, hq⟩
  cases n with
  | zero =>
    repeat' ((conv => whnf); first | refine V.NCond.mk ?_ | refine V.NIf.not_ ?_ | refine V.NIf.dec_ ?_ | refine V.NIf.no (by omega) ?_ | refine V.NIf.yes (by omega) ?_ | refine V.NIf.mk (fun _ => ?_) (fun _ => ?_) | refine V.NWrap.ok (by omega) (by omega) ?_ | refine V.NWrap.u64 (by omega) (by omega) ?_ | refine V.NLt.mk (by omega) ?_ | refine V.NBoth.mk ?_ ?_ | refine V.NTF.yes (by omega) ?_ | refine V.NTF.no (by omega) ?_ | refine V.NTF.dec ?_ | refine V.NDraw.q (by exact rfl) (by kernel_rfl) ?_ | refine V.NApp.one (by first | omega | (simp; omega)) (by first | omega | (simp; omega)) ?_ | (refine V.NDraw.any (by kernel_rfl) ?_) | fail)
    exact V.nif2 (M.po_end hc.1 hJ hr hq.2)
  | succ m =>
    repeat' ((conv => whnf); first | (refine NRem.pos (y := 2) (by omega) (by omega) ?_; intro t ht ht0 ht1) | refine V.NCond.mk ?_ | refine V.NIf.not_ ?_ | refine V.NIf.dec_ ?_ | refine V.NIf.no (by omega) ?_ | refine V.NIf.yes (by omega) ?_ | refine V.NIf.mk (fun _ => ?_) (fun _ => ?_) | refine V.NWrap.ok (by omega) (by omega) ?_ | refine V.NWrap.u64 (by omega) (by omega) ?_ | refine V.NLt.mk (by omega) ?_ | refine V.NBoth.mk ?_ ?_ | refine V.NTF.yes (by omega) ?_ | refine V.NTF.no (by omega) ?_ | refine V.NTF.dec ?_ | refine V.NDraw.q (by exact rfl) (by kernel_rfl) ?_ | refine V.NApp.one (by first | omega | (simp; omega)) (by first | omega | (simp; omega)) ?_ | (refine NShr.i64 m (by omega) (by omega) (by omega) ?_; intro x hx hx0 hx1) | (refine NRem.pos (by omega) (by omega) ?_; intro z hz hz0 hz1) | (refine NQuo.pos (by omega) (by omega) (by omega) ?_; intro z hz hz0 hz1) | (refine V.NDraw.any (by kernel_rfl) ?_) | fail)
    all_goals (conv => whnf)
    all_goals rename_i hz hz0 hz1 _
    all_goals subst_vars
    · exact V.nif2 (M.po_big ha.1 hb.1 hc.1 (M.po1 hJ rfl (by omega)) (by assumption) (by assumption))
    · refine V.NBack.at_ (m, _, _) [] ⟨by omega, M.po1 hJ rfl (by omega), ⟨by assumption, by assumption⟩, ?_, ?_⟩ (by show m < m + 1; omega) (by repeat' (first | exact rfl | exact Iff.rfl | exact trivial | exact (fun _ _ => rfl) | exact (fun _ h => absurd h (Nat.not_lt_zero _)) | refine ⟨?_, ?_⟩ | exact Iff.rfl | exact congrArg (fun z => V.SV.one (V.At.val (Value.int .i64 z))) (by omega))) rfl (by repeat' (first | exact rfl | exact Iff.rfl | exact trivial | exact (fun _ _ => rfl) | exact (fun _ h => absurd h (Nat.not_lt_zero _)) | refine ⟨?_, ?_⟩ | exact Iff.rfl | exact congrArg (fun z => V.SV.one (V.At.val (Value.int .i64 z))) (by omega))) (by repeat' (first | exact rfl | exact Iff.rfl | exact trivial | exact (fun _ _ => rfl) | exact (fun _ h => absurd h (Nat.not_lt_zero _)) | refine ⟨?_, ?_⟩ | exact Iff.rfl | exact congrArg (fun z => V.SV.one (V.At.val (Value.int .i64 z))) (by omega))) (by repeat' (first | exact rfl | exact Iff.rfl | exact trivial | exact (fun _ _ => rfl) | exact (fun _ h => absurd h (Nat.not_lt_zero _)) | refine ⟨?_, ?_⟩ | exact Iff.rfl | exact congrArg (fun z => V.SV.one (V.At.val (Value.int .i64 z))) (by omega))) <;> omega
    · exact V.nif2 (M.po_big ha.1 hb.1 hc.1 (M.po0 hJ rfl (by omega) (by omega) (by omega)) (by assumption) (by assumption))
    · refine V.NBack.at_ (m, _, _) [] ⟨by omega, M.po0 hJ rfl (by omega) (by omega) (by omega), ⟨by assumption, by assumption⟩, ?_, ?_⟩ (by show m < m + 1; omega) (by repeat' (first | exact rfl | exact Iff.rfl | exact trivial | exact (fun _ _ => rfl) | exact (fun _ h => absurd h (Nat.not_lt_zero _)) | refine ⟨?_, ?_⟩ | exact Iff.rfl | exact congrArg (fun z => V.SV.one (V.At.val (Value.int .i64 z))) (by omega))) rfl (by repeat' (first | exact rfl | exact Iff.rfl | exact trivial | exact (fun _ _ => rfl) | exact (fun _ h => absurd h (Nat.not_lt_zero _)) | refine ⟨?_, ?_⟩ | exact Iff.rfl | exact congrArg (fun z => V.SV.one (V.At.val (Value.int .i64 z))) (by omega))) (by repeat' (first | exact rfl | exact Iff.rfl | exact trivial | exact (fun _ _ => rfl) | exact (fun _ h => absurd h (Nat.not_lt_zero _)) | refine ⟨?_, ?_⟩ | exact Iff.rfl | exact congrArg (fun z => V.SV.one (V.At.val (Value.int .i64 z))) (by omega))) (by repeat' (first | exact rfl | exact Iff.rfl | exact trivial | exact (fun _ _ => rfl) | exact (fun _ h => absurd h (Nat.not_lt_zero _)) | refine ⟨?_, ?_⟩ | exact Iff.rfl | exact congrArg (fun z => V.SV.one (V.At.val (Value.int .i64 z))) (by omega))) <;> omega
namespace M
theorem po_at {a b c : Int} (ha : 0 ≤ a) (hb : 0 ≤ b) (hc : 1 ≤ c) : (poQ a b c = -1 ∧ 2305843009213693952 < a * b / c) ∨ (poQ a b c = a * b / c ∧ poR a b c = a * b % c ∧ 0 ≤ a * b / c ∧ a * b / c ≤ 2305843009213693952 ∧ 0 ≤ a * b % c ∧ a * b % c < c) := by
  have h1 : 0 ≤ a * b / c := Int.ediv_nonneg (Int.mul_nonneg ha hb) (by omega)
  have h2 := r_bd (x := a * b) hc
  unfold poQ poR
  by_cases h : 2305843009213693952 < a * b / c
  · left; rw [if_pos h]; exact ⟨rfl, h⟩
  · right; rw [if_neg h, if_neg h]; exact ⟨rfl, rfl, h1, by omega, h2.1, h2.2⟩
theorem po_key (a b c : Int) (hb : 0 ≤ b) (hc : 1 ≤ c) : (0 ≤ a → (poQ (1 * a) b c = -1 ∧ 2305843009213693952 < a * b / c) ∨ (poQ (1 * a) b c = a * b / c ∧ poR (1 * a) b c = a * b % c ∧ 0 ≤ a * b / c ∧ a * b / c ≤ 2305843009213693952 ∧ 0 ≤ a * b % c ∧ a * b % c < c)) ∧
    (a < 0 → (poQ (-1 * a) b c = -1 ∧ a * b / c < -2305843009213693952) ∨ ((0 ≤ poQ (-1 * a) b c ∧ poQ (-1 * a) b c ≤ 2305843009213693952) ∧ ((poR (-1 * a) b c = 0 ∧ a * b / c = -poQ (-1 * a) b c ∧ a * b % c = 0) ∨ (0 < poR (-1 * a) b c ∧ a * b / c = -poQ (-1 * a) b c - 1 ∧ a * b % c = c - poR (-1 * a) b c ∧ poR (-1 * a) b c < c)))) := by
  refine ⟨fun ha => ?_, fun ha => ?_⟩
  · rw [Int.one_mul]; exact po_at ha hb hc
  · have e : a * b = -(-1 * a * b) := by grind
    rw [e]
    generalize hx : -1 * a = x
    have h1 := po_at (a := x) (by omega) hb hc
    rcases neg_part (x := x * b) hc with ⟨n0, n1, n2⟩ | ⟨n0, n1, n2⟩ <;> rw [n1, n2] <;> omega
end M
set_option maxHeartbeats 1000000 in
theorem v_rpart (a b c : Int) : V.Fn Try.prog 42 [] [.one (.val (.int .i64 a)), .one (.val (.int .i64 b)), .one (.val (.int .i64 c))] (.tuple #[.int .i64 (M.prQ a b c), .int .i64 (M.prR a b c), .int .i64 (M.prE a b c)]) := by
  have ka := @M.chk0 a
  have key : 0 ≤ b ∧ 1 ≤ c → _ := fun h => M.po_key a b c h.1 h.2
  refine V.Fn.mk_ V.Tok V.mixed Try.func42 rfl Try.ntmps42 (by kernel_rfl) rfl rfl ?_
  repeat' ((conv => whnf); first | refine V.NCond.mk ?_ | refine V.NIf.not_ ?_ | refine V.NIf.dec_ ?_ | refine V.NIf.no (by omega) ?_ | refine V.NIf.yes (by omega) ?_ | refine V.NIf.mk (fun _ => ?_) (fun _ => ?_) | refine V.NWrap.ok (by omega) (by omega) ?_ | refine V.NWrap.u64 (by omega) (by omega) ?_ | refine V.NLt.mk (by omega) ?_ | refine V.NBoth.mk ?_ ?_ | refine V.NTF.yes (by omega) ?_ | refine V.NTF.no (by omega) ?_ | refine V.NTF.dec ?_ | refine V.NDraw.q (by exact rfl) (by kernel_rfl) ?_ | refine V.NApp.one (by first | omega | (simp; omega)) (by first | omega | (simp; omega)) ?_ | (first | refine V.Fn.k0 (v_acheck _) rfl ?_ | refine V.Fn.q0 (v_acheck _) rfl ?_ | refine V.Fn.a0 (v_acheck _) rfl ?_) | (first | refine V.Fn.k0 (v_rbetween _ _ _) rfl ?_ | refine V.Fn.q0 (v_rbetween _ _ _) rfl ?_ | refine V.Fn.a0 (v_rbetween _ _ _) rfl ?_) | (first | refine V.Fn.k0 (v_partOf (1 * a) b c (by omega) (by omega) (by omega)) rfl ?_ | refine V.Fn.q0 (v_partOf (1 * a) b c (by omega) (by omega) (by omega)) rfl ?_ | refine V.Fn.a0 (v_partOf (1 * a) b c (by omega) (by omega) (by omega)) rfl ?_) | (first | refine V.Fn.k0 (v_partOf (-1 * a) b c (by omega) (by omega) (by omega)) rfl ?_ | refine V.Fn.q0 (v_partOf (-1 * a) b c (by omega) (by omega) (by omega)) rfl ?_ | refine V.Fn.a0 (v_partOf (-1 * a) b c (by omega) (by omega) (by omega)) rfl ?_) | (refine V.NDraw.any (by kernel_rfl) ?_) | fail)
  all_goals (conv => whnf)
  all_goals refine V.fin3 ?_
  all_goals simp only [M.chk0] at *
  all_goals simp only [M.prQ, M.prR, M.prE, M.POk, M.Amt]
  all_goals clear ka
  all_goals refine ⟨?_, ?_, ?_⟩ <;> (repeat' split) <;> omega
end Go.Proofs.Ytdeekpcfmgfmcaa

/- What the functions on prices answer. -/
namespace Go.Proofs.Ytdeekpcfmgfmcaa
open Go Go.RowKit V
set_option maxRecDepth 100000
set_option linter.unusedVariables false
theorem v_pcheck (p : Int) : V.Fn Try.prog 51 [] [.one (.val (.int .i64 p))] (.int .i64 (P.chk p)) := by
  refine V.Fn.mk_ V.Tok V.mixed Try.func51 rfl Try.ntmps51 (by kernel_rfl) rfl rfl ?_
  repeat' ((conv => whnf); first | refine V.NCond.mk ?_ | refine V.NIf.not_ ?_ | refine V.NIf.dec_ ?_ | refine V.NIf.no (by omega) ?_ | refine V.NIf.yes (by omega) ?_ | refine V.NIf.mk (fun _ => ?_) (fun _ => ?_) | refine V.NWrap.ok (by omega) (by omega) ?_ | refine V.NWrap.u64 (by omega) (by omega) ?_ | refine V.NLt.mk (by omega) ?_ | refine V.NBoth.mk ?_ ?_ | refine V.NTF.yes (by omega) ?_ | refine V.NTF.no (by omega) ?_ | refine V.NTF.dec ?_ | refine V.NDraw.q (by exact rfl) (by kernel_rfl) ?_ | refine V.NApp.one (by first | omega | (simp; omega)) (by first | omega | (simp; omega)) ?_ | (refine V.NDraw.any (by kernel_rfl) ?_) | fail)
  all_goals ((conv => whnf); refine congrArg _ ?_; unfold P.chk P.Ok; (repeat' split) <;> first | rfl | omega | (exfalso; omega) | (simp_all; done) | (simp_all; omega))
theorem v_rpcheck (p : Int) : V.Fn Try.prog 41 [] [.one (.val (.int .i64 p))] (.int .i64 (P.chk p)) := by
  refine V.Fn.mk_ V.Tok V.mixed Try.func41 rfl Try.ntmps41 (by kernel_rfl) rfl rfl ?_
  repeat' ((conv => whnf); first | refine V.NCond.mk ?_ | refine V.NIf.not_ ?_ | refine V.NIf.dec_ ?_ | refine V.NIf.no (by omega) ?_ | refine V.NIf.yes (by omega) ?_ | refine V.NIf.mk (fun _ => ?_) (fun _ => ?_) | refine V.NWrap.ok (by omega) (by omega) ?_ | refine V.NWrap.u64 (by omega) (by omega) ?_ | refine V.NLt.mk (by omega) ?_ | refine V.NBoth.mk ?_ ?_ | refine V.NTF.yes (by omega) ?_ | refine V.NTF.no (by omega) ?_ | refine V.NTF.dec ?_ | refine V.NDraw.q (by exact rfl) (by kernel_rfl) ?_ | refine V.NApp.one (by first | omega | (simp; omega)) (by first | omega | (simp; omega)) ?_ | (first | refine V.Fn.k0 (v_rbetween _ _ _) rfl ?_ | refine V.Fn.q0 (v_rbetween _ _ _) rfl ?_ | refine V.Fn.a0 (v_rbetween _ _ _) rfl ?_) | (refine V.NDraw.any (by kernel_rfl) ?_) | fail)
  all_goals ((conv => whnf); refine congrArg _ ?_; unfold P.chk P.Ok; (repeat' split) <;> first | rfl | omega | (exfalso; omega) | (simp_all; done) | (simp_all; omega))
theorem v_cost (u p : Int) : V.Fn Try.prog 27 [] [.one (.val (.int .i64 u)), .one (.val (.int .i64 p))] (.tuple #[.int .i64 (M.prQ u p 10000), .int .i64 (M.prR u p 10000), .int .i64 (M.prE u p 10000)]) := by
  have h1 : ¬ M.chk u = 0 → M.prE u p 10000 = 3 ∧ M.prQ u p 10000 = 0 ∧ M.prR u p 10000 = 0 ∧ M.chk u = 3 := fun h => by
    by_cases q : M.Amt u
    · exact absurd (M.chk_yes q) h
    · obtain ⟨a, b, c⟩ := M.pr_1 (a := u) (b := p) (c := 10000) (fun k => q k.1)
      exact ⟨a, b, c, M.chk_no q⟩
  have h2 : ¬ P.chk p = 0 → M.prE u p 10000 = 3 ∧ M.prQ u p 10000 = 0 ∧ M.prR u p 10000 = 0 ∧ P.chk p = 3 := fun h => by
    by_cases q : P.Ok p
    · exact absurd (P.chk_yes q) h
    · obtain ⟨a, b, c⟩ := M.pr_1 (a := u) (b := p) (c := 10000) (fun k => q k.2.1)
      exact ⟨a, b, c, P.chk_no q⟩
  refine V.Fn.mk_ V.Tok V.mixed Try.func27 rfl Try.ntmps27 (by kernel_rfl) rfl rfl ?_
  repeat' ((conv => whnf); first | refine V.NCond.mk ?_ | refine V.NIf.not_ ?_ | refine V.NIf.dec_ ?_ | refine V.NIf.no (by omega) ?_ | refine V.NIf.yes (by omega) ?_ | refine V.NIf.mk (fun _ => ?_) (fun _ => ?_) | refine V.NWrap.ok (by omega) (by omega) ?_ | refine V.NWrap.u64 (by omega) (by omega) ?_ | refine V.NLt.mk (by omega) ?_ | refine V.NBoth.mk ?_ ?_ | refine V.NTF.yes (by omega) ?_ | refine V.NTF.no (by omega) ?_ | refine V.NTF.dec ?_ | refine V.NDraw.q (by exact rfl) (by kernel_rfl) ?_ | refine V.NApp.one (by first | omega | (simp; omega)) (by first | omega | (simp; omega)) ?_ | (first | refine V.Fn.k0 (v_check _) rfl ?_ | refine V.Fn.q0 (v_check _) rfl ?_ | refine V.Fn.a0 (v_check _) rfl ?_) | (first | refine V.Fn.k0 (v_pcheck _) rfl ?_ | refine V.Fn.q0 (v_pcheck _) rfl ?_ | refine V.Fn.a0 (v_pcheck _) rfl ?_) | (first | refine V.Fn.k0 (v_part _ _ _) rfl ?_ | refine V.Fn.q0 (v_part _ _ _) rfl ?_ | refine V.Fn.a0 (v_part _ _ _) rfl ?_) | (refine V.NDraw.any (by kernel_rfl) ?_) | fail)
  all_goals (conv => whnf)
  · exact (by repeat' (first | exact rfl | exact Iff.rfl | exact trivial | exact (fun _ _ => rfl) | exact (fun _ h => absurd h (Nat.not_lt_zero _)) | refine ⟨?_, ?_⟩ | exact Iff.rfl | exact congrArg (fun z => V.SV.one (V.At.val (Value.int .i64 z))) (by omega)))
  · obtain ⟨a, b, c, d⟩ := h2 (by assumption)
    rw [a, b, c, d]; exact (by repeat' (first | exact rfl | exact Iff.rfl | exact trivial | exact (fun _ _ => rfl) | exact (fun _ h => absurd h (Nat.not_lt_zero _)) | refine ⟨?_, ?_⟩ | exact Iff.rfl | exact congrArg (fun z => V.SV.one (V.At.val (Value.int .i64 z))) (by omega)))
  · obtain ⟨a, b, c, d⟩ := h1 (by assumption)
    rw [a, b, c, d]; exact (by repeat' (first | exact rfl | exact Iff.rfl | exact trivial | exact (fun _ _ => rfl) | exact (fun _ h => absurd h (Nat.not_lt_zero _)) | refine ⟨?_, ?_⟩ | exact Iff.rfl | exact congrArg (fun z => V.SV.one (V.At.val (Value.int .i64 z))) (by omega)))
theorem v_prices (l : List Int) (hn : l.length ≤ 9223372036854775807) : V.Fn Try.prog 14 [.arr 1 l.length (ga e1 l)] [.one (.ref 0)] (.int .i64 (P.chks l)) := by
  refine V.Fn.mk_ V.Tok V.mixed Try.func14 rfl Try.ntmps14 (by kernel_rfl) rfl rfl ?_
  repeat' ((conv => whnf); first | refine V.NCond.mk ?_ | refine V.NIf.not_ ?_ | refine V.NIf.dec_ ?_ | refine V.NIf.no (by omega) ?_ | refine V.NIf.yes (by omega) ?_ | refine V.NIf.mk (fun _ => ?_) (fun _ => ?_) | refine V.NWrap.ok (by omega) (by omega) ?_ | refine V.NWrap.u64 (by omega) (by omega) ?_ | refine V.NLt.mk (by omega) ?_ | refine V.NBoth.mk ?_ ?_ | refine V.NTF.yes (by omega) ?_ | refine V.NTF.no (by omega) ?_ | refine V.NTF.dec ?_ | refine V.NDraw.q (by exact rfl) (by kernel_rfl) ?_ | refine V.NApp.one (by first | omega | (simp; omega)) (by first | omega | (simp; omega)) ?_ | (refine V.NDraw.any (by kernel_rfl) ?_) | fail)
  all_goals (conv => whnf)
  rotate_left
  · exact V.fin1 (if_pos (by omega))
  refine V.NLoop.auto (fun (k : Nat) => [(11, .one (.val (.int .i64 k)))]) (fun (k : Nat) => []) [] [] (fun (k : Nat) => l.length - k) (fun (k : Nat) => k ≤ l.length ∧ ∀ p ∈ l.take k, P.Ok p) 0 ⟨Nat.zero_le _, by simp⟩ (by repeat' (first | exact rfl | exact Iff.rfl | exact trivial | exact (fun _ _ => rfl) | exact (fun _ h => absurd h (Nat.not_lt_zero _)) | refine ⟨?_, ?_⟩ | exact Iff.rfl | exact congrArg (fun z => V.SV.one (V.At.val (Value.int .i64 z))) (by omega))) (by repeat' (first | exact rfl | exact Iff.rfl | exact trivial | exact (fun _ _ => rfl) | exact (fun _ h => absurd h (Nat.not_lt_zero _)) | refine ⟨?_, ?_⟩ | exact Iff.rfl | exact congrArg (fun z => V.SV.one (V.At.val (Value.int .i64 z))) (by omega))) (fun _ => ⟨rfl, rfl⟩) ?_; (conv => whnf); refine ⟨⟨rfl, rfl⟩, ?_⟩
  rintro k ⟨hk, hJ⟩
  by_cases hlt : k < l.length
  · have hy := @P.chk_yes (l.getD k default)
    have hn := @P.chk_no (l.getD k default)
    by_cases ok : P.Ok (l.getD k default)
    · have e := hy ok
      repeat' ((conv => whnf); first | refine V.NCond.mk ?_ | refine V.NIf.not_ ?_ | refine V.NIf.dec_ ?_ | refine V.NIf.no (by omega) ?_ | refine V.NIf.yes (by omega) ?_ | refine V.NIf.mk (fun _ => ?_) (fun _ => ?_) | refine V.NWrap.ok (by omega) (by omega) ?_ | refine V.NWrap.u64 (by omega) (by omega) ?_ | refine V.NLt.mk (by omega) ?_ | refine V.NBoth.mk ?_ ?_ | refine V.NTF.yes (by omega) ?_ | refine V.NTF.no (by omega) ?_ | refine V.NTF.dec ?_ | refine V.NDraw.q (by exact rfl) (by kernel_rfl) ?_ | refine V.NApp.one (by first | omega | (simp; omega)) (by first | omega | (simp; omega)) ?_ | (refine NIdx.mk ⟨k, rfl, by omega, ?_⟩) | (first | refine V.Fn.k0 (v_pcheck _) rfl ?_ | refine V.Fn.q0 (v_pcheck _) rfl ?_ | refine V.Fn.a0 (v_pcheck _) rfl ?_) | (refine V.NDraw.any (by kernel_rfl) ?_) | fail)
      all_goals (conv => whnf)
      all_goals exact V.NBack.at_ (k + 1) [] ⟨by omega, all_snoc hlt hJ ok⟩ (by omega) (by repeat' (first | exact rfl | exact Iff.rfl | exact trivial | exact (fun _ _ => rfl) | exact (fun _ h => absurd h (Nat.not_lt_zero _)) | refine ⟨?_, ?_⟩ | exact Iff.rfl | exact congrArg (fun z => V.SV.one (V.At.val (Value.int .i64 z))) (by omega))) rfl (by repeat' (first | exact rfl | exact Iff.rfl | exact trivial | exact (fun _ _ => rfl) | exact (fun _ h => absurd h (Nat.not_lt_zero _)) | refine ⟨?_, ?_⟩ | exact Iff.rfl | exact congrArg (fun z => V.SV.one (V.At.val (Value.int .i64 z))) (by omega))) (by repeat' (first | exact rfl | exact Iff.rfl | exact trivial | exact (fun _ _ => rfl) | exact (fun _ h => absurd h (Nat.not_lt_zero _)) | refine ⟨?_, ?_⟩ | exact Iff.rfl | exact congrArg (fun z => V.SV.one (V.At.val (Value.int .i64 z))) (by omega))) (by repeat' (first | exact rfl | exact Iff.rfl | exact trivial | exact (fun _ _ => rfl) | exact (fun _ h => absurd h (Nat.not_lt_zero _)) | refine ⟨?_, ?_⟩ | exact Iff.rfl | exact congrArg (fun z => V.SV.one (V.At.val (Value.int .i64 z))) (by omega)))
    · have e := hn ok
      have e2 := P.chks_bad (by omega) (getD_mem hlt) ok
      repeat' ((conv => whnf); first | refine V.NCond.mk ?_ | refine V.NIf.not_ ?_ | refine V.NIf.dec_ ?_ | refine V.NIf.no (by omega) ?_ | refine V.NIf.yes (by omega) ?_ | refine V.NIf.mk (fun _ => ?_) (fun _ => ?_) | refine V.NWrap.ok (by omega) (by omega) ?_ | refine V.NWrap.u64 (by omega) (by omega) ?_ | refine V.NLt.mk (by omega) ?_ | refine V.NBoth.mk ?_ ?_ | refine V.NTF.yes (by omega) ?_ | refine V.NTF.no (by omega) ?_ | refine V.NTF.dec ?_ | refine V.NDraw.q (by exact rfl) (by kernel_rfl) ?_ | refine V.NApp.one (by first | omega | (simp; omega)) (by first | omega | (simp; omega)) ?_ | (refine NIdx.mk ⟨k, rfl, by omega, ?_⟩) | (first | refine V.Fn.k0 (v_pcheck _) rfl ?_ | refine V.Fn.q0 (v_pcheck _) rfl ?_ | refine V.Fn.a0 (v_pcheck _) rfl ?_) | (refine V.NDraw.any (by kernel_rfl) ?_) | fail)
      all_goals (conv => whnf)
      all_goals exact V.fin1 (by omega)
  · have e := P.chks_of (l := l) (by omega) (all_whole (by omega) hJ)
    repeat' ((conv => whnf); first | refine V.NCond.mk ?_ | refine V.NIf.not_ ?_ | refine V.NIf.dec_ ?_ | refine V.NIf.no (by omega) ?_ | refine V.NIf.yes (by omega) ?_ | refine V.NIf.mk (fun _ => ?_) (fun _ => ?_) | refine V.NWrap.ok (by omega) (by omega) ?_ | refine V.NWrap.u64 (by omega) (by omega) ?_ | refine V.NLt.mk (by omega) ?_ | refine V.NBoth.mk ?_ ?_ | refine V.NTF.yes (by omega) ?_ | refine V.NTF.no (by omega) ?_ | refine V.NTF.dec ?_ | refine V.NDraw.q (by exact rfl) (by kernel_rfl) ?_ | refine V.NApp.one (by first | omega | (simp; omega)) (by first | omega | (simp; omega)) ?_ | (refine V.NDraw.any (by kernel_rfl) ?_) | fail)
    all_goals (conv => whnf)
    all_goals exact V.fin1 (by omega)
theorem v_rprices (l : List Int) (hn : l.length ≤ 9223372036854775807) : V.Fn Try.prog 15 [.arr 1 l.length (ga e1 l)] [.one (.ref 0)] (.int .i64 (P.chks l)) := by
  refine V.Fn.mk_ V.Tok V.mixed Try.func15 rfl Try.ntmps15 (by kernel_rfl) rfl rfl ?_
  repeat' ((conv => whnf); first | refine V.NCond.mk ?_ | refine V.NIf.not_ ?_ | refine V.NIf.dec_ ?_ | refine V.NIf.no (by omega) ?_ | refine V.NIf.yes (by omega) ?_ | refine V.NIf.mk (fun _ => ?_) (fun _ => ?_) | refine V.NWrap.ok (by omega) (by omega) ?_ | refine V.NWrap.u64 (by omega) (by omega) ?_ | refine V.NLt.mk (by omega) ?_ | refine V.NBoth.mk ?_ ?_ | refine V.NTF.yes (by omega) ?_ | refine V.NTF.no (by omega) ?_ | refine V.NTF.dec ?_ | refine V.NDraw.q (by exact rfl) (by kernel_rfl) ?_ | refine V.NApp.one (by first | omega | (simp; omega)) (by first | omega | (simp; omega)) ?_ | (refine V.NDraw.any (by kernel_rfl) ?_) | fail)
  all_goals (conv => whnf)
  rotate_left
  · exact V.fin1 (if_pos (by omega))
  refine V.NLoop.auto (fun (k : Nat) => [(3, .one (.val (.int .i64 k)))]) (fun (k : Nat) => []) [] [] (fun (k : Nat) => l.length - k) (fun (k : Nat) => k ≤ l.length ∧ ∀ p ∈ l.take k, P.Ok p) 0 ⟨Nat.zero_le _, by simp⟩ (by repeat' (first | exact rfl | exact Iff.rfl | exact trivial | exact (fun _ _ => rfl) | exact (fun _ h => absurd h (Nat.not_lt_zero _)) | refine ⟨?_, ?_⟩ | exact Iff.rfl | exact congrArg (fun z => V.SV.one (V.At.val (Value.int .i64 z))) (by omega))) (by repeat' (first | exact rfl | exact Iff.rfl | exact trivial | exact (fun _ _ => rfl) | exact (fun _ h => absurd h (Nat.not_lt_zero _)) | refine ⟨?_, ?_⟩ | exact Iff.rfl | exact congrArg (fun z => V.SV.one (V.At.val (Value.int .i64 z))) (by omega))) (fun _ => ⟨rfl, rfl⟩) ?_; (conv => whnf); refine ⟨⟨rfl, rfl⟩, ?_⟩
  rintro k ⟨hk, hJ⟩
  by_cases hlt : k < l.length
  · have hy := @P.chk_yes (l.getD k default)
    have hn := @P.chk_no (l.getD k default)
    by_cases ok : P.Ok (l.getD k default)
    · have e := hy ok
      repeat' ((conv => whnf); first | refine V.NCond.mk ?_ | refine V.NIf.not_ ?_ | refine V.NIf.dec_ ?_ | refine V.NIf.no (by omega) ?_ | refine V.NIf.yes (by omega) ?_ | refine V.NIf.mk (fun _ => ?_) (fun _ => ?_) | refine V.NWrap.ok (by omega) (by omega) ?_ | refine V.NWrap.u64 (by omega) (by omega) ?_ | refine V.NLt.mk (by omega) ?_ | refine V.NBoth.mk ?_ ?_ | refine V.NTF.yes (by omega) ?_ | refine V.NTF.no (by omega) ?_ | refine V.NTF.dec ?_ | refine V.NDraw.q (by exact rfl) (by kernel_rfl) ?_ | refine V.NApp.one (by first | omega | (simp; omega)) (by first | omega | (simp; omega)) ?_ | (refine NIdx.mk ⟨k, rfl, by omega, ?_⟩) | (first | refine V.Fn.k0 (v_rpcheck _) rfl ?_ | refine V.Fn.q0 (v_rpcheck _) rfl ?_ | refine V.Fn.a0 (v_rpcheck _) rfl ?_) | (refine V.NDraw.any (by kernel_rfl) ?_) | fail)
      all_goals (conv => whnf)
      all_goals exact V.NBack.at_ (k + 1) [] ⟨by omega, all_snoc hlt hJ ok⟩ (by omega) (by repeat' (first | exact rfl | exact Iff.rfl | exact trivial | exact (fun _ _ => rfl) | exact (fun _ h => absurd h (Nat.not_lt_zero _)) | refine ⟨?_, ?_⟩ | exact Iff.rfl | exact congrArg (fun z => V.SV.one (V.At.val (Value.int .i64 z))) (by omega))) rfl (by repeat' (first | exact rfl | exact Iff.rfl | exact trivial | exact (fun _ _ => rfl) | exact (fun _ h => absurd h (Nat.not_lt_zero _)) | refine ⟨?_, ?_⟩ | exact Iff.rfl | exact congrArg (fun z => V.SV.one (V.At.val (Value.int .i64 z))) (by omega))) (by repeat' (first | exact rfl | exact Iff.rfl | exact trivial | exact (fun _ _ => rfl) | exact (fun _ h => absurd h (Nat.not_lt_zero _)) | refine ⟨?_, ?_⟩ | exact Iff.rfl | exact congrArg (fun z => V.SV.one (V.At.val (Value.int .i64 z))) (by omega))) (by repeat' (first | exact rfl | exact Iff.rfl | exact trivial | exact (fun _ _ => rfl) | exact (fun _ h => absurd h (Nat.not_lt_zero _)) | refine ⟨?_, ?_⟩ | exact Iff.rfl | exact congrArg (fun z => V.SV.one (V.At.val (Value.int .i64 z))) (by omega)))
    · have e := hn ok
      have e2 := P.chks_bad (by omega) (getD_mem hlt) ok
      repeat' ((conv => whnf); first | refine V.NCond.mk ?_ | refine V.NIf.not_ ?_ | refine V.NIf.dec_ ?_ | refine V.NIf.no (by omega) ?_ | refine V.NIf.yes (by omega) ?_ | refine V.NIf.mk (fun _ => ?_) (fun _ => ?_) | refine V.NWrap.ok (by omega) (by omega) ?_ | refine V.NWrap.u64 (by omega) (by omega) ?_ | refine V.NLt.mk (by omega) ?_ | refine V.NBoth.mk ?_ ?_ | refine V.NTF.yes (by omega) ?_ | refine V.NTF.no (by omega) ?_ | refine V.NTF.dec ?_ | refine V.NDraw.q (by exact rfl) (by kernel_rfl) ?_ | refine V.NApp.one (by first | omega | (simp; omega)) (by first | omega | (simp; omega)) ?_ | (refine NIdx.mk ⟨k, rfl, by omega, ?_⟩) | (first | refine V.Fn.k0 (v_rpcheck _) rfl ?_ | refine V.Fn.q0 (v_rpcheck _) rfl ?_ | refine V.Fn.a0 (v_rpcheck _) rfl ?_) | (refine V.NDraw.any (by kernel_rfl) ?_) | fail)
      all_goals (conv => whnf)
      all_goals exact V.fin1 (by omega)
  · have e := P.chks_of (l := l) (by omega) (all_whole (by omega) hJ)
    repeat' ((conv => whnf); first | refine V.NCond.mk ?_ | refine V.NIf.not_ ?_ | refine V.NIf.dec_ ?_ | refine V.NIf.no (by omega) ?_ | refine V.NIf.yes (by omega) ?_ | refine V.NIf.mk (fun _ => ?_) (fun _ => ?_) | refine V.NWrap.ok (by omega) (by omega) ?_ | refine V.NWrap.u64 (by omega) (by omega) ?_ | refine V.NLt.mk (by omega) ?_ | refine V.NBoth.mk ?_ ?_ | refine V.NTF.yes (by omega) ?_ | refine V.NTF.no (by omega) ?_ | refine V.NTF.dec ?_ | refine V.NDraw.q (by exact rfl) (by kernel_rfl) ?_ | refine V.NApp.one (by first | omega | (simp; omega)) (by first | omega | (simp; omega)) ?_ | (refine V.NDraw.any (by kernel_rfl) ?_) | fail)
    all_goals (conv => whnf)
    all_goals exact V.fin1 (by omega)
end Go.Proofs.Ytdeekpcfmgfmcaa

/- Ranges over functions, walked by verification conditions: the iterator is walked in place, and the loop's body where the iterator calls yield. -/
namespace Go.Proofs.Ytdeekpcfmgfmcaa.V
open Go Go.RowKit
set_option linter.unusedVariables false
set_option linter.unusedSimpArgs false

def lpK (obs : Obs) (i : Nat) (K : Lc → Env → Lst → Prop) : Prop := fndK obs i fun o => match o with
  | .lp L env st => K L env st
  | _ => False
theorem lpK_spec {obs : Obs} {i : Nat} {K : Lc → Env → Lst → Prop} (h : lpK obs i K) : ∃ L env st, fnd obs i = some (.lp L env st) ∧ K L env st := by
  obtain ⟨o, ho, h⟩ := fndK_spec h
  cases o <;> first | exact h.elim | exact ⟨_, _, _, ho, h⟩
/-- the parameters of a round -/
def zipK (sz : Nat) : List Nat → List SV → Env → (Env → Prop) → Prop
  | [], [], env, K => K env
  | p :: ps, v :: vs, env, K => match Nat.blt p sz with
    | true => zipK sz ps vs ((p, v) :: env) K
    | false => False
  | _, _, _, _ => False
theorem zip_spec {sz : Nat} {ρ : Rho} : ∀ {ps : List Nat} {vs : List SV} {xs : List Value} {env : Env} {tmps : Array Value} {K : Env → Prop}, EnvR sz ρ env { tmps := tmps, defers := [] } → Svs ρ vs xs → zipK sz ps vs env K →
    ∃ env', K env' ∧ xs.length = ps.length ∧ EnvR sz ρ env' { tmps := (ps.zip xs).foldl (fun t (p : Nat × Value) => t.setIfInBounds p.1 p.2) tmps, defers := [] }
  | [], [], xs, env, tmps, K, hE, hs, h => by
    have e : xs = [] := hs
    subst e
    exact ⟨env, h, rfl, hE⟩
  | p :: ps, v :: vs, xs, env, tmps, K, hE, ⟨x, r, e, hv, hr⟩, h => by
    subst e
    unfold zipK at h
    cases hb : Nat.blt p sz <;> simp only [hb] at h
    have hd : p < sz := by simpa [Nat.blt_eq] using hb
    have hsz : tmps.size = sz := hE.size
    have hE' : EnvR sz ρ ((p, v) :: env) { tmps := tmps.setIfInBounds p x, defers := [] } := by
      refine ⟨by simp [hsz], fun t u hu => ?_⟩
      rcases fnd_cons hu with ⟨rfl, rfl⟩ | ⟨hn, hu⟩
      · exact ⟨x, by simp [hsz, hd], SV.is_of1 hv⟩
      · obtain ⟨y, hy, h2⟩ := hE.env t u hu
        exact ⟨y, by rw [Array.getElem?_setIfInBounds_ne hn]; exact hy, h2⟩
    obtain ⟨env', hK, hl, hE2⟩ := zip_spec hE' hr h
    exact ⟨env', hK, by simp [hl], hE2⟩
  | [], _ :: _, _, _, _, _, _, _, h => h.elim
  | _ :: _, [], _, _, _, _, _, _, h => h.elim
/-- what becomes of the record at a round's end -/
def rndK (i : Nat) (K : SV → Obs → Nat → Prop) : Kon := fun e _ obs nx => lpK obs i fun L env st => match st with
  | .busy => match e with
    | .nrm => K (.one (.tf true)) ((i, .lp L env .ready) :: obs) nx
    | .exit id => K (.one (.tf false)) ((i, .lp L env (.done (.exit id))) :: obs) nx
    | .ret => K (.one (.tf false)) ((i, .lp L env (.done .ret)) :: obs) nx
  | _ => False
/-- what is done when the iterator has returned -/
def endK (i : Nat) (env : Env) (K : Kon) (obs : Obs) (nx : Nat) : Prop := lpK obs i fun _ _ st => match st with
  | .ready => K .nrm env ((i, .gone) :: obs) nx
  | .done (.exit id) => K (.exit id) env ((i, .gone) :: obs) nx
  | .done .ret => K .ret env ((i, .gone) :: obs) nx
  | _ => False
theorem put_below {B l : Nat} {w : World} (h : B ≤ l) (o : Obj) : Below B w (w.putObj l o) :=
  ⟨rfl, rfl, rfl, by rw [World.putObj_size]; exact Nat.le_refl _, fun k hk => World.putObj_heap_other (by omega)⟩
theorem put_oth {l : Nat} {w : World} {r : Loop} (h : w.heap[l]? = some (.loop r)) (o : Obj) : Oth w (w.putObj l o) :=
  oth_one (b := l) (fun k hk => World.putObj_heap_other hk) fun D e => by rw [h] at e; cases e
theorem Cls.lpset {B nx : Nat} {ρ : Rho} {obs : Obs} {w : World} {i l : Nat} {L : Lc} {env : Env} {st : Lst} (hC : Cls B ρ obs nx w) (ho : fnd obs i = some (.lp L env st)) (hl : ρ i = some (.func (.yield l) #[] #[])) :
    ∃ fn tmps D, B ≤ l ∧ w.heap[l]? = some (.loop { state := st.state, pending := st.pend, fn := fn, tmps := tmps, params := L.ps.toArray, assign := L.assign, body := L.body, defers := D }) ∧
      ∀ st' : Lst, Cls B ρ ((i, .lp L env st') :: obs) nx (w.putObj l (.loop { state := st'.state, pending := st'.pend, fn := fn, tmps := tmps, params := L.ps.toArray, assign := L.assign, body := L.body, defers := D })) := by
  obtain ⟨l', fn, tmps, D, e, hB, hh, hE⟩ := hC.sat i _ ho
  rw [hl] at e
  have e : l = l' := by injection e with e; injection e with e; injection e
  subst e
  have hf : ∀ st' : Lst, foot ρ i (.lp L env st') = some l := fun st' => by simp [foot, hl]
  exact ⟨fn, tmps, D, hB, hh, fun st' => hC.set ho rfl (hf st) (.inl (hf st')) rfl World.putObj_size (fun k hk => World.putObj_heap_other hk)
    ⟨l, fn, tmps, D, hl, hB, World.putObj_heap_same (Array.getElem?_eq_some_iff.1 hh).1, hE⟩⟩
theorem Cls.kill {B nx : Nat} {ρ : Rho} {obs : Obs} {w w' : World} {i b : Nat} {o : Ob} (h : Cls B ρ obs nx w) (ho : fnd obs i = some o) (hm : o.mut = true) (hf : foot ρ i o = some b) (hsz : w'.heap.size = w.heap.size) (hk : ∀ k, k ≠ b → w'.heap[k]? = w.heap[k]?) : Cls B ρ ((i, .gone) :: obs) nx w' := by
  refine ⟨by rw [hsz]; exact h.le, fun j u hu => ?_, fun j k o1 o2 c h1 h2 hne hmu hf1 => ?_, h.new, Apx.cons (o' := .gone) h.apx (fun _ _ _ _ => rfl) fun _ _ _ _ _ _ q => by cases q⟩
  · rcases fnd_cons hu with ⟨rfl, rfl⟩ | ⟨hn, hu⟩
    · trivial
    · exact (h.sat j u hu).keep (by omega) (fun c hc => hk c (fun e => by subst e; exact h.apart i j o u c ho hu hn hm hf hc)) fun c hc => hk c fun e => by subst e; exact (h.apx j i u o c hu ho hc).1 hf
  · rcases fnd_cons h1 with ⟨rfl, rfl⟩ | ⟨hn1, h1⟩
    · cases hf1
    · rcases fnd_cons h2 with ⟨rfl, rfl⟩ | ⟨hn2, h2⟩
      · intro e; cases e
      · exact h.apart j k o1 o2 c h1 h2 hne hmu hf1

/-- a round -/
theorem NYield.mk_ {P : Program} {T : TT} (hT : TTok P T) (hm : P.follows .mixedOrders = true) {i : Nat} {L : Lc} {env0 : Env} {sz : Nat} {ps : List Nat} {assign body : Code} (hL : L = ⟨sz, ps, assign, body⟩) (hc : (calm assign && calm body) = true)
    {args : List SV} {obs : Obs} {nx : Nat} {K : SV → Obs → Nat → Prop} (ho : fnd obs i = some (.lp L env0 .ready))
    (h : zipK sz ps args env0 fun env => vc P T sz nx assign env obs nx fun e env1 obs1 nx1 => match e with
      | .nrm => lpK obs1 i fun L1 e1 st => match st with
        | .ready => vc P T sz nx body env1 ((i, .lp L1 e1 .busy) :: obs1) nx1 (rndK i K)
        | _ => False
      | _ => False) : NYield P i args obs nx K :=
  ⟨fun B ρ w xs l n hC hs hl => by
    subst hL
    simp only [Bool.and_eq_true] at hc
    obtain ⟨l', fn, tmps, D, e, hB, hh, hE0⟩ := hC.sat i _ ho
    rw [hl] at e
    have e : l = l' := by injection e with e; injection e with e; injection e
    subst e
    obtain ⟨env, h, hlen, hE⟩ := zip_spec hE0 hs h
    have hy := run_yield (P := P) (args := xs.toArray) hh (by simp [hlen])
    have hin : i < nx := by
      rcases Nat.lt_or_ge i nx with q | q
      · exact q
      · rw [hC.new i q] at hl; cases hl
    have ex : ∀ {ρ1 : Rho} {ds : List Deferred} {w1 : World}, Wy B ⟨w, ρ, nx⟩ ρ1 ds w1 → ∀ j y, ρ j = some y → ρ1 j = some y := fun {ρ1 ds w1} hW j y hy => by
      by_cases hj : j < nx
      · exact hW.e j y hj hy
      · rw [hC.new j (by omega)] at hy; cases hy
    refine ⟨fn, _, assign, body, hy, roundIn_of_wpIn trivial ?_⟩
    have et : ((ps.toArray.zip xs.toArray).foldl (fun t (x : Nat × Value) => match x with | (t', a) => t.setIfInBounds t' a) tmps) = (ps.zip xs).foldl (fun t (p : Nat × Value) => t.setIfInBounds p.1 p.2) tmps := by
      rw [← Array.foldl_toList, Array.toList_zip]
    rw [et]
    have h1 := vc_sound (ro := some l) (n := n) (w0 := ⟨w, ρ, nx⟩) hT hm assign (.inr hc.1) h hE hC ⟨Below.refl _ _, Oth.refl _, fun _ _ _ h => h, [], rfl, List.nodup_nil, by simp⟩
    refine wpIn_mono h1 ?_
    intro e a1 w1 q
    cases e with
    | normal =>
      obtain ⟨ρ1, env1, obs1, nx1, hk, hE1, hC1, hW1⟩ := q
      obtain ⟨L1, e1, st, ho1, hk⟩ := lpK_spec hk
      split at hk
      rotate_left
      · exact hk.elim
      have hl1 := ex hW1 _ _ hl
      obtain ⟨fn1, tmps1, D1, _, hh1, hset⟩ := hC1.lpset ho1 hl1
      refine ⟨_, run_beginRound hh1 rfl, ?_⟩
      have h2 := vc_sound (ro := some l) (n := n) (w0 := ⟨w, ρ, nx⟩) hT hm body (.inr hc.2) hk hE1 (hset .busy) (hW1.trans (put_below hB _) (put_oth hh1 _))
      refine wpIn_mono h2 ?_
      intro e a2 w2 q
      have fin : ∀ (e : Ex) (st : Lst) (b : Bool) (K2 : Env → Obs → Nat → Prop), Nx B ⟨w, ρ, nx⟩ sz K2 a2 w2 → (∀ env2 obs2 nx2, K2 env2 obs2 nx2 → lpK obs2 i fun L env s => match s with
            | .busy => K (.one (.tf b)) ((i, .lp L env st) :: obs2) nx2
            | _ => False) → st ≠ .busy → b = st.pend.isNone → st.state = (if st.pend.isNone then .ready else .done) →
          ∃ v w', (Instr.endRound l st.pend).run P w2 = .ok v w' ∧ ∃ u obs' nx' ρ' x, K u obs' nx' ∧ (∀ i y, ρ i = some y → ρ' i = some y) ∧ Ending.returned v = .returned x ∧ u.is ρ' x ∧ Cls B ρ' obs' nx' w' ∧ Below B w w' ∧ Oth w w' := by
        rintro e st b K2 ⟨ρ2, env2, obs2, nx2, hk2, hE2, hC2, hW2⟩ hK hnb hb hst
        obtain ⟨L2, e2, s2, ho2, hk2⟩ := lpK_spec (hK _ _ _ hk2)
        split at hk2
        rotate_left
        · exact hk2.elim
        obtain ⟨fn2, tmps2, D2, _, hh2, hset2⟩ := hC2.lpset ho2 (ex hW2 _ _ hl)
        refine ⟨_, _, run_endRound st.pend hh2, _, _, _, ρ2, _, hk2, ex hW2, rfl, ?_, ?_, hW2.b.trans (put_below hB _), hW2.o.trans (put_oth hh2 _)⟩
        · subst hb; exact rfl
        · have := hset2 st
          rw [hst] at this
          exact this
      cases e with
      | normal => exact fin .nrm .ready true _ q (fun _ _ _ h => h) (fun q => by cases q) rfl rfl
      | ret => exact fin .ret (.done .ret) false _ q (fun _ _ _ h => h) (fun q => by cases q) rfl rfl
      | exit id => exact fin (.exit id) (.done (.exit id)) false _ q (fun _ _ _ h => h) (fun q => by cases q) rfl rfl
      | goto t => exact q.elim
      | panic c => exact q.elim
      | outgrown => exact q.elim
    | exit id => obtain ⟨_, _, _, _, hk, _⟩ := q; exact hk.elim
    | ret => obtain ⟨_, _, _, _, hk, _⟩ := q; exact hk.elim
    | goto t => exact q
    | panic c => exact q
    | outgrown => exact q⟩
structure NIs (a b : Nat) (K : Prop) : Prop where
  e : a = b
  h : K
theorem run_enter {P : Program} {f : FuncId} (hb : hasBody P f = true) (args : Array Value) (w : World) : (callFunc f args).run P w = .ok (.enter f args) w := by
  unfold hasBody at hb
  cases hf : P.funcs[f]? with
  | none => rw [hf] at hb; cases hb
  | some fn =>
    rw [hf] at hb
    simp only [Bool.and_eq_true, Bool.not_eq_true', Option.isSome_iff_ne_none] at hb
    obtain ⟨h1, h2⟩ := hb
    have h3 : fn.body.isNone = false := by cases hq : fn.body with | none => exact absurd hq h1 | some c => rfl
    have h4 : ¬ fn.name = "runtime.NumGoroutine" := by simpa using h2
    simp [callFunc, hf, h4, h3, Sem.run_bind]
    exact fun q => absurd q h1
/-! a row that the rounds change takes a new name -/
def mvA (i j : Nat) : At → At
  | .ref k => match Nat.beq k i with
    | true => .ref j
    | false => .ref k
  | a => a
def mvOb (i j : Nat) : Ob → Ob
  | .box t l => .box t (l.map (mvA i j))
  | o => o
def mvObs (i j : Nat) : Obs → Obs
  | [] => []
  | (k, o) :: r => match Nat.beq k i with
    | true => (k, .gone) :: mvObs i j r
    | false => (k, mvOb i j o) :: mvObs i j r
theorem mvObs_get {i j k : Nat} {o : Ob} : ∀ {obs : Obs}, fnd (mvObs i j obs) k = some o → (k = i ∧ o = .gone) ∨ (k ≠ i ∧ ∃ o', fnd obs k = some o' ∧ o = mvOb i j o')
  | [], h => by cases h
  | (u, x) :: r, h => by
    unfold mvObs at h
    cases hb : Nat.beq u i <;> simp only [hb] at h
    · rcases fnd_cons h with ⟨rfl, rfl⟩ | ⟨hn, h⟩
      · exact .inr ⟨Nat.ne_of_beq_eq_false hb, x, by unfold fnd; rw [Nat.beq_refl], rfl⟩
      · rcases mvObs_get h with q | ⟨q, o', h1, h2⟩
        · exact .inl q
        · refine .inr ⟨q, o', ?_, h2⟩
          unfold fnd
          cases hb2 : Nat.beq u k
          · exact h1
          · exact absurd (Nat.eq_of_beq_eq_true hb2) hn
    · have e := Nat.eq_of_beq_eq_true hb
      subst e
      rcases fnd_cons h with ⟨rfl, rfl⟩ | ⟨hn, h⟩
      · exact .inl ⟨rfl, rfl⟩
      · rcases mvObs_get h with q | ⟨q, o', h1, h2⟩
        · exact .inl q
        · refine .inr ⟨q, o', ?_, h2⟩
          unfold fnd
          cases hb2 : Nat.beq u k
          · exact h1
          · exact absurd (Nat.eq_of_beq_eq_true hb2) hn
theorem Ats.mv {i j : Nat} {ρ : Rho} (hj : ρ j = ρ i) : ∀ {l : List At} {x : List Value}, Ats ρ l x → Ats ρ (l.map (mvA i j)) x
  | [], _, h => h
  | a :: l, _, ⟨u, r, hx, ha, hr⟩ => by
    refine ⟨u, r, hx, ?_, Ats.mv hj hr⟩
    cases a with
    | ref k =>
      show (mvA i j (.ref k)).is ρ u
      simp only [mvA]
      cases hb : Nat.beq k i
      · exact ha
      · have e := Nat.eq_of_beq_eq_true hb
        subst e
        exact ⟨hj.trans ha.1, ha.2⟩
    | _ => exact ha
theorem foot_mv {ρ : Rho} {i j k : Nat} {o : Ob} : foot ρ k (mvOb i j o) = foot ρ k o := by cases o <;> rfl
def mvAsK (i j : Nat) : List At → (List At → Prop) → Prop
  | [], K => K []
  | a :: l, K => match a with
    | .ref k => match Nat.beq k i with
      | true => mvAsK i j l fun r => K (.ref j :: r)
      | false => mvAsK i j l fun r => K (.ref k :: r)
    | a => mvAsK i j l fun r => K (a :: r)
theorem mvAsK_eq {i j : Nat} : ∀ {l : List At} {K : List At → Prop}, mvAsK i j l K → K (l.map (mvA i j))
  | [], _, h => h
  | a :: l, K, h => by
    unfold mvAsK at h
    cases a with
    | ref k =>
      simp only at h
      rw [List.map_cons]
      show K (mvA i j (.ref k) :: _)
      simp only [mvA]
      cases hb : Nat.beq k i <;> simp only [hb] at h ⊢ <;> exact mvAsK_eq (K := fun r => K (_ :: r)) h
    | _ => exact mvAsK_eq (K := fun r => K (_ :: r)) h
def mvK (i j : Nat) : Obs → (Obs → Prop) → Prop
  | [], K => K []
  | (k, o) :: r, K => match Nat.beq k i with
    | true => mvK i j r fun r' => K ((k, .gone) :: r')
    | false => match o with
      | .box t l => mvAsK i j l fun l' => mvK i j r fun r' => K ((k, .box t l') :: r')
      | o => mvK i j r fun r' => K ((k, o) :: r')
theorem mvK_eq {i j : Nat} : ∀ {obs : Obs} {K : Obs → Prop}, mvK i j obs K → K (mvObs i j obs)
  | [], _, h => h
  | (k, o) :: r, K, h => by
    unfold mvK at h
    unfold mvObs
    cases hb : Nat.beq k i <;> simp only [hb] at h ⊢
    · cases o with
      | box t l => exact mvK_eq (K := fun r' => K (_ :: r')) (mvAsK_eq h)
      | _ => exact mvK_eq (K := fun r' => K (_ :: r')) h
    · exact mvK_eq (K := fun r' => K (_ :: r')) h
theorem Cls.mv {B nx : Nat} {ρ : Rho} {obs : Obs} {w : World} (i : Nat) {t s n : Nat} {get : Nat → List Value} (hC : Cls B ρ obs nx w) (ho : fnd obs i = some (.row t s n get)) :
    ∃ ρ', Ext ρ ρ' ∧ Cls B ρ' ((nx, .row t s n get) :: mvObs i nx obs) (nx + 1) w := by
  obtain ⟨v, hv, hr⟩ := hC.sat i _ ho
  have hx : Ext ρ (upd ρ nx v) := ext_upd (hC.new nx (Nat.le_refl _))
  have hne : i ≠ nx := fun e => by rw [e, hC.new nx (Nat.le_refl _)] at hv; cases hv
  have hi : upd ρ nx v nx = upd ρ nx v i := by rw [upd_same, upd_ne v hne, hv]
  have ol : ∀ k o, nx ≠ k → foot (upd ρ nx v) k o = foot ρ k o := fun k o hn => foot_eq (upd_ne v (Ne.symm hn))
  have fnx : foot (upd ρ nx v) nx (.row t s n get) = foot ρ i (.row t s n get) := by rw [foot_at hi, foot_eq (upd_ne v hne)]
  have sm : ∀ o b, sub (mvOb i nx o) b = sub o b := fun o b => by cases o <;> rfl
  have ax : Apx (upd ρ nx v) ((nx, .row t s n get) :: mvObs i nx obs) := fun j k o1 o2 b h1 h2 hb => by
    rcases fnd_cons h1 with ⟨rfl, rfl⟩ | ⟨hn1, h1⟩
    · exact hb.elim
    · rcases mvObs_get h1 with ⟨_, rfl⟩ | ⟨q, o', h3, rfl⟩
      · exact hb.elim
      · rw [sm] at hb
        rcases fnd_cons h2 with ⟨rfl, rfl⟩ | ⟨hn2, h2⟩
        · exact ⟨by rw [fnx]; exact (hC.apx j i o' _ b h3 ho hb).1, fun _ z => z⟩
        · rcases mvObs_get h2 with ⟨_, rfl⟩ | ⟨q2, o2', h4, rfl⟩
          · exact ⟨fun z => (by cases z), fun _ z => z⟩
          · rw [foot_mv, ol _ _ hn2, sm]
            exact hC.apx j k o' o2' b h3 h4 hb
  refine ⟨upd ρ nx v, hx, ⟨hC.le, fun k o hk => ?_, fun j k o1 o2 b h1 h2 hne' hmu hf => ?_, fun k hk => ?_, ax⟩⟩
  · rcases fnd_cons hk with ⟨rfl, rfl⟩ | ⟨hn, hk⟩
    · exact ⟨v, upd_same _ _ _, hr⟩
    · rcases mvObs_get hk with ⟨_, rfl⟩ | ⟨_, o', h1, rfl⟩
      · trivial
      · have hs := (hC.sat k o' h1).ext hx
        cases o' with
        | box t l => obtain ⟨b, cs, e, hB, hl, hh⟩ := hs; exact ⟨b, cs, e, hB, hl.mv hi, hh⟩
        | _ => exact hs
  · rcases fnd_cons h1 with ⟨rfl, rfl⟩ | ⟨hn1, h1⟩
    · rcases fnd_cons h2 with ⟨rfl, rfl⟩ | ⟨hn2, h2⟩
      · exact absurd rfl hne'
      · rw [fnx] at hf
        rcases mvObs_get h2 with ⟨_, rfl⟩ | ⟨q, o', h3, rfl⟩
        · intro e; cases e
        · rw [foot_mv, ol _ _ hn2]
          exact hC.apart i k _ o' b ho h3 (Ne.symm q) rfl hf
    · rcases mvObs_get h1 with ⟨_, rfl⟩ | ⟨q, o', h3, rfl⟩
      · cases hf
      · rw [foot_mv, ol _ _ hn1] at hf
        have hmu' : o'.mut = true := by cases o' <;> exact hmu
        rcases fnd_cons h2 with ⟨rfl, rfl⟩ | ⟨hn2, h2⟩
        · rw [fnx]
          exact hC.apart j i o' _ b h3 ho q hmu' hf
        · rcases mvObs_get h2 with ⟨_, rfl⟩ | ⟨q2, o2', h4, rfl⟩
          · intro e; cases e
          · rw [foot_mv, ol _ _ hn2]
            exact hC.apart j k o' o2' b h3 h4 hne' hmu' hf
  · rw [upd_ne v (by omega)]; exact hC.new k (by omega)
def mvsK : List Nat → Obs → Nat → (Obs → Nat → Prop) → Prop
  | [], obs, n, K => K obs n
  | i :: r, obs, n, K => fndK obs i fun o => match o with
    | .row t s m g => mvK i n obs fun obs' => mvsK r ((n, .row t s m g) :: obs') (n + 1) K
    | _ => False
theorem mvsK_spec {B : Nat} {w : World} : ∀ {l : List Nat} {ρ : Rho} {obs : Obs} {n : Nat} {K : Obs → Nat → Prop}, Cls B ρ obs n w → mvsK l obs n K → ∃ ρ' obs' n', Ext ρ ρ' ∧ Cls B ρ' obs' n' w ∧ K obs' n'
  | [], ρ, obs, n, K, hC, h => ⟨ρ, obs, n, fun _ _ q => q, hC, h⟩
  | i :: r, ρ, obs, n, K, hC, h => by
    obtain ⟨o, ho, h⟩ := fndK_spec h
    cases o with
    | row t s m g =>
      obtain ⟨ρ1, hx1, hC1⟩ := hC.mv i ho
      obtain ⟨ρ2, obs2, n2, hx2, hC2, hK⟩ := mvsK_spec (l := r) hC1 (mvK_eq (K := fun obs' => mvsK r ((n, .row t s m g) :: obs') (n + 1) K) h)
      exact ⟨ρ2, obs2, n2, fun i y q => hx2 _ _ (hx1 _ _ q), hC2, hK⟩
    | _ => exact h.elim
/-- the statement: the iterator in place -/
theorem NRange.inl {P : Program} {T : TT} (hT : TTok P T) (hm : P.follows .mixedOrders = true) {g : FuncId} {gfn : Func} {c : Code} (hf : P.funcs[g]? = some gfn) (hb : gfn.body = some c) {gsz : Nat} (hs : gfn.ntmps = gsz) (hB : hasBody P g = true)
    {sz : Nat} {fo : Operand} {ps : Array Tmp} {assign body : Code} {env : Env} {obs : Obs} {nx : Nat} {K : Kon} (sl ml : List Nat)
    (h0 : evK env fo fun v => match v with
      | .one (.clo g' caps) => NIs g' g (keepK env sl fun env0 => capE [.one (.ref nx)] caps fun args => match Nat.ble args.length gsz with
        | true => ∀ L : Lc, L = ⟨sz, ps.toList, assign, body⟩ → mvsK ml ((nx, .lp L env0 .ready) :: obs) (nx + 1) fun obs0 nx0 => vc P T gsz (nx + 1) c (argEnv 0 args) obs0 nx0 (fnK T gfn.results.toList fun _ obs1 nx1 => endK nx env K obs1 nx1)
        | false => False)
      | _ => False) : NRange P sz fo ps assign body env obs nx K := by
  refine ⟨fun B s ρ a w n hE hC hW => ?_⟩
  obtain ⟨v, hv, h⟩ := evK_spec hE h0
  clear h0
  split at h
  rotate_left
  · exact h.elim
  rename_i g' caps
  obtain ⟨rfl, h⟩ := h
  obtain ⟨cs, hcs, hg⟩ := hv
  obtain ⟨env0, hle, h⟩ := keepE_spec h
  have hE0 : EnvR sz ρ env0 { tmps := a.tmps, defers := [] } := ⟨hE.size, fun t v ht => by
    obtain ⟨u, hu, hl⟩ := hle.get t v ht
    obtain ⟨x, e, hx⟩ := hE.env t u hu
    have := hl.is_ hx
    rw [renS_nil] at this
    exact ⟨x, e, this⟩⟩
  refine wpIn_rangeFunc ?_
  intro fn hfn
  have hro : Fence.wide.round = none := rfl
  rw [hro]
  obtain ⟨W1, hW1⟩ : ∃ W1, (w.alloc (.deferred (some []))).alloc (.loop { state := .ready, pending := none, fn := fn, tmps := a.tmps, params := ps, assign := assign, body := body, defers := w.heap.size }) = W1 := ⟨_, rfl⟩
  have hsz1 : W1.heap.size = w.heap.size + 2 := by rw [← hW1]; simp
  have hL1 : W1.heap[w.heap.size + 1]? = some (.loop { state := .ready, pending := none, fn := fn, tmps := a.tmps, params := ps, assign := assign, body := body, defers := w.heap.size }) := by
    rw [← hW1]
    have := World.alloc_heap_new (w.alloc (.deferred (some []))) (.loop { state := .ready, pending := none, fn := fn, tmps := a.tmps, params := ps, assign := assign, body := body, defers := w.heap.size })
    rwa [World.size_alloc] at this
  have hK1 : W1.heap[w.heap.size]? = some (.deferred (some [])) := by
    rw [← hW1]; exact (Below.heap_alloc _ _ _ (by simp)).trans (World.alloc_heap_new w _)
  have hb1 : Below w.heap.size w W1 := by
    rw [← hW1]; exact (((Below.refl _ w).alloc (Nat.le_refl _) _).alloc (by simp) _)
  have hx1 : Ext ρ (upd ρ nx (.func (.yield (w.heap.size + 1)) #[] #[])) := ext_upd (hC.new nx (Nat.le_refl _))
  have hone : Svs (upd ρ nx (.func (.yield (w.heap.size + 1)) #[] #[])) [.one (.ref nx)] [.func (.yield (w.heap.size + 1)) #[] #[]] := ⟨_, [], rfl, ⟨upd_same _ _ _, rfl⟩, rfl⟩
  have hcs1 : CapsAre (upd ρ nx (.func (.yield (w.heap.size + 1)) #[] #[])) caps cs := hcs.ext hx1
  obtain ⟨args, h, hsv⟩ := capE_spec hone hcs1 h
  cases hlen : Nat.ble args.length gsz <;> rw [hlen] at h
  · exact h.elim
  have hC1 := hC.more (v := .func (.yield (w.heap.size + 1)) #[] #[]) (o := .lp ⟨sz, ps.toList, assign, body⟩ env0 .ready) hb1 ⟨w.heap.size + 1, fn, a.tmps, w.heap.size, upd_same _ _ _, by have := hC.le; omega, by simpa [Lst.state, Lst.pend] using hL1, hE0.ext hx1⟩
    (fun b hf => by simp only [foot, upd_same] at hf; injection hf with hf; omega)
  have h1 := h _ rfl
  obtain ⟨ρ2, obs2, n2, hx2, hC2, h2⟩ := mvsK_spec hC1 h1
  have hcall := fn_sound_pin (xs := #[.func (.yield (w.heap.size + 1)) #[] #[]] ++ cs.toArray) hT hm hf hb hs hlen h2 hC2 (by simpa using hsv.ext hx2)
  refine ⟨w.heap.size + 1, [{ target := .collected w.heap.size, args := #[] }], W1, { target := .fn (.func g') cs.toArray, args := #[.func (.yield (w.heap.size + 1)) #[] #[]] }, W1, g', #[.func (.yield (w.heap.size + 1)) #[] #[]] ++ cs.toArray, W1, ?_, ?_, fun _ _ => trivial, ?_, fun q => (by cases q), ?_⟩
  · rw [← hW1]; exact run_enterLoop_outer _ _ _ _ _
  · simp only [resolve, hg]
    simp [go_sem]
  · simp [invoke, go_sem, run_enter hB]
  refine callsIn_wide.2 (hcall.mono ?_)
  rintro e w' ⟨ρ', v, obs', nx', x, hR, rfl, _, hC', hb', hx3, ho'⟩
  have hx' : Ext (upd ρ nx (.func (.yield (w.heap.size + 1)) #[] #[])) ρ' := fun i y hi => by
    by_cases q : i < nx + 1
    · exact hx3 i y q (hx2 _ _ hi)
    · rw [upd_ne _ (by omega), hC.new i (by omega)] at hi; cases hi
  obtain ⟨L2, e2, st, hol, hR⟩ := lpK_spec hR
  have hl2 : ρ' nx = some (.func (.yield (w.heap.size + 1)) #[] #[]) := hx' _ _ (upd_same _ _ _)
  obtain ⟨fn2, tmps2, D2, hBl, hh2, _⟩ := hC'.lpset hol hl2
  have hnb : st.state ≠ .busy := by
    intro q
    cases st with
    | ready => cases q
    | busy => exact hR
    | done c => cases q
  refine ⟨st.pend, _, run_endLoop hh2 hnb, ?_⟩
  have hf2 : foot ρ' nx (.lp L2 e2 st) = some (w.heap.size + 1) := by simp [foot, hl2]
  have hC4 := hC'.kill (w' := w'.putObj (w.heap.size + 1) (.loop { state := .exhausted, pending := st.pend, fn := fn2, tmps := tmps2, params := L2.ps.toArray, assign := L2.assign, body := L2.body, defers := D2 })) hol rfl hf2 World.putObj_size (fun k hk => World.putObj_heap_other hk)
  have hB1 : B ≤ w.heap.size := hC.le
  have hW4 : Wy B s ρ' ({ target := .collected w.heap.size, args := #[] } :: a.defers) (w'.putObj (w.heap.size + 1) (.loop { state := .exhausted, pending := st.pend, fn := fn2, tmps := tmps2, params := L2.ps.toArray, assign := L2.assign, body := L2.body, defers := D2 })) := by
    have o1 : Oth W1 (w'.putObj (w.heap.size + 1) (.loop { state := .exhausted, pending := st.pend, fn := fn2, tmps := tmps2, params := L2.ps.toArray, assign := L2.assign, body := L2.body, defers := D2 })) := ho'.trans (put_oth hh2 _)
    have o2 := (oth_of hb1).trans o1
    refine ⟨((hW.b.trans (hb1.mono hB1)).trans hb').trans (put_below (by omega) _), hW.o.trans o2, fun i y hi hy => hx' _ _ (hx1 _ _ (hW.e i y hi hy)), ?_⟩
    obtain ⟨Ds, hd, hn, hD⟩ := hW.m
    refine ⟨w.heap.size :: Ds, by rw [hd]; rfl, List.nodup_cons.2 ⟨fun q => ?_, hn⟩, fun D q => ?_⟩
    · have := (Array.getElem?_eq_some_iff.1 (hD _ q).2.2).1; omega
    · rcases List.mem_cons.1 q with rfl | q
      · exact ⟨hB1, hW.b.size, o1 _ _ hK1⟩
      · exact ⟨(hD _ q).1, (hD _ q).2.1, o2 _ _ (hD _ q).2.2⟩
  have hE4 : EnvR sz ρ' env { a with defers := [{ target := .collected w.heap.size, args := #[] }] ++ a.defers } := ⟨hE.size, ((hE.ext hx1).ext hx').env⟩
  split at hR
  · exact ⟨ρ', env, _, nx', hR, hE4, hC4, hW4⟩
  · exact wpIn_exit ⟨ρ', env, _, nx', hR, hE4, hC4, hW4⟩
  · exact wpIn_ret ⟨ρ', env, _, nx', hR, hE4, hC4, hW4⟩
  · exact hR.elim

end Go.Proofs.Ytdeekpcfmgfmcaa.V

/- What the functions on calendars answer. -/
namespace Go.Proofs.Ytdeekpcfmgfmcaa
open Go Go.RowKit V
set_option maxRecDepth 100000
set_option linter.unusedVariables false
theorem _root_.Go.Proofs.Ytdeekpcfmgfmcaa.V.NBit.one {x : Int} {K : Int → Prop} (h0 : 0 ≤ x) (h1 : x ≤ 9223372036854775807) (hK : ∀ z, z = x % 2 → K z) : NBit .and .i64 x 1 K := by
  refine ⟨fun z hz => hK z ?_⟩
  have := hz default default
  rw [intBits_and, Sem.run_pure] at this
  injection this with this _
  injection this with _ this
  rw [← this]
  unfold bits
  simp only [BitVec.toNat_and, BitVec.toNat_ofInt, show IntKind.i64.bits = 64 from rfl]
  have e1 : ((1 : Int) % ((2 ^ 64 : Nat) : Int)).toNat = 1 := by decide
  have e2 : (x % ((2 ^ 64 : Nat) : Int)).toNat = x.toNat := by rw [Int.emod_eq_of_lt h0 (by simp; omega)]
  rw [e1, e2, Nat.and_one_is_mod]
  rw [IntWalk.i64_in _ ⟨by omega, by omega⟩]; omega
theorem _root_.Go.Proofs.Ytdeekpcfmgfmcaa.V.NShr.u64 {x y : Int} {K : Int → Prop} (n : Nat) (hy : y = n) (hn : n ≤ 64) (h1 : 0 ≤ x) (hK : ∀ z, z = x / 2 ^ n → 0 ≤ z → z ≤ x → K z) : NShr .u64 x y K := by
  subst hy
  have p : (0 : Int) ≤ 2 ^ n := Int.le_of_lt (Int.pow_pos (by omega))
  refine ⟨by omega, ?_⟩
  rw [Int.toNat_natCast, show IntKind.u64.bits = 64 from rfl, Nat.min_eq_left hn, Int.fdiv_eq_ediv_of_nonneg _ p]
  exact hK _ rfl (Int.ediv_nonneg h1 p) (Int.ediv_le_self _ h1)
theorem v_cisnan (x : Int) : V.Fn Try.prog 128 [] [.one (.val (.int .i64 x))] (.bool false) := by
  refine V.Fn.mk_ V.Tok V.mixed Try.func128 rfl Try.ntmps128 (by kernel_rfl) rfl rfl ?_
  repeat' ((conv => whnf); first | refine V.NCond.mk ?_ | refine V.NIf.not_ ?_ | refine V.NIf.dec_ ?_ | refine V.NIf.no (by omega) ?_ | refine V.NIf.yes (by omega) ?_ | refine V.NIf.mk (fun _ => ?_) (fun _ => ?_) | refine V.NWrap.ok (by omega) (by omega) ?_ | refine V.NWrap.u64 (by omega) (by omega) ?_ | refine V.NLt.mk (by omega) ?_ | refine V.NBoth.mk ?_ ?_ | refine V.NTF.yes (by omega) ?_ | refine V.NTF.no (by omega) ?_ | refine V.NTF.dec ?_ | refine V.NDraw.q (by exact rfl) (by kernel_rfl) ?_ | refine V.NApp.one (by first | omega | (simp; omega)) (by first | omega | (simp; omega)) ?_ | (refine V.NDraw.any (by kernel_rfl) ?_) | fail)
  exact ⟨_, rfl, by simp⟩
theorem v_sisnan (x : Int) : V.Fn Try.prog 131 [] [.one (.val (.int .i64 x))] (.bool false) := by
  refine V.Fn.mk_ V.Tok V.mixed Try.func131 rfl Try.ntmps131 (by kernel_rfl) rfl rfl ?_
  repeat' ((conv => whnf); first | refine V.NCond.mk ?_ | refine V.NIf.not_ ?_ | refine V.NIf.dec_ ?_ | refine V.NIf.no (by omega) ?_ | refine V.NIf.yes (by omega) ?_ | refine V.NIf.mk (fun _ => ?_) (fun _ => ?_) | refine V.NWrap.ok (by omega) (by omega) ?_ | refine V.NWrap.u64 (by omega) (by omega) ?_ | refine V.NLt.mk (by omega) ?_ | refine V.NBoth.mk ?_ ?_ | refine V.NTF.yes (by omega) ?_ | refine V.NTF.no (by omega) ?_ | refine V.NTF.dec ?_ | refine V.NDraw.q (by exact rfl) (by kernel_rfl) ?_ | refine V.NApp.one (by first | omega | (simp; omega)) (by first | omega | (simp; omega)) ?_ | (refine V.NDraw.any (by kernel_rfl) ?_) | fail)
  exact ⟨_, rfl, by simp⟩
theorem v_cless (x y : Int) : V.Fn Try.prog 130 [] [.one (.val (.int .i64 x)), .one (.val (.int .i64 y))] (.bool (decide (x < y))) := by
  refine V.Fn.mk_ V.Tok V.mixed Try.func130 rfl Try.ntmps130 (by kernel_rfl) rfl rfl ?_
  repeat' ((conv => whnf); first | refine V.NCond.mk ?_ | refine V.NIf.not_ ?_ | refine V.NIf.dec_ ?_ | refine V.NIf.no (by omega) ?_ | refine V.NIf.yes (by omega) ?_ | refine V.NIf.mk (fun _ => ?_) (fun _ => ?_) | refine V.NWrap.ok (by omega) (by omega) ?_ | refine V.NWrap.u64 (by omega) (by omega) ?_ | refine V.NLt.mk (by omega) ?_ | refine V.NBoth.mk ?_ ?_ | refine V.NTF.yes (by omega) ?_ | refine V.NTF.no (by omega) ?_ | refine V.NTF.dec ?_ | refine V.NDraw.q (by exact rfl) (by kernel_rfl) ?_ | refine V.NApp.one (by first | omega | (simp; omega)) (by first | omega | (simp; omega)) ?_ | (first | refine V.Fn.k0 (v_cisnan _) rfl ?_ | refine V.Fn.q0 (v_cisnan _) rfl ?_ | refine V.Fn.a0 (v_cisnan _) rfl ?_) | (refine V.NDraw.any (by kernel_rfl) ?_) | fail)
  all_goals (conv => whnf)
  all_goals (first | exact ⟨_, rfl, iff_of_true (by omega) rfl⟩ | (exfalso; omega) | exact ⟨_, rfl, by simp; omega⟩ | exact ⟨_, rfl, by simp⟩)
theorem v_bsearch (l : List Int) (x : Int) (hn : l.length ≤ 1000) (hs : l.Pairwise (· < ·)) : V.Fn Try.prog 124 [.arr 1 l.length (ga e1 l)] [.one (.ref 0), .one (.val (.int .i64 x))] (.tuple #[.int .i64 (Ca.lb l x), .bool (decide (x ∈ l))]) := by
  refine V.Fn.mk_ V.Tok V.mixed Try.func124 rfl Try.ntmps124 (by kernel_rfl) rfl rfl ?_
  repeat' ((conv => whnf); first | refine V.NCond.mk ?_ | refine V.NIf.not_ ?_ | refine V.NIf.dec_ ?_ | refine V.NIf.no (by omega) ?_ | refine V.NIf.yes (by omega) ?_ | refine V.NIf.mk (fun _ => ?_) (fun _ => ?_) | refine V.NWrap.ok (by omega) (by omega) ?_ | refine V.NWrap.u64 (by omega) (by omega) ?_ | refine V.NLt.mk (by omega) ?_ | refine V.NBoth.mk ?_ ?_ | refine V.NTF.yes (by omega) ?_ | refine V.NTF.no (by omega) ?_ | refine V.NTF.dec ?_ | refine V.NDraw.q (by exact rfl) (by kernel_rfl) ?_ | refine V.NApp.one (by first | omega | (simp; omega)) (by first | omega | (simp; omega)) ?_ | (refine V.NDraw.any (by kernel_rfl) ?_) | fail)
  refine V.NLoop.auto (fun (s : Nat × Nat) => [(7, .one (.val (.int .i64 s.1))), (8, .one (.val (.int .i64 s.2)))]) (fun (s : Nat × Nat) => []) [] [] (fun (s : Nat × Nat) => s.2 - s.1) (fun (s : Nat × Nat) => s.1 ≤ s.2 ∧ s.2 ≤ l.length ∧ (∀ k, k < s.1 → l.getD k default < x) ∧ (∀ k, s.2 ≤ k → k < l.length → ¬ l.getD k default < x)) (0, l.length) ⟨Nat.zero_le _, Nat.le_refl _, fun k h => absurd h (Nat.not_lt_zero _), fun k h1 h2 => absurd h2 (by dsimp only at h1; omega)⟩ (by repeat' (first | exact rfl | exact Iff.rfl | exact trivial | exact (fun _ _ => rfl) | exact (fun _ h => absurd h (Nat.not_lt_zero _)) | refine ⟨?_, ?_⟩ | exact Iff.rfl | exact congrArg (fun z => V.SV.one (V.At.val (Value.int .i64 z))) (by omega))) (by repeat' (first | exact rfl | exact Iff.rfl | exact trivial | exact (fun _ _ => rfl) | exact (fun _ h => absurd h (Nat.not_lt_zero _)) | refine ⟨?_, ?_⟩ | exact Iff.rfl | exact congrArg (fun z => V.SV.one (V.At.val (Value.int .i64 z))) (by omega))) (fun _ => ⟨rfl, rfl⟩) ?_; (conv => whnf); refine ⟨⟨rfl, rfl⟩, ?_⟩
  rintro s ⟨h1, h2, h3, h4⟩
  generalize s.1 = i at *
  generalize s.2 = j at *
  repeat' ((conv => whnf); first | refine V.NCond.mk ?_ | refine V.NIf.not_ ?_ | refine V.NIf.dec_ ?_ | refine V.NIf.no (by omega) ?_ | refine V.NIf.yes (by omega) ?_ | refine V.NIf.mk (fun _ => ?_) (fun _ => ?_) | refine V.NWrap.ok (by omega) (by omega) ?_ | refine V.NWrap.u64 (by omega) (by omega) ?_ | refine V.NLt.mk (by omega) ?_ | refine V.NBoth.mk ?_ ?_ | refine V.NTF.yes (by omega) ?_ | refine V.NTF.no (by omega) ?_ | refine V.NTF.dec ?_ | refine V.NDraw.q (by exact rfl) (by kernel_rfl) ?_ | refine V.NApp.one (by first | omega | (simp; omega)) (by first | omega | (simp; omega)) ?_ | (refine NShr.u64 1 rfl (by omega) (by omega) ?_; intro z hz hz0 hz1) | (refine NIdx.mk ⟨i, rfl, by omega, ?_⟩) | (refine NIdx.mk ⟨(i + j) / 2, by omega, by omega, ?_⟩) | (first | refine V.Fn.k0 (v_cless _ _) rfl ?_ | refine V.Fn.q0 (v_cless _ _) rfl ?_ | refine V.Fn.a0 (v_cless _ _) rfl ?_) | (first | refine V.Fn.k0 (v_sisnan _) rfl ?_ | refine V.Fn.q0 (v_sisnan _) rfl ?_ | refine V.Fn.a0 (v_sisnan _) rfl ?_) | (refine V.NDraw.any (by kernel_rfl) ?_) | fail)
  all_goals (conv => whnf)
  · refine V.NBack.at_ ((i + j) / 2 + 1, j) [] ⟨by dsimp only; omega, h2, fun k hk => ?_, h4⟩ (by dsimp only; omega) (by repeat' (first | exact rfl | exact Iff.rfl | exact trivial | exact (fun _ _ => rfl) | exact (fun _ h => absurd h (Nat.not_lt_zero _)) | refine ⟨?_, ?_⟩ | exact Iff.rfl | exact congrArg (fun z => V.SV.one (V.At.val (Value.int .i64 z))) (by omega))) rfl (by repeat' (first | exact rfl | exact Iff.rfl | exact trivial | exact (fun _ _ => rfl) | exact (fun _ h => absurd h (Nat.not_lt_zero _)) | refine ⟨?_, ?_⟩ | exact Iff.rfl | exact congrArg (fun z => V.SV.one (V.At.val (Value.int .i64 z))) (by omega))) (by repeat' (first | exact rfl | exact Iff.rfl | exact trivial | exact (fun _ _ => rfl) | exact (fun _ h => absurd h (Nat.not_lt_zero _)) | refine ⟨?_, ?_⟩ | exact Iff.rfl | exact congrArg (fun z => V.SV.one (V.At.val (Value.int .i64 z))) (by omega))) (by repeat' (first | exact rfl | exact Iff.rfl | exact trivial | exact (fun _ _ => rfl) | exact (fun _ h => absurd h (Nat.not_lt_zero _)) | refine ⟨?_, ?_⟩ | exact Iff.rfl | exact congrArg (fun z => V.SV.one (V.At.val (Value.int .i64 z))) (by omega)))
    by_cases e : k = (i + j) / 2
    · subst e; assumption
    · have := Ca.srt_lt hs (i := k) (j := (i + j) / 2) (by dsimp only at hk; omega) (by omega); omega
  · refine V.NBack.at_ (i, (i + j) / 2) [] ⟨by dsimp only; omega, by dsimp only; omega, h3, fun k h5 h6 => ?_⟩ (by dsimp only; omega) (by repeat' (first | exact rfl | exact Iff.rfl | exact trivial | exact (fun _ _ => rfl) | exact (fun _ h => absurd h (Nat.not_lt_zero _)) | refine ⟨?_, ?_⟩ | exact Iff.rfl | exact congrArg (fun z => V.SV.one (V.At.val (Value.int .i64 z))) (by omega))) rfl (by repeat' (first | exact rfl | exact Iff.rfl | exact trivial | exact (fun _ _ => rfl) | exact (fun _ h => absurd h (Nat.not_lt_zero _)) | refine ⟨?_, ?_⟩ | exact Iff.rfl | exact congrArg (fun z => V.SV.one (V.At.val (Value.int .i64 z))) (by omega))) (by repeat' (first | exact rfl | exact Iff.rfl | exact trivial | exact (fun _ _ => rfl) | exact (fun _ h => absurd h (Nat.not_lt_zero _)) | refine ⟨?_, ?_⟩ | exact Iff.rfl | exact congrArg (fun z => V.SV.one (V.At.val (Value.int .i64 z))) (by omega))) (by repeat' (first | exact rfl | exact Iff.rfl | exact trivial | exact (fun _ _ => rfl) | exact (fun _ h => absurd h (Nat.not_lt_zero _)) | refine ⟨?_, ?_⟩ | exact Iff.rfl | exact congrArg (fun z => V.SV.one (V.At.val (Value.int .i64 z))) (by omega)))
    by_cases e : k = (i + j) / 2
    · subst e; assumption
    · have := Ca.srt_lt hs (i := (i + j) / 2) (j := k) (by dsimp only at h5; omega) h6; omega
  all_goals
    obtain rfl : i = j := by omega
    have e1 := Ca.lb_is h2 h3 h4
    have e2 := Ca.found_is h3 h4 hs
    rw [e1]
    first
      | exact ⟨rfl, congrArg Value.bool (decide_eq_true (e2.2 ⟨by omega, by assumption⟩)).symm, trivial⟩
      | exact ⟨rfl, congrArg Value.bool (decide_eq_false (fun q => by have := e2.1 q; omega)).symm, trivial⟩
theorem v_caopen (c : Cl) (n : Int) (h : Ca.Ok c) (hn : Ca.Day n) : V.Fn Try.prog 114 [.arr 1 c.hs.length (ga e1 c.hs)] [.agg [.val (.int .i64 c.we), .ref 0], .one (.val (.int .i64 n))] (.bool (decide (Ca.op c n = 1))) := by
  obtain ⟨h1, h2, h3, h4⟩ := h
  have w01 := Ca.wd_01 c n
  have o1 : n ∈ c.hs → Ca.op c n = 0 := fun q => if_pos q
  have o2 : ¬ n ∈ c.hs → Ca.op c n = Ca.wd c n := fun q => if_neg q
  have ew : Ca.wd c n = 1 - c.we / 2 ^ (n % 7).toNat % 2 := rfl
  unfold Ca.Day at hn
  refine V.Fn.mk_ V.Tok V.mixed Try.func114 rfl Try.ntmps114 (by kernel_rfl) rfl rfl ?_
  repeat' ((conv => whnf); first | refine V.NCond.mk ?_ | refine V.NIf.not_ ?_ | refine V.NIf.dec_ ?_ | refine V.NIf.no (by omega) ?_ | refine V.NIf.yes (by omega) ?_ | refine V.NIf.mk (fun _ => ?_) (fun _ => ?_) | refine V.NWrap.ok (by omega) (by omega) ?_ | refine V.NWrap.u64 (by omega) (by omega) ?_ | refine V.NLt.mk (by omega) ?_ | refine V.NBoth.mk ?_ ?_ | refine V.NTF.yes (by omega) ?_ | refine V.NTF.no (by omega) ?_ | refine V.NTF.dec ?_ | refine V.NDraw.q (by exact rfl) (by kernel_rfl) ?_ | refine V.NApp.one (by first | omega | (simp; omega)) (by first | omega | (simp; omega)) ?_ | ((first | refine V.Fn.k (v_bsearch c.hs n (by omega) h4) [0] rfl ?_ ?_ | refine V.Fn.q (v_bsearch c.hs n (by omega) h4) [0] rfl ?_ ?_ | refine V.Fn.a (v_bsearch c.hs n (by omega) h4) [0] rfl ?_ ?_); · ((repeat' (first | exact rfl | exact Iff.rfl | exact trivial | exact (fun _ _ => rfl) | exact (fun _ h => absurd h (Nat.not_lt_zero _)) | refine ⟨?_, ?_⟩ | exact Iff.rfl | exact congrArg (fun z => V.SV.one (V.At.val (Value.int .i64 z))) (by omega))); done)) | (refine NRem.pos (by omega) (by omega) ?_; intro r hr hr0 hr1) | (refine NShr.i64 (n % 7).toNat (by omega) (by omega) (by omega) ?_; intro s hs hs0 hs1) | (refine NBit.one (by omega) (by omega) ?_; intro b hb) | (refine V.NDraw.any (by kernel_rfl) ?_) | fail)
  all_goals (conv => whnf)
  · exact congrArg Value.bool (decide_eq_false (by rw [o1 (by assumption)]; decide)).symm
  · have e := o2 (by assumption)
    exact ⟨_, rfl, by rw [decide_eq_true_eq, e, ew, ← hs]; omega⟩
theorem v_caCheck (c : Cl) (hn : c.hs.length ≤ 9223372036854775807) : V.Fn Try.prog 31 [.arr 1 c.hs.length (ga e1 c.hs)] [.agg [.val (.int .i64 c.we), .ref 0]] (.int .i64 (Ca.chk c)) := by
  have c1 := @Ca.chk_1 c
  have c2 := @Ca.chk_2 c
  have c3 := @Ca.chk_3 c
  refine V.Fn.mk_ V.Tok V.mixed Try.func31 rfl Try.ntmps31 (by kernel_rfl) rfl rfl ?_
  repeat' ((conv => whnf); first | refine V.NCond.mk ?_ | refine V.NIf.not_ ?_ | refine V.NIf.dec_ ?_ | refine V.NIf.no (by omega) ?_ | refine V.NIf.yes (by omega) ?_ | refine V.NIf.mk (fun _ => ?_) (fun _ => ?_) | refine V.NWrap.ok (by omega) (by omega) ?_ | refine V.NWrap.u64 (by omega) (by omega) ?_ | refine V.NLt.mk (by omega) ?_ | refine V.NBoth.mk ?_ ?_ | refine V.NTF.yes (by omega) ?_ | refine V.NTF.no (by omega) ?_ | refine V.NTF.dec ?_ | refine V.NDraw.q (by exact rfl) (by kernel_rfl) ?_ | refine V.NApp.one (by first | omega | (simp; omega)) (by first | omega | (simp; omega)) ?_ | (refine V.NDraw.any (by kernel_rfl) ?_) | fail)
  all_goals (conv => whnf)
  · exact V.fin1 (c1 (by omega))
  · exact V.fin1 (c1 (by omega))
  · exact V.fin1 (c2 (by omega) (by omega))
  have e := c3 (by omega) (by omega)
  refine V.NLoop.auto (fun (k : Nat) => [(23, .one (.val (.int .i64 k))), (3, .one (.val (.int .i64 (if k = 0 then -1 else c.hs.getD (k - 1) default))))]) (fun (k : Nat) => []) [] [] (fun (k : Nat) => c.hs.length - k) (fun (k : Nat) => k ≤ c.hs.length ∧ ∀ j, j < k → Ca.eAt c.hs j = 0) 0 ⟨Nat.zero_le _, fun j h => absurd h (Nat.not_lt_zero _)⟩ (by repeat' (first | exact rfl | exact Iff.rfl | exact trivial | exact (fun _ _ => rfl) | exact (fun _ h => absurd h (Nat.not_lt_zero _)) | refine ⟨?_, ?_⟩ | exact Iff.rfl | exact congrArg (fun z => V.SV.one (V.At.val (Value.int .i64 z))) (by omega))) (by repeat' (first | exact rfl | exact Iff.rfl | exact trivial | exact (fun _ _ => rfl) | exact (fun _ h => absurd h (Nat.not_lt_zero _)) | refine ⟨?_, ?_⟩ | exact Iff.rfl | exact congrArg (fun z => V.SV.one (V.At.val (Value.int .i64 z))) (by omega))) (fun _ => ⟨rfl, rfl⟩) ?_; (conv => whnf); refine ⟨⟨rfl, rfl⟩, ?_⟩
  rintro k ⟨hk, hJ⟩
  obtain ⟨a1, a2, a3, a4⟩ := Ca.eAt_cases (hs := c.hs) (k := k) rfl rfl
  have d := Ca.dchk (c.hs.getD k default)
  unfold Ca.Day at d a1 a2 a3 a4
  have ge : ∀ v, v ≠ 0 → k < c.hs.length → Ca.eAt c.hs k = v → Ca.chk c = v := fun v h1 h2 h3 => e.trans ((Ca.fe_get h2 hJ (by omega)).trans h3)
  repeat' ((conv => whnf); first | refine V.NCond.mk ?_ | refine V.NIf.not_ ?_ | refine V.NIf.dec_ ?_ | refine V.NIf.no (by omega) ?_ | refine V.NIf.yes (by omega) ?_ | refine V.NIf.mk (fun _ => ?_) (fun _ => ?_) | refine V.NWrap.ok (by omega) (by omega) ?_ | refine V.NWrap.u64 (by omega) (by omega) ?_ | refine V.NLt.mk (by omega) ?_ | refine V.NBoth.mk ?_ ?_ | refine V.NTF.yes (by omega) ?_ | refine V.NTF.no (by omega) ?_ | refine V.NTF.dec ?_ | refine V.NDraw.q (by exact rfl) (by kernel_rfl) ?_ | refine V.NApp.one (by first | omega | (simp; omega)) (by first | omega | (simp; omega)) ?_ | (refine NIdx.mk ⟨k, rfl, by omega, ?_⟩) | (first | refine V.Fn.k0 (v_dcheck _) rfl ?_ | refine V.Fn.q0 (v_dcheck _) rfl ?_ | refine V.Fn.a0 (v_dcheck _) rfl ?_) | (refine V.NDraw.any (by kernel_rfl) ?_) | fail)
  all_goals (conv => whnf)
  · exact V.fin1 (ge 6 (by decide) (by omega) (a2 (by omega) (by assumption)))
  · exact V.fin1 (ge 4 (by decide) (by omega) (a3 (by omega) (by assumption) (by assumption)))
  · refine V.NBack.at_ (k + 1) [] ⟨by omega, fun j hj => ?_⟩ (by omega) ⟨(by repeat' (first | exact rfl | exact Iff.rfl | exact trivial | exact (fun _ _ => rfl) | exact (fun _ h => absurd h (Nat.not_lt_zero _)) | refine ⟨?_, ?_⟩ | exact Iff.rfl | exact congrArg (fun z => V.SV.one (V.At.val (Value.int .i64 z))) (by omega))), congrArg (fun z => V.SV.one (V.At.val (Value.int .i64 z))) (if_neg (by omega)).symm, trivial⟩ rfl (by repeat' (first | exact rfl | exact Iff.rfl | exact trivial | exact (fun _ _ => rfl) | exact (fun _ h => absurd h (Nat.not_lt_zero _)) | refine ⟨?_, ?_⟩ | exact Iff.rfl | exact congrArg (fun z => V.SV.one (V.At.val (Value.int .i64 z))) (by omega))) (by repeat' (first | exact rfl | exact Iff.rfl | exact trivial | exact (fun _ _ => rfl) | exact (fun _ h => absurd h (Nat.not_lt_zero _)) | refine ⟨?_, ?_⟩ | exact Iff.rfl | exact congrArg (fun z => V.SV.one (V.At.val (Value.int .i64 z))) (by omega))) (by repeat' (first | exact rfl | exact Iff.rfl | exact trivial | exact (fun _ _ => rfl) | exact (fun _ h => absurd h (Nat.not_lt_zero _)) | refine ⟨?_, ?_⟩ | exact Iff.rfl | exact congrArg (fun z => V.SV.one (V.At.val (Value.int .i64 z))) (by omega)))
    by_cases q : j = k
    · subst q; exact a4 (by omega) (by assumption) (by assumption)
    · exact hJ j (by omega)
  · exact V.fin1 (ge 3 (by decide) (by omega) (a1 (by omega)))
  · obtain rfl : k = c.hs.length := by omega
    exact V.fin1 (e.trans (Ca.fe_end hJ))
theorem v_rcaCheck (c : Cl) (hn : c.hs.length ≤ 9223372036854775807) : V.Fn Try.prog 81 [.arr 1 c.hs.length (ga e1 c.hs)] [.agg [.val (.int .i64 c.we), .ref 0]] (.int .i64 (Ca.chk c)) := by
  have c1 := @Ca.chk_1 c
  have c2 := @Ca.chk_2 c
  have c3 := @Ca.chk_3 c
  refine V.Fn.mk_ V.Tok V.mixed Try.func81 rfl Try.ntmps81 (by kernel_rfl) rfl rfl ?_
  repeat' ((conv => whnf); first | refine V.NCond.mk ?_ | refine V.NIf.not_ ?_ | refine V.NIf.dec_ ?_ | refine V.NIf.no (by omega) ?_ | refine V.NIf.yes (by omega) ?_ | refine V.NIf.mk (fun _ => ?_) (fun _ => ?_) | refine V.NWrap.ok (by omega) (by omega) ?_ | refine V.NWrap.u64 (by omega) (by omega) ?_ | refine V.NLt.mk (by omega) ?_ | refine V.NBoth.mk ?_ ?_ | refine V.NTF.yes (by omega) ?_ | refine V.NTF.no (by omega) ?_ | refine V.NTF.dec ?_ | refine V.NDraw.q (by exact rfl) (by kernel_rfl) ?_ | refine V.NApp.one (by first | omega | (simp; omega)) (by first | omega | (simp; omega)) ?_ | (first | refine V.Fn.k0 (v_rbetween _ _ _) rfl ?_ | refine V.Fn.q0 (v_rbetween _ _ _) rfl ?_ | refine V.Fn.a0 (v_rbetween _ _ _) rfl ?_) | (refine V.NDraw.any (by kernel_rfl) ?_) | fail)
  all_goals (conv => whnf)
  · exact V.fin1 (c2 (by omega) (by omega))
  rotate_left
  · exact V.fin1 (c1 (by omega))
  have e := c3 (by omega) (by omega)
  refine V.NLoop.auto (fun (k : Nat) => [(3, .one (.val (.int .i64 k)))]) (fun (k : Nat) => []) [] [] (fun (k : Nat) => c.hs.length - k) (fun (k : Nat) => k ≤ c.hs.length ∧ ∀ j, j < k → Ca.eAt c.hs j = 0) 0 ⟨Nat.zero_le _, fun j h => absurd h (Nat.not_lt_zero _)⟩ (by repeat' (first | exact rfl | exact Iff.rfl | exact trivial | exact (fun _ _ => rfl) | exact (fun _ h => absurd h (Nat.not_lt_zero _)) | refine ⟨?_, ?_⟩ | exact Iff.rfl | exact congrArg (fun z => V.SV.one (V.At.val (Value.int .i64 z))) (by omega))) (by repeat' (first | exact rfl | exact Iff.rfl | exact trivial | exact (fun _ _ => rfl) | exact (fun _ h => absurd h (Nat.not_lt_zero _)) | refine ⟨?_, ?_⟩ | exact Iff.rfl | exact congrArg (fun z => V.SV.one (V.At.val (Value.int .i64 z))) (by omega))) (fun _ => ⟨rfl, rfl⟩) ?_; (conv => whnf); refine ⟨⟨rfl, rfl⟩, ?_⟩
  rintro k ⟨hk, hJ⟩
  have ge : ∀ v, v ≠ 0 → k < c.hs.length → Ca.eAt c.hs k = v → Ca.chk c = v := fun v h1 h2 h3 => e.trans ((Ca.fe_get h2 hJ (by omega)).trans h3)
  have ev : Ca.eAt c.hs k = if ¬ Ca.Day (c.hs.getD k default) then 3 else if 0 < k ∧ c.hs.getD k default = c.hs.getD (k - 1) default then 6 else if 0 < k ∧ c.hs.getD k default < c.hs.getD (k - 1) default then 4 else 0 := rfl
  have dd : Ca.Day (c.hs.getD k default) ↔ (0 ≤ c.hs.getD k default ∧ c.hs.getD k default ≤ 3652058) := Iff.rfl
  have on : k < c.hs.length → Ca.eAt c.hs k = 0 → ∀ j, j < k + 1 → Ca.eAt c.hs j = 0 := fun _ q j hj => by
    by_cases z : j = k
    · subst z; exact q
    · exact hJ j (by omega)
  repeat' ((conv => whnf); first | refine V.NCond.mk ?_ | refine V.NIf.not_ ?_ | refine V.NIf.dec_ ?_ | refine V.NIf.no (by omega) ?_ | refine V.NIf.yes (by omega) ?_ | refine V.NIf.mk (fun _ => ?_) (fun _ => ?_) | refine V.NWrap.ok (by omega) (by omega) ?_ | refine V.NWrap.u64 (by omega) (by omega) ?_ | refine V.NLt.mk (by omega) ?_ | refine V.NBoth.mk ?_ ?_ | refine V.NTF.yes (by omega) ?_ | refine V.NTF.no (by omega) ?_ | refine V.NTF.dec ?_ | refine V.NDraw.q (by exact rfl) (by kernel_rfl) ?_ | refine V.NApp.one (by first | omega | (simp; omega)) (by first | omega | (simp; omega)) ?_ | (refine NIdx.mk ⟨k, rfl, by omega, ?_⟩) | (refine NIdx.mk ⟨k - 1, by omega, by omega, ?_⟩) | (first | refine V.Fn.k0 (v_rbetween _ _ _) rfl ?_ | refine V.Fn.q0 (v_rbetween _ _ _) rfl ?_ | refine V.Fn.a0 (v_rbetween _ _ _) rfl ?_) | (refine V.NDraw.any (by kernel_rfl) ?_) | fail)
  all_goals (conv => whnf)
  · exact V.fin1 (ge 6 (by decide) (by omega) (by rw [ev, if_neg (fun z => z (dd.2 (by assumption))), if_pos ⟨by omega, by assumption⟩]))
  · exact V.fin1 (ge 4 (by decide) (by omega) (by rw [ev, if_neg (fun z => z (dd.2 (by assumption))), if_neg (by omega), if_pos ⟨by omega, by assumption⟩]))
  · exact V.NBack.at_ (k + 1) [] ⟨by omega, on (by omega) (by rw [ev, if_neg (fun z => z (dd.2 (by assumption))), if_neg (by omega), if_neg (by omega)])⟩ (by omega) (by repeat' (first | exact rfl | exact Iff.rfl | exact trivial | exact (fun _ _ => rfl) | exact (fun _ h => absurd h (Nat.not_lt_zero _)) | refine ⟨?_, ?_⟩ | exact Iff.rfl | exact congrArg (fun z => V.SV.one (V.At.val (Value.int .i64 z))) (by omega))) rfl (by repeat' (first | exact rfl | exact Iff.rfl | exact trivial | exact (fun _ _ => rfl) | exact (fun _ h => absurd h (Nat.not_lt_zero _)) | refine ⟨?_, ?_⟩ | exact Iff.rfl | exact congrArg (fun z => V.SV.one (V.At.val (Value.int .i64 z))) (by omega))) (by repeat' (first | exact rfl | exact Iff.rfl | exact trivial | exact (fun _ _ => rfl) | exact (fun _ h => absurd h (Nat.not_lt_zero _)) | refine ⟨?_, ?_⟩ | exact Iff.rfl | exact congrArg (fun z => V.SV.one (V.At.val (Value.int .i64 z))) (by omega))) (by repeat' (first | exact rfl | exact Iff.rfl | exact trivial | exact (fun _ _ => rfl) | exact (fun _ h => absurd h (Nat.not_lt_zero _)) | refine ⟨?_, ?_⟩ | exact Iff.rfl | exact congrArg (fun z => V.SV.one (V.At.val (Value.int .i64 z))) (by omega)))
  · exact V.NBack.at_ (k + 1) [] ⟨by omega, on (by omega) (by rw [ev, if_neg (fun z => z (dd.2 (by assumption))), if_neg (by omega), if_neg (by omega)])⟩ (by omega) (by repeat' (first | exact rfl | exact Iff.rfl | exact trivial | exact (fun _ _ => rfl) | exact (fun _ h => absurd h (Nat.not_lt_zero _)) | refine ⟨?_, ?_⟩ | exact Iff.rfl | exact congrArg (fun z => V.SV.one (V.At.val (Value.int .i64 z))) (by omega))) rfl (by repeat' (first | exact rfl | exact Iff.rfl | exact trivial | exact (fun _ _ => rfl) | exact (fun _ h => absurd h (Nat.not_lt_zero _)) | refine ⟨?_, ?_⟩ | exact Iff.rfl | exact congrArg (fun z => V.SV.one (V.At.val (Value.int .i64 z))) (by omega))) (by repeat' (first | exact rfl | exact Iff.rfl | exact trivial | exact (fun _ _ => rfl) | exact (fun _ h => absurd h (Nat.not_lt_zero _)) | refine ⟨?_, ?_⟩ | exact Iff.rfl | exact congrArg (fun z => V.SV.one (V.At.val (Value.int .i64 z))) (by omega))) (by repeat' (first | exact rfl | exact Iff.rfl | exact trivial | exact (fun _ _ => rfl) | exact (fun _ h => absurd h (Nat.not_lt_zero _)) | refine ⟨?_, ?_⟩ | exact Iff.rfl | exact congrArg (fun z => V.SV.one (V.At.val (Value.int .i64 z))) (by omega)))
  · exact V.fin1 (ge 3 (by decide) (by omega) (by rw [ev, if_pos (fun z => absurd (dd.1 z) (by assumption))]))
  · obtain rfl : k = c.hs.length := by omega
    exact V.fin1 (e.trans (Ca.fe_end hJ))
theorem v_caChecks (c : Cl) (ds : List Int) (hn : c.hs.length ≤ 9223372036854775807) (hd : ds.length ≤ 1000) : V.Fn Try.prog 113 [.arr 1 c.hs.length (ga e1 c.hs), .arr 1 ds.length (ga e1 ds)] [.agg [.val (.int .i64 c.we), .ref 0], .one (.ref 1)] (.int .i64 (Ca.chks c ds)) := by
  have c1 := @Ca.chks_1 c ds
  have c2 := @Ca.chks_2 c ds
  refine V.Fn.mk_ V.Tok V.mixed Try.func113 rfl Try.ntmps113 (by kernel_rfl) rfl rfl ?_
  repeat' ((conv => whnf); first | refine V.NCond.mk ?_ | refine V.NIf.not_ ?_ | refine V.NIf.dec_ ?_ | refine V.NIf.no (by omega) ?_ | refine V.NIf.yes (by omega) ?_ | refine V.NIf.mk (fun _ => ?_) (fun _ => ?_) | refine V.NWrap.ok (by omega) (by omega) ?_ | refine V.NWrap.u64 (by omega) (by omega) ?_ | refine V.NLt.mk (by omega) ?_ | refine V.NBoth.mk ?_ ?_ | refine V.NTF.yes (by omega) ?_ | refine V.NTF.no (by omega) ?_ | refine V.NTF.dec ?_ | refine V.NDraw.q (by exact rfl) (by kernel_rfl) ?_ | refine V.NApp.one (by first | omega | (simp; omega)) (by first | omega | (simp; omega)) ?_ | ((first | refine V.Fn.k (v_caCheck c hn) [0] rfl ?_ ?_ | refine V.Fn.q (v_caCheck c hn) [0] rfl ?_ ?_ | refine V.Fn.a (v_caCheck c hn) [0] rfl ?_ ?_); · ((repeat' (first | exact rfl | exact Iff.rfl | exact trivial | exact (fun _ _ => rfl) | exact (fun _ h => absurd h (Nat.not_lt_zero _)) | refine ⟨?_, ?_⟩ | exact Iff.rfl | exact congrArg (fun z => V.SV.one (V.At.val (Value.int .i64 z))) (by omega))); done)) | (refine V.NDraw.any (by kernel_rfl) ?_) | fail)
  all_goals (conv => whnf)
  rotate_left
  · exact V.fin1 (c1 (by assumption))
  have e := c2 (by assumption)
  refine V.NLoop.auto (fun (k : Nat) => [(16, .one (.val (.int .i64 k)))]) (fun (k : Nat) => []) [] [] (fun (k : Nat) => ds.length - k) (fun (k : Nat) => k ≤ ds.length ∧ ∀ d ∈ ds.take k, D.chk d = 0) 0 ⟨Nat.zero_le _, by simp⟩ (by repeat' (first | exact rfl | exact Iff.rfl | exact trivial | exact (fun _ _ => rfl) | exact (fun _ h => absurd h (Nat.not_lt_zero _)) | refine ⟨?_, ?_⟩ | exact Iff.rfl | exact congrArg (fun z => V.SV.one (V.At.val (Value.int .i64 z))) (by omega))) (by repeat' (first | exact rfl | exact Iff.rfl | exact trivial | exact (fun _ _ => rfl) | exact (fun _ h => absurd h (Nat.not_lt_zero _)) | refine ⟨?_, ?_⟩ | exact Iff.rfl | exact congrArg (fun z => V.SV.one (V.At.val (Value.int .i64 z))) (by omega))) (fun _ => ⟨rfl, rfl⟩) ?_; (conv => whnf); refine ⟨⟨rfl, rfl⟩, ?_⟩
  rintro k ⟨hk, hJ⟩
  repeat' ((conv => whnf); first | refine V.NCond.mk ?_ | refine V.NIf.not_ ?_ | refine V.NIf.dec_ ?_ | refine V.NIf.no (by omega) ?_ | refine V.NIf.yes (by omega) ?_ | refine V.NIf.mk (fun _ => ?_) (fun _ => ?_) | refine V.NWrap.ok (by omega) (by omega) ?_ | refine V.NWrap.u64 (by omega) (by omega) ?_ | refine V.NLt.mk (by omega) ?_ | refine V.NBoth.mk ?_ ?_ | refine V.NTF.yes (by omega) ?_ | refine V.NTF.no (by omega) ?_ | refine V.NTF.dec ?_ | refine V.NDraw.q (by exact rfl) (by kernel_rfl) ?_ | refine V.NApp.one (by first | omega | (simp; omega)) (by first | omega | (simp; omega)) ?_ | (refine NIdx.mk ⟨k, rfl, by omega, ?_⟩) | (first | refine V.Fn.k0 (v_dcheck _) rfl ?_ | refine V.Fn.q0 (v_dcheck _) rfl ?_ | refine V.Fn.a0 (v_dcheck _) rfl ?_) | (refine V.NDraw.any (by kernel_rfl) ?_) | fail)
  all_goals (conv => whnf)
  · exact V.NBack.at_ (k + 1) [] ⟨by omega, all_snoc (by omega) hJ (by assumption)⟩ (by omega) (by repeat' (first | exact rfl | exact Iff.rfl | exact trivial | exact (fun _ _ => rfl) | exact (fun _ h => absurd h (Nat.not_lt_zero _)) | refine ⟨?_, ?_⟩ | exact Iff.rfl | exact congrArg (fun z => V.SV.one (V.At.val (Value.int .i64 z))) (by omega))) rfl (by repeat' (first | exact rfl | exact Iff.rfl | exact trivial | exact (fun _ _ => rfl) | exact (fun _ h => absurd h (Nat.not_lt_zero _)) | refine ⟨?_, ?_⟩ | exact Iff.rfl | exact congrArg (fun z => V.SV.one (V.At.val (Value.int .i64 z))) (by omega))) (by repeat' (first | exact rfl | exact Iff.rfl | exact trivial | exact (fun _ _ => rfl) | exact (fun _ h => absurd h (Nat.not_lt_zero _)) | refine ⟨?_, ?_⟩ | exact Iff.rfl | exact congrArg (fun z => V.SV.one (V.At.val (Value.int .i64 z))) (by omega))) (by repeat' (first | exact rfl | exact Iff.rfl | exact trivial | exact (fun _ _ => rfl) | exact (fun _ h => absurd h (Nat.not_lt_zero _)) | refine ⟨?_, ?_⟩ | exact Iff.rfl | exact congrArg (fun z => V.SV.one (V.At.val (Value.int .i64 z))) (by omega)))
  · exact V.fin1 (e.trans (fb_get (by omega) hJ (by assumption)))
  · exact V.fin1 (e.trans (fb_end (by omega) hJ))
theorem v_caIs (c : Cl) (n : Int) (hn : c.hs.length ≤ 9223372036854775807) : V.Fn Try.prog 78 [.arr 1 c.hs.length (ga e1 c.hs)] [.agg [.val (.int .i64 c.we), .ref 0], .one (.val (.int .i64 n))] (.tuple #[.bool (Ca.isV c n), .int .i64 (Ca.e1 c n)]) := by
  have vo := fun h : Ca.e1 c n = 0 => v_caopen c n (Ca.e1_ok h).1 (Ca.e1_ok h).2.1
  have ck := v_caChecks c [n] hn (by simp)
  rw [show Ca.chks c [n] = Ca.e1 c n from rfl] at ck
  refine V.Fn.mk_ V.Tok V.mixed Try.func78 rfl Try.ntmps78 (by kernel_rfl) rfl rfl ?_
  repeat' ((conv => whnf); first | refine V.NCond.mk ?_ | refine V.NIf.not_ ?_ | refine V.NIf.dec_ ?_ | refine V.NIf.no (by omega) ?_ | refine V.NIf.yes (by omega) ?_ | refine V.NIf.mk (fun _ => ?_) (fun _ => ?_) | refine V.NWrap.ok (by omega) (by omega) ?_ | refine V.NWrap.u64 (by omega) (by omega) ?_ | refine V.NLt.mk (by omega) ?_ | refine V.NBoth.mk ?_ ?_ | refine V.NTF.yes (by omega) ?_ | refine V.NTF.no (by omega) ?_ | refine V.NTF.dec ?_ | refine V.NDraw.q (by exact rfl) (by kernel_rfl) ?_ | refine V.NApp.one (by first | omega | (simp; omega)) (by first | omega | (simp; omega)) ?_ | ((first | refine V.Fn.k (ck) [0, 2] rfl ?_ ?_ | refine V.Fn.q (ck) [0, 2] rfl ?_ ?_ | refine V.Fn.a (ck) [0, 2] rfl ?_ ?_); · ((repeat' (first | exact rfl | exact Iff.rfl | exact trivial | exact (fun _ _ => rfl) | exact (fun _ h => absurd h (Nat.not_lt_zero _)) | refine ⟨?_, ?_⟩ | exact Iff.rfl | exact congrArg (fun z => V.SV.one (V.At.val (Value.int .i64 z))) (by omega))); done)) | ((first | refine V.Fn.k (vo (by assumption)) [0] rfl ?_ ?_ | refine V.Fn.q (vo (by assumption)) [0] rfl ?_ ?_ | refine V.Fn.a (vo (by assumption)) [0] rfl ?_ ?_); · ((repeat' (first | exact rfl | exact Iff.rfl | exact trivial | exact (fun _ _ => rfl) | exact (fun _ h => absurd h (Nat.not_lt_zero _)) | refine ⟨?_, ?_⟩ | exact Iff.rfl | exact congrArg (fun z => V.SV.one (V.At.val (Value.int .i64 z))) (by omega))); done)) | (refine V.NDraw.any (by kernel_rfl) ?_) | fail)
  all_goals (conv => whnf)
  · exact ⟨congrArg Value.bool (decide_eq_decide.2 ⟨fun q => ⟨by assumption, q⟩, fun q => q.2⟩), V.fin1 (by assumption), trivial⟩
  · exact ⟨congrArg Value.bool (decide_eq_false fun q => absurd q.1 (by assumption)).symm, rfl, trivial⟩
theorem v_business (c : Cl) (n : Int) (h : Ca.Ok c) : V.Fn Try.prog 84 [.arr 1 c.hs.length (ga e1 c.hs)] [.agg [.val (.int .i64 c.we), .ref 0], .one (.val (.int .i64 n))] (.bool (decide (Ca.Day n ∧ Ca.op c n = 1))) := by
  obtain ⟨h1, h2, h3, h4⟩ := h
  have w01 := Ca.wd_01 c n
  have o1 : n ∈ c.hs → Ca.op c n = 0 := fun q => if_pos q
  have o2 : ¬ n ∈ c.hs → Ca.op c n = Ca.wd c n := fun q => if_neg q
  have ew : Ca.wd c n = 1 - c.we / 2 ^ (n % 7).toNat % 2 := rfl
  have dd : Ca.Day n ↔ (0 ≤ n ∧ n ≤ 3652058) := Iff.rfl
  refine V.Fn.mk_ V.Tok V.mixed Try.func84 rfl Try.ntmps84 (by kernel_rfl) rfl rfl ?_
  repeat' ((conv => whnf); first | refine V.NCond.mk ?_ | refine V.NIf.not_ ?_ | refine V.NIf.dec_ ?_ | refine V.NIf.no (by omega) ?_ | refine V.NIf.yes (by omega) ?_ | refine V.NIf.mk (fun _ => ?_) (fun _ => ?_) | refine V.NWrap.ok (by omega) (by omega) ?_ | refine V.NWrap.u64 (by omega) (by omega) ?_ | refine V.NLt.mk (by omega) ?_ | refine V.NBoth.mk ?_ ?_ | refine V.NTF.yes (by omega) ?_ | refine V.NTF.no (by omega) ?_ | refine V.NTF.dec ?_ | refine V.NDraw.q (by exact rfl) (by kernel_rfl) ?_ | refine V.NApp.one (by first | omega | (simp; omega)) (by first | omega | (simp; omega)) ?_ | (refine V.NDraw.any (by kernel_rfl) ?_) | fail)
  all_goals (conv => whnf)
  · exact congrArg Value.bool (decide_eq_false (fun q => by have := dd.1 q.1; omega)).symm
  · exact congrArg Value.bool (decide_eq_false (fun q => by have := dd.1 q.1; omega)).symm
  refine V.NLoop.auto (fun (k : Nat) => [(5, .one (.val (.int .i64 k)))]) (fun (k : Nat) => []) [] [] (fun (k : Nat) => c.hs.length - k) (fun (k : Nat) => k ≤ c.hs.length ∧ ∀ d ∈ c.hs.take k, ¬ d = n) 0 ⟨Nat.zero_le _, by simp⟩ (by repeat' (first | exact rfl | exact Iff.rfl | exact trivial | exact (fun _ _ => rfl) | exact (fun _ h => absurd h (Nat.not_lt_zero _)) | refine ⟨?_, ?_⟩ | exact Iff.rfl | exact congrArg (fun z => V.SV.one (V.At.val (Value.int .i64 z))) (by omega))) (by repeat' (first | exact rfl | exact Iff.rfl | exact trivial | exact (fun _ _ => rfl) | exact (fun _ h => absurd h (Nat.not_lt_zero _)) | refine ⟨?_, ?_⟩ | exact Iff.rfl | exact congrArg (fun z => V.SV.one (V.At.val (Value.int .i64 z))) (by omega))) (fun _ => ⟨rfl, rfl⟩) ?_; (conv => whnf); refine ⟨⟨rfl, rfl⟩, ?_⟩
  rintro k ⟨hk, hJ⟩
  repeat' ((conv => whnf); first | refine V.NCond.mk ?_ | refine V.NIf.not_ ?_ | refine V.NIf.dec_ ?_ | refine V.NIf.no (by omega) ?_ | refine V.NIf.yes (by omega) ?_ | refine V.NIf.mk (fun _ => ?_) (fun _ => ?_) | refine V.NWrap.ok (by omega) (by omega) ?_ | refine V.NWrap.u64 (by omega) (by omega) ?_ | refine V.NLt.mk (by omega) ?_ | refine V.NBoth.mk ?_ ?_ | refine V.NTF.yes (by omega) ?_ | refine V.NTF.no (by omega) ?_ | refine V.NTF.dec ?_ | refine V.NDraw.q (by exact rfl) (by kernel_rfl) ?_ | refine V.NApp.one (by first | omega | (simp; omega)) (by first | omega | (simp; omega)) ?_ | (refine NIdx.mk ⟨k, rfl, by omega, ?_⟩) | (refine V.NDraw.any (by kernel_rfl) ?_) | fail)
  all_goals (conv => whnf)
  · have hm : n ∈ c.hs := by have q : c.hs.getD k default = n := by assumption
                             rw [← q]; exact getD_mem (by omega)
    exact congrArg Value.bool (decide_eq_false (fun q => by rw [o1 hm] at q; omega)).symm
  · exact V.NBack.at_ (k + 1) [] ⟨by omega, all_snoc (by omega) hJ (by assumption)⟩ (by omega) (by repeat' (first | exact rfl | exact Iff.rfl | exact trivial | exact (fun _ _ => rfl) | exact (fun _ h => absurd h (Nat.not_lt_zero _)) | refine ⟨?_, ?_⟩ | exact Iff.rfl | exact congrArg (fun z => V.SV.one (V.At.val (Value.int .i64 z))) (by omega))) rfl (by repeat' (first | exact rfl | exact Iff.rfl | exact trivial | exact (fun _ _ => rfl) | exact (fun _ h => absurd h (Nat.not_lt_zero _)) | refine ⟨?_, ?_⟩ | exact Iff.rfl | exact congrArg (fun z => V.SV.one (V.At.val (Value.int .i64 z))) (by omega))) (by repeat' (first | exact rfl | exact Iff.rfl | exact trivial | exact (fun _ _ => rfl) | exact (fun _ h => absurd h (Nat.not_lt_zero _)) | refine ⟨?_, ?_⟩ | exact Iff.rfl | exact congrArg (fun z => V.SV.one (V.At.val (Value.int .i64 z))) (by omega))) (by repeat' (first | exact rfl | exact Iff.rfl | exact trivial | exact (fun _ _ => rfl) | exact (fun _ h => absurd h (Nat.not_lt_zero _)) | refine ⟨?_, ?_⟩ | exact Iff.rfl | exact congrArg (fun z => V.SV.one (V.At.val (Value.int .i64 z))) (by omega)))
  have e := o2 fun q => all_whole (k := k) (by omega) hJ n q rfl
  have pw : ∀ i : Nat, (2 : Int) ^ (i + 1) = 2 ^ i * 2 := fun i => Int.pow_succ 2 i
  have p0 : ∀ i : Nat, (0 : Int) < 2 ^ i := fun i => Int.pow_pos (by omega)
  refine V.NLoop.auto (fun (i : Nat) => [(7, .one (.val (.int .i64 i))), (6, .one (.val (.int .i64 (c.we / 2 ^ i))))]) (fun (i : Nat) => []) [] [] (fun (i : Nat) => 7 - i) (fun (i : Nat) => (i : Int) ≤ n % 7) 0 (by omega) (by (conv => whnf); exact ⟨(by repeat' (first | exact rfl | exact Iff.rfl | exact trivial | exact (fun _ _ => rfl) | exact (fun _ h => absurd h (Nat.not_lt_zero _)) | refine ⟨?_, ?_⟩ | exact Iff.rfl | exact congrArg (fun z => V.SV.one (V.At.val (Value.int .i64 z))) (by omega))), congrArg (fun z => V.SV.one (V.At.val (Value.int .i64 z))) (show c.we = c.we / 2 ^ 0 by simp), trivial⟩) (by repeat' (first | exact rfl | exact Iff.rfl | exact trivial | exact (fun _ _ => rfl) | exact (fun _ h => absurd h (Nat.not_lt_zero _)) | refine ⟨?_, ?_⟩ | exact Iff.rfl | exact congrArg (fun z => V.SV.one (V.At.val (Value.int .i64 z))) (by omega))) (fun _ => ⟨rfl, rfl⟩) ?_; (conv => whnf); refine ⟨⟨rfl, rfl⟩, ?_⟩
  rintro i hi
  have dv : c.we / 2 ^ (i + 1) = c.we / 2 ^ i / 2 := by rw [pw, Int.ediv_ediv_of_nonneg (Int.le_of_lt (p0 i))]
  have dn : 0 ≤ c.we / 2 ^ i ∧ c.we / 2 ^ i ≤ c.we := ⟨Int.ediv_nonneg h1.1 (Int.le_of_lt (p0 i)), Int.ediv_le_self _ h1.1⟩
  repeat' ((conv => whnf); first | refine V.NCond.mk ?_ | refine V.NIf.not_ ?_ | refine V.NIf.dec_ ?_ | refine V.NIf.no (by omega) ?_ | refine V.NIf.yes (by omega) ?_ | refine V.NIf.mk (fun _ => ?_) (fun _ => ?_) | refine V.NWrap.ok (by omega) (by omega) ?_ | refine V.NWrap.u64 (by omega) (by omega) ?_ | refine V.NLt.mk (by omega) ?_ | refine V.NBoth.mk ?_ ?_ | refine V.NTF.yes (by omega) ?_ | refine V.NTF.no (by omega) ?_ | refine V.NTF.dec ?_ | refine V.NDraw.q (by exact rfl) (by kernel_rfl) ?_ | refine V.NApp.one (by first | omega | (simp; omega)) (by first | omega | (simp; omega)) ?_ | (refine NRem.pos (y := 7) (by omega) (by omega) ?_; intro r hr hr0 hr1) | (refine NQuo.pos (by omega) (by omega) (by omega) ?_; intro z hz hz0 hz1) | (refine NRem.pos (y := 2) (by omega) (by omega) ?_; intro r2 hr2 hr20 hr21) | (refine V.NDraw.any (by kernel_rfl) ?_) | fail)
  all_goals (conv => whnf)
  · exact V.NBack.at_ (i + 1) [] (by omega) (by omega) ⟨(by repeat' (first | exact rfl | exact Iff.rfl | exact trivial | exact (fun _ _ => rfl) | exact (fun _ h => absurd h (Nat.not_lt_zero _)) | refine ⟨?_, ?_⟩ | exact Iff.rfl | exact congrArg (fun z => V.SV.one (V.At.val (Value.int .i64 z))) (by omega))), congrArg (fun z => V.SV.one (V.At.val (Value.int .i64 z))) (hz.trans dv.symm), trivial⟩ rfl (by repeat' (first | exact rfl | exact Iff.rfl | exact trivial | exact (fun _ _ => rfl) | exact (fun _ h => absurd h (Nat.not_lt_zero _)) | refine ⟨?_, ?_⟩ | exact Iff.rfl | exact congrArg (fun z => V.SV.one (V.At.val (Value.int .i64 z))) (by omega))) (by repeat' (first | exact rfl | exact Iff.rfl | exact trivial | exact (fun _ _ => rfl) | exact (fun _ h => absurd h (Nat.not_lt_zero _)) | refine ⟨?_, ?_⟩ | exact Iff.rfl | exact congrArg (fun z => V.SV.one (V.At.val (Value.int .i64 z))) (by omega))) (by repeat' (first | exact rfl | exact Iff.rfl | exact trivial | exact (fun _ _ => rfl) | exact (fun _ h => absurd h (Nat.not_lt_zero _)) | refine ⟨?_, ?_⟩ | exact Iff.rfl | exact congrArg (fun z => V.SV.one (V.At.val (Value.int .i64 z))) (by omega)))
  · have hi' : (n % 7).toNat = i := by omega
    rw [hi'] at ew
    exact ⟨_, rfl, by rw [decide_eq_true_eq, e, ew]; exact ⟨fun q => ⟨dd.2 (by omega), by omega⟩, fun q => by omega⟩⟩
set_option maxHeartbeats 4000000 in
theorem v_nthU (c : Cl) (n many : Int) (h : Ca.Ok c) (hn : 0 ≤ n ∧ n ≤ 3652059) (hm : 1 ≤ many ∧ many ≤ 1000) : V.Fn Try.prog 125 [.arr 1 c.hs.length (ga e1 c.hs)] [.agg [.val (.int .i64 c.we), .ref 0], .one (.val (.int .i64 n)), .one (.val (.int .i64 1)), .one (.val (.int .i64 many))] (.int .i64 (Ca.stU c (n - 1) many)) := by
  refine V.Fn.mk_ V.Tok V.mixed Try.func125 rfl Try.ntmps125 (by kernel_rfl) rfl rfl ?_
  repeat' ((conv => whnf); first | refine V.NCond.mk ?_ | refine V.NIf.not_ ?_ | refine V.NIf.dec_ ?_ | refine V.NIf.no (by omega) ?_ | refine V.NIf.yes (by omega) ?_ | refine V.NIf.mk (fun _ => ?_) (fun _ => ?_) | refine V.NWrap.ok (by omega) (by omega) ?_ | refine V.NWrap.u64 (by omega) (by omega) ?_ | refine V.NLt.mk (by omega) ?_ | refine V.NBoth.mk ?_ ?_ | refine V.NTF.yes (by omega) ?_ | refine V.NTF.no (by omega) ?_ | refine V.NTF.dec ?_ | refine V.NDraw.q (by exact rfl) (by kernel_rfl) ?_ | refine V.NApp.one (by first | omega | (simp; omega)) (by first | omega | (simp; omega)) ?_ | (refine V.NCall.inl (f := 132) V.Tok V.mixed Try.func132 rfl Try.ntmps132 (by kernel_rfl) rfl ?_) | (refine V.NRange.inl V.Tok V.mixed Try.func136 rfl Try.ntmps136 (by kernel_rfl) [7, 8] [] ?_; (conv => whnf); refine V.NIs.mk rfl ?_; (conv => whnf); intro L hL) | (refine V.NDraw.any (by kernel_rfl) ?_) | fail)
  all_goals (conv => whnf)
  refine V.NLoop.auto (fun (i : Int) => []) (fun (i : Int) => [(5, .box 3 [.val (.int .i64 i)]), (2, .box 3 [.val (.int .i64 (many - Ca.cnt c (n - 1) (i - 1)))])]) [] [] (fun (i : Int) => (3652059 - i).toNat) (fun (i : Int) => n ≤ i ∧ i ≤ 3652059 ∧ Ca.cnt c (n - 1) (i - 1) < many) n ⟨Int.le_refl _, hn.2, by rw [Ca.cnt_none (Int.le_refl _)]; omega⟩ (by repeat' (first | exact rfl | exact Iff.rfl | exact trivial | exact (fun _ _ => rfl) | exact (fun _ h => absurd h (Nat.not_lt_zero _)) | refine ⟨?_, ?_⟩ | exact Iff.rfl | exact congrArg (fun z => V.SV.one (V.At.val (Value.int .i64 z))) (by omega))) (by (conv => whnf); exact ⟨rfl, congrArg (fun z => V.Ob.box _ [V.At.val (Value.int .i64 z)]) (by rw [Ca.cnt_none (Int.le_refl _)]; omega), trivial⟩) (fun _ => ⟨rfl, rfl⟩) ?_; (conv => whnf); refine ⟨⟨rfl, rfl⟩, ?_⟩
  rintro i ⟨h1, h2, h3⟩
  have cs := Ca.cnt_last (c := c) (a := n - 1) (b := i) (by omega)
  have c0 := (Ca.cnt_bd c (n - 1) (i - 1)).1
  have vo := fun q => v_caopen c i h q
  repeat' ((conv => whnf); first | refine V.NCond.mk ?_ | refine V.NIf.not_ ?_ | refine V.NIf.dec_ ?_ | refine V.NIf.no (by omega) ?_ | refine V.NIf.yes (by omega) ?_ | refine V.NIf.mk (fun _ => ?_) (fun _ => ?_) | refine V.NWrap.ok (by omega) (by omega) ?_ | refine V.NWrap.u64 (by omega) (by omega) ?_ | refine V.NLt.mk (by omega) ?_ | refine V.NBoth.mk ?_ ?_ | refine V.NTF.yes (by omega) ?_ | refine V.NTF.no (by omega) ?_ | refine V.NTF.dec ?_ | refine V.NDraw.q (by exact rfl) (by kernel_rfl) ?_ | refine V.NApp.one (by first | omega | (simp; omega)) (by first | omega | (simp; omega)) ?_ | ((first | refine V.Fn.k (vo ⟨by omega, by omega⟩) [0] rfl ?_ ?_ | refine V.Fn.q (vo ⟨by omega, by omega⟩) [0] rfl ?_ ?_ | refine V.Fn.a (vo ⟨by omega, by omega⟩) [0] rfl ?_ ?_); · ((repeat' (first | exact rfl | exact Iff.rfl | exact trivial | exact (fun _ _ => rfl) | exact (fun _ h => absurd h (Nat.not_lt_zero _)) | refine ⟨?_, ?_⟩ | exact Iff.rfl | exact congrArg (fun z => V.SV.one (V.At.val (Value.int .i64 z))) (by omega))); done)) | (refine V.NYield.mk_ V.Tok V.mixed hL rfl rfl ?_) | (refine V.NDraw.any (by kernel_rfl) ?_) | fail)
  all_goals (conv => whnf)
  · exact V.fin1 (Ca.stU_is ⟨by omega, by omega, by assumption, by omega⟩)
  · refine V.NBack.at_ (i + 1) [] ⟨by omega, by omega, by rw [show i + 1 - 1 = i by omega]; omega⟩ (by omega) (by repeat' (first | exact rfl | exact Iff.rfl | exact trivial | exact (fun _ _ => rfl) | exact (fun _ h => absurd h (Nat.not_lt_zero _)) | refine ⟨?_, ?_⟩ | exact Iff.rfl | exact congrArg (fun z => V.SV.one (V.At.val (Value.int .i64 z))) (by omega))) rfl ⟨rfl, congrArg (fun z => V.Ob.box _ [V.At.val (Value.int .i64 z)]) (by rw [show i + 1 - 1 = i by omega]; omega), trivial⟩ (by repeat' (first | exact rfl | exact Iff.rfl | exact trivial | exact (fun _ _ => rfl) | exact (fun _ h => absurd h (Nat.not_lt_zero _)) | refine ⟨?_, ?_⟩ | exact Iff.rfl | exact congrArg (fun z => V.SV.one (V.At.val (Value.int .i64 z))) (by omega))) (by repeat' (first | exact rfl | exact Iff.rfl | exact trivial | exact (fun _ _ => rfl) | exact (fun _ h => absurd h (Nat.not_lt_zero _)) | refine ⟨?_, ?_⟩ | exact Iff.rfl | exact congrArg (fun z => V.SV.one (V.At.val (Value.int .i64 z))) (by omega)))
  · have := Ca.op_01 c i
    refine V.NBack.at_ (i + 1) [] ⟨by omega, by omega, by rw [show i + 1 - 1 = i by omega]; omega⟩ (by omega) (by repeat' (first | exact rfl | exact Iff.rfl | exact trivial | exact (fun _ _ => rfl) | exact (fun _ h => absurd h (Nat.not_lt_zero _)) | refine ⟨?_, ?_⟩ | exact Iff.rfl | exact congrArg (fun z => V.SV.one (V.At.val (Value.int .i64 z))) (by omega))) rfl ⟨rfl, congrArg (fun z => V.Ob.box _ [V.At.val (Value.int .i64 z)]) (by rw [show i + 1 - 1 = i by omega]; omega), trivial⟩ (by repeat' (first | exact rfl | exact Iff.rfl | exact trivial | exact (fun _ _ => rfl) | exact (fun _ h => absurd h (Nat.not_lt_zero _)) | refine ⟨?_, ?_⟩ | exact Iff.rfl | exact congrArg (fun z => V.SV.one (V.At.val (Value.int .i64 z))) (by omega))) (by repeat' (first | exact rfl | exact Iff.rfl | exact trivial | exact (fun _ _ => rfl) | exact (fun _ h => absurd h (Nat.not_lt_zero _)) | refine ⟨?_, ?_⟩ | exact Iff.rfl | exact congrArg (fun z => V.SV.one (V.At.val (Value.int .i64 z))) (by omega)))
  · have e : i - 1 = 3652058 := by omega
    rw [e] at h3
    exact V.fin1 (Ca.stU_no h3)
set_option maxHeartbeats 4000000 in
theorem v_nthD (c : Cl) (n many : Int) (h : Ca.Ok c) (hn : -1 ≤ n ∧ n ≤ 3652058) (hm : 1 ≤ many ∧ many ≤ 1000) : V.Fn Try.prog 125 [.arr 1 c.hs.length (ga e1 c.hs)] [.agg [.val (.int .i64 c.we), .ref 0], .one (.val (.int .i64 n)), .one (.val (.int .i64 (-1))), .one (.val (.int .i64 many))] (.int .i64 (Ca.stD c (n + 1) many)) := by
  refine V.Fn.mk_ V.Tok V.mixed Try.func125 rfl Try.ntmps125 (by kernel_rfl) rfl rfl ?_
  repeat' ((conv => whnf); first | refine V.NCond.mk ?_ | refine V.NIf.not_ ?_ | refine V.NIf.dec_ ?_ | refine V.NIf.no (by omega) ?_ | refine V.NIf.yes (by omega) ?_ | refine V.NIf.mk (fun _ => ?_) (fun _ => ?_) | refine V.NWrap.ok (by omega) (by omega) ?_ | refine V.NWrap.u64 (by omega) (by omega) ?_ | refine V.NLt.mk (by omega) ?_ | refine V.NBoth.mk ?_ ?_ | refine V.NTF.yes (by omega) ?_ | refine V.NTF.no (by omega) ?_ | refine V.NTF.dec ?_ | refine V.NDraw.q (by exact rfl) (by kernel_rfl) ?_ | refine V.NApp.one (by first | omega | (simp; omega)) (by first | omega | (simp; omega)) ?_ | (refine V.NCall.inl (f := 132) V.Tok V.mixed Try.func132 rfl Try.ntmps132 (by kernel_rfl) rfl ?_) | (refine V.NRange.inl V.Tok V.mixed Try.func136 rfl Try.ntmps136 (by kernel_rfl) [7, 8] [] ?_; (conv => whnf); refine V.NIs.mk rfl ?_; (conv => whnf); intro L hL) | (refine V.NDraw.any (by kernel_rfl) ?_) | fail)
  all_goals (conv => whnf)
  refine V.NLoop.auto (fun (i : Int) => []) (fun (i : Int) => [(5, .box 3 [.val (.int .i64 i)]), (2, .box 3 [.val (.int .i64 (many - Ca.cnt c i n))])]) [] [] (fun (i : Int) => (i + 1).toNat) (fun (i : Int) => i ≤ n ∧ -1 ≤ i ∧ Ca.cnt c i n < many) n ⟨Int.le_refl _, hn.1, by rw [Ca.cnt_none (Int.le_refl _)]; omega⟩ (by repeat' (first | exact rfl | exact Iff.rfl | exact trivial | exact (fun _ _ => rfl) | exact (fun _ h => absurd h (Nat.not_lt_zero _)) | refine ⟨?_, ?_⟩ | exact Iff.rfl | exact congrArg (fun z => V.SV.one (V.At.val (Value.int .i64 z))) (by omega))) (by (conv => whnf); exact ⟨rfl, congrArg (fun z => V.Ob.box _ [V.At.val (Value.int .i64 z)]) (by rw [Ca.cnt_none (Int.le_refl _)]; omega), trivial⟩) (fun _ => ⟨rfl, rfl⟩) ?_; (conv => whnf); refine ⟨⟨rfl, rfl⟩, ?_⟩
  rintro i ⟨h1, h2, h3⟩
  have cs := Ca.cnt_first (c := c) (a := i - 1) (b := n) (by omega)
  rw [show i - 1 + 1 = i by omega] at cs
  have c0 := (Ca.cnt_bd c i n).1
  have vo := fun q => v_caopen c i h q
  repeat' ((conv => whnf); first | refine V.NCond.mk ?_ | refine V.NIf.not_ ?_ | refine V.NIf.dec_ ?_ | refine V.NIf.no (by omega) ?_ | refine V.NIf.yes (by omega) ?_ | refine V.NIf.mk (fun _ => ?_) (fun _ => ?_) | refine V.NWrap.ok (by omega) (by omega) ?_ | refine V.NWrap.u64 (by omega) (by omega) ?_ | refine V.NLt.mk (by omega) ?_ | refine V.NBoth.mk ?_ ?_ | refine V.NTF.yes (by omega) ?_ | refine V.NTF.no (by omega) ?_ | refine V.NTF.dec ?_ | refine V.NDraw.q (by exact rfl) (by kernel_rfl) ?_ | refine V.NApp.one (by first | omega | (simp; omega)) (by first | omega | (simp; omega)) ?_ | ((first | refine V.Fn.k (vo ⟨by omega, by omega⟩) [0] rfl ?_ ?_ | refine V.Fn.q (vo ⟨by omega, by omega⟩) [0] rfl ?_ ?_ | refine V.Fn.a (vo ⟨by omega, by omega⟩) [0] rfl ?_ ?_); · ((repeat' (first | exact rfl | exact Iff.rfl | exact trivial | exact (fun _ _ => rfl) | exact (fun _ h => absurd h (Nat.not_lt_zero _)) | refine ⟨?_, ?_⟩ | exact Iff.rfl | exact congrArg (fun z => V.SV.one (V.At.val (Value.int .i64 z))) (by omega))); done)) | (refine V.NYield.mk_ V.Tok V.mixed hL rfl rfl ?_) | (refine V.NDraw.any (by kernel_rfl) ?_) | fail)
  all_goals (conv => whnf)
  · exact V.fin1 (Ca.stD_is ⟨by omega, by omega, by assumption, by rw [show n + 1 - 1 = n by omega]; omega⟩)
  · exact V.NBack.at_ (i - 1) [] ⟨by omega, by omega, by omega⟩ (by omega) (by repeat' (first | exact rfl | exact Iff.rfl | exact trivial | exact (fun _ _ => rfl) | exact (fun _ h => absurd h (Nat.not_lt_zero _)) | refine ⟨?_, ?_⟩ | exact Iff.rfl | exact congrArg (fun z => V.SV.one (V.At.val (Value.int .i64 z))) (by omega))) rfl ⟨rfl, congrArg (fun z => V.Ob.box _ [V.At.val (Value.int .i64 z)]) (by omega), trivial⟩ (by repeat' (first | exact rfl | exact Iff.rfl | exact trivial | exact (fun _ _ => rfl) | exact (fun _ h => absurd h (Nat.not_lt_zero _)) | refine ⟨?_, ?_⟩ | exact Iff.rfl | exact congrArg (fun z => V.SV.one (V.At.val (Value.int .i64 z))) (by omega))) (by repeat' (first | exact rfl | exact Iff.rfl | exact trivial | exact (fun _ _ => rfl) | exact (fun _ h => absurd h (Nat.not_lt_zero _)) | refine ⟨?_, ?_⟩ | exact Iff.rfl | exact congrArg (fun z => V.SV.one (V.At.val (Value.int .i64 z))) (by omega)))
  · have := Ca.op_01 c i
    exact V.NBack.at_ (i - 1) [] ⟨by omega, by omega, by omega⟩ (by omega) (by repeat' (first | exact rfl | exact Iff.rfl | exact trivial | exact (fun _ _ => rfl) | exact (fun _ h => absurd h (Nat.not_lt_zero _)) | refine ⟨?_, ?_⟩ | exact Iff.rfl | exact congrArg (fun z => V.SV.one (V.At.val (Value.int .i64 z))) (by omega))) rfl ⟨rfl, congrArg (fun z => V.Ob.box _ [V.At.val (Value.int .i64 z)]) (by omega), trivial⟩ (by repeat' (first | exact rfl | exact Iff.rfl | exact trivial | exact (fun _ _ => rfl) | exact (fun _ h => absurd h (Nat.not_lt_zero _)) | refine ⟨?_, ?_⟩ | exact Iff.rfl | exact congrArg (fun z => V.SV.one (V.At.val (Value.int .i64 z))) (by omega))) (by repeat' (first | exact rfl | exact Iff.rfl | exact trivial | exact (fun _ _ => rfl) | exact (fun _ h => absurd h (Nat.not_lt_zero _)) | refine ⟨?_, ?_⟩ | exact Iff.rfl | exact congrArg (fun z => V.SV.one (V.At.val (Value.int .i64 z))) (by omega)))
  · have e : i = -1 := by omega
    rw [e] at h3
    exact V.fin1 (Ca.stD_no (by rw [show n + 1 - 1 = n by omega]; exact h3))
theorem v_caRaw (c : Cl) (n many : Int) (h : Ca.Ok c) (hn : Ca.Day n) (hm : -1000 ≤ many ∧ many ≤ 1000) : V.Fn Try.prog 116 [.arr 1 c.hs.length (ga e1 c.hs)] [.agg [.val (.int .i64 c.we), .ref 0], .one (.val (.int .i64 n)), .one (.val (.int .i64 many))] (.int .i64 (Ca.stp c n many)) := by
  unfold Ca.Day at hn
  have p := @Ca.stp_p c n many
  have m := @Ca.stp_n c n many
  have u := fun q r => v_nthU c (n + 1) many h q r
  have d := fun q r => v_nthD c (n - 1) (0 - many) h q r
  rw [show n + 1 - 1 = n by omega] at u
  rw [show n - 1 + 1 = n by omega] at d
  refine V.Fn.mk_ V.Tok V.mixed Try.func116 rfl Try.ntmps116 (by kernel_rfl) rfl rfl ?_
  repeat' ((conv => whnf); first | refine V.NCond.mk ?_ | refine V.NIf.not_ ?_ | refine V.NIf.dec_ ?_ | refine V.NIf.no (by omega) ?_ | refine V.NIf.yes (by omega) ?_ | refine V.NIf.mk (fun _ => ?_) (fun _ => ?_) | refine V.NWrap.ok (by omega) (by omega) ?_ | refine V.NWrap.u64 (by omega) (by omega) ?_ | refine V.NLt.mk (by omega) ?_ | refine V.NBoth.mk ?_ ?_ | refine V.NTF.yes (by omega) ?_ | refine V.NTF.no (by omega) ?_ | refine V.NTF.dec ?_ | refine V.NDraw.q (by exact rfl) (by kernel_rfl) ?_ | refine V.NApp.one (by first | omega | (simp; omega)) (by first | omega | (simp; omega)) ?_ | ((first | refine V.Fn.k (u (by omega) (by omega)) [0] rfl ?_ ?_ | refine V.Fn.q (u (by omega) (by omega)) [0] rfl ?_ ?_ | refine V.Fn.a (u (by omega) (by omega)) [0] rfl ?_ ?_); · ((repeat' (first | exact rfl | exact Iff.rfl | exact trivial | exact (fun _ _ => rfl) | exact (fun _ h => absurd h (Nat.not_lt_zero _)) | refine ⟨?_, ?_⟩ | exact Iff.rfl | exact congrArg (fun z => V.SV.one (V.At.val (Value.int .i64 z))) (by omega))); done)) | ((first | refine V.Fn.k (d (by omega) (by omega)) [0] rfl ?_ ?_ | refine V.Fn.q (d (by omega) (by omega)) [0] rfl ?_ ?_ | refine V.Fn.a (d (by omega) (by omega)) [0] rfl ?_ ?_); · ((repeat' (first | exact rfl | exact Iff.rfl | exact trivial | exact (fun _ _ => rfl) | exact (fun _ h => absurd h (Nat.not_lt_zero _)) | refine ⟨?_, ?_⟩ | exact Iff.rfl | exact congrArg (fun z => V.SV.one (V.At.val (Value.int .i64 z))) (by omega))); done)) | (refine V.NDraw.any (by kernel_rfl) ?_) | fail)
  all_goals (conv => whnf)
  · exact V.fin1 (p (by assumption))
  · exact V.fin1 ((m (by assumption)).trans (by rw [Int.zero_sub]))
  · obtain rfl : many = 0 := by omega
    exact V.fin1 Ca.stp_0
theorem v_caCount (c : Cl) (a b : Int) (hn : c.hs.length ≤ 9223372036854775807) : V.Fn Try.prog 90 [.arr 1 c.hs.length (ga e1 c.hs)] [.agg [.val (.int .i64 c.we), .ref 0], .one (.val (.int .i64 a)), .one (.val (.int .i64 b))] (.tuple #[.int .i64 (Ca.coV c a b), .int .i64 (Ca.coE c a b)]) := by
  have ck := v_caChecks c [a, b] hn (by simp)
  have h1 : ¬ Ca.chks c [a, b] = 0 → Ca.coV c a b = 0 ∧ Ca.coE c a b = Ca.chks c [a, b] := fun h => by
    have e : Ca.coE c a b = Ca.chks c [a, b] := if_pos h
    exact ⟨if_neg (by omega), e⟩
  have h2 : Ca.chks c [a, b] = 0 → b < a → Ca.coV c a b = 0 ∧ Ca.coE c a b = 1 := fun h k => by
    have e : Ca.coE c a b = 1 := (if_neg (by omega)).trans (if_pos k)
    exact ⟨if_neg (by omega), e⟩
  have h3 : Ca.chks c [a, b] = 0 → ¬ b < a → Ca.coV c a b = Ca.cnt c a b ∧ Ca.coE c a b = 0 := fun h k => by
    have e : Ca.coE c a b = 0 := (if_neg (by omega)).trans (if_neg k)
    exact ⟨if_pos e, e⟩
  refine V.Fn.mk_ V.Tok V.mixed Try.func90 rfl Try.ntmps90 (by kernel_rfl) rfl rfl ?_
  repeat' ((conv => whnf); first | refine V.NCond.mk ?_ | refine V.NIf.not_ ?_ | refine V.NIf.dec_ ?_ | refine V.NIf.no (by omega) ?_ | refine V.NIf.yes (by omega) ?_ | refine V.NIf.mk (fun _ => ?_) (fun _ => ?_) | refine V.NWrap.ok (by omega) (by omega) ?_ | refine V.NWrap.u64 (by omega) (by omega) ?_ | refine V.NLt.mk (by omega) ?_ | refine V.NBoth.mk ?_ ?_ | refine V.NTF.yes (by omega) ?_ | refine V.NTF.no (by omega) ?_ | refine V.NTF.dec ?_ | refine V.NDraw.q (by exact rfl) (by kernel_rfl) ?_ | refine V.NApp.one (by first | omega | (simp; omega)) (by first | omega | (simp; omega)) ?_ | ((first | refine V.Fn.k (ck) [0, 2] rfl ?_ ?_ | refine V.Fn.q (ck) [0, 2] rfl ?_ ?_ | refine V.Fn.a (ck) [0, 2] rfl ?_ ?_); · ((repeat' (first | exact rfl | exact Iff.rfl | exact trivial | exact (fun _ _ => rfl) | exact (fun _ h => absurd h (Nat.not_lt_zero _)) | refine ⟨?_, ?_⟩ | exact Iff.rfl | exact congrArg (fun z => V.SV.one (V.At.val (Value.int .i64 z))) (by omega))); done)) | (refine V.NDraw.any (by kernel_rfl) ?_) | fail)
  all_goals (conv => whnf)
  · exact V.fin2 (h2 (by assumption) (by assumption))
  rotate_left
  · exact V.fin2 (h1 (by assumption))
  obtain ⟨ev, ee⟩ := h3 (by assumption) (by assumption)
  obtain ⟨hc0, ha, hb⟩ := Ca.chks2_ok (c := c) (a := a) (b := b) (by assumption)
  have ok := Ca.chk_ok hc0
  have hab : a ≤ b := by omega
  have ci := Ca.count_is (Ca.ok_nodup ok) hab
  unfold Ca.wk at ci
  have we := ok.1
  have hday := ok.2.2.1
  have n60 := ok.2.1
  unfold Ca.Day at ha hb hday
  clear h1 h2 h3 ck ok
  refine V.NLoop.auto (fun (k : Nat) => [(28, .one (.val (.int .i64 k))), (8, .one (.val (.int .i64 (Ca.sm (Ca.wd c) (-1) k))))]) (fun (k : Nat) => []) [] [] (fun (k : Nat) => 7 - k) (fun (k : Nat) => k ≤ 7) 0 (by omega) (by repeat' (first | exact rfl | exact Iff.rfl | exact trivial | exact (fun _ _ => rfl) | exact (fun _ h => absurd h (Nat.not_lt_zero _)) | refine ⟨?_, ?_⟩ | exact Iff.rfl | exact congrArg (fun z => V.SV.one (V.At.val (Value.int .i64 z))) (by omega))) (by repeat' (first | exact rfl | exact Iff.rfl | exact trivial | exact (fun _ _ => rfl) | exact (fun _ h => absurd h (Nat.not_lt_zero _)) | refine ⟨?_, ?_⟩ | exact Iff.rfl | exact congrArg (fun z => V.SV.one (V.At.val (Value.int .i64 z))) (by omega))) (fun _ => ⟨rfl, rfl⟩) ?_; (conv => whnf); refine ⟨⟨rfl, rfl⟩, ?_⟩
  rintro k hk
  have sb := Ca.smw_bd c (-1) k
  by_cases hlt : k < 7
  · have es : Ca.sm (Ca.wd c) (-1) (k + 1) = Ca.sm (Ca.wd c) (-1) k + (1 - c.we / 2 ^ k % 2) := by
      simp only [Ca.sm, Ca.wd]
      rw [show ((-1 + (k : Int) + 1) % 7).toNat = k by omega]
    repeat' ((conv => whnf); first | refine V.NCond.mk ?_ | refine V.NIf.not_ ?_ | refine V.NIf.dec_ ?_ | refine V.NIf.no (by omega) ?_ | refine V.NIf.yes (by omega) ?_ | refine V.NIf.mk (fun _ => ?_) (fun _ => ?_) | refine V.NWrap.ok (by omega) (by omega) ?_ | refine V.NWrap.u64 (by omega) (by omega) ?_ | refine V.NLt.mk (by omega) ?_ | refine V.NBoth.mk ?_ ?_ | refine V.NTF.yes (by omega) ?_ | refine V.NTF.no (by omega) ?_ | refine V.NTF.dec ?_ | refine V.NDraw.q (by exact rfl) (by kernel_rfl) ?_ | refine V.NApp.one (by first | omega | (simp; omega)) (by first | omega | (simp; omega)) ?_ | (refine NShr.i64 k rfl (by omega) (by omega) ?_; intro s hs hs0 hs1) | (refine NBit.one (by omega) (by omega) ?_; intro b hb) | (refine V.NDraw.any (by kernel_rfl) ?_) | fail)
    all_goals (conv => whnf)
    exact V.NBack.at_ (k + 1) [] (by omega) (by omega) ⟨(by repeat' (first | exact rfl | exact Iff.rfl | exact trivial | exact (fun _ _ => rfl) | exact (fun _ h => absurd h (Nat.not_lt_zero _)) | refine ⟨?_, ?_⟩ | exact Iff.rfl | exact congrArg (fun z => V.SV.one (V.At.val (Value.int .i64 z))) (by omega))), congrArg (fun z => V.SV.one (V.At.val (Value.int .i64 z))) (by rw [es, hb, hs]), trivial⟩ rfl (by repeat' (first | exact rfl | exact Iff.rfl | exact trivial | exact (fun _ _ => rfl) | exact (fun _ h => absurd h (Nat.not_lt_zero _)) | refine ⟨?_, ?_⟩ | exact Iff.rfl | exact congrArg (fun z => V.SV.one (V.At.val (Value.int .i64 z))) (by omega))) (by repeat' (first | exact rfl | exact Iff.rfl | exact trivial | exact (fun _ _ => rfl) | exact (fun _ h => absurd h (Nat.not_lt_zero _)) | refine ⟨?_, ?_⟩ | exact Iff.rfl | exact congrArg (fun z => V.SV.one (V.At.val (Value.int .i64 z))) (by omega))) (by repeat' (first | exact rfl | exact Iff.rfl | exact trivial | exact (fun _ _ => rfl) | exact (fun _ h => absurd h (Nat.not_lt_zero _)) | refine ⟨?_, ?_⟩ | exact Iff.rfl | exact congrArg (fun z => V.SV.one (V.At.val (Value.int .i64 z))) (by omega)))
  obtain rfl : k = 7 := by omega
  clear hk hlt
  generalize Ca.sm (Ca.wd c) (-1) 7 = W at *
  have mb : 0 ≤ (b - a) / 7 * W ∧ (b - a) / 7 * W ≤ (b - a) / 7 * 7 := ⟨Int.mul_nonneg (by omega) sb.1, Int.mul_le_mul_of_nonneg_left (by omega) (by omega)⟩
  repeat' ((conv => whnf); first | refine V.NCond.mk ?_ | refine V.NIf.not_ ?_ | refine V.NIf.dec_ ?_ | refine V.NIf.no (by omega) ?_ | refine V.NIf.yes (by omega) ?_ | refine V.NIf.mk (fun _ => ?_) (fun _ => ?_) | refine V.NWrap.ok (by omega) (by omega) ?_ | refine V.NWrap.u64 (by omega) (by omega) ?_ | refine V.NLt.mk (by omega) ?_ | refine V.NBoth.mk ?_ ?_ | refine V.NTF.yes (by omega) ?_ | refine V.NTF.no (by omega) ?_ | refine V.NTF.dec ?_ | refine V.NDraw.q (by exact rfl) (by kernel_rfl) ?_ | refine V.NApp.one (by first | omega | (simp; omega)) (by first | omega | (simp; omega)) ?_ | (refine NQuo.pos (by omega) (by omega) (by omega) ?_; rintro z rfl hz0 hz1) | (refine V.NDraw.any (by kernel_rfl) ?_) | fail)
  all_goals (conv => whnf)
  generalize (b - a) / 7 * W = Q at *
  refine V.NLoop.auto (fun (j : Nat) => [(10, .one (.val (.int .i64 (a + (b - a) / 7 * 7 + 1 + j)))), (6, .one (.val (.int .i64 (Q + Ca.sm (Ca.wd c) (a + (b - a) / 7 * 7) j))))]) (fun (j : Nat) => []) [] [] (fun (j : Nat) => 7 - j) (fun (j : Nat) => (j : Int) ≤ (b - a) % 7) 0 (by omega) (by (conv => whnf); exact ⟨congrArg (fun z => V.SV.one (V.At.val (Value.int .i64 z))) (by omega), congrArg (fun z => V.SV.one (V.At.val (Value.int .i64 z))) (by simp [Ca.sm]), trivial⟩) (by repeat' (first | exact rfl | exact Iff.rfl | exact trivial | exact (fun _ _ => rfl) | exact (fun _ h => absurd h (Nat.not_lt_zero _)) | refine ⟨?_, ?_⟩ | exact Iff.rfl | exact congrArg (fun z => V.SV.one (V.At.val (Value.int .i64 z))) (by omega))) (fun _ => ⟨rfl, rfl⟩) ?_; (conv => whnf); refine ⟨⟨rfl, rfl⟩, ?_⟩
  rintro j hj
  have sj := Ca.smw_bd c (a + (b - a) / 7 * 7) j
  by_cases hlt : (j : Int) < (b - a) % 7
  · have es : Ca.sm (Ca.wd c) (a + (b - a) / 7 * 7) (j + 1) = Ca.sm (Ca.wd c) (a + (b - a) / 7 * 7) j + (1 - c.we / 2 ^ ((a + (b - a) / 7 * 7 + 1 + j) % 7).toNat % 2) := by
      simp only [Ca.sm, Ca.wd]
      rw [show a + (b - a) / 7 * 7 + (j : Int) + 1 = a + (b - a) / 7 * 7 + 1 + j by omega]
    repeat' ((conv => whnf); first | refine V.NCond.mk ?_ | refine V.NIf.not_ ?_ | refine V.NIf.dec_ ?_ | refine V.NIf.no (by omega) ?_ | refine V.NIf.yes (by omega) ?_ | refine V.NIf.mk (fun _ => ?_) (fun _ => ?_) | refine V.NWrap.ok (by omega) (by omega) ?_ | refine V.NWrap.u64 (by omega) (by omega) ?_ | refine V.NLt.mk (by omega) ?_ | refine V.NBoth.mk ?_ ?_ | refine V.NTF.yes (by omega) ?_ | refine V.NTF.no (by omega) ?_ | refine V.NTF.dec ?_ | refine V.NDraw.q (by exact rfl) (by kernel_rfl) ?_ | refine V.NApp.one (by first | omega | (simp; omega)) (by first | omega | (simp; omega)) ?_ | (refine NRem.pos (by omega) (by omega) ?_; rintro r hr hr0 hr1) | (refine NShr.i64 ((a + (b - a) / 7 * 7 + 1 + j) % 7).toNat (by omega) (by omega) (by omega) ?_; intro s hs hs0 hs1) | (refine NBit.one (by omega) (by omega) ?_; intro b hb) | (refine V.NDraw.any (by kernel_rfl) ?_) | fail)
    all_goals (conv => whnf)
    exact V.NBack.at_ (j + 1) [] (by omega) (by omega) ⟨congrArg (fun z => V.SV.one (V.At.val (Value.int .i64 z))) (by omega), congrArg (fun z => V.SV.one (V.At.val (Value.int .i64 z))) (by rw [es, hb, hs]; omega), trivial⟩ rfl (by repeat' (first | exact rfl | exact Iff.rfl | exact trivial | exact (fun _ _ => rfl) | exact (fun _ h => absurd h (Nat.not_lt_zero _)) | refine ⟨?_, ?_⟩ | exact Iff.rfl | exact congrArg (fun z => V.SV.one (V.At.val (Value.int .i64 z))) (by omega))) (by repeat' (first | exact rfl | exact Iff.rfl | exact trivial | exact (fun _ _ => rfl) | exact (fun _ h => absurd h (Nat.not_lt_zero _)) | refine ⟨?_, ?_⟩ | exact Iff.rfl | exact congrArg (fun z => V.SV.one (V.At.val (Value.int .i64 z))) (by omega))) (by repeat' (first | exact rfl | exact Iff.rfl | exact trivial | exact (fun _ _ => rfl) | exact (fun _ h => absurd h (Nat.not_lt_zero _)) | refine ⟨?_, ?_⟩ | exact Iff.rfl | exact congrArg (fun z => V.SV.one (V.At.val (Value.int .i64 z))) (by omega)))
  have ej : ((b - a) % 7).toNat = j := by omega
  rw [ej] at ci
  clear ej
  generalize Ca.sm (Ca.wd c) (a + (b - a) / 7 * 7) j = R at *
  repeat' ((conv => whnf); first | refine V.NCond.mk ?_ | refine V.NIf.not_ ?_ | refine V.NIf.dec_ ?_ | refine V.NIf.no (by omega) ?_ | refine V.NIf.yes (by omega) ?_ | refine V.NIf.mk (fun _ => ?_) (fun _ => ?_) | refine V.NWrap.ok (by omega) (by omega) ?_ | refine V.NWrap.u64 (by omega) (by omega) ?_ | refine V.NLt.mk (by omega) ?_ | refine V.NBoth.mk ?_ ?_ | refine V.NTF.yes (by omega) ?_ | refine V.NTF.no (by omega) ?_ | refine V.NTF.dec ?_ | refine V.NDraw.q (by exact rfl) (by kernel_rfl) ?_ | refine V.NApp.one (by first | omega | (simp; omega)) (by first | omega | (simp; omega)) ?_ | (refine V.NDraw.any (by kernel_rfl) ?_) | fail)
  all_goals (conv => whnf)
  refine V.NLoop.auto (fun (k : Nat) => [(71, .one (.val (.int .i64 k))), (6, .one (.val (.int .i64 (Q + R - Ca.hc c a b (c.hs.take k)))))]) (fun (k : Nat) => []) [] [] (fun (k : Nat) => c.hs.length - k) (fun (k : Nat) => k ≤ c.hs.length) 0 (Nat.zero_le _) (by (conv => whnf); exact ⟨(by repeat' (first | exact rfl | exact Iff.rfl | exact trivial | exact (fun _ _ => rfl) | exact (fun _ h => absurd h (Nat.not_lt_zero _)) | refine ⟨?_, ?_⟩ | exact Iff.rfl | exact congrArg (fun z => V.SV.one (V.At.val (Value.int .i64 z))) (by omega))), congrArg (fun z => V.SV.one (V.At.val (Value.int .i64 z))) (by simp [Ca.hc]), trivial⟩) (by repeat' (first | exact rfl | exact Iff.rfl | exact trivial | exact (fun _ _ => rfl) | exact (fun _ h => absurd h (Nat.not_lt_zero _)) | refine ⟨?_, ?_⟩ | exact Iff.rfl | exact congrArg (fun z => V.SV.one (V.At.val (Value.int .i64 z))) (by omega))) (fun _ => ⟨rfl, rfl⟩) ?_; (conv => whnf); refine ⟨⟨rfl, rfl⟩, ?_⟩
  rintro k hk
  have hbd := Ca.hc_bd c a b (c.hs.take k)
  rw [List.length_take] at hbd
  by_cases hlt : k < c.hs.length
  · have hd := hday _ (getD_mem hlt)
    have es : Ca.hc c a b (c.hs.take (k + 1)) = Ca.hc c a b (c.hs.take k) + (if a < c.hs.getD k default ∧ c.hs.getD k default ≤ b ∧ Ca.wd c (c.hs.getD k default) = 1 then 1 else 0) := by
      rw [List.take_succ_eq_append_getElem hlt, Ca.hc_snoc, ← getD_at hlt]
    have ew : Ca.wd c (c.hs.getD k default) = 1 - c.we / 2 ^ (c.hs.getD k default % 7).toNat % 2 := rfl
    repeat' ((conv => whnf); first | refine V.NCond.mk ?_ | refine V.NIf.not_ ?_ | refine V.NIf.dec_ ?_ | refine V.NIf.no (by omega) ?_ | refine V.NIf.yes (by omega) ?_ | refine V.NIf.mk (fun _ => ?_) (fun _ => ?_) | refine V.NWrap.ok (by omega) (by omega) ?_ | refine V.NWrap.u64 (by omega) (by omega) ?_ | refine V.NLt.mk (by omega) ?_ | refine V.NBoth.mk ?_ ?_ | refine V.NTF.yes (by omega) ?_ | refine V.NTF.no (by omega) ?_ | refine V.NTF.dec ?_ | refine V.NDraw.q (by exact rfl) (by kernel_rfl) ?_ | refine V.NApp.one (by first | omega | (simp; omega)) (by first | omega | (simp; omega)) ?_ | (refine NIdx.mk ⟨k, rfl, by omega, ?_⟩) | (refine NRem.pos (by omega) (by omega) ?_; rintro r hr hr0 hr1) | (refine NShr.i64 (c.hs.getD k default % 7).toNat (by omega) (by omega) (by omega) ?_; intro s hs hs0 hs1) | (refine NBit.one (by omega) (by omega) ?_; intro bt hbt) | (refine V.NDraw.any (by kernel_rfl) ?_) | fail)
    all_goals (conv => whnf)
    all_goals refine V.NBack.at_ (k + 1) [] (by omega) (by omega) ⟨(by repeat' (first | exact rfl | exact Iff.rfl | exact trivial | exact (fun _ _ => rfl) | exact (fun _ h => absurd h (Nat.not_lt_zero _)) | refine ⟨?_, ?_⟩ | exact Iff.rfl | exact congrArg (fun z => V.SV.one (V.At.val (Value.int .i64 z))) (by omega))), congrArg (fun z => V.SV.one (V.At.val (Value.int .i64 z))) ?_, trivial⟩ rfl (by repeat' (first | exact rfl | exact Iff.rfl | exact trivial | exact (fun _ _ => rfl) | exact (fun _ h => absurd h (Nat.not_lt_zero _)) | refine ⟨?_, ?_⟩ | exact Iff.rfl | exact congrArg (fun z => V.SV.one (V.At.val (Value.int .i64 z))) (by omega))) (by repeat' (first | exact rfl | exact Iff.rfl | exact trivial | exact (fun _ _ => rfl) | exact (fun _ h => absurd h (Nat.not_lt_zero _)) | refine ⟨?_, ?_⟩ | exact Iff.rfl | exact congrArg (fun z => V.SV.one (V.At.val (Value.int .i64 z))) (by omega))) (by repeat' (first | exact rfl | exact Iff.rfl | exact trivial | exact (fun _ _ => rfl) | exact (fun _ h => absurd h (Nat.not_lt_zero _)) | refine ⟨?_, ?_⟩ | exact Iff.rfl | exact congrArg (fun z => V.SV.one (V.At.val (Value.int .i64 z))) (by omega)))
    all_goals rw [es]
    all_goals first
      | (rw [if_neg (by omega)]; omega)
      | (rw [if_pos (by omega)]; omega)
      | (rw [if_pos ⟨by omega, by omega, by rw [ew, ← hs]; omega⟩]; omega)
      | (rw [if_neg (fun q => by have := q.2.2; rw [ew, ← hs] at this; omega)]; omega)
      | trace_state
  obtain rfl : k = c.hs.length := by omega
  rw [List.take_length] at *
  repeat' ((conv => whnf); first | refine V.NCond.mk ?_ | refine V.NIf.not_ ?_ | refine V.NIf.dec_ ?_ | refine V.NIf.no (by omega) ?_ | refine V.NIf.yes (by omega) ?_ | refine V.NIf.mk (fun _ => ?_) (fun _ => ?_) | refine V.NWrap.ok (by omega) (by omega) ?_ | refine V.NWrap.u64 (by omega) (by omega) ?_ | refine V.NLt.mk (by omega) ?_ | refine V.NBoth.mk ?_ ?_ | refine V.NTF.yes (by omega) ?_ | refine V.NTF.no (by omega) ?_ | refine V.NTF.dec ?_ | refine V.NDraw.q (by exact rfl) (by kernel_rfl) ?_ | refine V.NApp.one (by first | omega | (simp; omega)) (by first | omega | (simp; omega)) ?_ | (refine V.NDraw.any (by kernel_rfl) ?_) | fail)
  all_goals (conv => whnf)
  exact V.fin2 ⟨ev.trans ci, ee⟩
end Go.Proofs.Ytdeekpcfmgfmcaa

/- The walk of the check of a day. -/
namespace Go.Proofs.Ytdeekpcfmgfmcaa
open Go.RowKit
end Go.Proofs.Ytdeekpcfmgfmcaa

/- The walks of the functions of the package 'date': what each computes. -/
namespace Go.Proofs.Ytdeekpcfmgfmcaa
open Go.RowKit
set_option maxRecDepth 100000

end Go.Proofs.Ytdeekpcfmgfmcaa

/- The walks of the document's own functions on dates, and of the law's own helper. -/
namespace Go.Proofs.Ytdeekpcfmgfmcaa
open Go.RowKit
set_option maxRecDepth 100000

end Go.Proofs.Ytdeekpcfmgfmcaa

/- The walk of the document's function on months, and of the law's own helper. -/
namespace Go.Proofs.Ytdeekpcfmgfmcaa
open Go.RowKit
set_option maxRecDepth 100000

end Go.Proofs.Ytdeekpcfmgfmcaa

/- The elder contracts of the functions on dates, as contracts for the walk by verification conditions. -/
namespace Go.Proofs.Ytdeekpcfmgfmcaa
open Go Go.RowKit V
set_option maxRecDepth 100000
set_option linter.unusedVariables false
namespace V
theorem Svs.vals_ {ρ : Rho} : ∀ {vs xs : List Value}, Svs ρ (vs.map fun v => SV.one (.val v)) xs → xs = vs
  | [], _, h => h
  | v :: l, _, ⟨x, r, e, hv, hr⟩ => by
    have : x = v := hv
    subst this
    rw [e, Svs.vals_ hr]
/-- an elder contract -/
theorem Fn.old {P : Program} {f : FuncId} {os : List Ob} {x : Value} (vs : List Value) (hb : hasBody P f = true) (h : ∀ w, (∀ (i : Nat) o, os[i]? = some o → ∃ ρ v, Ro ρ w v o) → Calls P f vs.toArray w fun e w' => e = .returned x ∧ w = w') : Fn P f os (vs.map fun v => SV.one (.val v)) x :=
  ⟨hb, fun w ρ xs ho hs => by
    rw [Svs.vals_ hs]
    refine (h w fun i o e => by obtain ⟨v, _, q⟩ := ho i o e; exact ⟨ρ, v, q⟩).mono ?_
    rintro e w' ⟨rfl, rfl⟩
    exact ⟨rfl, Below.refl _ _⟩⟩
end V
end Go.Proofs.Ytdeekpcfmgfmcaa

/- The document's own steps over business days; a day fitted; what holds in any case. -/
namespace Go.Proofs.Ytdeekpcfmgfmcaa
open Go Go.RowKit V
set_option maxRecDepth 100000
set_option linter.unusedVariables false
theorem v_rcaStepU (c : Cl) (n m : Int) (h : Ca.Ok c) (hn : Ca.Day n) (hm : 0 < m ∧ m ≤ 9223372036854775807) : V.Fn Try.prog 115 [.arr 1 c.hs.length (ga e1 c.hs)] [.agg [.val (.int .i64 c.we), .ref 0], .one (.val (.int .i64 n)), .one (.val (.int .i64 m))] (.int .i64 (Ca.stU c n m)) := by
  unfold Ca.Day at hn
  refine V.Fn.mk_ V.Tok V.mixed Try.func115 rfl Try.ntmps115 (by kernel_rfl) rfl rfl ?_
  repeat' ((conv => whnf); first | refine V.NCond.mk ?_ | refine V.NIf.not_ ?_ | refine V.NIf.dec_ ?_ | refine V.NIf.no (by omega) ?_ | refine V.NIf.yes (by omega) ?_ | refine V.NIf.mk (fun _ => ?_) (fun _ => ?_) | refine V.NWrap.ok (by omega) (by omega) ?_ | refine V.NWrap.u64 (by omega) (by omega) ?_ | refine V.NLt.mk (by omega) ?_ | refine V.NBoth.mk ?_ ?_ | refine V.NTF.yes (by omega) ?_ | refine V.NTF.no (by omega) ?_ | refine V.NTF.dec ?_ | refine V.NDraw.q (by exact rfl) (by kernel_rfl) ?_ | refine V.NApp.one (by first | omega | (simp; omega)) (by first | omega | (simp; omega)) ?_ | (refine V.NDraw.any (by kernel_rfl) ?_) | fail)
  refine V.NLoop.auto (fun (d : Int) => [(1, .one (.val (.int .i64 d))), (2, .one (.val (.int .i64 (m - Ca.cnt c n d))))]) (fun (d : Int) => []) [] [] (fun (d : Int) => (3652058 - d).toNat) (fun (d : Int) => n ≤ d ∧ d ≤ 3652058 ∧ Ca.cnt c n d ≤ m ∧ (Ca.cnt c n d = m → Ca.Up c n m d)) n ⟨Int.le_refl _, hn.2, by rw [Ca.cnt_none (Int.le_refl _)]; omega, fun q => by rw [Ca.cnt_none (Int.le_refl _)] at q; omega⟩ (by (conv => whnf); exact ⟨(by repeat' (first | exact rfl | exact Iff.rfl | exact trivial | exact (fun _ _ => rfl) | exact (fun _ h => absurd h (Nat.not_lt_zero _)) | refine ⟨?_, ?_⟩ | exact Iff.rfl | exact congrArg (fun z => V.SV.one (V.At.val (Value.int .i64 z))) (by omega))), congrArg (fun z => V.SV.one (V.At.val (Value.int .i64 z))) (by rw [Ca.cnt_none (Int.le_refl _)]; omega), trivial⟩) (by repeat' (first | exact rfl | exact Iff.rfl | exact trivial | exact (fun _ _ => rfl) | exact (fun _ h => absurd h (Nat.not_lt_zero _)) | refine ⟨?_, ?_⟩ | exact Iff.rfl | exact congrArg (fun z => V.SV.one (V.At.val (Value.int .i64 z))) (by omega))) (fun _ => ⟨rfl, rfl⟩) ?_; (conv => whnf); refine ⟨⟨rfl, rfl⟩, ?_⟩
  rintro d ⟨h1, h2, h3, h4⟩
  have c0 := (Ca.cnt_bd c n d).1
  have cs := Ca.cnt_succ (c := c) h1
  have vb := v_business c (d + 1) h
  unfold Ca.Day at vb
  have o := Ca.op_01 c (d + 1)
  repeat' ((conv => whnf); first | refine V.NCond.mk ?_ | refine V.NIf.not_ ?_ | refine V.NIf.dec_ ?_ | refine V.NIf.no (by omega) ?_ | refine V.NIf.yes (by omega) ?_ | refine V.NIf.mk (fun _ => ?_) (fun _ => ?_) | refine V.NWrap.ok (by omega) (by omega) ?_ | refine V.NWrap.u64 (by omega) (by omega) ?_ | refine V.NLt.mk (by omega) ?_ | refine V.NBoth.mk ?_ ?_ | refine V.NTF.yes (by omega) ?_ | refine V.NTF.no (by omega) ?_ | refine V.NTF.dec ?_ | refine V.NDraw.q (by exact rfl) (by kernel_rfl) ?_ | refine V.NApp.one (by first | omega | (simp; omega)) (by first | omega | (simp; omega)) ?_ | (first | refine V.Fn.k0 (v_rbetween _ _ _) rfl ?_ | refine V.Fn.q0 (v_rbetween _ _ _) rfl ?_ | refine V.Fn.a0 (v_rbetween _ _ _) rfl ?_) | ((first | refine V.Fn.k (vb) [0] rfl ?_ ?_ | refine V.Fn.q (vb) [0] rfl ?_ ?_ | refine V.Fn.a (vb) [0] rfl ?_ ?_); · ((repeat' (first | exact rfl | exact Iff.rfl | exact trivial | exact (fun _ _ => rfl) | exact (fun _ h => absurd h (Nat.not_lt_zero _)) | refine ⟨?_, ?_⟩ | exact Iff.rfl | exact congrArg (fun z => V.SV.one (V.At.val (Value.int .i64 z))) (by omega))); done)) | (refine V.NDraw.any (by kernel_rfl) ?_) | fail)
  all_goals (conv => whnf)
  all_goals first
    | exact V.fin1 (Ca.stU_is (h4 (by omega)))
    | (obtain rfl : d = 3652058 := by omega
       exact V.fin1 (Ca.stU_no (by omega)))
    | (have ho : Ca.op c (d + 1) = 1 := by omega
       exact V.NBack.at_ (d + 1) [] ⟨by omega, by omega, by omega, fun q => ⟨by omega, by omega, ho, q⟩⟩ (by omega) ⟨(by repeat' (first | exact rfl | exact Iff.rfl | exact trivial | exact (fun _ _ => rfl) | exact (fun _ h => absurd h (Nat.not_lt_zero _)) | refine ⟨?_, ?_⟩ | exact Iff.rfl | exact congrArg (fun z => V.SV.one (V.At.val (Value.int .i64 z))) (by omega))), congrArg (fun z => V.SV.one (V.At.val (Value.int .i64 z))) (by omega), trivial⟩ rfl (by repeat' (first | exact rfl | exact Iff.rfl | exact trivial | exact (fun _ _ => rfl) | exact (fun _ h => absurd h (Nat.not_lt_zero _)) | refine ⟨?_, ?_⟩ | exact Iff.rfl | exact congrArg (fun z => V.SV.one (V.At.val (Value.int .i64 z))) (by omega))) (by repeat' (first | exact rfl | exact Iff.rfl | exact trivial | exact (fun _ _ => rfl) | exact (fun _ h => absurd h (Nat.not_lt_zero _)) | refine ⟨?_, ?_⟩ | exact Iff.rfl | exact congrArg (fun z => V.SV.one (V.At.val (Value.int .i64 z))) (by omega))) (by repeat' (first | exact rfl | exact Iff.rfl | exact trivial | exact (fun _ _ => rfl) | exact (fun _ h => absurd h (Nat.not_lt_zero _)) | refine ⟨?_, ?_⟩ | exact Iff.rfl | exact congrArg (fun z => V.SV.one (V.At.val (Value.int .i64 z))) (by omega))))
    | (have ho : Ca.op c (d + 1) = 0 := by omega
       exact V.NBack.at_ (d + 1) [] ⟨by omega, by omega, by omega, fun q => by omega⟩ (by omega) ⟨(by repeat' (first | exact rfl | exact Iff.rfl | exact trivial | exact (fun _ _ => rfl) | exact (fun _ h => absurd h (Nat.not_lt_zero _)) | refine ⟨?_, ?_⟩ | exact Iff.rfl | exact congrArg (fun z => V.SV.one (V.At.val (Value.int .i64 z))) (by omega))), congrArg (fun z => V.SV.one (V.At.val (Value.int .i64 z))) (by omega), trivial⟩ rfl (by repeat' (first | exact rfl | exact Iff.rfl | exact trivial | exact (fun _ _ => rfl) | exact (fun _ h => absurd h (Nat.not_lt_zero _)) | refine ⟨?_, ?_⟩ | exact Iff.rfl | exact congrArg (fun z => V.SV.one (V.At.val (Value.int .i64 z))) (by omega))) (by repeat' (first | exact rfl | exact Iff.rfl | exact trivial | exact (fun _ _ => rfl) | exact (fun _ h => absurd h (Nat.not_lt_zero _)) | refine ⟨?_, ?_⟩ | exact Iff.rfl | exact congrArg (fun z => V.SV.one (V.At.val (Value.int .i64 z))) (by omega))) (by repeat' (first | exact rfl | exact Iff.rfl | exact trivial | exact (fun _ _ => rfl) | exact (fun _ h => absurd h (Nat.not_lt_zero _)) | refine ⟨?_, ?_⟩ | exact Iff.rfl | exact congrArg (fun z => V.SV.one (V.At.val (Value.int .i64 z))) (by omega))))
theorem v_rcaStepD (c : Cl) (n m : Int) (h : Ca.Ok c) (hn : Ca.Day n) (hm : 0 < m ∧ m ≤ 9223372036854775807) : V.Fn Try.prog 115 [.arr 1 c.hs.length (ga e1 c.hs)] [.agg [.val (.int .i64 c.we), .ref 0], .one (.val (.int .i64 n)), .one (.val (.int .i64 (-m)))] (.int .i64 (Ca.stD c n m)) := by
  unfold Ca.Day at hn
  refine V.Fn.mk_ V.Tok V.mixed Try.func115 rfl Try.ntmps115 (by kernel_rfl) rfl rfl ?_
  repeat' ((conv => whnf); first | refine V.NCond.mk ?_ | refine V.NIf.not_ ?_ | refine V.NIf.dec_ ?_ | refine V.NIf.no (by omega) ?_ | refine V.NIf.yes (by omega) ?_ | refine V.NIf.mk (fun _ => ?_) (fun _ => ?_) | refine V.NWrap.ok (by omega) (by omega) ?_ | refine V.NWrap.u64 (by omega) (by omega) ?_ | refine V.NLt.mk (by omega) ?_ | refine V.NBoth.mk ?_ ?_ | refine V.NTF.yes (by omega) ?_ | refine V.NTF.no (by omega) ?_ | refine V.NTF.dec ?_ | refine V.NDraw.q (by exact rfl) (by kernel_rfl) ?_ | refine V.NApp.one (by first | omega | (simp; omega)) (by first | omega | (simp; omega)) ?_ | (refine V.NDraw.any (by kernel_rfl) ?_) | fail)
  refine V.NLoop.auto (fun (d : Int) => [(1, .one (.val (.int .i64 d))), (2, .one (.val (.int .i64 (-(m - Ca.cnt c (d - 1) (n - 1))))))]) (fun (d : Int) => []) [] [] (fun (d : Int) => d.toNat) (fun (d : Int) => d ≤ n ∧ 0 ≤ d ∧ Ca.cnt c (d - 1) (n - 1) ≤ m ∧ (Ca.cnt c (d - 1) (n - 1) = m → Ca.Dn c n m d)) n ⟨Int.le_refl _, hn.1, by rw [Ca.cnt_none (Int.le_refl _)]; omega, fun q => by rw [Ca.cnt_none (Int.le_refl _)] at q; omega⟩ (by (conv => whnf); exact ⟨(by repeat' (first | exact rfl | exact Iff.rfl | exact trivial | exact (fun _ _ => rfl) | exact (fun _ h => absurd h (Nat.not_lt_zero _)) | refine ⟨?_, ?_⟩ | exact Iff.rfl | exact congrArg (fun z => V.SV.one (V.At.val (Value.int .i64 z))) (by omega))), congrArg (fun z => V.SV.one (V.At.val (Value.int .i64 z))) (by rw [Ca.cnt_none (Int.le_refl _)]; omega), trivial⟩) (by repeat' (first | exact rfl | exact Iff.rfl | exact trivial | exact (fun _ _ => rfl) | exact (fun _ h => absurd h (Nat.not_lt_zero _)) | refine ⟨?_, ?_⟩ | exact Iff.rfl | exact congrArg (fun z => V.SV.one (V.At.val (Value.int .i64 z))) (by omega))) (fun _ => ⟨rfl, rfl⟩) ?_; (conv => whnf); refine ⟨⟨rfl, rfl⟩, ?_⟩
  rintro d ⟨h1, h2, h3, h4⟩
  have c0 := (Ca.cnt_bd c (d - 1) (n - 1)).1
  have cs := fun q => Ca.cnt_first (c := c) (a := d - 1 - 1) (b := n - 1) q
  rw [show d - 1 - 1 + 1 = d - 1 by omega] at cs
  have vb := v_business c (d - 1) h
  unfold Ca.Day at vb
  have o := Ca.op_01 c (d - 1)
  repeat' ((conv => whnf); first | refine V.NCond.mk ?_ | refine V.NIf.not_ ?_ | refine V.NIf.dec_ ?_ | refine V.NIf.no (by omega) ?_ | refine V.NIf.yes (by omega) ?_ | refine V.NIf.mk (fun _ => ?_) (fun _ => ?_) | refine V.NWrap.ok (by omega) (by omega) ?_ | refine V.NWrap.u64 (by omega) (by omega) ?_ | refine V.NLt.mk (by omega) ?_ | refine V.NBoth.mk ?_ ?_ | refine V.NTF.yes (by omega) ?_ | refine V.NTF.no (by omega) ?_ | refine V.NTF.dec ?_ | refine V.NDraw.q (by exact rfl) (by kernel_rfl) ?_ | refine V.NApp.one (by first | omega | (simp; omega)) (by first | omega | (simp; omega)) ?_ | (first | refine V.Fn.k0 (v_rbetween _ _ _) rfl ?_ | refine V.Fn.q0 (v_rbetween _ _ _) rfl ?_ | refine V.Fn.a0 (v_rbetween _ _ _) rfl ?_) | ((first | refine V.Fn.k (vb) [0] rfl ?_ ?_ | refine V.Fn.q (vb) [0] rfl ?_ ?_ | refine V.Fn.a (vb) [0] rfl ?_ ?_); · ((repeat' (first | exact rfl | exact Iff.rfl | exact trivial | exact (fun _ _ => rfl) | exact (fun _ h => absurd h (Nat.not_lt_zero _)) | refine ⟨?_, ?_⟩ | exact Iff.rfl | exact congrArg (fun z => V.SV.one (V.At.val (Value.int .i64 z))) (by omega))); done)) | (refine V.NDraw.any (by kernel_rfl) ?_) | fail)
  all_goals (conv => whnf)
  all_goals first
    | exact V.fin1 (Ca.stD_is (h4 (by omega)))
    | (obtain rfl : d = 0 := by omega
       exact V.fin1 (Ca.stD_no (by rw [show (-1 : Int) = 0 - 1 from rfl]; omega)))
    | (have ho : Ca.op c (d - 1) = 1 := by omega
       have cs := cs (by omega)
       exact V.NBack.at_ (d - 1) [] ⟨by omega, by omega, by omega, fun q => ⟨by omega, by omega, ho, q⟩⟩ (by omega) ⟨(by repeat' (first | exact rfl | exact Iff.rfl | exact trivial | exact (fun _ _ => rfl) | exact (fun _ h => absurd h (Nat.not_lt_zero _)) | refine ⟨?_, ?_⟩ | exact Iff.rfl | exact congrArg (fun z => V.SV.one (V.At.val (Value.int .i64 z))) (by omega))), congrArg (fun z => V.SV.one (V.At.val (Value.int .i64 z))) (by omega), trivial⟩ rfl (by repeat' (first | exact rfl | exact Iff.rfl | exact trivial | exact (fun _ _ => rfl) | exact (fun _ h => absurd h (Nat.not_lt_zero _)) | refine ⟨?_, ?_⟩ | exact Iff.rfl | exact congrArg (fun z => V.SV.one (V.At.val (Value.int .i64 z))) (by omega))) (by repeat' (first | exact rfl | exact Iff.rfl | exact trivial | exact (fun _ _ => rfl) | exact (fun _ h => absurd h (Nat.not_lt_zero _)) | refine ⟨?_, ?_⟩ | exact Iff.rfl | exact congrArg (fun z => V.SV.one (V.At.val (Value.int .i64 z))) (by omega))) (by repeat' (first | exact rfl | exact Iff.rfl | exact trivial | exact (fun _ _ => rfl) | exact (fun _ h => absurd h (Nat.not_lt_zero _)) | refine ⟨?_, ?_⟩ | exact Iff.rfl | exact congrArg (fun z => V.SV.one (V.At.val (Value.int .i64 z))) (by omega))))
    | (have ho : Ca.op c (d - 1) = 0 := by omega
       have cs := cs (by omega)
       exact V.NBack.at_ (d - 1) [] ⟨by omega, by omega, by omega, fun q => by omega⟩ (by omega) ⟨(by repeat' (first | exact rfl | exact Iff.rfl | exact trivial | exact (fun _ _ => rfl) | exact (fun _ h => absurd h (Nat.not_lt_zero _)) | refine ⟨?_, ?_⟩ | exact Iff.rfl | exact congrArg (fun z => V.SV.one (V.At.val (Value.int .i64 z))) (by omega))), congrArg (fun z => V.SV.one (V.At.val (Value.int .i64 z))) (by omega), trivial⟩ rfl (by repeat' (first | exact rfl | exact Iff.rfl | exact trivial | exact (fun _ _ => rfl) | exact (fun _ h => absurd h (Nat.not_lt_zero _)) | refine ⟨?_, ?_⟩ | exact Iff.rfl | exact congrArg (fun z => V.SV.one (V.At.val (Value.int .i64 z))) (by omega))) (by repeat' (first | exact rfl | exact Iff.rfl | exact trivial | exact (fun _ _ => rfl) | exact (fun _ h => absurd h (Nat.not_lt_zero _)) | refine ⟨?_, ?_⟩ | exact Iff.rfl | exact congrArg (fun z => V.SV.one (V.At.val (Value.int .i64 z))) (by omega))) (by repeat' (first | exact rfl | exact Iff.rfl | exact trivial | exact (fun _ _ => rfl) | exact (fun _ h => absurd h (Nat.not_lt_zero _)) | refine ⟨?_, ?_⟩ | exact Iff.rfl | exact congrArg (fun z => V.SV.one (V.At.val (Value.int .i64 z))) (by omega))))
theorem v_rcaStep0 (c : Cl) (n : Int) : V.Fn Try.prog 115 [.arr 1 c.hs.length (ga e1 c.hs)] [.agg [.val (.int .i64 c.we), .ref 0], .one (.val (.int .i64 n)), .one (.val (.int .i64 0))] (.int .i64 n) := by
  refine V.Fn.mk_ V.Tok V.mixed Try.func115 rfl Try.ntmps115 (by kernel_rfl) rfl rfl ?_
  repeat' ((conv => whnf); first | refine V.NCond.mk ?_ | refine V.NIf.not_ ?_ | refine V.NIf.dec_ ?_ | refine V.NIf.no (by omega) ?_ | refine V.NIf.yes (by omega) ?_ | refine V.NIf.mk (fun _ => ?_) (fun _ => ?_) | refine V.NWrap.ok (by omega) (by omega) ?_ | refine V.NWrap.u64 (by omega) (by omega) ?_ | refine V.NLt.mk (by omega) ?_ | refine V.NBoth.mk ?_ ?_ | refine V.NTF.yes (by omega) ?_ | refine V.NTF.no (by omega) ?_ | refine V.NTF.dec ?_ | refine V.NDraw.q (by exact rfl) (by kernel_rfl) ?_ | refine V.NApp.one (by first | omega | (simp; omega)) (by first | omega | (simp; omega)) ?_ | (refine V.NDraw.any (by kernel_rfl) ?_) | fail)
  refine V.NLoop.auto (fun (d : Nat) => [(1, .one (.val (.int .i64 n))), (2, .one (.val (.int .i64 0)))]) (fun (d : Nat) => []) [] [] (fun (d : Nat) => d) (fun (d : Nat) => True) 0 trivial (by repeat' (first | exact rfl | exact Iff.rfl | exact trivial | exact (fun _ _ => rfl) | exact (fun _ h => absurd h (Nat.not_lt_zero _)) | refine ⟨?_, ?_⟩ | exact Iff.rfl | exact congrArg (fun z => V.SV.one (V.At.val (Value.int .i64 z))) (by omega))) (by repeat' (first | exact rfl | exact Iff.rfl | exact trivial | exact (fun _ _ => rfl) | exact (fun _ h => absurd h (Nat.not_lt_zero _)) | refine ⟨?_, ?_⟩ | exact Iff.rfl | exact congrArg (fun z => V.SV.one (V.At.val (Value.int .i64 z))) (by omega))) (fun _ => ⟨rfl, rfl⟩) ?_; (conv => whnf); refine ⟨⟨rfl, rfl⟩, ?_⟩
  rintro d -
  repeat' ((conv => whnf); first | refine V.NCond.mk ?_ | refine V.NIf.not_ ?_ | refine V.NIf.dec_ ?_ | refine V.NIf.no (by omega) ?_ | refine V.NIf.yes (by omega) ?_ | refine V.NIf.mk (fun _ => ?_) (fun _ => ?_) | refine V.NWrap.ok (by omega) (by omega) ?_ | refine V.NWrap.u64 (by omega) (by omega) ?_ | refine V.NLt.mk (by omega) ?_ | refine V.NBoth.mk ?_ ?_ | refine V.NTF.yes (by omega) ?_ | refine V.NTF.no (by omega) ?_ | refine V.NTF.dec ?_ | refine V.NDraw.q (by exact rfl) (by kernel_rfl) ?_ | refine V.NApp.one (by first | omega | (simp; omega)) (by first | omega | (simp; omega)) ?_ | (refine V.NDraw.any (by kernel_rfl) ?_) | fail)
  exact V.fin1 rfl
theorem v_rcaStep (c : Cl) (n m : Int) (h : Ca.Ok c) (hn : Ca.Day n) (hm : -500 ≤ m ∧ m ≤ 500) : V.Fn Try.prog 115 [.arr 1 c.hs.length (ga e1 c.hs)] [.agg [.val (.int .i64 c.we), .ref 0], .one (.val (.int .i64 n)), .one (.val (.int .i64 m))] (.int .i64 (Ca.stp c n m)) := by
  rcases Int.lt_trichotomy m 0 with q | rfl | q
  · have := v_rcaStepD c n (-m) h hn (by omega)
    rwa [Int.neg_neg, ← Ca.stp_n q] at this
  · have := v_rcaStep0 c n
    rwa [show n = Ca.stp c n 0 from Ca.stp_0.symm] at this
  · have := v_rcaStepU c n m h hn (by omega)
    rwa [← Ca.stp_p q] at this
end Go.Proofs.Ytdeekpcfmgfmcaa
