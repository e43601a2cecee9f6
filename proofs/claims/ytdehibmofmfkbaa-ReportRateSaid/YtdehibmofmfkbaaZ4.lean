/- Shared texts, one behind the other: DivW2, DivW3, MoneyW, MoneyW2, VMoney, VMoneyR, VPrice, VRange, VCal, VRep, VNil, VRep2, VRep3, RepPl2, VSortK, VCmpD, VSortK2, ShelfW, VRep4, DateCk, DateW, DateRW, DateRM, VDate, VCal2, VAge, VAgeR, VPen -/
import Derived.Test.YtdehibmofmfkbaaShelf
import Derived.WalkLawsBesides
import Derived.Laws.Bits64b
import Derived.Deep.QuietTactic
import Derived.BigQuiet
import Derived.Sort.OwnSortedInts
import Derived.Shelf.GgSortFunc.RowK
import Derived.Sort.Grow
import Derived.Shelf.SlSortCmp.NoneTotal
import Derived.Ground.SlsfProg
import Derived.Test.YtdehibmofmfkbaaProg
import Derived.Test.YtdehibmofmfkbaaZ1
import Derived.Test.YtdehibmofmfkbaaZ2
import Derived.Test.YtdehibmofmfkbaaZ3
set_option linter.unusedVariables false
set_option linter.unusedSimpArgs false
set_option linter.unusedSectionVars false
set_option maxRecDepth 100000

namespace Go.Proofs.Ytdehibmofmfkbaa
open Go.RowKit
set_option maxHeartbeats 2000000
theorem wrapn {a : Nat} (h : a < 18446744073709551616) : IntKind.u64.wrap (a : Int) = (a : Int) := by rw [IntKind.wrap_u64]; omega
theorem wrapm (a : Nat) : IntKind.u64.wrap (a : Int) = ((a % 18446744073709551616 : Nat) : Int) := by rw [IntKind.wrap_u64]; omega
theorem maskn {a : Nat} (ha : a < 18446744073709551616) : bits .and .u64 (a : Int) 4294967295 = ((a % 4294967296 : Nat) : Int) := by
  have h := bits_and_u64_nat a 4294967295 ha (by omega)
  have e : a &&& 4294967295 = a % 4294967296 := Nat.and_two_pow_sub_one_eq_mod a 32
  rw [e] at h
  exact h
theorem castpow (a s : Nat) : (a : Int) * 2 ^ s = ((a * 2 ^ s : Nat) : Int) := by simp
theorem castdiv (a s : Nat) : (a : Int) / 2 ^ s = ((a / 2 ^ s : Nat) : Int) := by simp
theorem div64_yes (hi lo y R1 R2 : Nat) (g1 : R1 = (hi * 18446744073709551616 + lo) / y) (g2 : R2 = (hi * 18446744073709551616 + lo) % y) (h0 : ¬ hi = 0) (h1 : hi < y) (h2 : lo < 18446744073709551616) (h3 : y < 18446744073709551616) (w : World) : Calls Try.prog 91 #[.int .u64 hi, .int .u64 lo, .int .u64 y] w fun e w' => e = .returned (.tuple #[.int .u64 R1, .int .u64 R2]) ∧ w' = w := by
  · have HR1 := hid g1
    have HR2 := hid g2
    clear g1 g2
    obtain ⟨l1, l2, l3, l4⟩ := V.lead (y := y) (by omega) h3
    have hs : ∃ s : Nat, s = 64 - Lib.bitLen y := ⟨_, rfl⟩
    obtain ⟨s, hs⟩ := hs
    rw [← hs] at l3 l4
    have r1 : IntKind.u64.wrap (64 - (Lib.bitLen y : Int)) = (s : Int) := by rw [IntKind.wrap_u64]; omega
    have hs63 : s ≤ 63 := by omega
    have r2 : min s 64 = s := by omega
    have HS := hid hs
    clear hs l1 l2
    obtain ⟨Y, hY⟩ : ∃ Y, Y = y * 2 ^ s := ⟨_, rfl⟩
    rw [← hY] at l3 l4
    have r3 : IntKind.u64.wrap ((y : Int) * 2 ^ s) = (Y : Int) := by
      have : ((y : Int) * 2 ^ s) = ((Y : Nat) : Int) := by rw [hY]; simp
      rw [this, IntKind.wrap_u64]; omega
    have HY := hid hY
    clear hY
    obtain ⟨w1, w2, w3, w4⟩ := V.words (hi := hi) (lo := lo) (y := y) (s := s) hs63 h1 h2 (by rw [← HY.out]; exact l4)
    have r4 : IntKind.u64.wrap ((hi : Int) * 2 ^ s) = ((hi * 2 ^ s : Nat) : Int) := by rw [castpow, wrapn w1]
    have r5 : (lo : Int) / 2 ^ (64 - s) = ((lo / 2 ^ (64 - s) : Nat) : Int) := castdiv _ _
    have r6 : IntKind.u64.wrap ((lo : Int) * 2 ^ s) = ((lo * 2 ^ s % 18446744073709551616 : Nat) : Int) := by rw [castpow, wrapm]
    rw [← HY.out] at w3
    have l5 : lo / 2 ^ (64 - s) < 18446744073709551616 := by omega
    have r7 : bits .or .u64 ((hi * 2 ^ s : Nat) : Int) ((lo / 2 ^ (64 - s) : Nat) : Int) = ((hi * 2 ^ s + lo / 2 ^ (64 - s) : Nat) : Int) := by rw [bits_or_u64_nat _ _ w1 l5, V.or_add w2]
    have l6 : lo * 2 ^ s % 18446744073709551616 < 18446744073709551616 := Nat.mod_lt _ (by omega)
    have HU := hid w4
    clear w4 w2
    generalize hi * 2 ^ s = H at *
    generalize lo / 2 ^ (64 - s) = L at *
    generalize lo * 2 ^ s % 18446744073709551616 = V' at *
    obtain ⟨u, hu⟩ : ∃ u, u = H + L := ⟨_, rfl⟩
    rw [← hu] at r7 w3
    have HU2 : Hid (u * 18446744073709551616 + V' = (hi * 18446744073709551616 + lo) * 2 ^ s) := by rw [hu]; exact HU.out
    clear hu HU
    obtain ⟨a, ha⟩ : ∃ a, a = Y / 4294967296 := ⟨_, rfl⟩
    obtain ⟨b, hb⟩ : ∃ b, b = Y % 4294967296 := ⟨_, rfl⟩
    obtain ⟨d1, hd1⟩ : ∃ d, d = V' / 4294967296 := ⟨_, rfl⟩
    obtain ⟨d0, hd0⟩ : ∃ d, d = V' % 4294967296 := ⟨_, rfl⟩
    have r8 : (Y : Int) / 4294967296 = (a : Int) := by omega
    have r9 : bits .and .u64 (Y : Int) 4294967295 = (b : Int) := by rw [maskn l4, ← hb]
    have r10 : (V' : Int) / 4294967296 = (d1 : Int) := by omega
    have r11 : bits .and .u64 (V' : Int) 4294967295 = (d0 : Int) := by rw [maskn l6, ← hd0]
    have HAB : Hid (Y = a * 4294967296 + b) := show Y = a * 4294967296 + b by omega
    have HD : Hid (V' = d1 * 4294967296 + d0) := show V' = d1 * 4294967296 + d0 by omega
    have ka : 2147483648 ≤ a := by omega
    have ka2 : a < 4294967296 := by omega
    have kb : b < 4294967296 := by omega
    have kd1 : d1 < 4294967296 := by omega
    have kd0 : d0 < 4294967296 := by omega
    have ku : u < 18446744073709551616 := by omega
    clear ha hb hd1 hd0 w1 l5 l6
    obtain ⟨q0, hq0⟩ : ∃ q, q = u / a := ⟨_, rfl⟩
    obtain ⟨m0, hm0⟩ : ∃ r, r = u % a := ⟨_, rfl⟩
    have e0 : q0 * a + m0 = u := by rw [hq0, hm0, Nat.mul_comm]; exact Nat.div_add_mod u a
    have em : m0 < a := by rw [hm0]; exact Nat.mod_lt _ (by omega)
    have kq : q0 < 18446744073709551616 := by rw [hq0]; exact Nat.lt_of_le_of_lt (Nat.div_le_self _ _) ku
    have r12 : IntKind.u64.wrap ((u : Int) / (a : Int)) = (q0 : Int) := by
      have : (u : Int) / (a : Int) = ((u / a : Nat) : Int) := by simp
      rw [this, ← hq0, wrapn kq]
    have r13 : (q0 : Int) * (a : Int) = ((u - m0 : Nat) : Int) := by
      have : q0 * a = u - m0 := by omega
      rw [← this]; simp
    have r14 : IntKind.u64.wrap (((u - m0 : Nat) : Int)) = ((u - m0 : Nat) : Int) := wrapn (by omega)
    have r15 : IntKind.u64.wrap ((u : Int) - ((u - m0 : Nat) : Int)) = (m0 : Int) := by
      have : (u : Int) - ((u - m0 : Nat) : Int) = (m0 : Int) := by omega
      rw [this]; exact wrapn (by omega)
    have G0 := hid (V.guess_ge (a := a) (b := b) (u := u) (d := d1) (by omega) kd1)
    rw [← hq0] at G0
    have E0 := hid e0
    clear hq0 hm0 e0
    generalize hK : u - m0 = K at *
    clear hK
    have hby : ((y : Int) == 0) = false := beq_eq_false_iff_ne.2 (by omega)
    have hc : ((hi : Int) == 0) = false := beq_eq_false_iff_ne.2 (by omega)
    go_enter Try.func91, Try.ntmps91
    go_wp2_with (go_at_call 93; refine (Try.bits_LeadingZeros64 _ _ (by omega) (by omega)).mono ?_; rintro e w' ⟨rfl, rfl⟩)
    clear r1 r2 r3 r4 r5 r6 r7 r8 r9 r10 r11 r12 r13 r14 r15
    have BD : Hid (2147483648 ≤ a ∧ a < 4294967296 ∧ b < 4294967296 ∧ d1 < 4294967296 ∧ d0 < 4294967296 ∧ u < 18446744073709551616 ∧ u < Y ∧ Y < 18446744073709551616 ∧ 0 < Y) := ⟨ka, ka2, kb, kd1, kd0, ku, w3, l4, by omega⟩
    have B0 : Hid (q0 < 18446744073709551616 ∧ m0 < 4294967296) := ⟨kq, by omega⟩
    have S0 : Hid (s ≤ 63 ∧ hi < y ∧ lo < 18446744073709551616 ∧ y < 18446744073709551616) := ⟨hs63, h1, h2, h3⟩
    have ia : (2147483648 : Int) ≤ (a : Int) := by omega
    have HUY : Hid (u < Y) := w3
    clear ka ka2 kb kd1 kd0 ku w3 l3 l4 hs63 h1 h2 h3 kq em
    go_loop [15, 16] (fun t1 t2 => ∃ q r : Nat, t1 = .int .u64 q ∧ t2 = .int .u64 r ∧ Hid (q < 18446744073709551616 ∧ r < 4294967296) ∧ Hid (q * a + r = u) ∧ Hid ((u * 4294967296 + d1) / (a * 4294967296 + b) ≤ q)) (fun t1 _ => (intOf t1).toNat)
    case atStart => exact ⟨q0, m0, rfl, rfl, B0, E0, G0⟩
    case round =>
      obtain ⟨q, r, rfl, rfl, B1, E1, G1⟩ := hrel
      clear E0 G0 B0
      by_cases c1 : 4294967296 ≤ q
      · obtain ⟨q', hq'⟩ : ∃ q', q' = q - 1 := ⟨_, rfl⟩
        obtain ⟨r', hr'⟩ : ∃ r', r' = r + a := ⟨_, rfl⟩
        have q1 : IntKind.u64.wrap ((q : Int) - 1) = (q' : Int) := by have := B1.out; rw [IntKind.wrap_u64]; omega
        have q2 : IntKind.u64.wrap ((r : Int) + (a : Int)) = (r' : Int) := by have := B1.out; have := BD.out; rw [IntKind.wrap_u64]; omega
        have C1 : (4294967296 : Int) ≤ (q : Int) := by omega
        have HQ := hid hq'
        have E2 : Hid (q' * a + r' = u) := V.step_eq E1.out (by omega) hq' hr'
        have G2 : Hid ((u * 4294967296 + d1) / (a * 4294967296 + b) ≤ q') := by
          have hbd := BD.out
          have hh := HAB.out
          have hu2 := HUY.out
          have hlt := V.wide_great (V := a * 4294967296 + b) (u := u) (d := d1) (q := q) (by omega) (by omega) c1
          have := V.digit_le hlt
          rw [hq']; exact this
        by_cases c2 : 4294967296 ≤ r'
        · have C2 : decide ((4294967296 : Int) ≤ (r' : Int)) = true := decide_eq_true (by omega)
          have QE : Hid (q' = (u * 4294967296 + d1) / (a * 4294967296 + b)) := by
            have hbd := BD.out
            have hh := HAB.out
            have hu2 := HUY.out
            exact V.digit_eq G2.out (V.wide_rest E2.out (by omega) (by omega) c2).2 (by omega)
          clear hq' hr' c1 c2
          generalize q' = Q at *
          obtain ⟨u2, hu2⟩ : ∃ u2, u2 = (u * 4294967296 + d1) % Y := ⟨_, rfl⟩
          have hQY : Q = (u * 4294967296 + d1) / Y := by rw [HAB.out]; exact QE.out
          have k1 : u2 < Y := by rw [hu2]; exact Nat.mod_lt _ BD.out.2.2.2.2.2.2.2.2
          have k2 : Y < 18446744073709551616 := BD.out.2.2.2.2.2.2.2.1
          have s1 : IntKind.u64.wrap (IntKind.u64.wrap (IntKind.u64.wrap ((u : Int) * 4294967296) + (d1 : Int)) - IntKind.u64.wrap ((Q : Int) * (Y : Int))) = (u2 : Int) := by
            rw [IntKind.wrap_u64, IntKind.wrap_u64, IntKind.wrap_u64, IntKind.wrap_u64, hu2]
            exact V.rem_wrap hQY (by omega) k2
          obtain ⟨p0, hp0⟩ : ∃ q, q = u2 / a := ⟨_, rfl⟩
          obtain ⟨n0, hn0⟩ : ∃ r, r = u2 % a := ⟨_, rfl⟩
          have e0 : p0 * a + n0 = u2 := by rw [hp0, hn0, Nat.mul_comm]; exact Nat.div_add_mod u2 a
          have em : n0 < a := by rw [hn0]; exact Nat.mod_lt _ (by have := BD.out; omega)
          have kp : p0 < 18446744073709551616 := by rw [hp0]; exact Nat.lt_of_le_of_lt (Nat.div_le_self _ _) (by omega)
          have s2 : IntKind.u64.wrap ((u2 : Int) / (a : Int)) = (p0 : Int) := by
            have : (u2 : Int) / (a : Int) = ((u2 / a : Nat) : Int) := by simp
            rw [this, ← hp0, wrapn kp]
          obtain ⟨K2, hK2⟩ : ∃ k, k = u2 - n0 := ⟨_, rfl⟩
          have s3 : (p0 : Int) * (a : Int) = (K2 : Int) := by
            have : p0 * a = K2 := by omega
            rw [← this]; simp
          have s4 : IntKind.u64.wrap (K2 : Int) = (K2 : Int) := wrapn (by omega)
          have s5 : IntKind.u64.wrap ((u2 : Int) - (K2 : Int)) = (n0 : Int) := by
            have : (u2 : Int) - (K2 : Int) = (n0 : Int) := by omega
            rw [this]; exact wrapn (by omega)
          have G0 := hid (V.guess_ge (a := a) (b := b) (u := u2) (d := d0) (by omega) BD.out.2.2.2.2.1)
          rw [← hp0] at G0
          have E0 := hid e0
          have B0 : Hid (p0 < 18446744073709551616 ∧ n0 < 4294967296) := ⟨kp, by have := BD.out; omega⟩
          have HUY : Hid (u2 < Y) := k1
          have HU3 := hid hu2
          have HQY := hid hQY
          clear hu2 hQY k1 k2 hp0 hn0 e0 em kp hK2
          go_wp2_with fail
          clear s1 s2 s3 s4 s5
          go_loop [18, 16] (fun t1 t2 => ∃ q r : Nat, t1 = .int .u64 q ∧ t2 = .int .u64 r ∧ Hid (q < 18446744073709551616 ∧ r < 4294967296) ∧ Hid (q * a + r = u2) ∧ Hid ((u2 * 4294967296 + d0) / (a * 4294967296 + b) ≤ q)) (fun t1 _ => (intOf t1).toNat)
          case atStart => exact ⟨p0, n0, rfl, rfl, B0, E0, G0⟩
          case round =>
            obtain ⟨q, r, rfl, rfl, B1, E1, G1⟩ := hrel
            clear E0 G0 B0
            by_cases c1 : 4294967296 ≤ q
            · obtain ⟨q', hq'⟩ : ∃ q', q' = q - 1 := ⟨_, rfl⟩
              obtain ⟨r', hr'⟩ : ∃ r', r' = r + a := ⟨_, rfl⟩
              have q1 : IntKind.u64.wrap ((q : Int) - 1) = (q' : Int) := by have := B1.out; rw [IntKind.wrap_u64]; omega
              have q2 : IntKind.u64.wrap ((r : Int) + (a : Int)) = (r' : Int) := by have := B1.out; have := BD.out; rw [IntKind.wrap_u64]; omega
              have C1 : (4294967296 : Int) ≤ (q : Int) := by omega
              have HQ := hid hq'
              have E2 : Hid (q' * a + r' = u2) := V.step_eq E1.out (by omega) hq' hr'
              have G2 : Hid ((u2 * 4294967296 + d0) / (a * 4294967296 + b) ≤ q') := by
                have hbd := BD.out
                have hh := HAB.out
                have hu2 := HUY.out
                have hlt := V.wide_great (V := a * 4294967296 + b) (u := u2) (d := d0) (q := q) (by omega) (by omega) c1
                have := V.digit_le hlt
                rw [hq']; exact this
              by_cases c2 : 4294967296 ≤ r'
              · have C2 : decide ((4294967296 : Int) ≤ (r' : Int)) = true := decide_eq_true (by omega)
                have QE : Hid (q' = (u2 * 4294967296 + d0) / (a * 4294967296 + b)) := by
                  have hbd := BD.out
                  have hh := HAB.out
                  have hu2 := HUY.out
                  exact V.digit_eq G2.out (V.wide_rest E2.out (by omega) (by omega) c2).2 (by omega)
                clear hq' hr' c1 c2
                have FF := V.final HY.out BD.out.2.2.2.2.2.2.2.2 HU2.out HD.out
                rw [← HQY.out, ← HU3.out] at FF
                have hq2 : q' = (u2 * 4294967296 + d0) / Y := by rw [HAB.out]; exact QE.out
                rw [← hq2] at FF
                have hR1 := HR1.out
                have hR2 := HR2.out
                obtain ⟨e2, he2⟩ : ∃ R, R = (u2 * 4294967296 + d0) % Y := ⟨_, rfl⟩
                rw [← hR1, ← hR2, ← he2] at FF
                have hR3 : R1 < 18446744073709551616 := by
                  rw [hR1]
                  have := S0.out
                  exact Nat.div_lt_of_lt_mul (V.lt_words this.2.1 this.2.2.1)
                have f1 : IntKind.u64.wrap (IntKind.u64.wrap ((Q : Int) * 4294967296) + (q' : Int)) = (R1 : Int) := by
                  have := FF.1
                  rw [IntKind.wrap_u64, IntKind.wrap_u64]; omega
                have f2 : IntKind.u64.wrap (IntKind.u64.wrap (IntKind.u64.wrap ((u2 : Int) * 4294967296) + (d0 : Int)) - IntKind.u64.wrap ((q' : Int) * (Y : Int))) = (e2 : Int) := by
                  rw [IntKind.wrap_u64, IntKind.wrap_u64, IntKind.wrap_u64, IntKind.wrap_u64, he2]
                  exact V.rem_wrap hq2 BD.out.2.2.2.2.2.2.2.2 BD.out.2.2.2.2.2.2.2.1
                have f3 : (e2 : Int) / 2 ^ s = (R2 : Int) := by rw [castdiv, FF.2]
                have f4 : min s 64 = s := by have := S0.out; omega
                clear hR1 hR2 he2 hq2 FF hR3
                go_wp2_with fail
                go_ret2
                exact ⟨rfl, rfl⟩
              · have C2 : decide ((4294967296 : Int) ≤ (r' : Int)) = false := decide_eq_false (by omega)
                have B2 : Hid (q' < 18446744073709551616 ∧ r' < 4294967296) := by have := B1.out; exact ⟨by omega, by omega⟩
                clear hq' hr' c1 c2
                go_wp2_with fail
                go_round
                case rel => exact ⟨q', r', rfl, rfl, B2, E2, G2⟩
                case measure => have := HQ.out; simp [intOf]; omega
            · have D1 : decide ((4294967296 : Int) ≤ (q : Int)) = false := decide_eq_false (by omega)
              obtain ⟨x, hx⟩ : ∃ x, x = q * b := ⟨_, rfl⟩
              obtain ⟨z, hz⟩ : ∃ z, z = 4294967296 * r := ⟨_, rfl⟩
              obtain ⟨t, ht⟩ : ∃ t, t = z + d0 := ⟨_, rfl⟩
              have hxb : x ≤ 4294967295 * 4294967295 := by rw [hx]; have := BD.out; exact Nat.mul_le_mul (by omega) (by omega)
              have p1 : (q : Int) * (b : Int) = (x : Int) := by rw [hx]; simp
              have p1' : IntKind.u64.wrap (x : Int) = (x : Int) := wrapn (by omega)
              have p2 : IntKind.u64.wrap (4294967296 * (r : Int)) = (z : Int) := by have := B1.out; rw [IntKind.wrap_u64]; omega
              have p3 : IntKind.u64.wrap ((z : Int) + (d0 : Int)) = (t : Int) := by have := B1.out; have := BD.out; rw [IntKind.wrap_u64]; omega
              have TG : Hid ((t < x) ↔ (u2 * 4294967296 + d0 < q * (a * 4294967296 + b))) := by
                have := V.too_great (b := b) (d := d0) E1.out
                rw [← hx] at this
                rw [ht, hz, Nat.mul_comm 4294967296 r]; exact this
              by_cases c3 : t < x
              · have hlt := TG.out.1 c3
                obtain ⟨q', hq'⟩ : ∃ q', q' = q - 1 := ⟨_, rfl⟩
                obtain ⟨r', hr'⟩ : ∃ r', r' = r + a := ⟨_, rfl⟩
                have hq1 : 1 ≤ q := by
                  rcases Nat.eq_zero_or_pos q with h | h
                  · rw [h, Nat.zero_mul] at hlt; omega
                  · exact h
                have q1 : IntKind.u64.wrap ((q : Int) - 1) = (q' : Int) := by have := B1.out; rw [IntKind.wrap_u64]; omega
                have q2 : IntKind.u64.wrap ((r : Int) + (a : Int)) = (r' : Int) := by have := B1.out; have := BD.out; rw [IntKind.wrap_u64]; omega
                have HQ : Hid (q' = q - 1 ∧ 1 ≤ q) := ⟨hq', hq1⟩
                have E2 : Hid (q' * a + r' = u2) := V.step_eq E1.out hq1 hq' hr'
                have G2 : Hid ((u2 * 4294967296 + d0) / (a * 4294967296 + b) ≤ q') := by
                  have := V.digit_le hlt
                  rw [hq']; exact this
                by_cases c2 : 4294967296 ≤ r'
                · have C2 : decide ((4294967296 : Int) ≤ (r' : Int)) = true := decide_eq_true (by omega)
                  have QE : Hid (q' = (u2 * 4294967296 + d0) / (a * 4294967296 + b)) := by
                    have hbd := BD.out
                    have hh := HAB.out
                    have hu2 := HUY.out
                    exact V.digit_eq G2.out (V.wide_rest E2.out (by omega) (by omega) c2).2 (by omega)
                  clear hq' hr' c1 c2 hx hz ht hxb hlt hq1
                  have FF := V.final HY.out BD.out.2.2.2.2.2.2.2.2 HU2.out HD.out
                  rw [← HQY.out, ← HU3.out] at FF
                  have hq2 : q' = (u2 * 4294967296 + d0) / Y := by rw [HAB.out]; exact QE.out
                  rw [← hq2] at FF
                  have hR1 := HR1.out
                  have hR2 := HR2.out
                  obtain ⟨e2, he2⟩ : ∃ R, R = (u2 * 4294967296 + d0) % Y := ⟨_, rfl⟩
                  rw [← hR1, ← hR2, ← he2] at FF
                  have hR3 : R1 < 18446744073709551616 := by
                    rw [hR1]
                    have := S0.out
                    exact Nat.div_lt_of_lt_mul (V.lt_words this.2.1 this.2.2.1)
                  have f1 : IntKind.u64.wrap (IntKind.u64.wrap ((Q : Int) * 4294967296) + (q' : Int)) = (R1 : Int) := by
                    have := FF.1
                    rw [IntKind.wrap_u64, IntKind.wrap_u64]; omega
                  have f2 : IntKind.u64.wrap (IntKind.u64.wrap (IntKind.u64.wrap ((u2 : Int) * 4294967296) + (d0 : Int)) - IntKind.u64.wrap ((q' : Int) * (Y : Int))) = (e2 : Int) := by
                    rw [IntKind.wrap_u64, IntKind.wrap_u64, IntKind.wrap_u64, IntKind.wrap_u64, he2]
                    exact V.rem_wrap hq2 BD.out.2.2.2.2.2.2.2.2 BD.out.2.2.2.2.2.2.2.1
                  have f3 : (e2 : Int) / 2 ^ s = (R2 : Int) := by rw [castdiv, FF.2]
                  have f4 : min s 64 = s := by have := S0.out; omega
                  clear hR1 hR2 he2 hq2 FF hR3
                  go_wp2_with fail
                  go_ret2
                  exact ⟨rfl, rfl⟩
                · have C2 : decide ((4294967296 : Int) ≤ (r' : Int)) = false := decide_eq_false (by omega)
                  have B2 : Hid (q' < 18446744073709551616 ∧ r' < 4294967296) := by have := B1.out; exact ⟨by omega, by omega⟩
                  clear hq' hr' c1 c2 hx hz ht hxb hlt hq1
                  go_wp2_with fail
                  go_round
                  case rel => exact ⟨q', r', rfl, rfl, B2, E2, G2⟩
                  case measure => have := HQ.out; simp [intOf]; omega
              · have QE : Hid (q = (u2 * 4294967296 + d0) / (a * 4294967296 + b)) := V.digit_eq G1.out (fun h => c3 (TG.out.2 h)) (by have := BD.out; omega)
                clear c1 hx hz ht hxb
                have FF := V.final HY.out BD.out.2.2.2.2.2.2.2.2 HU2.out HD.out
                rw [← HQY.out, ← HU3.out] at FF
                have hq2 : q = (u2 * 4294967296 + d0) / Y := by rw [HAB.out]; exact QE.out
                rw [← hq2] at FF
                have hR1 := HR1.out
                have hR2 := HR2.out
                obtain ⟨e2, he2⟩ : ∃ R, R = (u2 * 4294967296 + d0) % Y := ⟨_, rfl⟩
                rw [← hR1, ← hR2, ← he2] at FF
                have hR3 : R1 < 18446744073709551616 := by
                  rw [hR1]
                  have := S0.out
                  exact Nat.div_lt_of_lt_mul (V.lt_words this.2.1 this.2.2.1)
                have f1 : IntKind.u64.wrap (IntKind.u64.wrap ((Q : Int) * 4294967296) + (q : Int)) = (R1 : Int) := by
                  have := FF.1
                  rw [IntKind.wrap_u64, IntKind.wrap_u64]; omega
                have f2 : IntKind.u64.wrap (IntKind.u64.wrap (IntKind.u64.wrap ((u2 : Int) * 4294967296) + (d0 : Int)) - IntKind.u64.wrap ((q : Int) * (Y : Int))) = (e2 : Int) := by
                  rw [IntKind.wrap_u64, IntKind.wrap_u64, IntKind.wrap_u64, IntKind.wrap_u64, he2]
                  exact V.rem_wrap hq2 BD.out.2.2.2.2.2.2.2.2 BD.out.2.2.2.2.2.2.2.1
                have f3 : (e2 : Int) / 2 ^ s = (R2 : Int) := by rw [castdiv, FF.2]
                have f4 : min s 64 = s := by have := S0.out; omega
                clear hR1 hR2 he2 hq2 FF hR3
                go_wp2_with fail
                go_ret2
                exact ⟨rfl, rfl⟩
        · have C2 : decide ((4294967296 : Int) ≤ (r' : Int)) = false := decide_eq_false (by omega)
          have B2 : Hid (q' < 18446744073709551616 ∧ r' < 4294967296) := by have := B1.out; exact ⟨by omega, by omega⟩
          clear hq' hr' c1 c2
          go_wp2_with fail
          go_round
          case rel => exact ⟨q', r', rfl, rfl, B2, E2, G2⟩
          case measure => have := HQ.out; simp [intOf]; omega
      · have D1 : decide ((4294967296 : Int) ≤ (q : Int)) = false := decide_eq_false (by omega)
        obtain ⟨x, hx⟩ : ∃ x, x = q * b := ⟨_, rfl⟩
        obtain ⟨z, hz⟩ : ∃ z, z = 4294967296 * r := ⟨_, rfl⟩
        obtain ⟨t, ht⟩ : ∃ t, t = z + d1 := ⟨_, rfl⟩
        have hxb : x ≤ 4294967295 * 4294967295 := by rw [hx]; have := BD.out; exact Nat.mul_le_mul (by omega) (by omega)
        have p1 : (q : Int) * (b : Int) = (x : Int) := by rw [hx]; simp
        have p1' : IntKind.u64.wrap (x : Int) = (x : Int) := wrapn (by omega)
        have p2 : IntKind.u64.wrap (4294967296 * (r : Int)) = (z : Int) := by have := B1.out; rw [IntKind.wrap_u64]; omega
        have p3 : IntKind.u64.wrap ((z : Int) + (d1 : Int)) = (t : Int) := by have := B1.out; have := BD.out; rw [IntKind.wrap_u64]; omega
        have TG : Hid ((t < x) ↔ (u * 4294967296 + d1 < q * (a * 4294967296 + b))) := by
          have := V.too_great (b := b) (d := d1) E1.out
          rw [← hx] at this
          rw [ht, hz, Nat.mul_comm 4294967296 r]; exact this
        by_cases c3 : t < x
        · have hlt := TG.out.1 c3
          obtain ⟨q', hq'⟩ : ∃ q', q' = q - 1 := ⟨_, rfl⟩
          obtain ⟨r', hr'⟩ : ∃ r', r' = r + a := ⟨_, rfl⟩
          have hq1 : 1 ≤ q := by
            rcases Nat.eq_zero_or_pos q with h | h
            · rw [h, Nat.zero_mul] at hlt; omega
            · exact h
          have q1 : IntKind.u64.wrap ((q : Int) - 1) = (q' : Int) := by have := B1.out; rw [IntKind.wrap_u64]; omega
          have q2 : IntKind.u64.wrap ((r : Int) + (a : Int)) = (r' : Int) := by have := B1.out; have := BD.out; rw [IntKind.wrap_u64]; omega
          have HQ : Hid (q' = q - 1 ∧ 1 ≤ q) := ⟨hq', hq1⟩
          have E2 : Hid (q' * a + r' = u) := V.step_eq E1.out hq1 hq' hr'
          have G2 : Hid ((u * 4294967296 + d1) / (a * 4294967296 + b) ≤ q') := by
            have := V.digit_le hlt
            rw [hq']; exact this
          by_cases c2 : 4294967296 ≤ r'
          · have C2 : decide ((4294967296 : Int) ≤ (r' : Int)) = true := decide_eq_true (by omega)
            have QE : Hid (q' = (u * 4294967296 + d1) / (a * 4294967296 + b)) := by
              have hbd := BD.out
              have hh := HAB.out
              have hu2 := HUY.out
              exact V.digit_eq G2.out (V.wide_rest E2.out (by omega) (by omega) c2).2 (by omega)
            clear hq' hr' c1 c2 hx hz ht hxb hlt hq1
            generalize q' = Q at *
            obtain ⟨u2, hu2⟩ : ∃ u2, u2 = (u * 4294967296 + d1) % Y := ⟨_, rfl⟩
            have hQY : Q = (u * 4294967296 + d1) / Y := by rw [HAB.out]; exact QE.out
            have k1 : u2 < Y := by rw [hu2]; exact Nat.mod_lt _ BD.out.2.2.2.2.2.2.2.2
            have k2 : Y < 18446744073709551616 := BD.out.2.2.2.2.2.2.2.1
            have s1 : IntKind.u64.wrap (IntKind.u64.wrap (IntKind.u64.wrap ((u : Int) * 4294967296) + (d1 : Int)) - IntKind.u64.wrap ((Q : Int) * (Y : Int))) = (u2 : Int) := by
              rw [IntKind.wrap_u64, IntKind.wrap_u64, IntKind.wrap_u64, IntKind.wrap_u64, hu2]
              exact V.rem_wrap hQY (by omega) k2
            obtain ⟨p0, hp0⟩ : ∃ q, q = u2 / a := ⟨_, rfl⟩
            obtain ⟨n0, hn0⟩ : ∃ r, r = u2 % a := ⟨_, rfl⟩
            have e0 : p0 * a + n0 = u2 := by rw [hp0, hn0, Nat.mul_comm]; exact Nat.div_add_mod u2 a
            have em : n0 < a := by rw [hn0]; exact Nat.mod_lt _ (by have := BD.out; omega)
            have kp : p0 < 18446744073709551616 := by rw [hp0]; exact Nat.lt_of_le_of_lt (Nat.div_le_self _ _) (by omega)
            have s2 : IntKind.u64.wrap ((u2 : Int) / (a : Int)) = (p0 : Int) := by
              have : (u2 : Int) / (a : Int) = ((u2 / a : Nat) : Int) := by simp
              rw [this, ← hp0, wrapn kp]
            obtain ⟨K2, hK2⟩ : ∃ k, k = u2 - n0 := ⟨_, rfl⟩
            have s3 : (p0 : Int) * (a : Int) = (K2 : Int) := by
              have : p0 * a = K2 := by omega
              rw [← this]; simp
            have s4 : IntKind.u64.wrap (K2 : Int) = (K2 : Int) := wrapn (by omega)
            have s5 : IntKind.u64.wrap ((u2 : Int) - (K2 : Int)) = (n0 : Int) := by
              have : (u2 : Int) - (K2 : Int) = (n0 : Int) := by omega
              rw [this]; exact wrapn (by omega)
            have G0 := hid (V.guess_ge (a := a) (b := b) (u := u2) (d := d0) (by omega) BD.out.2.2.2.2.1)
            rw [← hp0] at G0
            have E0 := hid e0
            have B0 : Hid (p0 < 18446744073709551616 ∧ n0 < 4294967296) := ⟨kp, by have := BD.out; omega⟩
            have HUY : Hid (u2 < Y) := k1
            have HU3 := hid hu2
            have HQY := hid hQY
            clear hu2 hQY k1 k2 hp0 hn0 e0 em kp hK2
            go_wp2_with fail
            clear s1 s2 s3 s4 s5
            go_loop [18, 16] (fun t1 t2 => ∃ q r : Nat, t1 = .int .u64 q ∧ t2 = .int .u64 r ∧ Hid (q < 18446744073709551616 ∧ r < 4294967296) ∧ Hid (q * a + r = u2) ∧ Hid ((u2 * 4294967296 + d0) / (a * 4294967296 + b) ≤ q)) (fun t1 _ => (intOf t1).toNat)
            case atStart => exact ⟨p0, n0, rfl, rfl, B0, E0, G0⟩
            case round =>
              obtain ⟨q, r, rfl, rfl, B1, E1, G1⟩ := hrel
              clear E0 G0 B0
              by_cases c1 : 4294967296 ≤ q
              · obtain ⟨q', hq'⟩ : ∃ q', q' = q - 1 := ⟨_, rfl⟩
                obtain ⟨r', hr'⟩ : ∃ r', r' = r + a := ⟨_, rfl⟩
                have q1 : IntKind.u64.wrap ((q : Int) - 1) = (q' : Int) := by have := B1.out; rw [IntKind.wrap_u64]; omega
                have q2 : IntKind.u64.wrap ((r : Int) + (a : Int)) = (r' : Int) := by have := B1.out; have := BD.out; rw [IntKind.wrap_u64]; omega
                have C1 : (4294967296 : Int) ≤ (q : Int) := by omega
                have HQ := hid hq'
                have E2 : Hid (q' * a + r' = u2) := V.step_eq E1.out (by omega) hq' hr'
                have G2 : Hid ((u2 * 4294967296 + d0) / (a * 4294967296 + b) ≤ q') := by
                  have hbd := BD.out
                  have hh := HAB.out
                  have hu2 := HUY.out
                  have hlt := V.wide_great (V := a * 4294967296 + b) (u := u2) (d := d0) (q := q) (by omega) (by omega) c1
                  have := V.digit_le hlt
                  rw [hq']; exact this
                by_cases c2 : 4294967296 ≤ r'
                · have C2 : decide ((4294967296 : Int) ≤ (r' : Int)) = true := decide_eq_true (by omega)
                  have QE : Hid (q' = (u2 * 4294967296 + d0) / (a * 4294967296 + b)) := by
                    have hbd := BD.out
                    have hh := HAB.out
                    have hu2 := HUY.out
                    exact V.digit_eq G2.out (V.wide_rest E2.out (by omega) (by omega) c2).2 (by omega)
                  clear hq' hr' c1 c2
                  have FF := V.final HY.out BD.out.2.2.2.2.2.2.2.2 HU2.out HD.out
                  rw [← HQY.out, ← HU3.out] at FF
                  have hq2 : q' = (u2 * 4294967296 + d0) / Y := by rw [HAB.out]; exact QE.out
                  rw [← hq2] at FF
                  have hR1 := HR1.out
                  have hR2 := HR2.out
                  obtain ⟨e2, he2⟩ : ∃ R, R = (u2 * 4294967296 + d0) % Y := ⟨_, rfl⟩
                  rw [← hR1, ← hR2, ← he2] at FF
                  have hR3 : R1 < 18446744073709551616 := by
                    rw [hR1]
                    have := S0.out
                    exact Nat.div_lt_of_lt_mul (V.lt_words this.2.1 this.2.2.1)
                  have f1 : IntKind.u64.wrap (IntKind.u64.wrap ((Q : Int) * 4294967296) + (q' : Int)) = (R1 : Int) := by
                    have := FF.1
                    rw [IntKind.wrap_u64, IntKind.wrap_u64]; omega
                  have f2 : IntKind.u64.wrap (IntKind.u64.wrap (IntKind.u64.wrap ((u2 : Int) * 4294967296) + (d0 : Int)) - IntKind.u64.wrap ((q' : Int) * (Y : Int))) = (e2 : Int) := by
                    rw [IntKind.wrap_u64, IntKind.wrap_u64, IntKind.wrap_u64, IntKind.wrap_u64, he2]
                    exact V.rem_wrap hq2 BD.out.2.2.2.2.2.2.2.2 BD.out.2.2.2.2.2.2.2.1
                  have f3 : (e2 : Int) / 2 ^ s = (R2 : Int) := by rw [castdiv, FF.2]
                  have f4 : min s 64 = s := by have := S0.out; omega
                  clear hR1 hR2 he2 hq2 FF hR3
                  go_wp2_with fail
                  go_ret2
                  exact ⟨rfl, rfl⟩
                · have C2 : decide ((4294967296 : Int) ≤ (r' : Int)) = false := decide_eq_false (by omega)
                  have B2 : Hid (q' < 18446744073709551616 ∧ r' < 4294967296) := by have := B1.out; exact ⟨by omega, by omega⟩
                  clear hq' hr' c1 c2
                  go_wp2_with fail
                  go_round
                  case rel => exact ⟨q', r', rfl, rfl, B2, E2, G2⟩
                  case measure => have := HQ.out; simp [intOf]; omega
              · have D1 : decide ((4294967296 : Int) ≤ (q : Int)) = false := decide_eq_false (by omega)
                obtain ⟨x, hx⟩ : ∃ x, x = q * b := ⟨_, rfl⟩
                obtain ⟨z, hz⟩ : ∃ z, z = 4294967296 * r := ⟨_, rfl⟩
                obtain ⟨t, ht⟩ : ∃ t, t = z + d0 := ⟨_, rfl⟩
                have hxb : x ≤ 4294967295 * 4294967295 := by rw [hx]; have := BD.out; exact Nat.mul_le_mul (by omega) (by omega)
                have p1 : (q : Int) * (b : Int) = (x : Int) := by rw [hx]; simp
                have p1' : IntKind.u64.wrap (x : Int) = (x : Int) := wrapn (by omega)
                have p2 : IntKind.u64.wrap (4294967296 * (r : Int)) = (z : Int) := by have := B1.out; rw [IntKind.wrap_u64]; omega
                have p3 : IntKind.u64.wrap ((z : Int) + (d0 : Int)) = (t : Int) := by have := B1.out; have := BD.out; rw [IntKind.wrap_u64]; omega
                have TG : Hid ((t < x) ↔ (u2 * 4294967296 + d0 < q * (a * 4294967296 + b))) := by
                  have := V.too_great (b := b) (d := d0) E1.out
                  rw [← hx] at this
                  rw [ht, hz, Nat.mul_comm 4294967296 r]; exact this
                by_cases c3 : t < x
                · have hlt := TG.out.1 c3
                  obtain ⟨q', hq'⟩ : ∃ q', q' = q - 1 := ⟨_, rfl⟩
                  obtain ⟨r', hr'⟩ : ∃ r', r' = r + a := ⟨_, rfl⟩
                  have hq1 : 1 ≤ q := by
                    rcases Nat.eq_zero_or_pos q with h | h
                    · rw [h, Nat.zero_mul] at hlt; omega
                    · exact h
                  have q1 : IntKind.u64.wrap ((q : Int) - 1) = (q' : Int) := by have := B1.out; rw [IntKind.wrap_u64]; omega
                  have q2 : IntKind.u64.wrap ((r : Int) + (a : Int)) = (r' : Int) := by have := B1.out; have := BD.out; rw [IntKind.wrap_u64]; omega
                  have HQ : Hid (q' = q - 1 ∧ 1 ≤ q) := ⟨hq', hq1⟩
                  have E2 : Hid (q' * a + r' = u2) := V.step_eq E1.out hq1 hq' hr'
                  have G2 : Hid ((u2 * 4294967296 + d0) / (a * 4294967296 + b) ≤ q') := by
                    have := V.digit_le hlt
                    rw [hq']; exact this
                  by_cases c2 : 4294967296 ≤ r'
                  · have C2 : decide ((4294967296 : Int) ≤ (r' : Int)) = true := decide_eq_true (by omega)
                    have QE : Hid (q' = (u2 * 4294967296 + d0) / (a * 4294967296 + b)) := by
                      have hbd := BD.out
                      have hh := HAB.out
                      have hu2 := HUY.out
                      exact V.digit_eq G2.out (V.wide_rest E2.out (by omega) (by omega) c2).2 (by omega)
                    clear hq' hr' c1 c2 hx hz ht hxb hlt hq1
                    have FF := V.final HY.out BD.out.2.2.2.2.2.2.2.2 HU2.out HD.out
                    rw [← HQY.out, ← HU3.out] at FF
                    have hq2 : q' = (u2 * 4294967296 + d0) / Y := by rw [HAB.out]; exact QE.out
                    rw [← hq2] at FF
                    have hR1 := HR1.out
                    have hR2 := HR2.out
                    obtain ⟨e2, he2⟩ : ∃ R, R = (u2 * 4294967296 + d0) % Y := ⟨_, rfl⟩
                    rw [← hR1, ← hR2, ← he2] at FF
                    have hR3 : R1 < 18446744073709551616 := by
                      rw [hR1]
                      have := S0.out
                      exact Nat.div_lt_of_lt_mul (V.lt_words this.2.1 this.2.2.1)
                    have f1 : IntKind.u64.wrap (IntKind.u64.wrap ((Q : Int) * 4294967296) + (q' : Int)) = (R1 : Int) := by
                      have := FF.1
                      rw [IntKind.wrap_u64, IntKind.wrap_u64]; omega
                    have f2 : IntKind.u64.wrap (IntKind.u64.wrap (IntKind.u64.wrap ((u2 : Int) * 4294967296) + (d0 : Int)) - IntKind.u64.wrap ((q' : Int) * (Y : Int))) = (e2 : Int) := by
                      rw [IntKind.wrap_u64, IntKind.wrap_u64, IntKind.wrap_u64, IntKind.wrap_u64, he2]
                      exact V.rem_wrap hq2 BD.out.2.2.2.2.2.2.2.2 BD.out.2.2.2.2.2.2.2.1
                    have f3 : (e2 : Int) / 2 ^ s = (R2 : Int) := by rw [castdiv, FF.2]
                    have f4 : min s 64 = s := by have := S0.out; omega
                    clear hR1 hR2 he2 hq2 FF hR3
                    go_wp2_with fail
                    go_ret2
                    exact ⟨rfl, rfl⟩
                  · have C2 : decide ((4294967296 : Int) ≤ (r' : Int)) = false := decide_eq_false (by omega)
                    have B2 : Hid (q' < 18446744073709551616 ∧ r' < 4294967296) := by have := B1.out; exact ⟨by omega, by omega⟩
                    clear hq' hr' c1 c2 hx hz ht hxb hlt hq1
                    go_wp2_with fail
                    go_round
                    case rel => exact ⟨q', r', rfl, rfl, B2, E2, G2⟩
                    case measure => have := HQ.out; simp [intOf]; omega
                · have QE : Hid (q = (u2 * 4294967296 + d0) / (a * 4294967296 + b)) := V.digit_eq G1.out (fun h => c3 (TG.out.2 h)) (by have := BD.out; omega)
                  clear c1 hx hz ht hxb
                  have FF := V.final HY.out BD.out.2.2.2.2.2.2.2.2 HU2.out HD.out
                  rw [← HQY.out, ← HU3.out] at FF
                  have hq2 : q = (u2 * 4294967296 + d0) / Y := by rw [HAB.out]; exact QE.out
                  rw [← hq2] at FF
                  have hR1 := HR1.out
                  have hR2 := HR2.out
                  obtain ⟨e2, he2⟩ : ∃ R, R = (u2 * 4294967296 + d0) % Y := ⟨_, rfl⟩
                  rw [← hR1, ← hR2, ← he2] at FF
                  have hR3 : R1 < 18446744073709551616 := by
                    rw [hR1]
                    have := S0.out
                    exact Nat.div_lt_of_lt_mul (V.lt_words this.2.1 this.2.2.1)
                  have f1 : IntKind.u64.wrap (IntKind.u64.wrap ((Q : Int) * 4294967296) + (q : Int)) = (R1 : Int) := by
                    have := FF.1
                    rw [IntKind.wrap_u64, IntKind.wrap_u64]; omega
                  have f2 : IntKind.u64.wrap (IntKind.u64.wrap (IntKind.u64.wrap ((u2 : Int) * 4294967296) + (d0 : Int)) - IntKind.u64.wrap ((q : Int) * (Y : Int))) = (e2 : Int) := by
                    rw [IntKind.wrap_u64, IntKind.wrap_u64, IntKind.wrap_u64, IntKind.wrap_u64, he2]
                    exact V.rem_wrap hq2 BD.out.2.2.2.2.2.2.2.2 BD.out.2.2.2.2.2.2.2.1
                  have f3 : (e2 : Int) / 2 ^ s = (R2 : Int) := by rw [castdiv, FF.2]
                  have f4 : min s 64 = s := by have := S0.out; omega
                  clear hR1 hR2 he2 hq2 FF hR3
                  go_wp2_with fail
                  go_ret2
                  exact ⟨rfl, rfl⟩
          · have C2 : decide ((4294967296 : Int) ≤ (r' : Int)) = false := decide_eq_false (by omega)
            have B2 : Hid (q' < 18446744073709551616 ∧ r' < 4294967296) := by have := B1.out; exact ⟨by omega, by omega⟩
            clear hq' hr' c1 c2 hx hz ht hxb hlt hq1
            go_wp2_with fail
            go_round
            case rel => exact ⟨q', r', rfl, rfl, B2, E2, G2⟩
            case measure => have := HQ.out; simp [intOf]; omega
        · have QE : Hid (q = (u * 4294967296 + d1) / (a * 4294967296 + b)) := V.digit_eq G1.out (fun h => c3 (TG.out.2 h)) (by have := BD.out; omega)
          clear c1 hx hz ht hxb
          generalize q = Q at *
          obtain ⟨u2, hu2⟩ : ∃ u2, u2 = (u * 4294967296 + d1) % Y := ⟨_, rfl⟩
          have hQY : Q = (u * 4294967296 + d1) / Y := by rw [HAB.out]; exact QE.out
          have k1 : u2 < Y := by rw [hu2]; exact Nat.mod_lt _ BD.out.2.2.2.2.2.2.2.2
          have k2 : Y < 18446744073709551616 := BD.out.2.2.2.2.2.2.2.1
          have s1 : IntKind.u64.wrap (IntKind.u64.wrap (IntKind.u64.wrap ((u : Int) * 4294967296) + (d1 : Int)) - IntKind.u64.wrap ((Q : Int) * (Y : Int))) = (u2 : Int) := by
            rw [IntKind.wrap_u64, IntKind.wrap_u64, IntKind.wrap_u64, IntKind.wrap_u64, hu2]
            exact V.rem_wrap hQY (by omega) k2
          obtain ⟨p0, hp0⟩ : ∃ q, q = u2 / a := ⟨_, rfl⟩
          obtain ⟨n0, hn0⟩ : ∃ r, r = u2 % a := ⟨_, rfl⟩
          have e0 : p0 * a + n0 = u2 := by rw [hp0, hn0, Nat.mul_comm]; exact Nat.div_add_mod u2 a
          have em : n0 < a := by rw [hn0]; exact Nat.mod_lt _ (by have := BD.out; omega)
          have kp : p0 < 18446744073709551616 := by rw [hp0]; exact Nat.lt_of_le_of_lt (Nat.div_le_self _ _) (by omega)
          have s2 : IntKind.u64.wrap ((u2 : Int) / (a : Int)) = (p0 : Int) := by
            have : (u2 : Int) / (a : Int) = ((u2 / a : Nat) : Int) := by simp
            rw [this, ← hp0, wrapn kp]
          obtain ⟨K2, hK2⟩ : ∃ k, k = u2 - n0 := ⟨_, rfl⟩
          have s3 : (p0 : Int) * (a : Int) = (K2 : Int) := by
            have : p0 * a = K2 := by omega
            rw [← this]; simp
          have s4 : IntKind.u64.wrap (K2 : Int) = (K2 : Int) := wrapn (by omega)
          have s5 : IntKind.u64.wrap ((u2 : Int) - (K2 : Int)) = (n0 : Int) := by
            have : (u2 : Int) - (K2 : Int) = (n0 : Int) := by omega
            rw [this]; exact wrapn (by omega)
          have G0 := hid (V.guess_ge (a := a) (b := b) (u := u2) (d := d0) (by omega) BD.out.2.2.2.2.1)
          rw [← hp0] at G0
          have E0 := hid e0
          have B0 : Hid (p0 < 18446744073709551616 ∧ n0 < 4294967296) := ⟨kp, by have := BD.out; omega⟩
          have HUY : Hid (u2 < Y) := k1
          have HU3 := hid hu2
          have HQY := hid hQY
          clear hu2 hQY k1 k2 hp0 hn0 e0 em kp hK2
          go_wp2_with fail
          clear s1 s2 s3 s4 s5
          go_loop [18, 16] (fun t1 t2 => ∃ q r : Nat, t1 = .int .u64 q ∧ t2 = .int .u64 r ∧ Hid (q < 18446744073709551616 ∧ r < 4294967296) ∧ Hid (q * a + r = u2) ∧ Hid ((u2 * 4294967296 + d0) / (a * 4294967296 + b) ≤ q)) (fun t1 _ => (intOf t1).toNat)
          case atStart => exact ⟨p0, n0, rfl, rfl, B0, E0, G0⟩
          case round =>
            obtain ⟨q, r, rfl, rfl, B1, E1, G1⟩ := hrel
            clear E0 G0 B0
            by_cases c1 : 4294967296 ≤ q
            · obtain ⟨q', hq'⟩ : ∃ q', q' = q - 1 := ⟨_, rfl⟩
              obtain ⟨r', hr'⟩ : ∃ r', r' = r + a := ⟨_, rfl⟩
              have q1 : IntKind.u64.wrap ((q : Int) - 1) = (q' : Int) := by have := B1.out; rw [IntKind.wrap_u64]; omega
              have q2 : IntKind.u64.wrap ((r : Int) + (a : Int)) = (r' : Int) := by have := B1.out; have := BD.out; rw [IntKind.wrap_u64]; omega
              have C1 : (4294967296 : Int) ≤ (q : Int) := by omega
              have HQ := hid hq'
              have E2 : Hid (q' * a + r' = u2) := V.step_eq E1.out (by omega) hq' hr'
              have G2 : Hid ((u2 * 4294967296 + d0) / (a * 4294967296 + b) ≤ q') := by
                have hbd := BD.out
                have hh := HAB.out
                have hu2 := HUY.out
                have hlt := V.wide_great (V := a * 4294967296 + b) (u := u2) (d := d0) (q := q) (by omega) (by omega) c1
                have := V.digit_le hlt
                rw [hq']; exact this
              by_cases c2 : 4294967296 ≤ r'
              · have C2 : decide ((4294967296 : Int) ≤ (r' : Int)) = true := decide_eq_true (by omega)
                have QE : Hid (q' = (u2 * 4294967296 + d0) / (a * 4294967296 + b)) := by
                  have hbd := BD.out
                  have hh := HAB.out
                  have hu2 := HUY.out
                  exact V.digit_eq G2.out (V.wide_rest E2.out (by omega) (by omega) c2).2 (by omega)
                clear hq' hr' c1 c2
                have FF := V.final HY.out BD.out.2.2.2.2.2.2.2.2 HU2.out HD.out
                rw [← HQY.out, ← HU3.out] at FF
                have hq2 : q' = (u2 * 4294967296 + d0) / Y := by rw [HAB.out]; exact QE.out
                rw [← hq2] at FF
                have hR1 := HR1.out
                have hR2 := HR2.out
                obtain ⟨e2, he2⟩ : ∃ R, R = (u2 * 4294967296 + d0) % Y := ⟨_, rfl⟩
                rw [← hR1, ← hR2, ← he2] at FF
                have hR3 : R1 < 18446744073709551616 := by
                  rw [hR1]
                  have := S0.out
                  exact Nat.div_lt_of_lt_mul (V.lt_words this.2.1 this.2.2.1)
                have f1 : IntKind.u64.wrap (IntKind.u64.wrap ((Q : Int) * 4294967296) + (q' : Int)) = (R1 : Int) := by
                  have := FF.1
                  rw [IntKind.wrap_u64, IntKind.wrap_u64]; omega
                have f2 : IntKind.u64.wrap (IntKind.u64.wrap (IntKind.u64.wrap ((u2 : Int) * 4294967296) + (d0 : Int)) - IntKind.u64.wrap ((q' : Int) * (Y : Int))) = (e2 : Int) := by
                  rw [IntKind.wrap_u64, IntKind.wrap_u64, IntKind.wrap_u64, IntKind.wrap_u64, he2]
                  exact V.rem_wrap hq2 BD.out.2.2.2.2.2.2.2.2 BD.out.2.2.2.2.2.2.2.1
                have f3 : (e2 : Int) / 2 ^ s = (R2 : Int) := by rw [castdiv, FF.2]
                have f4 : min s 64 = s := by have := S0.out; omega
                clear hR1 hR2 he2 hq2 FF hR3
                go_wp2_with fail
                go_ret2
                exact ⟨rfl, rfl⟩
              · have C2 : decide ((4294967296 : Int) ≤ (r' : Int)) = false := decide_eq_false (by omega)
                have B2 : Hid (q' < 18446744073709551616 ∧ r' < 4294967296) := by have := B1.out; exact ⟨by omega, by omega⟩
                clear hq' hr' c1 c2
                go_wp2_with fail
                go_round
                case rel => exact ⟨q', r', rfl, rfl, B2, E2, G2⟩
                case measure => have := HQ.out; simp [intOf]; omega
            · have D1 : decide ((4294967296 : Int) ≤ (q : Int)) = false := decide_eq_false (by omega)
              obtain ⟨x, hx⟩ : ∃ x, x = q * b := ⟨_, rfl⟩
              obtain ⟨z, hz⟩ : ∃ z, z = 4294967296 * r := ⟨_, rfl⟩
              obtain ⟨t, ht⟩ : ∃ t, t = z + d0 := ⟨_, rfl⟩
              have hxb : x ≤ 4294967295 * 4294967295 := by rw [hx]; have := BD.out; exact Nat.mul_le_mul (by omega) (by omega)
              have p1 : (q : Int) * (b : Int) = (x : Int) := by rw [hx]; simp
              have p1' : IntKind.u64.wrap (x : Int) = (x : Int) := wrapn (by omega)
              have p2 : IntKind.u64.wrap (4294967296 * (r : Int)) = (z : Int) := by have := B1.out; rw [IntKind.wrap_u64]; omega
              have p3 : IntKind.u64.wrap ((z : Int) + (d0 : Int)) = (t : Int) := by have := B1.out; have := BD.out; rw [IntKind.wrap_u64]; omega
              have TG : Hid ((t < x) ↔ (u2 * 4294967296 + d0 < q * (a * 4294967296 + b))) := by
                have := V.too_great (b := b) (d := d0) E1.out
                rw [← hx] at this
                rw [ht, hz, Nat.mul_comm 4294967296 r]; exact this
              by_cases c3 : t < x
              · have hlt := TG.out.1 c3
                obtain ⟨q', hq'⟩ : ∃ q', q' = q - 1 := ⟨_, rfl⟩
                obtain ⟨r', hr'⟩ : ∃ r', r' = r + a := ⟨_, rfl⟩
                have hq1 : 1 ≤ q := by
                  rcases Nat.eq_zero_or_pos q with h | h
                  · rw [h, Nat.zero_mul] at hlt; omega
                  · exact h
                have q1 : IntKind.u64.wrap ((q : Int) - 1) = (q' : Int) := by have := B1.out; rw [IntKind.wrap_u64]; omega
                have q2 : IntKind.u64.wrap ((r : Int) + (a : Int)) = (r' : Int) := by have := B1.out; have := BD.out; rw [IntKind.wrap_u64]; omega
                have HQ : Hid (q' = q - 1 ∧ 1 ≤ q) := ⟨hq', hq1⟩
                have E2 : Hid (q' * a + r' = u2) := V.step_eq E1.out hq1 hq' hr'
                have G2 : Hid ((u2 * 4294967296 + d0) / (a * 4294967296 + b) ≤ q') := by
                  have := V.digit_le hlt
                  rw [hq']; exact this
                by_cases c2 : 4294967296 ≤ r'
                · have C2 : decide ((4294967296 : Int) ≤ (r' : Int)) = true := decide_eq_true (by omega)
                  have QE : Hid (q' = (u2 * 4294967296 + d0) / (a * 4294967296 + b)) := by
                    have hbd := BD.out
                    have hh := HAB.out
                    have hu2 := HUY.out
                    exact V.digit_eq G2.out (V.wide_rest E2.out (by omega) (by omega) c2).2 (by omega)
                  clear hq' hr' c1 c2 hx hz ht hxb hlt hq1
                  have FF := V.final HY.out BD.out.2.2.2.2.2.2.2.2 HU2.out HD.out
                  rw [← HQY.out, ← HU3.out] at FF
                  have hq2 : q' = (u2 * 4294967296 + d0) / Y := by rw [HAB.out]; exact QE.out
                  rw [← hq2] at FF
                  have hR1 := HR1.out
                  have hR2 := HR2.out
                  obtain ⟨e2, he2⟩ : ∃ R, R = (u2 * 4294967296 + d0) % Y := ⟨_, rfl⟩
                  rw [← hR1, ← hR2, ← he2] at FF
                  have hR3 : R1 < 18446744073709551616 := by
                    rw [hR1]
                    have := S0.out
                    exact Nat.div_lt_of_lt_mul (V.lt_words this.2.1 this.2.2.1)
                  have f1 : IntKind.u64.wrap (IntKind.u64.wrap ((Q : Int) * 4294967296) + (q' : Int)) = (R1 : Int) := by
                    have := FF.1
                    rw [IntKind.wrap_u64, IntKind.wrap_u64]; omega
                  have f2 : IntKind.u64.wrap (IntKind.u64.wrap (IntKind.u64.wrap ((u2 : Int) * 4294967296) + (d0 : Int)) - IntKind.u64.wrap ((q' : Int) * (Y : Int))) = (e2 : Int) := by
                    rw [IntKind.wrap_u64, IntKind.wrap_u64, IntKind.wrap_u64, IntKind.wrap_u64, he2]
                    exact V.rem_wrap hq2 BD.out.2.2.2.2.2.2.2.2 BD.out.2.2.2.2.2.2.2.1
                  have f3 : (e2 : Int) / 2 ^ s = (R2 : Int) := by rw [castdiv, FF.2]
                  have f4 : min s 64 = s := by have := S0.out; omega
                  clear hR1 hR2 he2 hq2 FF hR3
                  go_wp2_with fail
                  go_ret2
                  exact ⟨rfl, rfl⟩
                · have C2 : decide ((4294967296 : Int) ≤ (r' : Int)) = false := decide_eq_false (by omega)
                  have B2 : Hid (q' < 18446744073709551616 ∧ r' < 4294967296) := by have := B1.out; exact ⟨by omega, by omega⟩
                  clear hq' hr' c1 c2 hx hz ht hxb hlt hq1
                  go_wp2_with fail
                  go_round
                  case rel => exact ⟨q', r', rfl, rfl, B2, E2, G2⟩
                  case measure => have := HQ.out; simp [intOf]; omega
              · have QE : Hid (q = (u2 * 4294967296 + d0) / (a * 4294967296 + b)) := V.digit_eq G1.out (fun h => c3 (TG.out.2 h)) (by have := BD.out; omega)
                clear c1 hx hz ht hxb
                have FF := V.final HY.out BD.out.2.2.2.2.2.2.2.2 HU2.out HD.out
                rw [← HQY.out, ← HU3.out] at FF
                have hq2 : q = (u2 * 4294967296 + d0) / Y := by rw [HAB.out]; exact QE.out
                rw [← hq2] at FF
                have hR1 := HR1.out
                have hR2 := HR2.out
                obtain ⟨e2, he2⟩ : ∃ R, R = (u2 * 4294967296 + d0) % Y := ⟨_, rfl⟩
                rw [← hR1, ← hR2, ← he2] at FF
                have hR3 : R1 < 18446744073709551616 := by
                  rw [hR1]
                  have := S0.out
                  exact Nat.div_lt_of_lt_mul (V.lt_words this.2.1 this.2.2.1)
                have f1 : IntKind.u64.wrap (IntKind.u64.wrap ((Q : Int) * 4294967296) + (q : Int)) = (R1 : Int) := by
                  have := FF.1
                  rw [IntKind.wrap_u64, IntKind.wrap_u64]; omega
                have f2 : IntKind.u64.wrap (IntKind.u64.wrap (IntKind.u64.wrap ((u2 : Int) * 4294967296) + (d0 : Int)) - IntKind.u64.wrap ((q : Int) * (Y : Int))) = (e2 : Int) := by
                  rw [IntKind.wrap_u64, IntKind.wrap_u64, IntKind.wrap_u64, IntKind.wrap_u64, he2]
                  exact V.rem_wrap hq2 BD.out.2.2.2.2.2.2.2.2 BD.out.2.2.2.2.2.2.2.1
                have f3 : (e2 : Int) / 2 ^ s = (R2 : Int) := by rw [castdiv, FF.2]
                have f4 : min s 64 = s := by have := S0.out; omega
                clear hR1 hR2 he2 hq2 FF hR3
                go_wp2_with fail
                go_ret2
                exact ⟨rfl, rfl⟩
end Go.Proofs.Ytdehibmofmfkbaa

namespace Go.Proofs.Ytdehibmofmfkbaa
open Go.RowKit
set_option maxHeartbeats 2000000
theorem div64_any (hi lo y R1 R2 : Nat) (g1 : R1 = (hi * 18446744073709551616 + lo) / y) (g2 : R2 = (hi * 18446744073709551616 + lo) % y) (h1 : hi < y) (h2 : lo < 18446744073709551616) (h3 : y < 18446744073709551616) (w : World) : Calls Try.prog 91 #[.int .u64 hi, .int .u64 lo, .int .u64 y] w fun e w' => e = .returned (.tuple #[.int .u64 R1, .int .u64 R2]) ∧ Below w.heap.size w w' := by
  by_cases h0 : hi = 0
  · subst h0
    rw [Nat.zero_mul, Nat.zero_add] at g1 g2
    have r1 : IntKind.u64.wrap ((lo : Int) / (y : Int)) = (R1 : Int) := by
      have : (lo : Int) / (y : Int) = ((lo / y : Nat) : Int) := by simp
      rw [this, ← g1, wrapn (by rw [g1]; exact Nat.lt_of_le_of_lt (Nat.div_le_self _ _) h2)]
    have r2 : (lo : Int) % (y : Int) = (R2 : Int) := by rw [g2]; simp
    have r3 : IntKind.u64.wrap ((lo : Int).tdiv (y : Int)) = (R1 : Int) := by rw [Int.tdiv_eq_ediv_of_nonneg (by omega)]; exact r1
    have r4 : (lo : Int).tmod (y : Int) = (R2 : Int) := by rw [Int.tmod_eq_emod_of_nonneg (by omega)]; exact r2
    have hby : ((y : Int) == 0) = false := beq_eq_false_iff_ne.2 (by omega)
    have hle : ¬ ((y : Int) ≤ 0) := by omega
    clear g1 g2 h3
    go_enter Try.func91, Try.ntmps91
    go_wp2_with fail
    go_quiet (fail)
    go_wp2_with fail
    go_ret2
    exact ⟨rfl, below_drewN (Below.refl _ _) _⟩
  · refine (div64_yes hi lo y R1 R2 g1 g2 h0 h1 h2 h3 w).mono ?_
    rintro e w' ⟨rfl, rfl⟩
    exact ⟨rfl, Below.refl _ _⟩
end Go.Proofs.Ytdehibmofmfkbaa

namespace Go.Proofs.Ytdehibmofmfkbaa
open Go.RowKit
end Go.Proofs.Ytdehibmofmfkbaa

namespace Go.Proofs.Ytdehibmofmfkbaa
open Go.RowKit
theorem msplit_no (a b c : Nat) (ha : a < 18446744073709551616) (hb : b < 18446744073709551616) (h : c ≤ a * b / 18446744073709551616) (w : World) :
    Calls Try.prog 84 #[.int .u64 a, .int .u64 b, .int .u64 c] w fun e w' => e = .returned (.tuple #[.int .u64 0, .int .u64 0, .bool false]) ∧ w = w' := by
  have m := Try.bits_Mul64 a b ha hb
  obtain ⟨hi, hh⟩ : ∃ x, x = a * b / 18446744073709551616 := ⟨_, rfl⟩
  obtain ⟨lo, hl⟩ : ∃ x, x = a * b % 18446744073709551616 := ⟨_, rfl⟩
  rw [← hh, ← hl] at m
  rw [← hh] at h
  have M0 := hid m
  clear m hh hl ha hb
  go_enter Try.func84, Try.ntmps84
  go_wp2_with fail
  refine (M0.out _).mono ?_
  rintro e w' ⟨rfl, rfl⟩
  go_wp2_with fail
  go_ret3
  exact ⟨rfl, rfl⟩
theorem msplit_yes (a b c R1 R2 : Nat) (ha : a < 18446744073709551616) (hb : b < 18446744073709551616) (hc : c < 18446744073709551616) (h : a * b / 18446744073709551616 < c) (g1 : R1 = a * b / c) (g2 : R2 = a * b % c) (w : World) :
    Calls Try.prog 84 #[.int .u64 a, .int .u64 b, .int .u64 c] w fun e w' => e = .returned (.tuple #[.int .u64 R1, .int .u64 R2, .bool (decide ((R1 : Int) ≤ 1152921504606846976))]) ∧ Below w.heap.size w w' := by
  have m := Try.bits_Mul64 a b ha hb
  have e := Nat.div_add_mod (a * b) 18446744073709551616
  have hl2 : a * b % 18446744073709551616 < 18446744073709551616 := Nat.mod_lt _ (by omega)
  obtain ⟨hi, hh⟩ : ∃ x, x = a * b / 18446744073709551616 := ⟨_, rfl⟩
  obtain ⟨lo, hl⟩ : ∃ x, x = a * b % 18446744073709551616 := ⟨_, rfl⟩
  rw [← hh, ← hl] at m e
  rw [← hh] at h
  rw [← hl] at hl2
  rw [Nat.mul_comm] at e
  rw [← e] at g1 g2
  have D0 := hid (div64_any hi lo c R1 R2 g1 g2 h hl2 hc)
  have M0 := hid m
  clear m hh hl ha hb g1 g2 e hl2 hc
  go_enter Try.func84, Try.ntmps84
  go_wp2_with fail
  refine (M0.out _).mono ?_
  rintro e w' ⟨rfl, rfl⟩
  go_wp2_with fail
  refine (D0.out _).mono ?_
  rintro e w2 ⟨rfl, hb2⟩
  go_wp2_with fail
  go_ret3
  exact ⟨rfl, hb2⟩
end Go.Proofs.Ytdehibmofmfkbaa

namespace Go.Proofs.Ytdehibmofmfkbaa
open Go Go.RowKit V
namespace M
theorem chk_ok {a : Int} (h : chk a = 0) : Amt a := by
  by_cases q : Amt a
  · exact q
  · rw [chk_no q] at h; omega
theorem chks_ok {l : List Int} (h : chks l = 0) : ∀ a ∈ l, Amt a := by
  by_cases q : ∀ a ∈ l, Amt a
  · exact q
  · rw [chks_no q] at h; omega
theorem chks_bad {l : List Int} (h : ¬ chks l = 0) : chks l = 3 := by unfold chks at h ⊢; split <;> simp_all
theorem chk_nok {a : Int} (h : ¬ chk a = 0) : ¬ Amt a := fun q => h (chk_yes q)
theorem ck_ok {a b c : Int} (h : ckE a b c = 0) : POk a b c := by
  by_cases q : POk a b c
  · exact q
  · rw [ck_no q] at h; omega
theorem ck_nok {a b c : Int} (h : ¬ ckE a b c = 0) : ¬ POk a b c := fun q => h (ck_yes q)
def spQ (a b c : Int) : Int := if c ≤ a * b / 18446744073709551616 then 0 else a * b / c
def spR (a b c : Int) : Int := if c ≤ a * b / 18446744073709551616 then 0 else a * b % c
def spB (a b c : Int) : Bool := if c ≤ a * b / 18446744073709551616 then false else decide (a * b / c ≤ 1152921504606846976)
end M
theorem v_mwithin (n a b : Int) : V.Fn Try.prog 73 [] [.one (.val (.int .i64 n)), .one (.val (.int .i64 a)), .one (.val (.int .i64 b))] (.bool (decide (a ≤ n ∧ n ≤ b))) := by
  refine V.Fn.mk_ V.Tok V.mixed Try.func73 rfl Try.ntmps73 (by kernel_rfl) rfl rfl ?_
  repeat' ((conv => whnf); first | refine V.NCond.mk ?_ | refine V.NPick.l ?_ | refine V.NIf.not_ ?_ | refine V.NIf.dec_ ?_ | refine V.a4 ?_ | refine V.a5 ?_ | refine V.NIf.mk (fun _ => ?_) (fun _ => ?_) | refine V.a7 ?_ | refine V.a8 ?_ | refine V.a9 ?_ | refine V.NBoth.mk ?_ ?_ | refine V.b1 ?_ | refine V.b2 ?_ | refine V.NTF.dec ?_ | refine V.b3 ?_ | refine V.b4 ?_ | (refine V.NDraw.any (by kernel_rfl) ?_) | fail)
  · exact ⟨_, rfl, by simp_all⟩
  · exact congrArg Value.bool (by simp_all; omega)
theorem v_check (a : Int) : V.Fn Try.prog 63 [] [.one (.val (.int .i64 a))] (.int .i64 (M.chk a)) := by
  refine V.Fn.mk_ V.Tok V.mixed Try.func63 rfl Try.ntmps63 (by kernel_rfl) rfl rfl ?_
  repeat' ((conv => whnf); first | refine V.NCond.mk ?_ | refine V.NPick.l ?_ | refine V.NIf.not_ ?_ | refine V.NIf.dec_ ?_ | refine V.a4 ?_ | refine V.a5 ?_ | refine V.NIf.mk (fun _ => ?_) (fun _ => ?_) | refine V.a7 ?_ | refine V.a8 ?_ | refine V.a9 ?_ | refine V.NBoth.mk ?_ ?_ | refine V.b1 ?_ | refine V.b2 ?_ | refine V.NTF.dec ?_ | refine V.b3 ?_ | refine V.b4 ?_ | (first | refine V.Fn.k0 (v_mwithin _ _ _) rfl ?_ | refine V.Fn.q0 (v_mwithin _ _ _) rfl ?_ | refine V.Fn.a0 (v_mwithin _ _ _) rfl ?_) | (refine V.NDraw.any (by kernel_rfl) ?_) | fail)
  all_goals ((conv => whnf); refine congrArg _ ?_; unfold M.chk M.Amt; (repeat' split) <;> first | rfl | omega | (exfalso; omega) | (simp_all; done) | (simp_all; omega))
theorem v_split (a b c : Int) (ha : 0 ≤ a ∧ a < 18446744073709551616) (hb : 0 ≤ b ∧ b < 18446744073709551616) (hc : 0 ≤ c ∧ c < 18446744073709551616) :
    V.Fn Try.prog 84 [] [.one (.val (.int .u64 a)), .one (.val (.int .u64 b)), .one (.val (.int .u64 c))] (.tuple #[.int .u64 (M.spQ a b c), .int .u64 (M.spR a b c), .bool (M.spB a b c)]) := by
  obtain ⟨x, rfl⟩ := Int.eq_ofNat_of_zero_le ha.1
  obtain ⟨y, rfl⟩ := Int.eq_ofNat_of_zero_le hb.1
  obtain ⟨z, rfl⟩ := Int.eq_ofNat_of_zero_le hc.1
  have e : (x : Int) * y / 18446744073709551616 = ((x * y / 18446744073709551616 : Nat) : Int) := by simp
  by_cases h : z ≤ x * y / 18446744073709551616
  · have h' : (z : Int) ≤ (x : Int) * y / 18446744073709551616 := by rw [e]; exact Int.ofNat_le.2 h
    rw [show M.spQ x y z = 0 from if_pos h', show M.spR x y z = 0 from if_pos h', show M.spB x y z = false from if_pos h']
    refine Fn.of_calls (xs := [.int .u64 x, .int .u64 y, .int .u64 z]) (by kernel_rfl) V.S_ fun w => ?_
    refine (msplit_no x y z (by omega) (by omega) h w).mono ?_
    rintro e w' ⟨rfl, rfl⟩
    exact ⟨rfl, Belw.refl _ _⟩
  · have h' : ¬ (z : Int) ≤ (x : Int) * y / 18446744073709551616 := by rw [e]; exact fun q => h (Int.ofNat_le.1 q)
    rw [show M.spQ x y z = _ from if_neg h', show M.spR x y z = _ from if_neg h', show M.spB x y z = _ from if_neg h']
    refine Fn.of_calls (xs := [.int .u64 x, .int .u64 y, .int .u64 z]) (by kernel_rfl) V.S_ fun w => ?_
    refine (msplit_yes x y z (x * y / z) (x * y % z) (by omega) (by omega) (by omega) (by omega) rfl rfl w).mono ?_
    rintro e w' ⟨rfl, hb⟩
    exact ⟨by simp, .low hb⟩
namespace M
def rawQ (a b c : Int) : Int := if 0 ≤ a then IntKind.i64.wrap (spQ a b c) else if spR (0 - a) b c = 0 then IntKind.i64.wrap (0 - IntKind.i64.wrap (spQ (0 - a) b c)) else IntKind.i64.wrap (IntKind.i64.wrap (0 - IntKind.i64.wrap (spQ (0 - a) b c)) - 1)
def rawR (a b c : Int) : Int := if 0 ≤ a then spR a b c else if spR (0 - a) b c = 0 then 0 else c - spR (0 - a) b c
def rawB (a b c : Int) : Bool := if 0 ≤ a then spB a b c else if spR (0 - a) b c = 0 then spB (0 - a) b c else (spB (0 - a) b c && decide (spQ (0 - a) b c < 1152921504606846976))
theorem raw_1 {a b c : Int} (h : 0 ≤ a) : rawQ a b c = IntKind.i64.wrap (spQ a b c) ∧ rawR a b c = spR a b c ∧ rawB a b c = spB a b c := ⟨if_pos h, if_pos h, if_pos h⟩
theorem raw_2 {a b c : Int} (h : ¬ 0 ≤ a) (k : spR (0 - a) b c = 0) : rawQ a b c = IntKind.i64.wrap (0 - IntKind.i64.wrap (spQ (0 - a) b c)) ∧ rawR a b c = 0 ∧ rawB a b c = spB (0 - a) b c := by
  unfold rawQ rawR rawB; rw [if_neg h, if_pos k, if_neg h, if_pos k, if_neg h, if_pos k]; exact ⟨rfl, rfl, rfl⟩
theorem raw_3 {a b c : Int} (h : ¬ 0 ≤ a) (k : ¬ spR (0 - a) b c = 0) : rawQ a b c = IntKind.i64.wrap (IntKind.i64.wrap (0 - IntKind.i64.wrap (spQ (0 - a) b c)) - 1) ∧ rawR a b c = c - spR (0 - a) b c ∧ rawB a b c = (spB (0 - a) b c && decide (spQ (0 - a) b c < 1152921504606846976)) := by
  unfold rawQ rawR rawB; rw [if_neg h, if_neg k, if_neg h, if_neg k, if_neg h, if_neg k]; exact ⟨rfl, rfl, rfl⟩
theorem spR_bd {a b c : Int} (hc : 1 ≤ c) : 0 ≤ spR a b c ∧ spR a b c < c := by
  unfold spR; split
  · omega
  · exact r_bd hc
theorem to_1 {l : List Int} (h : 40 < l.length) : toV l = 0 ∧ toE l = 2 := by
  have e : toE l = 2 := if_pos h
  exact ⟨by unfold toV; rw [if_neg (by omega)], e⟩
theorem i64w {e : Int} (h : -9223372036854775808 ≤ e ∧ e ≤ 9223372036854775807) : IntKind.i64.wrap e = e := IntWalk.i64_in e h
theorem sp_in {a b c : Int} (hc : 1 ≤ c ∧ c ≤ 1099511627776) (ha : 0 ≤ a) (hb : 0 ≤ b) (k : a * b / c ≤ 1152921504606846976) : spQ a b c = a * b / c ∧ spR a b c = a * b % c ∧ spB a b c = true := by
  have hab : 0 ≤ a * b := Int.mul_nonneg ha hb
  have e := qr (a * b) c
  have r := r_bd (x := a * b) hc.1
  have lt : ¬ c ≤ a * b / 18446744073709551616 := by
    intro q
    have h1 : c * 18446744073709551616 ≤ a * b := (Int.le_ediv_iff_mul_le (by omega)).1 q
    have h2 : c * (a * b / c) ≤ c * 1152921504606846976 := Int.mul_le_mul_of_nonneg_left k (by omega)
    omega
  exact ⟨if_neg lt, if_neg lt, (if_neg lt).trans (decide_eq_true k)⟩
theorem sp_out {a b c : Int} (hc : 1 ≤ c ∧ c ≤ 1099511627776) (ha : 0 ≤ a) (hb : 0 ≤ b) (k : spB a b c = true) : a * b / c ≤ 1152921504606846976 := by
  unfold spB at k
  split at k
  · cases k
  · exact of_decide_eq_true k
theorem raw_at {a b c : Int} (h : POk a b c) : (rawB a b c = true ↔ Amt (a * b / c)) ∧ (Amt (a * b / c) → rawQ a b c = a * b / c ∧ rawR a b c = a * b % c) := by
  obtain ⟨⟨a0, a1⟩, ⟨b0, b1⟩, hc⟩ := h
  by_cases ha : 0 ≤ a
  · obtain ⟨e1, e2, e3⟩ := raw_1 (b := b) (c := c) ha
    have q0 : 0 ≤ a * b / c := Int.ediv_nonneg (Int.mul_nonneg ha b0) (by omega)
    rw [e1, e2, e3]
    refine ⟨⟨fun k => ⟨by omega, sp_out hc ha b0 k⟩, fun k => (sp_in hc ha b0 k.2).2.2⟩, fun k => ?_⟩
    obtain ⟨s1, s2, _⟩ := sp_in hc ha b0 k.2
    have k2 := k.2
    rw [s1, s2, i64w (by omega)]; exact ⟨rfl, rfl⟩
  · have hn : 0 ≤ 0 - a := by omega
    have em : a * b = -((0 - a) * b) := by rw [Int.zero_sub, Int.neg_mul, Int.neg_neg]
    have q0 : 0 ≤ (0 - a) * b / c := Int.ediv_nonneg (Int.mul_nonneg hn b0) (by omega)
    rw [em]
    by_cases k : (0 - a) * b / c ≤ 1152921504606846976
    · obtain ⟨s1, s2, s3⟩ := sp_in hc hn b0 k
      rcases neg_part (x := (0 - a) * b) hc.1 with ⟨z, n1, n2⟩ | ⟨z, n1, n2⟩
      · obtain ⟨e1, e2, e3⟩ := raw_2 (b := b) (c := c) ha (by rw [s2]; exact z)
        rw [e1, e2, e3, n1, n2, s1, s3, i64w (e := (0 - a) * b / c) (by omega), i64w (by omega)]
        refine ⟨⟨fun _ => ⟨by omega, by omega⟩, fun _ => rfl⟩, fun _ => ⟨by omega, rfl⟩⟩
      · obtain ⟨e1, e2, e3⟩ := raw_3 (b := b) (c := c) ha (by rw [s2]; omega)
        rw [e1, e2, e3, n1, n2, s1, s2, s3, i64w (e := (0 - a) * b / c) (by omega), i64w (e := 0 - _) (by omega), i64w (by omega)]
        refine ⟨?_, fun _ => ⟨by omega, rfl⟩⟩
        unfold Amt
        simp only [Bool.true_and, decide_eq_true_eq]
        omega
    · have sb : spB (0 - a) b c = false := by
        rw [Bool.eq_false_iff]; exact fun q => k (sp_out hc hn b0 q)
      have na : ¬ Amt (-((0 - a) * b) / c) := by
        unfold Amt
        rcases neg_part (x := (0 - a) * b) hc.1 with ⟨z, n1, n2⟩ | ⟨z, n1, n2⟩ <;> omega
      have rb : rawB a b c = false := by
        by_cases z : spR (0 - a) b c = 0
        · rw [(raw_2 (b := b) (c := c) ha z).2.2]; exact sb
        · rw [(raw_3 (b := b) (c := c) ha z).2.2, sb]; rfl
      rw [rb]
      exact ⟨⟨fun q => (nomatch q), fun q => absurd q na⟩, fun q => absurd q na⟩
theorem raw_ok {a b c : Int} (h : POk a b c) (k : rawB a b c = true) : Amt (a * b / c) ∧ rawQ a b c = a * b / c ∧ rawR a b c = a * b % c := ⟨(raw_at h).1.1 k, (raw_at h).2 ((raw_at h).1.1 k)⟩
theorem raw_nok {a b c : Int} (h : POk a b c) (k : ¬ rawB a b c = true) : ¬ Amt (a * b / c) := fun q => k ((raw_at h).1.2 q)
end M
set_option maxHeartbeats 1000000 in
theorem v_raw (a b c : Int) (h : M.POk a b c) : V.Fn Try.prog 68 [] [.one (.val (.int .i64 a)), .one (.val (.int .i64 b)), .one (.val (.int .i64 c))] (.tuple #[.int .i64 (M.rawQ a b c), .int .i64 (M.rawR a b c), .bool (M.rawB a b c)]) := by
  obtain ⟨⟨a0, a1⟩, ⟨b0, b1⟩, c0, c1⟩ := h
  have r1 := M.spR_bd (a := a) (b := b) c0
  have r2 := M.spR_bd (a := 0 - a) (b := b) c0
  refine V.Fn.mk_ V.Tok V.mixed Try.func68 rfl Try.ntmps68 (by kernel_rfl) rfl rfl ?_
  repeat' ((conv => whnf); first | refine V.NCond.mk ?_ | refine V.NPick.l ?_ | refine V.NIf.not_ ?_ | refine V.NIf.dec_ ?_ | refine V.a4 ?_ | refine V.a5 ?_ | refine V.NIf.mk (fun _ => ?_) (fun _ => ?_) | refine V.a7 ?_ | refine V.a8 ?_ | refine V.a9 ?_ | refine V.NBoth.mk ?_ ?_ | refine V.b1 ?_ | refine V.b2 ?_ | refine V.NTF.dec ?_ | refine V.b3 ?_ | refine V.b4 ?_ | (first | refine V.Fn.k0 (v_split a b c (by omega) (by omega) (by omega)) rfl ?_ | refine V.Fn.q0 (v_split a b c (by omega) (by omega) (by omega)) rfl ?_ | refine V.Fn.a0 (v_split a b c (by omega) (by omega) (by omega)) rfl ?_) | (first | refine V.Fn.k0 (v_split (0 - a) b c (by omega) (by omega) (by omega)) rfl ?_ | refine V.Fn.q0 (v_split (0 - a) b c (by omega) (by omega) (by omega)) rfl ?_ | refine V.Fn.a0 (v_split (0 - a) b c (by omega) (by omega) (by omega)) rfl ?_) | (refine NWrap.mk ?_) | (refine V.NDraw.any (by kernel_rfl) ?_) | fail)
  · obtain ⟨e1, e2, e3⟩ := M.raw_1 (a := a) (b := b) (c := c) (by assumption)
    rw [e1, e2, e3]; exact V.S_
  · obtain ⟨e1, e2, e3⟩ := M.raw_2 (a := a) (b := b) (c := c) (by assumption) (by assumption)
    rw [e1, e2, e3]; exact V.S_
  all_goals obtain ⟨e1, e2, e3⟩ := M.raw_3 (a := a) (b := b) (c := c) (by assumption) (by assumption)
  all_goals rw [e1, e2, e3]
  all_goals (conv => whnf)
  all_goals (repeat' (first | exact rfl | exact trivial | (refine ⟨_, rfl, ?_⟩; simp_all; done) | (refine ⟨?_, ?_⟩) | exact congrArg Value.bool (by simp_all) | (simp_all; done)))
theorem v_mcheck (a b c : Int) : V.Fn Try.prog 67 [] [.one (.val (.int .i64 a)), .one (.val (.int .i64 b)), .one (.val (.int .i64 c))] (.int .i64 (M.ckE a b c)) := by
  refine V.Fn.mk_ V.Tok V.mixed Try.func67 rfl Try.ntmps67 (by kernel_rfl) rfl rfl ?_
  repeat' ((conv => whnf); first | refine V.NCond.mk ?_ | refine V.NPick.l ?_ | refine V.NIf.not_ ?_ | refine V.NIf.dec_ ?_ | refine V.a4 ?_ | refine V.a5 ?_ | refine V.NIf.mk (fun _ => ?_) (fun _ => ?_) | refine V.a7 ?_ | refine V.a8 ?_ | refine V.a9 ?_ | refine V.NBoth.mk ?_ ?_ | refine V.b1 ?_ | refine V.b2 ?_ | refine V.NTF.dec ?_ | refine V.b3 ?_ | refine V.b4 ?_ | (first | refine V.Fn.k0 (v_check _) rfl ?_ | refine V.Fn.q0 (v_check _) rfl ?_ | refine V.Fn.a0 (v_check _) rfl ?_) | (first | refine V.Fn.k0 (v_mwithin _ _ _) rfl ?_ | refine V.Fn.q0 (v_mwithin _ _ _) rfl ?_ | refine V.Fn.a0 (v_mwithin _ _ _) rfl ?_) | (refine V.NDraw.any (by kernel_rfl) ?_) | fail)
  all_goals (conv => whnf)
  all_goals refine congrArg (Value.int .i64) ?_
  all_goals first
    | exact (M.ck_yes ⟨M.chk_ok (by assumption), by omega, by omega⟩).symm
    | exact (M.ck_no fun q => by have := q.2; omega).symm
    | (have k := M.chk_nok (a := a) (by assumption); rw [M.ck_no fun q => k q.1, M.chk_no k])
theorem v_part (a b c : Int) : V.Fn Try.prog 42 [] [.one (.val (.int .i64 a)), .one (.val (.int .i64 b)), .one (.val (.int .i64 c))] (.tuple #[.int .i64 (M.prQ a b c), .int .i64 (M.prR a b c), .int .i64 (M.prE a b c)]) := by
  refine V.Fn.mk_ V.Tok V.mixed Try.func42 rfl Try.ntmps42 (by kernel_rfl) rfl rfl ?_
  repeat' ((conv => whnf); first | refine V.NCond.mk ?_ | refine V.NPick.l ?_ | refine V.NIf.not_ ?_ | refine V.NIf.dec_ ?_ | refine V.a4 ?_ | refine V.a5 ?_ | refine V.NIf.mk (fun _ => ?_) (fun _ => ?_) | refine V.a7 ?_ | refine V.a8 ?_ | refine V.a9 ?_ | refine V.NBoth.mk ?_ ?_ | refine V.b1 ?_ | refine V.b2 ?_ | refine V.NTF.dec ?_ | refine V.b3 ?_ | refine V.b4 ?_ | (first | refine V.Fn.k0 (v_mcheck _ _ _) rfl ?_ | refine V.Fn.q0 (v_mcheck _ _ _) rfl ?_ | refine V.Fn.a0 (v_mcheck _ _ _) rfl ?_) | (first | refine V.Fn.k0 (v_raw a b c (M.ck_ok (by assumption))) rfl ?_ | refine V.Fn.q0 (v_raw a b c (M.ck_ok (by assumption))) rfl ?_ | refine V.Fn.a0 (v_raw a b c (M.ck_ok (by assumption))) rfl ?_) | (refine V.NDraw.any (by kernel_rfl) ?_) | fail)
  · have h := M.ck_ok (by assumption)
    obtain ⟨k, e1, e2⟩ := M.raw_ok h (by assumption)
    rw [e1, e2, (M.pr_3 h k).1, (M.pr_3 h k).2.1, (M.pr_3 h k).2.2]; exact V.S_
  · have h := M.ck_ok (by assumption)
    have k := M.raw_nok h (by assumption)
    rw [(M.pr_2 h k).1, (M.pr_2 h k).2.1, (M.pr_2 h k).2.2]; exact V.S_
  · have h := M.ck_nok (by assumption)
    rw [(M.pr_1 h).1, (M.pr_1 h).2.1, (M.pr_1 h).2.2, M.ck_no h]; exact V.S_
end Go.Proofs.Ytdehibmofmfkbaa

namespace Go.Proofs.Ytdehibmofmfkbaa
open Go Go.RowKit V
namespace M
end M
namespace M
def poQ (a b c : Int) : Int := if 2305843009213693952 < a * b / c then -1 else a * b / c
def poR (a b c : Int) : Int := if 2305843009213693952 < a * b / c then 0 else a * b % c
theorem bit2 (b : Int) (m : Nat) : b / 2 ^ m = 2 * (b / 2 ^ (m + 1)) + b / 2 ^ m % 2 := by
  have p : (0 : Int) ≤ 2 ^ m := Int.le_of_lt (Int.pow_pos (by omega))
  rw [Int.pow_succ, ← Int.ediv_ediv_of_nonneg p]
  omega
theorem po1 {a b c q r t : Int} {m : Nat} (hJ : q * c + r = a * (b / 2 ^ (m + 1))) (ht : t = b / 2 ^ m % 2) (h1 : t = 1) : (2 * q + a / c + (2 * r + a % c) / c) * c + (2 * r + a % c) % c = a * (b / 2 ^ m) := by
  have h2 := qr a c
  have h3 := qr (2 * r + a % c) c
  have h4 := bit2 b m
  generalize b / 2 ^ m = X at *
  generalize b / 2 ^ (m + 1) = Y at *
  have h5 : X = 2 * Y + 1 := by omega
  clear h4 ht
  grind
theorem po0 {a b c q r t : Int} {m : Nat} (hJ : q * c + r = a * (b / 2 ^ (m + 1))) (ht : t = b / 2 ^ m % 2) (h0 : 0 ≤ t) (h2 : t < 2) (h1 : ¬ t = 1) : (2 * q + (2 * r) / c) * c + (2 * r) % c = a * (b / 2 ^ m) := by
  have h3 := qr (2 * r) c
  have h4 := bit2 b m
  generalize b / 2 ^ m = X at *
  generalize b / 2 ^ (m + 1) = Y at *
  have h5 : X = 2 * Y := by omega
  clear h4 ht
  grind
theorem po_big {a b c Q R : Int} {m : Nat} (ha : 0 ≤ a) (hb : 0 ≤ b) (hc : 1 ≤ c) (h : Q * c + R = a * (b / 2 ^ m)) (hR : 0 ≤ R) (hQ : 2305843009213693952 < Q) : -1 = poQ a b c ∧ 0 = poR a b c := by
  have h1 : b / 2 ^ m ≤ b := Int.ediv_le_self _ hb
  have h2 : a * (b / 2 ^ m) ≤ a * b := Int.mul_le_mul_of_nonneg_left h1 ha
  have h3 : Q ≤ a * b / c := (Int.le_ediv_iff_mul_le (by omega)).2 (by omega)
  unfold poQ poR
  rw [if_pos (by omega), if_pos (by omega)]; exact ⟨rfl, rfl⟩
theorem po_end {a b c q r : Int} (hc : 1 ≤ c) (h : q * c + r = a * (b / 2 ^ 0)) (hr : 0 ≤ r ∧ r < c) (hq : q ≤ 2305843009213693952) : q = poQ a b c ∧ r = poR a b c := by
  have e : b / 2 ^ 0 = b := by simp
  rw [e] at h
  have h1 : a * b / c = q := by
    rw [← h, Int.add_comm, Int.add_mul_ediv_right _ _ (by omega), Int.ediv_eq_zero_of_lt hr.1 hr.2]; omega
  have h2 : a * b % c = r := by
    rw [← h, Int.add_comm, Int.add_mul_emod_self_right]; exact Int.emod_eq_of_lt hr.1 hr.2
  unfold poQ poR
  rw [if_neg (by omega), if_neg (by omega), h1, h2]; exact ⟨rfl, rfl⟩
end M
set_option maxHeartbeats 1000000 in
theorem v_partOf (a b c : Int) (ha : 0 ≤ a ∧ a ≤ 1152921504606846976) (hb : 0 ≤ b ∧ b ≤ 1099511627776) (hc : 1 ≤ c ∧ c ≤ 1099511627776) : V.Fn Try.prog 52 [] [.one (.val (.int .i64 a)), .one (.val (.int .i64 b)), .one (.val (.int .i64 c))] (.tuple #[.int .i64 (M.poQ a b c), .int .i64 (M.poR a b c)]) := by
  refine V.Fn.mk_ V.Tok V.mixed Try.func52 rfl Try.ntmps52 (by kernel_rfl) rfl rfl ?_
  (conv => whnf)
  refine V.NLoop.auto (fun (⟨n, q, r⟩ : Nat × Int × Int) => [(8, .one (.val (.int .i64 q))), (9, .one (.val (.int .i64 r))), (10, .one (.val (.int .i64 ((n : Int) - 1))))]) (fun (⟨n, q, r⟩ : Nat × Int × Int) => []) [] [] (fun (⟨n, q, r⟩ : Nat × Int × Int) => n) (fun (⟨n, q, r⟩ : Nat × Int × Int) => n ≤ 41 ∧ q * c + r = a * (b / 2 ^ n) ∧ (0 ≤ r ∧ r < c) ∧ 0 ≤ q ∧ q ≤ 2305843009213693952) (41, 0, 0) ⟨by omega, (by rw [Int.ediv_eq_zero_of_lt (by omega) (by omega)]; omega), by omega, by omega⟩ V.S_ V.S_ (fun _ => ⟨rfl, rfl⟩) ?_; (conv => whnf); refine ⟨⟨rfl, rfl⟩, ?_⟩
  rintro ⟨n, q, r⟩ ⟨hn, hJ, hr, hq⟩
  cases n with
  | zero =>
    repeat' ((conv => whnf); first | refine V.NCond.mk ?_ | refine V.NPick.l ?_ | refine V.NIf.not_ ?_ | refine V.NIf.dec_ ?_ | refine V.a4 ?_ | refine V.a5 ?_ | refine V.NIf.mk (fun _ => ?_) (fun _ => ?_) | refine V.a7 ?_ | refine V.a8 ?_ | refine V.a9 ?_ | refine V.NBoth.mk ?_ ?_ | refine V.b1 ?_ | refine V.b2 ?_ | refine V.NTF.dec ?_ | refine V.b3 ?_ | refine V.b4 ?_ | (refine V.NDraw.any (by kernel_rfl) ?_) | fail)
    exact V.nif2 (M.po_end hc.1 hJ hr hq.2)
  | succ m =>
    repeat' ((conv => whnf); first | (refine NRem.pos (y := 2) (by omega) (by omega) ?_; intro t ht ht0 ht1) | refine V.NCond.mk ?_ | refine V.NPick.l ?_ | refine V.NIf.not_ ?_ | refine V.NIf.dec_ ?_ | refine V.a4 ?_ | refine V.a5 ?_ | refine V.NIf.mk (fun _ => ?_) (fun _ => ?_) | refine V.a7 ?_ | refine V.a8 ?_ | refine V.a9 ?_ | refine V.NBoth.mk ?_ ?_ | refine V.b1 ?_ | refine V.b2 ?_ | refine V.NTF.dec ?_ | refine V.b3 ?_ | refine V.b4 ?_ | (refine NShr.i64 m (by omega) (by omega) (by omega) ?_; intro x hx hx0 hx1) | (refine NRem.pos (by omega) (by omega) ?_; intro z hz hz0 hz1) | (refine NQuo.pos (by omega) (by omega) (by omega) ?_; intro z hz hz0 hz1) | (refine V.NDraw.any (by kernel_rfl) ?_) | fail)
    all_goals (conv => whnf)
    all_goals rename_i hz hz0 hz1 _
    all_goals subst_vars
    · exact V.nif2 (M.po_big ha.1 hb.1 hc.1 (M.po1 hJ rfl (by omega)) (by assumption) (by assumption))
    · refine V.NBack.at_ (m, _, _) [] ⟨by omega, M.po1 hJ rfl (by omega), ⟨by assumption, by assumption⟩, ?_, ?_⟩ (by show m < m + 1; omega) V.S_ rfl V.S_ V.S_ V.S_ <;> omega
    · exact V.nif2 (M.po_big ha.1 hb.1 hc.1 (M.po0 hJ rfl (by omega) (by omega) (by omega)) (by assumption) (by assumption))
    · refine V.NBack.at_ (m, _, _) [] ⟨by omega, M.po0 hJ rfl (by omega) (by omega) (by omega), ⟨by assumption, by assumption⟩, ?_, ?_⟩ (by show m < m + 1; omega) V.S_ rfl V.S_ V.S_ V.S_ <;> omega
namespace M
theorem po_at {a b c : Int} (ha : 0 ≤ a) (hb : 0 ≤ b) (hc : 1 ≤ c) : (poQ a b c = -1 ∧ 2305843009213693952 < a * b / c) ∨ (poQ a b c = a * b / c ∧ poR a b c = a * b % c ∧ 0 ≤ a * b / c ∧ a * b / c ≤ 2305843009213693952 ∧ 0 ≤ a * b % c ∧ a * b % c < c) := by
  have h1 : 0 ≤ a * b / c := Int.ediv_nonneg (Int.mul_nonneg ha hb) (by omega)
  have h2 := r_bd (x := a * b) hc
  unfold poQ poR
  by_cases h : 2305843009213693952 < a * b / c
  · left; rw [if_pos h]; exact ⟨rfl, h⟩
  · right; rw [if_neg h, if_neg h]; exact ⟨rfl, rfl, h1, by omega, h2.1, h2.2⟩
end M
end Go.Proofs.Ytdehibmofmfkbaa

namespace Go.Proofs.Ytdehibmofmfkbaa
open Go Go.RowKit V
theorem v_pcheck (p : Int) : V.Fn Try.prog 62 [] [.one (.val (.int .i64 p))] (.int .i64 (P.chk p)) := by
  refine V.Fn.mk_ V.Tok V.mixed Try.func62 rfl Try.ntmps62 (by kernel_rfl) rfl rfl ?_
  repeat' ((conv => whnf); first | refine V.NCond.mk ?_ | refine V.NPick.l ?_ | refine V.NIf.not_ ?_ | refine V.NIf.dec_ ?_ | refine V.a4 ?_ | refine V.a5 ?_ | refine V.NIf.mk (fun _ => ?_) (fun _ => ?_) | refine V.a7 ?_ | refine V.a8 ?_ | refine V.a9 ?_ | refine V.NBoth.mk ?_ ?_ | refine V.b1 ?_ | refine V.b2 ?_ | refine V.NTF.dec ?_ | refine V.b3 ?_ | refine V.b4 ?_ | (refine V.NDraw.any (by kernel_rfl) ?_) | fail)
  all_goals ((conv => whnf); refine congrArg _ ?_; unfold P.chk P.Ok; (repeat' split) <;> first | rfl | omega | (exfalso; omega) | (simp_all; done) | (simp_all; omega))
theorem v_rpcheck (p : Int) : V.Fn Try.prog 48 [] [.one (.val (.int .i64 p))] (.int .i64 (P.chk p)) := by
  refine V.Fn.mk_ V.Tok V.mixed Try.func48 rfl Try.ntmps48 (by kernel_rfl) rfl rfl ?_
  repeat' ((conv => whnf); first | refine V.NCond.mk ?_ | refine V.NPick.l ?_ | refine V.NIf.not_ ?_ | refine V.NIf.dec_ ?_ | refine V.a4 ?_ | refine V.a5 ?_ | refine V.NIf.mk (fun _ => ?_) (fun _ => ?_) | refine V.a7 ?_ | refine V.a8 ?_ | refine V.a9 ?_ | refine V.NBoth.mk ?_ ?_ | refine V.b1 ?_ | refine V.b2 ?_ | refine V.NTF.dec ?_ | refine V.b3 ?_ | refine V.b4 ?_ | (first | refine V.Fn.k0 (v_rbetween _ _ _) rfl ?_ | refine V.Fn.q0 (v_rbetween _ _ _) rfl ?_ | refine V.Fn.a0 (v_rbetween _ _ _) rfl ?_) | (refine V.NDraw.any (by kernel_rfl) ?_) | fail)
  all_goals ((conv => whnf); refine congrArg _ ?_; unfold P.chk P.Ok; (repeat' split) <;> first | rfl | omega | (exfalso; omega) | (simp_all; done) | (simp_all; omega))
theorem v_cost (u p : Int) : V.Fn Try.prog 37 [] [.one (.val (.int .i64 u)), .one (.val (.int .i64 p))] (.tuple #[.int .i64 (M.prQ u p 10000), .int .i64 (M.prR u p 10000), .int .i64 (M.prE u p 10000)]) := by
  have h1 : ¬ M.chk u = 0 → M.prE u p 10000 = 3 ∧ M.prQ u p 10000 = 0 ∧ M.prR u p 10000 = 0 ∧ M.chk u = 3 := fun h => by
    by_cases q : M.Amt u
    · exact absurd (M.chk_yes q) h
    · obtain ⟨a, b, c⟩ := M.pr_1 (a := u) (b := p) (c := 10000) (fun k => q k.1)
      exact ⟨a, b, c, M.chk_no q⟩
  have h2 : ¬ P.chk p = 0 → M.prE u p 10000 = 3 ∧ M.prQ u p 10000 = 0 ∧ M.prR u p 10000 = 0 ∧ P.chk p = 3 := fun h => by
    by_cases q : P.Ok p
    · exact absurd (P.chk_yes q) h
    · obtain ⟨a, b, c⟩ := M.pr_1 (a := u) (b := p) (c := 10000) (fun k => q k.2.1)
      exact ⟨a, b, c, P.chk_no q⟩
  refine V.Fn.mk_ V.Tok V.mixed Try.func37 rfl Try.ntmps37 (by kernel_rfl) rfl rfl ?_
  repeat' ((conv => whnf); first | refine V.NCond.mk ?_ | refine V.NPick.l ?_ | refine V.NIf.not_ ?_ | refine V.NIf.dec_ ?_ | refine V.a4 ?_ | refine V.a5 ?_ | refine V.NIf.mk (fun _ => ?_) (fun _ => ?_) | refine V.a7 ?_ | refine V.a8 ?_ | refine V.a9 ?_ | refine V.NBoth.mk ?_ ?_ | refine V.b1 ?_ | refine V.b2 ?_ | refine V.NTF.dec ?_ | refine V.b3 ?_ | refine V.b4 ?_ | (first | refine V.Fn.k0 (v_check _) rfl ?_ | refine V.Fn.q0 (v_check _) rfl ?_ | refine V.Fn.a0 (v_check _) rfl ?_) | (first | refine V.Fn.k0 (v_pcheck _) rfl ?_ | refine V.Fn.q0 (v_pcheck _) rfl ?_ | refine V.Fn.a0 (v_pcheck _) rfl ?_) | (first | refine V.Fn.k0 (v_part _ _ _) rfl ?_ | refine V.Fn.q0 (v_part _ _ _) rfl ?_ | refine V.Fn.a0 (v_part _ _ _) rfl ?_) | (refine V.NDraw.any (by kernel_rfl) ?_) | fail)
  all_goals (conv => whnf)
  · exact V.S_
  · obtain ⟨a, b, c, d⟩ := h2 (by assumption)
    rw [a, b, c, d]; exact V.S_
  · obtain ⟨a, b, c, d⟩ := h1 (by assumption)
    rw [a, b, c, d]; exact V.S_
theorem v_prices (l : List Int) (hn : l.length ≤ 9223372036854775807) : V.Fn Try.prog 36 [.arr 1 l.length (ga e1 l)] [.one (.ref 0)] (.int .i64 (P.chks l)) := by
  refine V.Fn.mk_ V.Tok V.mixed Try.func36 rfl Try.ntmps36 (by kernel_rfl) rfl rfl ?_
  repeat' ((conv => whnf); first | refine V.NCond.mk ?_ | refine V.NPick.l ?_ | refine V.NIf.not_ ?_ | refine V.NIf.dec_ ?_ | refine V.a4 ?_ | refine V.a5 ?_ | refine V.NIf.mk (fun _ => ?_) (fun _ => ?_) | refine V.a7 ?_ | refine V.a8 ?_ | refine V.a9 ?_ | refine V.NBoth.mk ?_ ?_ | refine V.b1 ?_ | refine V.b2 ?_ | refine V.NTF.dec ?_ | refine V.b3 ?_ | refine V.b4 ?_ | (refine V.NDraw.any (by kernel_rfl) ?_) | fail)
  all_goals (conv => whnf)
  rotate_left
  · exact V.fin1 (if_pos (by omega))
  refine V.NLoop.auto (fun (k : Nat) => [(11, .one (.val (.int .i64 k)))]) (fun (k : Nat) => []) [] [] (fun (k : Nat) => l.length - k) (fun (k : Nat) => k ≤ l.length ∧ ∀ p ∈ l.take k, P.Ok p) 0 ⟨Nat.zero_le _, by simp⟩ V.S_ V.S_ (fun _ => ⟨rfl, rfl⟩) ?_; (conv => whnf); refine ⟨⟨rfl, rfl⟩, ?_⟩
  rintro k ⟨hk, hJ⟩
  by_cases hlt : k < l.length
  · have hy := @P.chk_yes (l.getD k default)
    have hn := @P.chk_no (l.getD k default)
    by_cases ok : P.Ok (l.getD k default)
    · have e := hy ok
      repeat' ((conv => whnf); first | refine V.NCond.mk ?_ | refine V.NPick.l ?_ | refine V.NIf.not_ ?_ | refine V.NIf.dec_ ?_ | refine V.a4 ?_ | refine V.a5 ?_ | refine V.NIf.mk (fun _ => ?_) (fun _ => ?_) | refine V.a7 ?_ | refine V.a8 ?_ | refine V.a9 ?_ | refine V.NBoth.mk ?_ ?_ | refine V.b1 ?_ | refine V.b2 ?_ | refine V.NTF.dec ?_ | refine V.b3 ?_ | refine V.b4 ?_ | (refine NIdx.mk ⟨k, rfl, by omega, ?_⟩) | (first | refine V.Fn.k0 (v_pcheck _) rfl ?_ | refine V.Fn.q0 (v_pcheck _) rfl ?_ | refine V.Fn.a0 (v_pcheck _) rfl ?_) | (refine V.NDraw.any (by kernel_rfl) ?_) | fail)
      all_goals (conv => whnf)
      all_goals exact V.NBack.at_ (k + 1) [] ⟨by omega, all_snoc hlt hJ ok⟩ (by omega) V.S_ rfl V.S_ V.S_ V.S_
    · have e := hn ok
      have e2 := P.chks_bad (by omega) (getD_mem hlt) ok
      repeat' ((conv => whnf); first | refine V.NCond.mk ?_ | refine V.NPick.l ?_ | refine V.NIf.not_ ?_ | refine V.NIf.dec_ ?_ | refine V.a4 ?_ | refine V.a5 ?_ | refine V.NIf.mk (fun _ => ?_) (fun _ => ?_) | refine V.a7 ?_ | refine V.a8 ?_ | refine V.a9 ?_ | refine V.NBoth.mk ?_ ?_ | refine V.b1 ?_ | refine V.b2 ?_ | refine V.NTF.dec ?_ | refine V.b3 ?_ | refine V.b4 ?_ | (refine NIdx.mk ⟨k, rfl, by omega, ?_⟩) | (first | refine V.Fn.k0 (v_pcheck _) rfl ?_ | refine V.Fn.q0 (v_pcheck _) rfl ?_ | refine V.Fn.a0 (v_pcheck _) rfl ?_) | (refine V.NDraw.any (by kernel_rfl) ?_) | fail)
      all_goals (conv => whnf)
      all_goals exact V.fin1 (by omega)
  · have e := P.chks_of (l := l) (by omega) (all_whole (by omega) hJ)
    repeat' ((conv => whnf); first | refine V.NCond.mk ?_ | refine V.NPick.l ?_ | refine V.NIf.not_ ?_ | refine V.NIf.dec_ ?_ | refine V.a4 ?_ | refine V.a5 ?_ | refine V.NIf.mk (fun _ => ?_) (fun _ => ?_) | refine V.a7 ?_ | refine V.a8 ?_ | refine V.a9 ?_ | refine V.NBoth.mk ?_ ?_ | refine V.b1 ?_ | refine V.b2 ?_ | refine V.NTF.dec ?_ | refine V.b3 ?_ | refine V.b4 ?_ | (refine V.NDraw.any (by kernel_rfl) ?_) | fail)
    all_goals (conv => whnf)
    all_goals exact V.fin1 (by omega)
theorem v_rprices (l : List Int) (hn : l.length ≤ 9223372036854775807) : V.Fn Try.prog 17 [.arr 1 l.length (ga e1 l)] [.one (.ref 0)] (.int .i64 (P.chks l)) := by
  refine V.Fn.mk_ V.Tok V.mixed Try.func17 rfl Try.ntmps17 (by kernel_rfl) rfl rfl ?_
  repeat' ((conv => whnf); first | refine V.NCond.mk ?_ | refine V.NPick.l ?_ | refine V.NIf.not_ ?_ | refine V.NIf.dec_ ?_ | refine V.a4 ?_ | refine V.a5 ?_ | refine V.NIf.mk (fun _ => ?_) (fun _ => ?_) | refine V.a7 ?_ | refine V.a8 ?_ | refine V.a9 ?_ | refine V.NBoth.mk ?_ ?_ | refine V.b1 ?_ | refine V.b2 ?_ | refine V.NTF.dec ?_ | refine V.b3 ?_ | refine V.b4 ?_ | (refine V.NDraw.any (by kernel_rfl) ?_) | fail)
  all_goals (conv => whnf)
  rotate_left
  · exact V.fin1 (if_pos (by omega))
  refine V.NLoop.auto (fun (k : Nat) => [(3, .one (.val (.int .i64 k)))]) (fun (k : Nat) => []) [] [] (fun (k : Nat) => l.length - k) (fun (k : Nat) => k ≤ l.length ∧ ∀ p ∈ l.take k, P.Ok p) 0 ⟨Nat.zero_le _, by simp⟩ V.S_ V.S_ (fun _ => ⟨rfl, rfl⟩) ?_; (conv => whnf); refine ⟨⟨rfl, rfl⟩, ?_⟩
  rintro k ⟨hk, hJ⟩
  by_cases hlt : k < l.length
  · have hy := @P.chk_yes (l.getD k default)
    have hn := @P.chk_no (l.getD k default)
    by_cases ok : P.Ok (l.getD k default)
    · have e := hy ok
      repeat' ((conv => whnf); first | refine V.NCond.mk ?_ | refine V.NPick.l ?_ | refine V.NIf.not_ ?_ | refine V.NIf.dec_ ?_ | refine V.a4 ?_ | refine V.a5 ?_ | refine V.NIf.mk (fun _ => ?_) (fun _ => ?_) | refine V.a7 ?_ | refine V.a8 ?_ | refine V.a9 ?_ | refine V.NBoth.mk ?_ ?_ | refine V.b1 ?_ | refine V.b2 ?_ | refine V.NTF.dec ?_ | refine V.b3 ?_ | refine V.b4 ?_ | (refine NIdx.mk ⟨k, rfl, by omega, ?_⟩) | (first | refine V.Fn.k0 (v_rpcheck _) rfl ?_ | refine V.Fn.q0 (v_rpcheck _) rfl ?_ | refine V.Fn.a0 (v_rpcheck _) rfl ?_) | (refine V.NDraw.any (by kernel_rfl) ?_) | fail)
      all_goals (conv => whnf)
      all_goals exact V.NBack.at_ (k + 1) [] ⟨by omega, all_snoc hlt hJ ok⟩ (by omega) V.S_ rfl V.S_ V.S_ V.S_
    · have e := hn ok
      have e2 := P.chks_bad (by omega) (getD_mem hlt) ok
      repeat' ((conv => whnf); first | refine V.NCond.mk ?_ | refine V.NPick.l ?_ | refine V.NIf.not_ ?_ | refine V.NIf.dec_ ?_ | refine V.a4 ?_ | refine V.a5 ?_ | refine V.NIf.mk (fun _ => ?_) (fun _ => ?_) | refine V.a7 ?_ | refine V.a8 ?_ | refine V.a9 ?_ | refine V.NBoth.mk ?_ ?_ | refine V.b1 ?_ | refine V.b2 ?_ | refine V.NTF.dec ?_ | refine V.b3 ?_ | refine V.b4 ?_ | (refine NIdx.mk ⟨k, rfl, by omega, ?_⟩) | (first | refine V.Fn.k0 (v_rpcheck _) rfl ?_ | refine V.Fn.q0 (v_rpcheck _) rfl ?_ | refine V.Fn.a0 (v_rpcheck _) rfl ?_) | (refine V.NDraw.any (by kernel_rfl) ?_) | fail)
      all_goals (conv => whnf)
      all_goals exact V.fin1 (by omega)
  · have e := P.chks_of (l := l) (by omega) (all_whole (by omega) hJ)
    repeat' ((conv => whnf); first | refine V.NCond.mk ?_ | refine V.NPick.l ?_ | refine V.NIf.not_ ?_ | refine V.NIf.dec_ ?_ | refine V.a4 ?_ | refine V.a5 ?_ | refine V.NIf.mk (fun _ => ?_) (fun _ => ?_) | refine V.a7 ?_ | refine V.a8 ?_ | refine V.a9 ?_ | refine V.NBoth.mk ?_ ?_ | refine V.b1 ?_ | refine V.b2 ?_ | refine V.NTF.dec ?_ | refine V.b3 ?_ | refine V.b4 ?_ | (refine V.NDraw.any (by kernel_rfl) ?_) | fail)
    all_goals (conv => whnf)
    all_goals exact V.fin1 (by omega)
end Go.Proofs.Ytdehibmofmfkbaa

namespace Go.Proofs.Ytdehibmofmfkbaa.V
open Go Go.RowKit
variable [Dr]
def lpK (obs : Obs) (i : Nat) (K : Lc → Env → Lst → Prop) : Prop := fndK obs i fun o => match o with
  | .lp L env st => K L env st
  | _ => False
theorem lpK_spec {obs : Obs} {i : Nat} {K : Lc → Env → Lst → Prop} (h : lpK obs i K) : ∃ L env st, fnd obs i = some (.lp L env st) ∧ K L env st := by
  obtain ⟨o, ho, h⟩ := fndK_spec h
  cases o <;> first | exact h.elim | exact ⟨_, _, _, ho, h⟩
def zipK (sz : Nat) : List Nat → List SV → Env → (Env → Prop) → Prop
  | [], [], env, K => K env
  | p :: ps, v :: vs, env, K => match Nat.blt p sz with
    | true => zipK sz ps vs ((p, v) :: env) K
    | false => False
  | _, _, _, _ => False
theorem zip_spec {sz : Nat} {ρ : Rho} : ∀ {ps : List Nat} {vs : List SV} {xs : List Value} {env : Env} {tmps : Array Value} {K : Env → Prop}, EnvR sz ρ env { tmps := tmps, defers := [] } → Svs ρ vs xs → zipK sz ps vs env K →
    ∃ env', K env' ∧ xs.length = ps.length ∧ EnvR sz ρ env' { tmps := (ps.zip xs).foldl (fun t (p : Nat × Value) => t.setIfInBounds p.1 p.2) tmps, defers := [] }
  | [], [], xs, env, tmps, K, hE, hs, h => by
    have e : xs = [] := hs
    subst e
    exact ⟨env, h, rfl, hE⟩
  | p :: ps, v :: vs, xs, env, tmps, K, hE, ⟨x, r, e, hv, hr⟩, h => by
    subst e
    unfold zipK at h
    cases hb : Nat.blt p sz <;> simp only [hb] at h
    have hd : p < sz := by simpa [Nat.blt_eq] using hb
    have hsz : tmps.size = sz := hE.size
    have hE' : EnvR sz ρ ((p, v) :: env) { tmps := tmps.setIfInBounds p x, defers := [] } := by
      refine ⟨by simp [hsz], fun t u hu => ?_⟩
      rcases fnd_cons hu with ⟨rfl, rfl⟩ | ⟨hn, hu⟩
      · exact ⟨x, by simp [hsz, hd], SV.is_of1 hv⟩
      · obtain ⟨y, hy, h2⟩ := hE.env t u hu
        exact ⟨y, by rw [Array.getElem?_setIfInBounds_ne hn]; exact hy, h2⟩
    obtain ⟨env', hK, hl, hE2⟩ := zip_spec hE' hr h
    exact ⟨env', hK, by simp [hl], hE2⟩
  | [], _ :: _, _, _, _, _, _, _, h => h.elim
  | _ :: _, [], _, _, _, _, _, _, h => h.elim
def rndK (i : Nat) (K : SV → Obs → Nat → Prop) : Kon := fun e _ obs nx => lpK obs i fun L env st => match st with
  | .busy => match e with
    | .nrm => K (.one (.tf true)) ((i, .lp L env .ready) :: obs) nx
    | .exit id => K (.one (.tf false)) ((i, .lp L env (.done (.exit id))) :: obs) nx
    | .ret => K (.one (.tf false)) ((i, .lp L env (.done .ret)) :: obs) nx
  | _ => False
def endK (i : Nat) (env : Env) (K : Kon) (obs : Obs) (nx : Nat) : Prop := lpK obs i fun _ _ st => match st with
  | .ready => K .nrm env ((i, .gone) :: obs) nx
  | .done (.exit id) => K (.exit id) env ((i, .gone) :: obs) nx
  | .done .ret => K .ret env ((i, .gone) :: obs) nx
  | _ => False
theorem put_below {B l : Nat} {w : World} (h : B ≤ l) (o : Obj) : Belw B w (w.putObj l o) :=
  ⟨⟨rfl, rfl, rfl, by rw [World.putObj_size]; exact Nat.le_refl _, fun k hk => World.putObj_heap_other (by omega)⟩, fun _ => Nat.le_refl _⟩
theorem put_oth {l : Nat} {w : World} {r : Loop} (h : w.heap[l]? = some (.loop r)) (o : Obj) : Oth w (w.putObj l o) :=
  oth_one (b := l) (fun k hk => World.putObj_heap_other hk) fun D e => by rw [h] at e; cases e
theorem Cls.lpset {B nx : Nat} {ρ : Rho} {obs : Obs} {w : World} {i l : Nat} {L : Lc} {env : Env} {st : Lst} (hC : Cls B ρ obs nx w) (ho : fnd obs i = some (.lp L env st)) (hl : ρ i = some (.func (.yield l) #[] #[])) :
    ∃ fn tmps D, B ≤ l ∧ w.heap[l]? = some (.loop { state := st.state, pending := st.pend, fn := fn, tmps := tmps, params := L.ps.toArray, assign := L.assign, body := L.body, defers := D }) ∧
      ∀ st' : Lst, Cls B ρ ((i, .lp L env st') :: obs) nx (w.putObj l (.loop { state := st'.state, pending := st'.pend, fn := fn, tmps := tmps, params := L.ps.toArray, assign := L.assign, body := L.body, defers := D })) := by
  obtain ⟨l', fn, tmps, D, e, hB, hh, hE⟩ := hC.sat i _ ho
  rw [hl] at e
  have e : l = l' := by injection e with e; injection e with e; injection e
  subst e
  have hf : ∀ st' : Lst, foot ρ i (.lp L env st') = some l := fun st' => by simp [foot, hl]
  exact ⟨fn, tmps, D, hB, hh, fun st' => hC.set ho rfl (hf st) (.inl (hf st')) rfl World.putObj_size (fun k hk => World.putObj_heap_other hk)
    ⟨l, fn, tmps, D, hl, hB, World.putObj_heap_same (Array.getElem?_eq_some_iff.1 hh).1, hE⟩⟩
theorem Cls.kill {B nx : Nat} {ρ : Rho} {obs : Obs} {w w' : World} {i b : Nat} {o : Ob} (h : Cls B ρ obs nx w) (ho : fnd obs i = some o) (hm : o.mut = true) (hf : foot ρ i o = some b) (hsz : w'.heap.size = w.heap.size) (hk : ∀ k, k ≠ b → w'.heap[k]? = w.heap[k]?) : Cls B ρ ((i, .gone) :: obs) nx w' := by
  refine ⟨by rw [hsz]; exact h.le, fun j u hu => ?_, fun j k o1 o2 c h1 h2 hne hmu hf1 => ?_, h.new, Apx.cons (o' := .gone) h.apx (fun _ _ _ _ => rfl) fun _ _ _ _ _ _ q => by cases q⟩
  · rcases fnd_cons hu with ⟨rfl, rfl⟩ | ⟨hn, hu⟩
    · trivial
    · exact (h.sat j u hu).keep (by omega) (fun c hc => hk c (fun e => by subst e; exact h.apart i j o u c ho hu hn hm hf hc)) fun c hc => hk c fun e => by subst e; exact (h.apx j i u o c hu ho hc).1 hf
  · rcases fnd_cons h1 with ⟨rfl, rfl⟩ | ⟨hn1, h1⟩
    · cases hf1
    · rcases fnd_cons h2 with ⟨rfl, rfl⟩ | ⟨hn2, h2⟩
      · intro e; cases e
      · exact h.apart j k o1 o2 c h1 h2 hne hmu hf1
theorem NYield.mk_ {P : Program} {T : TT} (hT : TTok P T) (hm : P.follows .mixedOrders = true) {i : Nat} {L : Lc} {env0 : Env} {sz : Nat} {ps : List Nat} {assign body : Code} (hL : L = ⟨sz, ps, assign, body⟩) (hc : (calm assign && calm body) = true)
    {args : List SV} {obs : Obs} {nx : Nat} {K : SV → Obs → Nat → Prop} (ho : fnd obs i = some (.lp L env0 .ready))
    (h : zipK sz ps args env0 fun env => vc P T sz nx assign env obs nx fun e env1 obs1 nx1 => match e with
      | .nrm => lpK obs1 i fun L1 e1 st => match st with
        | .ready => vc P T sz nx body env1 ((i, .lp L1 e1 .busy) :: obs1) nx1 (rndK i K)
        | _ => False
      | _ => False) : NYield P i args obs nx K :=
  ⟨fun B ρ w xs l n hC hs hl => by
    subst hL
    simp only [Bool.and_eq_true] at hc
    obtain ⟨l', fn, tmps, D, e, hB, hh, hE0⟩ := hC.sat i _ ho
    rw [hl] at e
    have e : l = l' := by injection e with e; injection e with e; injection e
    subst e
    obtain ⟨env, h, hlen, hE⟩ := zip_spec hE0 hs h
    have hy := run_yield (P := P) (args := xs.toArray) hh (by simp [hlen])
    have hin : i < nx := by
      rcases Nat.lt_or_ge i nx with q | q
      · exact q
      · rw [hC.new i q] at hl; cases hl
    have ex : ∀ {ρ1 : Rho} {ds : List Deferred} {w1 : World}, Wy B ⟨w, ρ, nx⟩ ρ1 ds w1 → ∀ j y, ρ j = some y → ρ1 j = some y := fun {ρ1 ds w1} hW j y hy => by
      by_cases hj : j < nx
      · exact hW.e j y hj hy
      · rw [hC.new j (by omega)] at hy; cases hy
    refine ⟨fn, _, assign, body, hy, roundIn_of_wpIn trivial ?_⟩
    have et : ((ps.toArray.zip xs.toArray).foldl (fun t (x : Nat × Value) => match x with | (t', a) => t.setIfInBounds t' a) tmps) = (ps.zip xs).foldl (fun t (p : Nat × Value) => t.setIfInBounds p.1 p.2) tmps := by
      rw [← Array.foldl_toList, Array.toList_zip]
    rw [et]
    have h1 := vc_sound (ro := some l) (n := n) (w0 := ⟨w, ρ, nx⟩) hT hm assign (.inr hc.1) h hE hC ⟨Belw.refl _ _, Oth.refl _, fun _ _ _ h => h, [], rfl, List.nodup_nil, by simp⟩
    refine wpIn_mono h1 ?_
    intro e a1 w1 q
    cases e with
    | normal =>
      obtain ⟨ρ1, env1, obs1, nx1, hk, hE1, hC1, hW1⟩ := q
      obtain ⟨L1, e1, st, ho1, hk⟩ := lpK_spec hk
      split at hk
      rotate_left
      · exact hk.elim
      have hl1 := ex hW1 _ _ hl
      obtain ⟨fn1, tmps1, D1, _, hh1, hset⟩ := hC1.lpset ho1 hl1
      refine ⟨_, run_beginRound hh1 rfl, ?_⟩
      have h2 := vc_sound (ro := some l) (n := n) (w0 := ⟨w, ρ, nx⟩) hT hm body (.inr hc.2) hk hE1 (hset .busy) (hW1.trans (put_below hB _) (put_oth hh1 _))
      refine wpIn_mono h2 ?_
      intro e a2 w2 q
      have fin : ∀ (e : Ex) (st : Lst) (b : Bool) (K2 : Env → Obs → Nat → Prop), Nx B ⟨w, ρ, nx⟩ sz K2 a2 w2 → (∀ env2 obs2 nx2, K2 env2 obs2 nx2 → lpK obs2 i fun L env s => match s with
            | .busy => K (.one (.tf b)) ((i, .lp L env st) :: obs2) nx2
            | _ => False) → st ≠ .busy → b = st.pend.isNone → st.state = (if st.pend.isNone then .ready else .done) →
          ∃ v w', (Instr.endRound l st.pend).run P w2 = .ok v w' ∧ ∃ u obs' nx' ρ' x, K u obs' nx' ∧ (∀ i y, ρ i = some y → ρ' i = some y) ∧ Ending.returned v = .returned x ∧ u.is ρ' x ∧ Cls B ρ' obs' nx' w' ∧ Belw B w w' ∧ Oth w w' := by
        rintro e st b K2 ⟨ρ2, env2, obs2, nx2, hk2, hE2, hC2, hW2⟩ hK hnb hb hst
        obtain ⟨L2, e2, s2, ho2, hk2⟩ := lpK_spec (hK _ _ _ hk2)
        split at hk2
        rotate_left
        · exact hk2.elim
        obtain ⟨fn2, tmps2, D2, _, hh2, hset2⟩ := hC2.lpset ho2 (ex hW2 _ _ hl)
        refine ⟨_, _, run_endRound st.pend hh2, _, _, _, ρ2, _, hk2, ex hW2, rfl, ?_, ?_, hW2.b.trans (put_below hB _), hW2.o.trans (put_oth hh2 _)⟩
        · subst hb; exact rfl
        · have := hset2 st
          rw [hst] at this
          exact this
      cases e with
      | normal => exact fin .nrm .ready true _ q (fun _ _ _ h => h) (fun q => by cases q) rfl rfl
      | ret => exact fin .ret (.done .ret) false _ q (fun _ _ _ h => h) (fun q => by cases q) rfl rfl
      | exit id => exact fin (.exit id) (.done (.exit id)) false _ q (fun _ _ _ h => h) (fun q => by cases q) rfl rfl
      | goto t => exact q.elim
      | panic c => exact q.elim
      | outgrown => exact q.elim
    | exit id => obtain ⟨_, _, _, _, hk, _⟩ := q; exact hk.elim
    | ret => obtain ⟨_, _, _, _, hk, _⟩ := q; exact hk.elim
    | goto t => exact q
    | panic c => exact q
    | outgrown => exact q⟩
structure NIs (a b : Nat) (K : Prop) : Prop where
  e : a = b
  h : K
theorem run_enter {P : Program} {f : FuncId} (hb : hasBody P f = true) (args : Array Value) (w : World) : (callFunc f args).run P w = .ok (.enter f args) w := by
  unfold hasBody at hb
  cases hf : P.funcs[f]? with
  | none => rw [hf] at hb; cases hb
  | some fn =>
    rw [hf] at hb
    simp only [Bool.and_eq_true, Bool.not_eq_true', Option.isSome_iff_ne_none] at hb
    obtain ⟨h1, h2⟩ := hb
    have h3 : fn.body.isNone = false := by cases hq : fn.body with | none => exact absurd hq h1 | some c => rfl
    have h4 : ¬ fn.name = "runtime.NumGoroutine" := by simpa using h2
    simp [callFunc, hf, h4, h3, Sem.run_bind]
    exact fun q => absurd q h1
def mvA (i j : Nat) : At → At
  | .ref k => match Nat.beq k i with
    | true => .ref j
    | false => .ref k
  | a => a
def mvOb (i j : Nat) : Ob → Ob
  | .box t l => .box t (l.map (mvA i j))
  | o => o
def mvObs (i j : Nat) : Obs → Obs
  | [] => []
  | (k, o) :: r => match Nat.beq k i with
    | true => (k, .gone) :: mvObs i j r
    | false => (k, mvOb i j o) :: mvObs i j r
theorem mvObs_get {i j k : Nat} {o : Ob} : ∀ {obs : Obs}, fnd (mvObs i j obs) k = some o → (k = i ∧ o = .gone) ∨ (k ≠ i ∧ ∃ o', fnd obs k = some o' ∧ o = mvOb i j o')
  | [], h => by cases h
  | (u, x) :: r, h => by
    unfold mvObs at h
    cases hb : Nat.beq u i <;> simp only [hb] at h
    · rcases fnd_cons h with ⟨rfl, rfl⟩ | ⟨hn, h⟩
      · exact .inr ⟨Nat.ne_of_beq_eq_false hb, x, by unfold fnd; rw [Nat.beq_refl], rfl⟩
      · rcases mvObs_get h with q | ⟨q, o', h1, h2⟩
        · exact .inl q
        · refine .inr ⟨q, o', ?_, h2⟩
          unfold fnd
          cases hb2 : Nat.beq u k
          · exact h1
          · exact absurd (Nat.eq_of_beq_eq_true hb2) hn
    · have e := Nat.eq_of_beq_eq_true hb
      subst e
      rcases fnd_cons h with ⟨rfl, rfl⟩ | ⟨hn, h⟩
      · exact .inl ⟨rfl, rfl⟩
      · rcases mvObs_get h with q | ⟨q, o', h1, h2⟩
        · exact .inl q
        · refine .inr ⟨q, o', ?_, h2⟩
          unfold fnd
          cases hb2 : Nat.beq u k
          · exact h1
          · exact absurd (Nat.eq_of_beq_eq_true hb2) hn
theorem Ats.mv {i j : Nat} {ρ : Rho} (hj : ρ j = ρ i) : ∀ {l : List At} {x : List Value}, Ats ρ l x → Ats ρ (l.map (mvA i j)) x
  | [], _, h => h
  | a :: l, _, ⟨u, r, hx, ha, hr⟩ => by
    refine ⟨u, r, hx, ?_, Ats.mv hj hr⟩
    cases a with
    | ref k =>
      show (mvA i j (.ref k)).is ρ u
      simp only [mvA]
      cases hb : Nat.beq k i
      · exact ha
      · have e := Nat.eq_of_beq_eq_true hb
        subst e
        exact ⟨hj.trans ha.1, ha.2⟩
    | _ => exact ha
theorem foot_mv {ρ : Rho} {i j k : Nat} {o : Ob} : foot ρ k (mvOb i j o) = foot ρ k o := by cases o <;> rfl
def mvAsK (i j : Nat) : List At → (List At → Prop) → Prop
  | [], K => K []
  | a :: l, K => match a with
    | .ref k => match Nat.beq k i with
      | true => mvAsK i j l fun r => K (.ref j :: r)
      | false => mvAsK i j l fun r => K (.ref k :: r)
    | a => mvAsK i j l fun r => K (a :: r)
theorem mvAsK_eq {i j : Nat} : ∀ {l : List At} {K : List At → Prop}, mvAsK i j l K → K (l.map (mvA i j))
  | [], _, h => h
  | a :: l, K, h => by
    unfold mvAsK at h
    cases a with
    | ref k =>
      simp only at h
      rw [List.map_cons]
      show K (mvA i j (.ref k) :: _)
      simp only [mvA]
      cases hb : Nat.beq k i <;> simp only [hb] at h ⊢ <;> exact mvAsK_eq (K := fun r => K (_ :: r)) h
    | _ => exact mvAsK_eq (K := fun r => K (_ :: r)) h
def mvK (i j : Nat) : Obs → (Obs → Prop) → Prop
  | [], K => K []
  | (k, o) :: r, K => match Nat.beq k i with
    | true => mvK i j r fun r' => K ((k, .gone) :: r')
    | false => match o with
      | .box t l => mvAsK i j l fun l' => mvK i j r fun r' => K ((k, .box t l') :: r')
      | o => mvK i j r fun r' => K ((k, o) :: r')
theorem mvK_eq {i j : Nat} : ∀ {obs : Obs} {K : Obs → Prop}, mvK i j obs K → K (mvObs i j obs)
  | [], _, h => h
  | (k, o) :: r, K, h => by
    unfold mvK at h
    unfold mvObs
    cases hb : Nat.beq k i <;> simp only [hb] at h ⊢
    · cases o with
      | box t l => exact mvK_eq (K := fun r' => K (_ :: r')) (mvAsK_eq h)
      | _ => exact mvK_eq (K := fun r' => K (_ :: r')) h
    · exact mvK_eq (K := fun r' => K (_ :: r')) h
theorem Cls.mv {B nx : Nat} {ρ : Rho} {obs : Obs} {w : World} (i : Nat) {t s n : Nat} {get : Nat → List Value} (hC : Cls B ρ obs nx w) (ho : fnd obs i = some (.row t s n get)) :
    ∃ ρ', Ext ρ ρ' ∧ Cls B ρ' ((nx, .row t s n get) :: mvObs i nx obs) (nx + 1) w := by
  obtain ⟨v, hv, hr⟩ := hC.sat i _ ho
  have hx : Ext ρ (upd ρ nx v) := ext_upd (hC.new nx (Nat.le_refl _))
  have hne : i ≠ nx := fun e => by rw [e, hC.new nx (Nat.le_refl _)] at hv; cases hv
  have hi : upd ρ nx v nx = upd ρ nx v i := by rw [upd_same, upd_ne v hne, hv]
  have ol : ∀ k o, nx ≠ k → foot (upd ρ nx v) k o = foot ρ k o := fun k o hn => foot_eq (upd_ne v (Ne.symm hn))
  have fnx : foot (upd ρ nx v) nx (.row t s n get) = foot ρ i (.row t s n get) := by rw [foot_at hi, foot_eq (upd_ne v hne)]
  have sm : ∀ o b, sub (mvOb i nx o) b = sub o b := fun o b => by cases o <;> rfl
  have ax : Apx (upd ρ nx v) ((nx, .row t s n get) :: mvObs i nx obs) := fun j k o1 o2 b h1 h2 hb => by
    rcases fnd_cons h1 with ⟨rfl, rfl⟩ | ⟨hn1, h1⟩
    · exact hb.elim
    · rcases mvObs_get h1 with ⟨_, rfl⟩ | ⟨q, o', h3, rfl⟩
      · exact hb.elim
      · rw [sm] at hb
        rcases fnd_cons h2 with ⟨rfl, rfl⟩ | ⟨hn2, h2⟩
        · exact ⟨by rw [fnx]; exact (hC.apx j i o' _ b h3 ho hb).1, fun _ z => z⟩
        · rcases mvObs_get h2 with ⟨_, rfl⟩ | ⟨q2, o2', h4, rfl⟩
          · exact ⟨fun z => (by cases z), fun _ z => z⟩
          · rw [foot_mv, ol _ _ hn2, sm]
            exact hC.apx j k o' o2' b h3 h4 hb
  refine ⟨upd ρ nx v, hx, ⟨hC.le, fun k o hk => ?_, fun j k o1 o2 b h1 h2 hne' hmu hf => ?_, fun k hk => ?_, ax⟩⟩
  · rcases fnd_cons hk with ⟨rfl, rfl⟩ | ⟨hn, hk⟩
    · exact ⟨v, upd_same _ _ _, hr⟩
    · rcases mvObs_get hk with ⟨_, rfl⟩ | ⟨_, o', h1, rfl⟩
      · trivial
      · have hs := (hC.sat k o' h1).ext hx
        cases o' with
        | box t l => obtain ⟨b, cs, e, hB, hl, hh⟩ := hs; exact ⟨b, cs, e, hB, hl.mv hi, hh⟩
        | _ => exact hs
  · rcases fnd_cons h1 with ⟨rfl, rfl⟩ | ⟨hn1, h1⟩
    · rcases fnd_cons h2 with ⟨rfl, rfl⟩ | ⟨hn2, h2⟩
      · exact absurd rfl hne'
      · rw [fnx] at hf
        rcases mvObs_get h2 with ⟨_, rfl⟩ | ⟨q, o', h3, rfl⟩
        · intro e; cases e
        · rw [foot_mv, ol _ _ hn2]
          exact hC.apart i k _ o' b ho h3 (Ne.symm q) rfl hf
    · rcases mvObs_get h1 with ⟨_, rfl⟩ | ⟨q, o', h3, rfl⟩
      · cases hf
      · rw [foot_mv, ol _ _ hn1] at hf
        have hmu' : o'.mut = true := by cases o' <;> exact hmu
        rcases fnd_cons h2 with ⟨rfl, rfl⟩ | ⟨hn2, h2⟩
        · rw [fnx]
          exact hC.apart j i o' _ b h3 ho q hmu' hf
        · rcases mvObs_get h2 with ⟨_, rfl⟩ | ⟨q2, o2', h4, rfl⟩
          · intro e; cases e
          · rw [foot_mv, ol _ _ hn2]
            exact hC.apart j k o' o2' b h3 h4 hne' hmu' hf
  · rw [upd_ne v (by omega)]; exact hC.new k (by omega)
def mvsK : List Nat → Obs → Nat → (Obs → Nat → Prop) → Prop
  | [], obs, n, K => K obs n
  | i :: r, obs, n, K => fndK obs i fun o => match o with
    | .row t s m g => mvK i n obs fun obs' => mvsK r ((n, .row t s m g) :: obs') (n + 1) K
    | _ => False
theorem mvsK_spec {B : Nat} {w : World} : ∀ {l : List Nat} {ρ : Rho} {obs : Obs} {n : Nat} {K : Obs → Nat → Prop}, Cls B ρ obs n w → mvsK l obs n K → ∃ ρ' obs' n', Ext ρ ρ' ∧ Cls B ρ' obs' n' w ∧ K obs' n'
  | [], ρ, obs, n, K, hC, h => ⟨ρ, obs, n, fun _ _ q => q, hC, h⟩
  | i :: r, ρ, obs, n, K, hC, h => by
    obtain ⟨o, ho, h⟩ := fndK_spec h
    cases o with
    | row t s m g =>
      obtain ⟨ρ1, hx1, hC1⟩ := hC.mv i ho
      obtain ⟨ρ2, obs2, n2, hx2, hC2, hK⟩ := mvsK_spec (l := r) hC1 (mvK_eq (K := fun obs' => mvsK r ((n, .row t s m g) :: obs') (n + 1) K) h)
      exact ⟨ρ2, obs2, n2, fun i y q => hx2 _ _ (hx1 _ _ q), hC2, hK⟩
    | _ => exact h.elim
theorem NRange.inl {P : Program} {T : TT} (hT : TTok P T) (hm : P.follows .mixedOrders = true) {g : FuncId} {gfn : Func} {c : Code} (hf : P.funcs[g]? = some gfn) (hb : gfn.body = some c) {gsz : Nat} (hs : gfn.ntmps = gsz) (hB : hasBody P g = true)
    {sz : Nat} {fo : Operand} {ps : Array Tmp} {assign body : Code} {env : Env} {obs : Obs} {nx : Nat} {K : Kon} (sl ml : List Nat)
    (h0 : evK env fo fun v => match v with
      | .one (.clo g' caps) => NIs g' g (keepK env sl fun env0 => capE [.one (.ref nx)] caps fun args => match Nat.ble args.length gsz with
        | true => ∀ L : Lc, L = ⟨sz, ps.toList, assign, body⟩ → mvsK ml ((nx, .lp L env0 .ready) :: obs) (nx + 1) fun obs0 nx0 => vc P T gsz (nx + 1) c (argEnv 0 args) obs0 nx0 (fnK T gfn.results.toList fun _ obs1 nx1 => endK nx env K obs1 nx1)
        | false => False)
      | _ => False) : NRange P sz fo ps assign body env obs nx K := by
  refine ⟨fun B s ρ a w n hE hC hW => ?_⟩
  obtain ⟨v, hv, h⟩ := evK_spec hE h0
  clear h0
  split at h
  rotate_left
  · exact h.elim
  rename_i g' caps
  obtain ⟨rfl, h⟩ := h
  obtain ⟨cs, hcs, hg⟩ := hv
  obtain ⟨env0, hle, h⟩ := keepE_spec h
  have hE0 : EnvR sz ρ env0 { tmps := a.tmps, defers := [] } := ⟨hE.size, fun t v ht => by
    obtain ⟨u, hu, hl⟩ := hle.get t v ht
    obtain ⟨x, e, hx⟩ := hE.env t u hu
    have := hl.is_ hx
    rw [renS_nil] at this
    exact ⟨x, e, this⟩⟩
  refine wpIn_rangeFunc ?_
  intro fn hfn
  have hro : Fence.wide.round = none := rfl
  rw [hro]
  obtain ⟨W1, hW1⟩ : ∃ W1, (w.alloc (.deferred (some []))).alloc (.loop { state := .ready, pending := none, fn := fn, tmps := a.tmps, params := ps, assign := assign, body := body, defers := w.heap.size }) = W1 := ⟨_, rfl⟩
  have hsz1 : W1.heap.size = w.heap.size + 2 := by rw [← hW1]; simp
  have hL1 : W1.heap[w.heap.size + 1]? = some (.loop { state := .ready, pending := none, fn := fn, tmps := a.tmps, params := ps, assign := assign, body := body, defers := w.heap.size }) := by
    rw [← hW1]
    have := World.alloc_heap_new (w.alloc (.deferred (some []))) (.loop { state := .ready, pending := none, fn := fn, tmps := a.tmps, params := ps, assign := assign, body := body, defers := w.heap.size })
    rwa [World.size_alloc] at this
  have hK1 : W1.heap[w.heap.size]? = some (.deferred (some [])) := by
    rw [← hW1]; exact (Below.heap_alloc _ _ _ (by simp)).trans (World.alloc_heap_new w _)
  have hb1 : Belw w.heap.size w W1 := by
    rw [← hW1]; exact (((Belw.refl _ w).alloc (Nat.le_refl _) _).alloc (by simp) _)
  have hx1 : Ext ρ (upd ρ nx (.func (.yield (w.heap.size + 1)) #[] #[])) := ext_upd (hC.new nx (Nat.le_refl _))
  have hone : Svs (upd ρ nx (.func (.yield (w.heap.size + 1)) #[] #[])) [.one (.ref nx)] [.func (.yield (w.heap.size + 1)) #[] #[]] := ⟨_, [], rfl, ⟨upd_same _ _ _, rfl⟩, rfl⟩
  have hcs1 : CapsAre (upd ρ nx (.func (.yield (w.heap.size + 1)) #[] #[])) caps cs := hcs.ext hx1
  obtain ⟨args, h, hsv⟩ := capE_spec hone hcs1 h
  cases hlen : Nat.ble args.length gsz <;> rw [hlen] at h
  · exact h.elim
  have hC1 := hC.more (v := .func (.yield (w.heap.size + 1)) #[] #[]) (o := .lp ⟨sz, ps.toList, assign, body⟩ env0 .ready) hb1 ⟨w.heap.size + 1, fn, a.tmps, w.heap.size, upd_same _ _ _, by have := hC.le; omega, by simpa [Lst.state, Lst.pend] using hL1, hE0.ext hx1⟩
    (fun b hf => by simp only [foot, upd_same] at hf; injection hf with hf; omega)
  have h1 := h _ rfl
  obtain ⟨ρ2, obs2, n2, hx2, hC2, h2⟩ := mvsK_spec hC1 h1
  have hcall := fn_sound_pin (xs := #[.func (.yield (w.heap.size + 1)) #[] #[]] ++ cs.toArray) hT hm hf hb hs hlen h2 hC2 (by simpa using hsv.ext hx2)
  refine ⟨w.heap.size + 1, [{ target := .collected w.heap.size, args := #[] }], W1, { target := .fn (.func g') cs.toArray, args := #[.func (.yield (w.heap.size + 1)) #[] #[]] }, W1, g', #[.func (.yield (w.heap.size + 1)) #[] #[]] ++ cs.toArray, W1, ?_, ?_, fun _ _ => trivial, ?_, fun q => (by cases q), ?_⟩
  · rw [← hW1]; exact run_enterLoop_outer _ _ _ _ _
  · simp only [resolve, hg]
    simp [go_sem]
  · simp [invoke, go_sem, run_enter hB]
  refine callsIn_wide.2 (hcall.mono ?_)
  rintro e w' ⟨ρ', v, obs', nx', x, hR, rfl, _, hC', hb', hx3, ho'⟩
  have hx' : Ext (upd ρ nx (.func (.yield (w.heap.size + 1)) #[] #[])) ρ' := fun i y hi => by
    by_cases q : i < nx + 1
    · exact hx3 i y q (hx2 _ _ hi)
    · rw [upd_ne _ (by omega), hC.new i (by omega)] at hi; cases hi
  obtain ⟨L2, e2, st, hol, hR⟩ := lpK_spec hR
  have hl2 : ρ' nx = some (.func (.yield (w.heap.size + 1)) #[] #[]) := hx' _ _ (upd_same _ _ _)
  obtain ⟨fn2, tmps2, D2, hBl, hh2, _⟩ := hC'.lpset hol hl2
  have hnb : st.state ≠ .busy := by
    intro q
    cases st with
    | ready => cases q
    | busy => exact hR
    | done c => cases q
  refine ⟨st.pend, _, run_endLoop hh2 hnb, ?_⟩
  have hf2 : foot ρ' nx (.lp L2 e2 st) = some (w.heap.size + 1) := by simp [foot, hl2]
  have hC4 := hC'.kill (w' := w'.putObj (w.heap.size + 1) (.loop { state := .exhausted, pending := st.pend, fn := fn2, tmps := tmps2, params := L2.ps.toArray, assign := L2.assign, body := L2.body, defers := D2 })) hol rfl hf2 World.putObj_size (fun k hk => World.putObj_heap_other hk)
  have hB1 : B ≤ w.heap.size := hC.le
  have hW4 : Wy B s ρ' ({ target := .collected w.heap.size, args := #[] } :: a.defers) (w'.putObj (w.heap.size + 1) (.loop { state := .exhausted, pending := st.pend, fn := fn2, tmps := tmps2, params := L2.ps.toArray, assign := L2.assign, body := L2.body, defers := D2 })) := by
    have o1 : Oth W1 (w'.putObj (w.heap.size + 1) (.loop { state := .exhausted, pending := st.pend, fn := fn2, tmps := tmps2, params := L2.ps.toArray, assign := L2.assign, body := L2.body, defers := D2 })) := ho'.trans (put_oth hh2 _)
    have o2 := (oth_of hb1).trans o1
    refine ⟨((hW.b.trans (hb1.mono hB1)).trans hb').trans (put_below (by omega) _), hW.o.trans o2, fun i y hi hy => hx' _ _ (hx1 _ _ (hW.e i y hi hy)), ?_⟩
    obtain ⟨Ds, hd, hn, hD⟩ := hW.m
    refine ⟨w.heap.size :: Ds, by rw [hd]; rfl, List.nodup_cons.2 ⟨fun q => ?_, hn⟩, fun D q => ?_⟩
    · have := (Array.getElem?_eq_some_iff.1 (hD _ q).2.2).1; omega
    · rcases List.mem_cons.1 q with rfl | q
      · exact ⟨hB1, hW.b.size, o1 _ _ hK1⟩
      · exact ⟨(hD _ q).1, (hD _ q).2.1, o2 _ _ (hD _ q).2.2⟩
  have hE4 : EnvR sz ρ' env { a with defers := [{ target := .collected w.heap.size, args := #[] }] ++ a.defers } := ⟨hE.size, ((hE.ext hx1).ext hx').env⟩
  split at hR
  · exact ⟨ρ', env, _, nx', hR, hE4, hC4, hW4⟩
  · exact wpIn_exit ⟨ρ', env, _, nx', hR, hE4, hC4, hW4⟩
  · exact wpIn_ret ⟨ρ', env, _, nx', hR, hE4, hC4, hW4⟩
  · exact hR.elim
end Go.Proofs.Ytdehibmofmfkbaa.V

namespace Go.Proofs.Ytdehibmofmfkbaa
open Go Go.RowKit V
theorem _root_.Go.Proofs.Ytdehibmofmfkbaa.V.NBit.one {x : Int} {K : Int → Prop} (h0 : 0 ≤ x) (h1 : x ≤ 9223372036854775807) (hK : ∀ z, z = x % 2 → K z) : NBit .and .i64 x 1 K := by
  refine ⟨fun z hz => hK z ?_⟩
  have := hz default default
  rw [intBits_and, Sem.run_pure] at this
  injection this with this _
  injection this with _ this
  rw [← this]
  unfold bits
  simp only [BitVec.toNat_and, BitVec.toNat_ofInt, show IntKind.i64.bits = 64 from rfl]
  have e1 : ((1 : Int) % ((2 ^ 64 : Nat) : Int)).toNat = 1 := by decide
  have e2 : (x % ((2 ^ 64 : Nat) : Int)).toNat = x.toNat := by rw [Int.emod_eq_of_lt h0 (by simp; omega)]
  rw [e1, e2, Nat.and_one_is_mod]
  rw [IntWalk.i64_in _ ⟨by omega, by omega⟩]; omega
theorem _root_.Go.Proofs.Ytdehibmofmfkbaa.V.NShr.u64 {x y : Int} {K : Int → Prop} (n : Nat) (hy : y = n) (hn : n ≤ 64) (h1 : 0 ≤ x) (hK : ∀ z, z = x / 2 ^ n → 0 ≤ z → z ≤ x → K z) : NShr .u64 x y K := by
  subst hy
  have p : (0 : Int) ≤ 2 ^ n := Int.le_of_lt (Int.pow_pos (by omega))
  refine ⟨by omega, ?_⟩
  rw [Int.toNat_natCast, show IntKind.u64.bits = 64 from rfl, Nat.min_eq_left hn, Int.fdiv_eq_ediv_of_nonneg _ p]
  exact hK _ rfl (Int.ediv_nonneg h1 p) (Int.ediv_le_self _ h1)
theorem v_cisnan (x : Int) : V.Fn Try.prog 66 [] [.one (.val (.int .i64 x))] (.bool false) := by
  refine V.Fn.mk_ V.Tok V.mixed Try.func66 rfl Try.ntmps66 (by kernel_rfl) rfl rfl ?_
  repeat' ((conv => whnf); first | refine V.NCond.mk ?_ | refine V.NPick.l ?_ | refine V.NIf.not_ ?_ | refine V.NIf.dec_ ?_ | refine V.a4 ?_ | refine V.a5 ?_ | refine V.NIf.mk (fun _ => ?_) (fun _ => ?_) | refine V.a7 ?_ | refine V.a8 ?_ | refine V.a9 ?_ | refine V.NBoth.mk ?_ ?_ | refine V.b1 ?_ | refine V.b2 ?_ | refine V.NTF.dec ?_ | refine V.b3 ?_ | refine V.b4 ?_ | (refine V.NDraw.any (by kernel_rfl) ?_) | fail)
  exact ⟨_, rfl, by simp⟩
theorem v_sisnan (x : Int) : V.Fn Try.prog 61 [] [.one (.val (.int .i64 x))] (.bool false) := by
  refine V.Fn.mk_ V.Tok V.mixed Try.func61 rfl Try.ntmps61 (by kernel_rfl) rfl rfl ?_
  repeat' ((conv => whnf); first | refine V.NCond.mk ?_ | refine V.NPick.l ?_ | refine V.NIf.not_ ?_ | refine V.NIf.dec_ ?_ | refine V.a4 ?_ | refine V.a5 ?_ | refine V.NIf.mk (fun _ => ?_) (fun _ => ?_) | refine V.a7 ?_ | refine V.a8 ?_ | refine V.a9 ?_ | refine V.NBoth.mk ?_ ?_ | refine V.b1 ?_ | refine V.b2 ?_ | refine V.NTF.dec ?_ | refine V.b3 ?_ | refine V.b4 ?_ | (refine V.NDraw.any (by kernel_rfl) ?_) | fail)
  exact ⟨_, rfl, by simp⟩
theorem v_cless (x y : Int) : V.Fn Try.prog 60 [] [.one (.val (.int .i64 x)), .one (.val (.int .i64 y))] (.bool (decide (x < y))) := by
  refine V.Fn.mk_ V.Tok V.mixed Try.func60 rfl Try.ntmps60 (by kernel_rfl) rfl rfl ?_
  repeat' ((conv => whnf); first | refine V.NCond.mk ?_ | refine V.NPick.l ?_ | refine V.NIf.not_ ?_ | refine V.NIf.dec_ ?_ | refine V.a4 ?_ | refine V.a5 ?_ | refine V.NIf.mk (fun _ => ?_) (fun _ => ?_) | refine V.a7 ?_ | refine V.a8 ?_ | refine V.a9 ?_ | refine V.NBoth.mk ?_ ?_ | refine V.b1 ?_ | refine V.b2 ?_ | refine V.NTF.dec ?_ | refine V.b3 ?_ | refine V.b4 ?_ | (first | refine V.Fn.k0 (v_cisnan _) rfl ?_ | refine V.Fn.q0 (v_cisnan _) rfl ?_ | refine V.Fn.a0 (v_cisnan _) rfl ?_) | (refine V.NDraw.any (by kernel_rfl) ?_) | fail)
  all_goals (conv => whnf)
  all_goals (first | exact ⟨_, rfl, iff_of_true (by omega) rfl⟩ | (exfalso; omega) | exact ⟨_, rfl, by simp; omega⟩ | exact ⟨_, rfl, by simp⟩)
theorem v_bsearch (l : List Int) (x : Int) (hn : l.length ≤ 1000) (hs : l.Pairwise (· < ·)) : V.Fn Try.prog 34 [.arr 1 l.length (ga e1 l)] [.one (.ref 0), .one (.val (.int .i64 x))] (.tuple #[.int .i64 (Ca.lb l x), .bool (decide (x ∈ l))]) := by
  refine V.Fn.mk_ V.Tok V.mixed Try.func34 rfl Try.ntmps34 (by kernel_rfl) rfl rfl ?_
  repeat' ((conv => whnf); first | refine V.NCond.mk ?_ | refine V.NPick.l ?_ | refine V.NIf.not_ ?_ | refine V.NIf.dec_ ?_ | refine V.a4 ?_ | refine V.a5 ?_ | refine V.NIf.mk (fun _ => ?_) (fun _ => ?_) | refine V.a7 ?_ | refine V.a8 ?_ | refine V.a9 ?_ | refine V.NBoth.mk ?_ ?_ | refine V.b1 ?_ | refine V.b2 ?_ | refine V.NTF.dec ?_ | refine V.b3 ?_ | refine V.b4 ?_ | (refine V.NDraw.any (by kernel_rfl) ?_) | fail)
  refine V.NLoop.auto (fun (s : Nat × Nat) => [(7, .one (.val (.int .i64 s.1))), (8, .one (.val (.int .i64 s.2)))]) (fun (s : Nat × Nat) => []) [] [] (fun (s : Nat × Nat) => s.2 - s.1) (fun (s : Nat × Nat) => s.1 ≤ s.2 ∧ s.2 ≤ l.length ∧ (∀ k, k < s.1 → l.getD k default < x) ∧ (∀ k, s.2 ≤ k → k < l.length → ¬ l.getD k default < x)) (0, l.length) ⟨Nat.zero_le _, Nat.le_refl _, fun k h => absurd h (Nat.not_lt_zero _), fun k h1 h2 => absurd h2 (by dsimp only at h1; omega)⟩ V.S_ V.S_ (fun _ => ⟨rfl, rfl⟩) ?_; (conv => whnf); refine ⟨⟨rfl, rfl⟩, ?_⟩
  rintro s ⟨h1, h2, h3, h4⟩
  generalize s.1 = i at *
  generalize s.2 = j at *
  repeat' ((conv => whnf); first | refine V.NCond.mk ?_ | refine V.NPick.l ?_ | refine V.NIf.not_ ?_ | refine V.NIf.dec_ ?_ | refine V.a4 ?_ | refine V.a5 ?_ | refine V.NIf.mk (fun _ => ?_) (fun _ => ?_) | refine V.a7 ?_ | refine V.a8 ?_ | refine V.a9 ?_ | refine V.NBoth.mk ?_ ?_ | refine V.b1 ?_ | refine V.b2 ?_ | refine V.NTF.dec ?_ | refine V.b3 ?_ | refine V.b4 ?_ | (refine NShr.u64 1 rfl (by omega) (by omega) ?_; intro z hz hz0 hz1) | (refine NIdx.mk ⟨i, rfl, by omega, ?_⟩) | (refine NIdx.mk ⟨(i + j) / 2, by omega, by omega, ?_⟩) | (first | refine V.Fn.k0 (v_cless _ _) rfl ?_ | refine V.Fn.q0 (v_cless _ _) rfl ?_ | refine V.Fn.a0 (v_cless _ _) rfl ?_) | (first | refine V.Fn.k0 (v_sisnan _) rfl ?_ | refine V.Fn.q0 (v_sisnan _) rfl ?_ | refine V.Fn.a0 (v_sisnan _) rfl ?_) | (refine V.NDraw.any (by kernel_rfl) ?_) | fail)
  all_goals (conv => whnf)
  · refine V.NBack.at_ ((i + j) / 2 + 1, j) [] ⟨by dsimp only; omega, h2, fun k hk => ?_, h4⟩ (by dsimp only; omega) V.S_ rfl V.S_ V.S_ V.S_
    by_cases e : k = (i + j) / 2
    · subst e; assumption
    · have := Ca.srt_lt hs (i := k) (j := (i + j) / 2) (by dsimp only at hk; omega) (by omega); omega
  · refine V.NBack.at_ (i, (i + j) / 2) [] ⟨by dsimp only; omega, by dsimp only; omega, h3, fun k h5 h6 => ?_⟩ (by dsimp only; omega) V.S_ rfl V.S_ V.S_ V.S_
    by_cases e : k = (i + j) / 2
    · subst e; assumption
    · have := Ca.srt_lt hs (i := (i + j) / 2) (j := k) (by dsimp only at h5; omega) h6; omega
  all_goals
    obtain rfl : i = j := by omega
    have e1 := Ca.lb_is h2 h3 h4
    have e2 := Ca.found_is h3 h4 hs
    rw [e1]
    first
      | exact ⟨rfl, congrArg Value.bool (decide_eq_true (e2.2 ⟨by omega, by assumption⟩)).symm, trivial⟩
      | exact ⟨rfl, congrArg Value.bool (decide_eq_false (fun q => by have := e2.1 q; omega)).symm, trivial⟩
theorem v_caCheck (c : Cl) (hn : c.hs.length ≤ 9223372036854775807) : V.Fn Try.prog 28 [.arr 1 c.hs.length (ga e1 c.hs)] [.agg [.val (.int .i64 c.we), .ref 0]] (.int .i64 (Ca.chk c)) := by
  have c1 := @Ca.chk_1 c
  have c2 := @Ca.chk_2 c
  have c3 := @Ca.chk_3 c
  refine V.Fn.mk_ V.Tok V.mixed Try.func28 rfl Try.ntmps28 (by kernel_rfl) rfl rfl ?_
  repeat' ((conv => whnf); first | refine V.NCond.mk ?_ | refine V.NPick.l ?_ | refine V.NIf.not_ ?_ | refine V.NIf.dec_ ?_ | refine V.a4 ?_ | refine V.a5 ?_ | refine V.NIf.mk (fun _ => ?_) (fun _ => ?_) | refine V.a7 ?_ | refine V.a8 ?_ | refine V.a9 ?_ | refine V.NBoth.mk ?_ ?_ | refine V.b1 ?_ | refine V.b2 ?_ | refine V.NTF.dec ?_ | refine V.b3 ?_ | refine V.b4 ?_ | (refine V.NDraw.any (by kernel_rfl) ?_) | fail)
  all_goals (conv => whnf)
  · exact V.fin1 (c1 (by omega))
  · exact V.fin1 (c1 (by omega))
  · exact V.fin1 (c2 (by omega) (by omega))
  have e := c3 (by omega) (by omega)
  refine V.NLoop.auto (fun (k : Nat) => [(23, .one (.val (.int .i64 k))), (3, .one (.val (.int .i64 (if k = 0 then -1 else c.hs.getD (k - 1) default))))]) (fun (k : Nat) => []) [] [] (fun (k : Nat) => c.hs.length - k) (fun (k : Nat) => k ≤ c.hs.length ∧ ∀ j, j < k → Ca.eAt c.hs j = 0) 0 ⟨Nat.zero_le _, fun j h => absurd h (Nat.not_lt_zero _)⟩ V.S_ V.S_ (fun _ => ⟨rfl, rfl⟩) ?_; (conv => whnf); refine ⟨⟨rfl, rfl⟩, ?_⟩
  rintro k ⟨hk, hJ⟩
  obtain ⟨a1, a2, a3, a4⟩ := Ca.eAt_cases (hs := c.hs) (k := k) rfl rfl
  have d := Ca.dchk (c.hs.getD k default)
  unfold Ca.Day at d a1 a2 a3 a4
  have ge : ∀ v, v ≠ 0 → k < c.hs.length → Ca.eAt c.hs k = v → Ca.chk c = v := fun v h1 h2 h3 => e.trans ((Ca.fe_get h2 hJ (by omega)).trans h3)
  repeat' ((conv => whnf); first | refine V.NCond.mk ?_ | refine V.NPick.l ?_ | refine V.NIf.not_ ?_ | refine V.NIf.dec_ ?_ | refine V.a4 ?_ | refine V.a5 ?_ | refine V.NIf.mk (fun _ => ?_) (fun _ => ?_) | refine V.a7 ?_ | refine V.a8 ?_ | refine V.a9 ?_ | refine V.NBoth.mk ?_ ?_ | refine V.b1 ?_ | refine V.b2 ?_ | refine V.NTF.dec ?_ | refine V.b3 ?_ | refine V.b4 ?_ | (refine NIdx.mk ⟨k, rfl, by omega, ?_⟩) | (first | refine V.Fn.k0 (v_dcheck _) rfl ?_ | refine V.Fn.q0 (v_dcheck _) rfl ?_ | refine V.Fn.a0 (v_dcheck _) rfl ?_) | (refine V.NDraw.any (by kernel_rfl) ?_) | fail)
  all_goals (conv => whnf)
  · exact V.fin1 (ge 6 (by decide) (by omega) (a2 (by omega) (by assumption)))
  · exact V.fin1 (ge 4 (by decide) (by omega) (a3 (by omega) (by assumption) (by assumption)))
  · refine V.NBack.at_ (k + 1) [] ⟨by omega, fun j hj => ?_⟩ (by omega) ⟨V.S_, congrArg (fun z => V.SV.one (V.At.val (Value.int .i64 z))) (if_neg (by omega)).symm, trivial⟩ rfl V.S_ V.S_ V.S_
    by_cases q : j = k
    · subst q; exact a4 (by omega) (by assumption) (by assumption)
    · exact hJ j (by omega)
  · exact V.fin1 (ge 3 (by decide) (by omega) (a1 (by omega)))
  · obtain rfl : k = c.hs.length := by omega
    exact V.fin1 (e.trans (Ca.fe_end hJ))
theorem v_rcaCheck (c : Cl) (hn : c.hs.length ≤ 9223372036854775807) : V.Fn Try.prog 43 [.arr 1 c.hs.length (ga e1 c.hs)] [.agg [.val (.int .i64 c.we), .ref 0]] (.int .i64 (Ca.chk c)) := by
  have c1 := @Ca.chk_1 c
  have c2 := @Ca.chk_2 c
  have c3 := @Ca.chk_3 c
  refine V.Fn.mk_ V.Tok V.mixed Try.func43 rfl Try.ntmps43 (by kernel_rfl) rfl rfl ?_
  repeat' ((conv => whnf); first | refine V.NCond.mk ?_ | refine V.NPick.l ?_ | refine V.NIf.not_ ?_ | refine V.NIf.dec_ ?_ | refine V.a4 ?_ | refine V.a5 ?_ | refine V.NIf.mk (fun _ => ?_) (fun _ => ?_) | refine V.a7 ?_ | refine V.a8 ?_ | refine V.a9 ?_ | refine V.NBoth.mk ?_ ?_ | refine V.b1 ?_ | refine V.b2 ?_ | refine V.NTF.dec ?_ | refine V.b3 ?_ | refine V.b4 ?_ | (first | refine V.Fn.k0 (v_rbetween _ _ _) rfl ?_ | refine V.Fn.q0 (v_rbetween _ _ _) rfl ?_ | refine V.Fn.a0 (v_rbetween _ _ _) rfl ?_) | (refine V.NDraw.any (by kernel_rfl) ?_) | fail)
  all_goals (conv => whnf)
  · exact V.fin1 (c2 (by omega) (by omega))
  rotate_left
  · exact V.fin1 (c1 (by omega))
  have e := c3 (by omega) (by omega)
  refine V.NLoop.auto (fun (k : Nat) => [(3, .one (.val (.int .i64 k)))]) (fun (k : Nat) => []) [] [] (fun (k : Nat) => c.hs.length - k) (fun (k : Nat) => k ≤ c.hs.length ∧ ∀ j, j < k → Ca.eAt c.hs j = 0) 0 ⟨Nat.zero_le _, fun j h => absurd h (Nat.not_lt_zero _)⟩ V.S_ V.S_ (fun _ => ⟨rfl, rfl⟩) ?_; (conv => whnf); refine ⟨⟨rfl, rfl⟩, ?_⟩
  rintro k ⟨hk, hJ⟩
  have ge : ∀ v, v ≠ 0 → k < c.hs.length → Ca.eAt c.hs k = v → Ca.chk c = v := fun v h1 h2 h3 => e.trans ((Ca.fe_get h2 hJ (by omega)).trans h3)
  have ev : Ca.eAt c.hs k = if ¬ Ca.Day (c.hs.getD k default) then 3 else if 0 < k ∧ c.hs.getD k default = c.hs.getD (k - 1) default then 6 else if 0 < k ∧ c.hs.getD k default < c.hs.getD (k - 1) default then 4 else 0 := rfl
  have dd : Ca.Day (c.hs.getD k default) ↔ (0 ≤ c.hs.getD k default ∧ c.hs.getD k default ≤ 3652058) := Iff.rfl
  have on : k < c.hs.length → Ca.eAt c.hs k = 0 → ∀ j, j < k + 1 → Ca.eAt c.hs j = 0 := fun _ q j hj => by
    by_cases z : j = k
    · subst z; exact q
    · exact hJ j (by omega)
  repeat' ((conv => whnf); first | refine V.NCond.mk ?_ | refine V.NPick.l ?_ | refine V.NIf.not_ ?_ | refine V.NIf.dec_ ?_ | refine V.a4 ?_ | refine V.a5 ?_ | refine V.NIf.mk (fun _ => ?_) (fun _ => ?_) | refine V.a7 ?_ | refine V.a8 ?_ | refine V.a9 ?_ | refine V.NBoth.mk ?_ ?_ | refine V.b1 ?_ | refine V.b2 ?_ | refine V.NTF.dec ?_ | refine V.b3 ?_ | refine V.b4 ?_ | (refine NIdx.mk ⟨k, rfl, by omega, ?_⟩) | (refine NIdx.mk ⟨k - 1, by omega, by omega, ?_⟩) | (first | refine V.Fn.k0 (v_rbetween _ _ _) rfl ?_ | refine V.Fn.q0 (v_rbetween _ _ _) rfl ?_ | refine V.Fn.a0 (v_rbetween _ _ _) rfl ?_) | (refine V.NDraw.any (by kernel_rfl) ?_) | fail)
  all_goals (conv => whnf)
  · exact V.fin1 (ge 6 (by decide) (by omega) (by rw [ev, if_neg (fun z => z (dd.2 (by assumption))), if_pos ⟨by omega, by assumption⟩]))
  · exact V.fin1 (ge 4 (by decide) (by omega) (by rw [ev, if_neg (fun z => z (dd.2 (by assumption))), if_neg (by omega), if_pos ⟨by omega, by assumption⟩]))
  · exact V.NBack.at_ (k + 1) [] ⟨by omega, on (by omega) (by rw [ev, if_neg (fun z => z (dd.2 (by assumption))), if_neg (by omega), if_neg (by omega)])⟩ (by omega) V.S_ rfl V.S_ V.S_ V.S_
  · exact V.NBack.at_ (k + 1) [] ⟨by omega, on (by omega) (by rw [ev, if_neg (fun z => z (dd.2 (by assumption))), if_neg (by omega), if_neg (by omega)])⟩ (by omega) V.S_ rfl V.S_ V.S_ V.S_
  · exact V.fin1 (ge 3 (by decide) (by omega) (by rw [ev, if_pos (fun z => absurd (dd.1 z) (by assumption))]))
  · obtain rfl : k = c.hs.length := by omega
    exact V.fin1 (e.trans (Ca.fe_end hJ))
theorem v_caChecks (c : Cl) (ds : List Int) (hn : c.hs.length ≤ 9223372036854775807) (hd : ds.length ≤ 1000) : V.Fn Try.prog 59 [.arr 1 c.hs.length (ga e1 c.hs), .arr 1 ds.length (ga e1 ds)] [.agg [.val (.int .i64 c.we), .ref 0], .one (.ref 1)] (.int .i64 (Ca.chks c ds)) := by
  have c1 := @Ca.chks_1 c ds
  have c2 := @Ca.chks_2 c ds
  refine V.Fn.mk_ V.Tok V.mixed Try.func59 rfl Try.ntmps59 (by kernel_rfl) rfl rfl ?_
  repeat' ((conv => whnf); first | refine V.NCond.mk ?_ | refine V.NPick.l ?_ | refine V.NIf.not_ ?_ | refine V.NIf.dec_ ?_ | refine V.a4 ?_ | refine V.a5 ?_ | refine V.NIf.mk (fun _ => ?_) (fun _ => ?_) | refine V.a7 ?_ | refine V.a8 ?_ | refine V.a9 ?_ | refine V.NBoth.mk ?_ ?_ | refine V.b1 ?_ | refine V.b2 ?_ | refine V.NTF.dec ?_ | refine V.b3 ?_ | refine V.b4 ?_ | ((first | refine V.Fn.k (v_caCheck c hn) [0] rfl ?_ ?_ | refine V.Fn.q (v_caCheck c hn) [0] rfl ?_ ?_ | refine V.Fn.a (v_caCheck c hn) [0] rfl ?_ ?_); · exact V.D_) | (refine V.NDraw.any (by kernel_rfl) ?_) | fail)
  all_goals (conv => whnf)
  rotate_left
  · exact V.fin1 (c1 (by assumption))
  have e := c2 (by assumption)
  refine V.NLoop.auto (fun (k : Nat) => [(16, .one (.val (.int .i64 k)))]) (fun (k : Nat) => []) [] [] (fun (k : Nat) => ds.length - k) (fun (k : Nat) => k ≤ ds.length ∧ ∀ d ∈ ds.take k, D.chk d = 0) 0 ⟨Nat.zero_le _, by simp⟩ V.S_ V.S_ (fun _ => ⟨rfl, rfl⟩) ?_; (conv => whnf); refine ⟨⟨rfl, rfl⟩, ?_⟩
  rintro k ⟨hk, hJ⟩
  repeat' ((conv => whnf); first | refine V.NCond.mk ?_ | refine V.NPick.l ?_ | refine V.NIf.not_ ?_ | refine V.NIf.dec_ ?_ | refine V.a4 ?_ | refine V.a5 ?_ | refine V.NIf.mk (fun _ => ?_) (fun _ => ?_) | refine V.a7 ?_ | refine V.a8 ?_ | refine V.a9 ?_ | refine V.NBoth.mk ?_ ?_ | refine V.b1 ?_ | refine V.b2 ?_ | refine V.NTF.dec ?_ | refine V.b3 ?_ | refine V.b4 ?_ | (refine NIdx.mk ⟨k, rfl, by omega, ?_⟩) | (first | refine V.Fn.k0 (v_dcheck _) rfl ?_ | refine V.Fn.q0 (v_dcheck _) rfl ?_ | refine V.Fn.a0 (v_dcheck _) rfl ?_) | (refine V.NDraw.any (by kernel_rfl) ?_) | fail)
  all_goals (conv => whnf)
  · exact V.NBack.at_ (k + 1) [] ⟨by omega, all_snoc (by omega) hJ (by assumption)⟩ (by omega) V.S_ rfl V.S_ V.S_ V.S_
  · exact V.fin1 (e.trans (fb_get (by omega) hJ (by assumption)))
  · exact V.fin1 (e.trans (fb_end (by omega) hJ))
theorem v_business (c : Cl) (n : Int) (h : Ca.Ok c) : V.Fn Try.prog 47 [.arr 1 c.hs.length (ga e1 c.hs)] [.agg [.val (.int .i64 c.we), .ref 0], .one (.val (.int .i64 n))] (.bool (decide (Ca.Day n ∧ Ca.op c n = 1))) := by
  obtain ⟨h1, h2, h3, h4⟩ := h
  have w01 := Ca.wd_01 c n
  have o1 : n ∈ c.hs → Ca.op c n = 0 := fun q => if_pos q
  have o2 : ¬ n ∈ c.hs → Ca.op c n = Ca.wd c n := fun q => if_neg q
  have ew : Ca.wd c n = 1 - c.we / 2 ^ (n % 7).toNat % 2 := rfl
  have dd : Ca.Day n ↔ (0 ≤ n ∧ n ≤ 3652058) := Iff.rfl
  refine V.Fn.mk_ V.Tok V.mixed Try.func47 rfl Try.ntmps47 (by kernel_rfl) rfl rfl ?_
  repeat' ((conv => whnf); first | refine V.NCond.mk ?_ | refine V.NPick.l ?_ | refine V.NIf.not_ ?_ | refine V.NIf.dec_ ?_ | refine V.a4 ?_ | refine V.a5 ?_ | refine V.NIf.mk (fun _ => ?_) (fun _ => ?_) | refine V.a7 ?_ | refine V.a8 ?_ | refine V.a9 ?_ | refine V.NBoth.mk ?_ ?_ | refine V.b1 ?_ | refine V.b2 ?_ | refine V.NTF.dec ?_ | refine V.b3 ?_ | refine V.b4 ?_ | (refine V.NDraw.any (by kernel_rfl) ?_) | fail)
  all_goals (conv => whnf)
  · exact congrArg Value.bool (decide_eq_false (fun q => by have := dd.1 q.1; omega)).symm
  · exact congrArg Value.bool (decide_eq_false (fun q => by have := dd.1 q.1; omega)).symm
  refine V.NLoop.auto (fun (k : Nat) => [(5, .one (.val (.int .i64 k)))]) (fun (k : Nat) => []) [] [] (fun (k : Nat) => c.hs.length - k) (fun (k : Nat) => k ≤ c.hs.length ∧ ∀ d ∈ c.hs.take k, ¬ d = n) 0 ⟨Nat.zero_le _, by simp⟩ V.S_ V.S_ (fun _ => ⟨rfl, rfl⟩) ?_; (conv => whnf); refine ⟨⟨rfl, rfl⟩, ?_⟩
  rintro k ⟨hk, hJ⟩
  repeat' ((conv => whnf); first | refine V.NCond.mk ?_ | refine V.NPick.l ?_ | refine V.NIf.not_ ?_ | refine V.NIf.dec_ ?_ | refine V.a4 ?_ | refine V.a5 ?_ | refine V.NIf.mk (fun _ => ?_) (fun _ => ?_) | refine V.a7 ?_ | refine V.a8 ?_ | refine V.a9 ?_ | refine V.NBoth.mk ?_ ?_ | refine V.b1 ?_ | refine V.b2 ?_ | refine V.NTF.dec ?_ | refine V.b3 ?_ | refine V.b4 ?_ | (refine NIdx.mk ⟨k, rfl, by omega, ?_⟩) | (refine V.NDraw.any (by kernel_rfl) ?_) | fail)
  all_goals (conv => whnf)
  · have hm : n ∈ c.hs := by have q : c.hs.getD k default = n := by assumption
                             rw [← q]; exact getD_mem (by omega)
    exact congrArg Value.bool (decide_eq_false (fun q => by rw [o1 hm] at q; omega)).symm
  · exact V.NBack.at_ (k + 1) [] ⟨by omega, all_snoc (by omega) hJ (by assumption)⟩ (by omega) V.S_ rfl V.S_ V.S_ V.S_
  have e := o2 fun q => all_whole (k := k) (by omega) hJ n q rfl
  have pw : ∀ i : Nat, (2 : Int) ^ (i + 1) = 2 ^ i * 2 := fun i => Int.pow_succ 2 i
  have p0 : ∀ i : Nat, (0 : Int) < 2 ^ i := fun i => Int.pow_pos (by omega)
  refine V.NLoop.auto (fun (i : Nat) => [(7, .one (.val (.int .i64 i))), (6, .one (.val (.int .i64 (c.we / 2 ^ i))))]) (fun (i : Nat) => []) [] [] (fun (i : Nat) => 7 - i) (fun (i : Nat) => (i : Int) ≤ n % 7) 0 (by omega) (by (conv => whnf); exact ⟨V.S_, congrArg (fun z => V.SV.one (V.At.val (Value.int .i64 z))) (show c.we = c.we / 2 ^ 0 by simp), trivial⟩) V.S_ (fun _ => ⟨rfl, rfl⟩) ?_; (conv => whnf); refine ⟨⟨rfl, rfl⟩, ?_⟩
  rintro i hi
  have dv : c.we / 2 ^ (i + 1) = c.we / 2 ^ i / 2 := by rw [pw, Int.ediv_ediv_of_nonneg (Int.le_of_lt (p0 i))]
  have dn : 0 ≤ c.we / 2 ^ i ∧ c.we / 2 ^ i ≤ c.we := ⟨Int.ediv_nonneg h1.1 (Int.le_of_lt (p0 i)), Int.ediv_le_self _ h1.1⟩
  repeat' ((conv => whnf); first | refine V.NCond.mk ?_ | refine V.NPick.l ?_ | refine V.NIf.not_ ?_ | refine V.NIf.dec_ ?_ | refine V.a4 ?_ | refine V.a5 ?_ | refine V.NIf.mk (fun _ => ?_) (fun _ => ?_) | refine V.a7 ?_ | refine V.a8 ?_ | refine V.a9 ?_ | refine V.NBoth.mk ?_ ?_ | refine V.b1 ?_ | refine V.b2 ?_ | refine V.NTF.dec ?_ | refine V.b3 ?_ | refine V.b4 ?_ | (refine NRem.pos (y := 7) (by omega) (by omega) ?_; intro r hr hr0 hr1) | (refine NQuo.pos (by omega) (by omega) (by omega) ?_; intro z hz hz0 hz1) | (refine NRem.pos (y := 2) (by omega) (by omega) ?_; intro r2 hr2 hr20 hr21) | (refine V.NDraw.any (by kernel_rfl) ?_) | fail)
  all_goals (conv => whnf)
  · exact V.NBack.at_ (i + 1) [] (by omega) (by omega) ⟨V.S_, congrArg (fun z => V.SV.one (V.At.val (Value.int .i64 z))) (hz.trans dv.symm), trivial⟩ rfl V.S_ V.S_ V.S_
  · have hi' : (n % 7).toNat = i := by omega
    rw [hi'] at ew
    exact ⟨_, rfl, by rw [decide_eq_true_eq, e, ew]; exact ⟨fun q => ⟨dd.2 (by omega), by omega⟩, fun q => by omega⟩⟩
theorem v_caCount (c : Cl) (a b : Int) (hn : c.hs.length ≤ 9223372036854775807) : V.Fn Try.prog 33 [.arr 1 c.hs.length (ga e1 c.hs)] [.agg [.val (.int .i64 c.we), .ref 0], .one (.val (.int .i64 a)), .one (.val (.int .i64 b))] (.tuple #[.int .i64 (Ca.coV c a b), .int .i64 (Ca.coE c a b)]) := by
  have ck := v_caChecks c [a, b] hn (by simp)
  have h1 : ¬ Ca.chks c [a, b] = 0 → Ca.coV c a b = 0 ∧ Ca.coE c a b = Ca.chks c [a, b] := fun h => by
    have e : Ca.coE c a b = Ca.chks c [a, b] := if_pos h
    exact ⟨if_neg (by omega), e⟩
  have h2 : Ca.chks c [a, b] = 0 → b < a → Ca.coV c a b = 0 ∧ Ca.coE c a b = 1 := fun h k => by
    have e : Ca.coE c a b = 1 := (if_neg (by omega)).trans (if_pos k)
    exact ⟨if_neg (by omega), e⟩
  have h3 : Ca.chks c [a, b] = 0 → ¬ b < a → Ca.coV c a b = Ca.cnt c a b ∧ Ca.coE c a b = 0 := fun h k => by
    have e : Ca.coE c a b = 0 := (if_neg (by omega)).trans (if_neg k)
    exact ⟨if_pos e, e⟩
  refine V.Fn.mk_ V.Tok V.mixed Try.func33 rfl Try.ntmps33 (by kernel_rfl) rfl rfl ?_
  repeat' ((conv => whnf); first | refine V.NCond.mk ?_ | refine V.NPick.l ?_ | refine V.NIf.not_ ?_ | refine V.NIf.dec_ ?_ | refine V.a4 ?_ | refine V.a5 ?_ | refine V.NIf.mk (fun _ => ?_) (fun _ => ?_) | refine V.a7 ?_ | refine V.a8 ?_ | refine V.a9 ?_ | refine V.NBoth.mk ?_ ?_ | refine V.b1 ?_ | refine V.b2 ?_ | refine V.NTF.dec ?_ | refine V.b3 ?_ | refine V.b4 ?_ | ((first | refine V.Fn.k (ck) [0, 2] rfl ?_ ?_ | refine V.Fn.q (ck) [0, 2] rfl ?_ ?_ | refine V.Fn.a (ck) [0, 2] rfl ?_ ?_); · exact V.D_) | (refine V.NDraw.any (by kernel_rfl) ?_) | fail)
  all_goals (conv => whnf)
  · exact V.fin2 (h2 (by assumption) (by assumption))
  rotate_left
  · exact V.fin2 (h1 (by assumption))
  obtain ⟨ev, ee⟩ := h3 (by assumption) (by assumption)
  obtain ⟨hc0, ha, hb⟩ := Ca.chks2_ok (c := c) (a := a) (b := b) (by assumption)
  have ok := Ca.chk_ok hc0
  have hab : a ≤ b := by omega
  have ci := Ca.count_is (Ca.ok_nodup ok) hab
  unfold Ca.wk at ci
  have we := ok.1
  have hday := ok.2.2.1
  have n60 := ok.2.1
  unfold Ca.Day at ha hb hday
  clear h1 h2 h3 ck ok
  refine V.NLoop.auto (fun (k : Nat) => [(28, .one (.val (.int .i64 k))), (8, .one (.val (.int .i64 (Ca.sm (Ca.wd c) (-1) k))))]) (fun (k : Nat) => []) [] [] (fun (k : Nat) => 7 - k) (fun (k : Nat) => k ≤ 7) 0 (by omega) V.S_ V.S_ (fun _ => ⟨rfl, rfl⟩) ?_; (conv => whnf); refine ⟨⟨rfl, rfl⟩, ?_⟩
  rintro k hk
  have sb := Ca.smw_bd c (-1) k
  by_cases hlt : k < 7
  · have es : Ca.sm (Ca.wd c) (-1) (k + 1) = Ca.sm (Ca.wd c) (-1) k + (1 - c.we / 2 ^ k % 2) := by
      simp only [Ca.sm, Ca.wd]
      rw [show ((-1 + (k : Int) + 1) % 7).toNat = k by omega]
    repeat' ((conv => whnf); first | refine V.NCond.mk ?_ | refine V.NPick.l ?_ | refine V.NIf.not_ ?_ | refine V.NIf.dec_ ?_ | refine V.a4 ?_ | refine V.a5 ?_ | refine V.NIf.mk (fun _ => ?_) (fun _ => ?_) | refine V.a7 ?_ | refine V.a8 ?_ | refine V.a9 ?_ | refine V.NBoth.mk ?_ ?_ | refine V.b1 ?_ | refine V.b2 ?_ | refine V.NTF.dec ?_ | refine V.b3 ?_ | refine V.b4 ?_ | (refine NShr.i64 k rfl (by omega) (by omega) ?_; intro s hs hs0 hs1) | (refine NBit.one (by omega) (by omega) ?_; intro b hb) | (refine V.NDraw.any (by kernel_rfl) ?_) | fail)
    all_goals (conv => whnf)
    exact V.NBack.at_ (k + 1) [] (by omega) (by omega) ⟨V.S_, congrArg (fun z => V.SV.one (V.At.val (Value.int .i64 z))) (by rw [es, hb, hs]), trivial⟩ rfl V.S_ V.S_ V.S_
  obtain rfl : k = 7 := by omega
  clear hk hlt
  generalize Ca.sm (Ca.wd c) (-1) 7 = W at *
  have mb : 0 ≤ (b - a) / 7 * W ∧ (b - a) / 7 * W ≤ (b - a) / 7 * 7 := ⟨Int.mul_nonneg (by omega) sb.1, Int.mul_le_mul_of_nonneg_left (by omega) (by omega)⟩
  repeat' ((conv => whnf); first | refine V.NCond.mk ?_ | refine V.NPick.l ?_ | refine V.NIf.not_ ?_ | refine V.NIf.dec_ ?_ | refine V.a4 ?_ | refine V.a5 ?_ | refine V.NIf.mk (fun _ => ?_) (fun _ => ?_) | refine V.a7 ?_ | refine V.a8 ?_ | refine V.a9 ?_ | refine V.NBoth.mk ?_ ?_ | refine V.b1 ?_ | refine V.b2 ?_ | refine V.NTF.dec ?_ | refine V.b3 ?_ | refine V.b4 ?_ | (refine NQuo.pos (by omega) (by omega) (by omega) ?_; rintro z rfl hz0 hz1) | (refine V.NDraw.any (by kernel_rfl) ?_) | fail)
  all_goals (conv => whnf)
  generalize (b - a) / 7 * W = Q at *
  refine V.NLoop.auto (fun (j : Nat) => [(10, .one (.val (.int .i64 (a + (b - a) / 7 * 7 + 1 + j)))), (6, .one (.val (.int .i64 (Q + Ca.sm (Ca.wd c) (a + (b - a) / 7 * 7) j))))]) (fun (j : Nat) => []) [] [] (fun (j : Nat) => 7 - j) (fun (j : Nat) => (j : Int) ≤ (b - a) % 7) 0 (by omega) (by (conv => whnf); exact ⟨congrArg (fun z => V.SV.one (V.At.val (Value.int .i64 z))) (by omega), congrArg (fun z => V.SV.one (V.At.val (Value.int .i64 z))) (by simp [Ca.sm]), trivial⟩) V.S_ (fun _ => ⟨rfl, rfl⟩) ?_; (conv => whnf); refine ⟨⟨rfl, rfl⟩, ?_⟩
  rintro j hj
  have sj := Ca.smw_bd c (a + (b - a) / 7 * 7) j
  by_cases hlt : (j : Int) < (b - a) % 7
  · have es : Ca.sm (Ca.wd c) (a + (b - a) / 7 * 7) (j + 1) = Ca.sm (Ca.wd c) (a + (b - a) / 7 * 7) j + (1 - c.we / 2 ^ ((a + (b - a) / 7 * 7 + 1 + j) % 7).toNat % 2) := by
      simp only [Ca.sm, Ca.wd]
      rw [show a + (b - a) / 7 * 7 + (j : Int) + 1 = a + (b - a) / 7 * 7 + 1 + j by omega]
    repeat' ((conv => whnf); first | refine V.NCond.mk ?_ | refine V.NPick.l ?_ | refine V.NIf.not_ ?_ | refine V.NIf.dec_ ?_ | refine V.a4 ?_ | refine V.a5 ?_ | refine V.NIf.mk (fun _ => ?_) (fun _ => ?_) | refine V.a7 ?_ | refine V.a8 ?_ | refine V.a9 ?_ | refine V.NBoth.mk ?_ ?_ | refine V.b1 ?_ | refine V.b2 ?_ | refine V.NTF.dec ?_ | refine V.b3 ?_ | refine V.b4 ?_ | (refine NRem.pos (by omega) (by omega) ?_; rintro r hr hr0 hr1) | (refine NShr.i64 ((a + (b - a) / 7 * 7 + 1 + j) % 7).toNat (by omega) (by omega) (by omega) ?_; intro s hs hs0 hs1) | (refine NBit.one (by omega) (by omega) ?_; intro b hb) | (refine V.NDraw.any (by kernel_rfl) ?_) | fail)
    all_goals (conv => whnf)
    exact V.NBack.at_ (j + 1) [] (by omega) (by omega) ⟨congrArg (fun z => V.SV.one (V.At.val (Value.int .i64 z))) (by omega), congrArg (fun z => V.SV.one (V.At.val (Value.int .i64 z))) (by rw [es, hb, hs]; omega), trivial⟩ rfl V.S_ V.S_ V.S_
  have ej : ((b - a) % 7).toNat = j := by omega
  rw [ej] at ci
  clear ej
  generalize Ca.sm (Ca.wd c) (a + (b - a) / 7 * 7) j = R at *
  repeat' ((conv => whnf); first | refine V.NCond.mk ?_ | refine V.NPick.l ?_ | refine V.NIf.not_ ?_ | refine V.NIf.dec_ ?_ | refine V.a4 ?_ | refine V.a5 ?_ | refine V.NIf.mk (fun _ => ?_) (fun _ => ?_) | refine V.a7 ?_ | refine V.a8 ?_ | refine V.a9 ?_ | refine V.NBoth.mk ?_ ?_ | refine V.b1 ?_ | refine V.b2 ?_ | refine V.NTF.dec ?_ | refine V.b3 ?_ | refine V.b4 ?_ | (refine V.NDraw.any (by kernel_rfl) ?_) | fail)
  all_goals (conv => whnf)
  refine V.NLoop.auto (fun (k : Nat) => [(71, .one (.val (.int .i64 k))), (6, .one (.val (.int .i64 (Q + R - Ca.hc c a b (c.hs.take k)))))]) (fun (k : Nat) => []) [] [] (fun (k : Nat) => c.hs.length - k) (fun (k : Nat) => k ≤ c.hs.length) 0 (Nat.zero_le _) (by (conv => whnf); exact ⟨V.S_, congrArg (fun z => V.SV.one (V.At.val (Value.int .i64 z))) (by simp [Ca.hc]), trivial⟩) V.S_ (fun _ => ⟨rfl, rfl⟩) ?_; (conv => whnf); refine ⟨⟨rfl, rfl⟩, ?_⟩
  rintro k hk
  have hbd := Ca.hc_bd c a b (c.hs.take k)
  rw [List.length_take] at hbd
  by_cases hlt : k < c.hs.length
  · have hd := hday _ (getD_mem hlt)
    have es : Ca.hc c a b (c.hs.take (k + 1)) = Ca.hc c a b (c.hs.take k) + (if a < c.hs.getD k default ∧ c.hs.getD k default ≤ b ∧ Ca.wd c (c.hs.getD k default) = 1 then 1 else 0) := by
      rw [List.take_succ_eq_append_getElem hlt, Ca.hc_snoc, ← getD_at hlt]
    have ew : Ca.wd c (c.hs.getD k default) = 1 - c.we / 2 ^ (c.hs.getD k default % 7).toNat % 2 := rfl
    repeat' ((conv => whnf); first | refine V.NCond.mk ?_ | refine V.NPick.l ?_ | refine V.NIf.not_ ?_ | refine V.NIf.dec_ ?_ | refine V.a4 ?_ | refine V.a5 ?_ | refine V.NIf.mk (fun _ => ?_) (fun _ => ?_) | refine V.a7 ?_ | refine V.a8 ?_ | refine V.a9 ?_ | refine V.NBoth.mk ?_ ?_ | refine V.b1 ?_ | refine V.b2 ?_ | refine V.NTF.dec ?_ | refine V.b3 ?_ | refine V.b4 ?_ | (refine NIdx.mk ⟨k, rfl, by omega, ?_⟩) | (refine NRem.pos (by omega) (by omega) ?_; rintro r hr hr0 hr1) | (refine NShr.i64 (c.hs.getD k default % 7).toNat (by omega) (by omega) (by omega) ?_; intro s hs hs0 hs1) | (refine NBit.one (by omega) (by omega) ?_; intro bt hbt) | (refine V.NDraw.any (by kernel_rfl) ?_) | fail)
    all_goals (conv => whnf)
    all_goals refine V.NBack.at_ (k + 1) [] (by omega) (by omega) ⟨V.S_, congrArg (fun z => V.SV.one (V.At.val (Value.int .i64 z))) ?_, trivial⟩ rfl V.S_ V.S_ V.S_
    all_goals rw [es]
    all_goals first
      | (rw [if_neg (by omega)]; omega)
      | (rw [if_pos (by omega)]; omega)
      | (rw [if_pos ⟨by omega, by omega, by rw [ew, ← hs]; omega⟩]; omega)
      | (rw [if_neg (fun q => by have := q.2.2; rw [ew, ← hs] at this; omega)]; omega)
      | trace_state
  obtain rfl : k = c.hs.length := by omega
  rw [List.take_length] at *
  repeat' ((conv => whnf); first | refine V.NCond.mk ?_ | refine V.NPick.l ?_ | refine V.NIf.not_ ?_ | refine V.NIf.dec_ ?_ | refine V.a4 ?_ | refine V.a5 ?_ | refine V.NIf.mk (fun _ => ?_) (fun _ => ?_) | refine V.a7 ?_ | refine V.a8 ?_ | refine V.a9 ?_ | refine V.NBoth.mk ?_ ?_ | refine V.b1 ?_ | refine V.b2 ?_ | refine V.NTF.dec ?_ | refine V.b3 ?_ | refine V.b4 ?_ | (refine V.NDraw.any (by kernel_rfl) ?_) | fail)
  all_goals (conv => whnf)
  exact V.fin2 ⟨ev.trans ci, ee⟩
end Go.Proofs.Ytdehibmofmfkbaa

namespace Go.Proofs.Ytdehibmofmfkbaa
open Go Go.RowKit V
theorem v_edges (b : List Int) (hn : b.length ≤ 9223372036854775807) : V.Fn Try.prog 31 [.arr 1 b.length (ga e1 b)] [.one (.ref 0)] (.int .i64 (Rp.eE b)) := by
  refine V.Fn.mk_ V.Tok V.mixed Try.func31 rfl Try.ntmps31 (by kernel_rfl) rfl rfl ?_
  repeat' ((conv => whnf); first | refine V.NCond.mk ?_ | refine V.NPick.l ?_ | refine V.NIf.not_ ?_ | refine V.NIf.dec_ ?_ | refine V.a4 ?_ | refine V.a5 ?_ | refine V.NIf.mk (fun _ => ?_) (fun _ => ?_) | refine V.a7 ?_ | refine V.a8 ?_ | refine V.a9 ?_ | refine V.NBoth.mk ?_ ?_ | refine V.b1 ?_ | refine V.b2 ?_ | refine V.NTF.dec ?_ | refine V.b3 ?_ | refine V.b4 ?_ | (refine V.NDraw.any (by kernel_rfl) ?_) | fail)
  all_goals (conv => whnf)
  · exact V.fin1 (Rp.eE_1 (by omega))
  have e := Rp.eE_2 (b := b) (by omega)
  refine V.NLoop.auto (fun (k : Nat) => [(11, .one (.val (.int .i64 k))), (3, .one (.val (.int .i64 (if k = 0 then 0 else b.getD (k - 1) default))))]) (fun (k : Nat) => []) [] [] (fun (k : Nat) => b.length - k) (fun (k : Nat) => k ≤ b.length ∧ ∀ j, j < k → Rp.eA b j = 0) 0 ⟨Nat.zero_le _, fun j h => absurd h (Nat.not_lt_zero _)⟩ V.S_ V.S_ (fun _ => ⟨rfl, rfl⟩) ?_; (conv => whnf); refine ⟨⟨rfl, rfl⟩, ?_⟩
  rintro k ⟨hk, hJ⟩
  have ev : Rp.eA b k = if ¬ (1 ≤ b.getD k default ∧ b.getD k default ≤ 3652058) then 3 else if 0 < k ∧ b.getD k default ≤ b.getD (k - 1) default then 4 else 0 := rfl
  have on : Rp.eA b k = 0 → ∀ j, j < k + 1 → Rp.eA b j = 0 := fun q j hj => by
    by_cases z : j = k
    · subst z; exact q
    · exact hJ j (by omega)
  have ge : ∀ v, v ≠ 0 → k < b.length → Rp.eA b k = v → Rp.eE b = v := fun v h1 h2 h3 => e.trans ((Ca.fe_get h2 hJ (by omega)).trans h3)
  generalize hl : (if k = 0 then 0 else b.getD (k - 1) default) = L
  have l0 : k = 0 → L = 0 := fun q => by rw [← hl, if_pos q]
  have l1 : ¬ k = 0 → L = b.getD (k - 1) default := fun q => by rw [← hl, if_neg q]
  clear hl
  repeat' ((conv => whnf); first | refine V.NCond.mk ?_ | refine V.NPick.l ?_ | refine V.NIf.not_ ?_ | refine V.NIf.dec_ ?_ | refine V.a4 ?_ | refine V.a5 ?_ | refine V.NIf.mk (fun _ => ?_) (fun _ => ?_) | refine V.a7 ?_ | refine V.a8 ?_ | refine V.a9 ?_ | refine V.NBoth.mk ?_ ?_ | refine V.b1 ?_ | refine V.b2 ?_ | refine V.NTF.dec ?_ | refine V.b3 ?_ | refine V.b4 ?_ | (refine NIdx.mk ⟨k, rfl, by omega, ?_⟩) | (refine V.NDraw.any (by kernel_rfl) ?_) | fail)
  all_goals (conv => whnf)
  · exact V.fin1 (ge 3 (by decide) (by omega) (by rw [ev, if_pos (by omega)]))
  · exact V.fin1 (ge 3 (by decide) (by omega) (by rw [ev, if_pos (by omega)]))
  · exact V.fin1 (ge 4 (by decide) (by omega) (by rw [ev, if_neg (fun z => z ⟨by omega, by omega⟩), if_pos ⟨by omega, by omega⟩]))
  · exact V.NBack.at_ (k + 1) [] ⟨by omega, on (by rw [ev, if_neg (fun z => z ⟨by omega, by omega⟩), if_neg (by omega)])⟩ (by omega) ⟨V.S_, congrArg (fun z => V.SV.one (V.At.val (Value.int .i64 z))) (if_neg (by omega)).symm, trivial⟩ rfl V.S_ V.S_ V.S_
  · obtain rfl : k = b.length := by omega
    exact V.fin1 (e.trans (Ca.fe_end hJ))
theorem v_redges (b : List Int) (hn : b.length ≤ 9223372036854775807) : V.Fn Try.prog 45 [.arr 1 b.length (ga e1 b)] [.one (.ref 0)] (.int .i64 (Rp.eE b)) := by
  refine V.Fn.mk_ V.Tok V.mixed Try.func45 rfl Try.ntmps45 (by kernel_rfl) rfl rfl ?_
  repeat' ((conv => whnf); first | refine V.NCond.mk ?_ | refine V.NPick.l ?_ | refine V.NIf.not_ ?_ | refine V.NIf.dec_ ?_ | refine V.a4 ?_ | refine V.a5 ?_ | refine V.NIf.mk (fun _ => ?_) (fun _ => ?_) | refine V.a7 ?_ | refine V.a8 ?_ | refine V.a9 ?_ | refine V.NBoth.mk ?_ ?_ | refine V.b1 ?_ | refine V.b2 ?_ | refine V.NTF.dec ?_ | refine V.b3 ?_ | refine V.b4 ?_ | (refine V.NDraw.any (by kernel_rfl) ?_) | fail)
  all_goals (conv => whnf)
  · exact V.fin1 (Rp.eE_1 (by omega))
  have e := Rp.eE_2 (b := b) (by omega)
  refine V.NLoop.auto (fun (k : Nat) => [(3, .one (.val (.int .i64 k)))]) (fun (k : Nat) => []) [] [] (fun (k : Nat) => b.length - k) (fun (k : Nat) => k ≤ b.length ∧ ∀ j, j < k → Rp.eA b j = 0) 0 ⟨Nat.zero_le _, fun j h => absurd h (Nat.not_lt_zero _)⟩ V.S_ V.S_ (fun _ => ⟨rfl, rfl⟩) ?_; (conv => whnf); refine ⟨⟨rfl, rfl⟩, ?_⟩
  rintro k ⟨hk, hJ⟩
  have ev : Rp.eA b k = if ¬ (1 ≤ b.getD k default ∧ b.getD k default ≤ 3652058) then 3 else if 0 < k ∧ b.getD k default ≤ b.getD (k - 1) default then 4 else 0 := rfl
  have on : Rp.eA b k = 0 → ∀ j, j < k + 1 → Rp.eA b j = 0 := fun q j hj => by
    by_cases z : j = k
    · subst z; exact q
    · exact hJ j (by omega)
  have ge : ∀ v, v ≠ 0 → k < b.length → Rp.eA b k = v → Rp.eE b = v := fun v h1 h2 h3 => e.trans ((Ca.fe_get h2 hJ (by omega)).trans h3)
  repeat' ((conv => whnf); first | refine V.NCond.mk ?_ | refine V.NPick.l ?_ | refine V.NIf.not_ ?_ | refine V.NIf.dec_ ?_ | refine V.a4 ?_ | refine V.a5 ?_ | refine V.NIf.mk (fun _ => ?_) (fun _ => ?_) | refine V.a7 ?_ | refine V.a8 ?_ | refine V.a9 ?_ | refine V.NBoth.mk ?_ ?_ | refine V.b1 ?_ | refine V.b2 ?_ | refine V.NTF.dec ?_ | refine V.b3 ?_ | refine V.b4 ?_ | (refine NIdx.mk ⟨k, rfl, by omega, ?_⟩) | (refine NIdx.mk ⟨k - 1, by omega, by omega, ?_⟩) | (first | refine V.Fn.k0 (v_rbetween _ _ _) rfl ?_ | refine V.Fn.q0 (v_rbetween _ _ _) rfl ?_ | refine V.Fn.a0 (v_rbetween _ _ _) rfl ?_) | (refine V.NDraw.any (by kernel_rfl) ?_) | fail)
  all_goals (conv => whnf)
  all_goals first
    | exact V.fin1 (ge 3 (by decide) (by omega) (by rw [ev, if_pos (by omega)]))
    | exact V.fin1 (ge 4 (by decide) (by omega) (by rw [ev, if_neg (fun z => z (by omega)), if_pos ⟨by omega, by omega⟩]))
    | exact V.NBack.at_ (k + 1) [] ⟨by omega, on (by rw [ev, if_neg (fun z => z (by omega)), if_neg (by omega)])⟩ (by omega) V.S_ rfl V.S_ V.S_ V.S_
    | (obtain rfl : k = b.length := by omega
       exact V.fin1 (e.trans (Ca.fe_end hJ)))
    | trace_state
theorem v_rreperr (c : Cl) (l : List Fl) (td : Int) (b : List Int) (hc : c.hs.length ≤ 9223372036854775807) (hn : b.length ≤ 9223372036854775807) : V.Fn Try.prog 12 [.arr 1 c.hs.length (ga e1 c.hs), .arr 10 l.length (ga encF l), .arr 1 b.length (ga e1 b)] [.agg [.val (.int .i64 c.we), .ref 0], .one (.ref 1), .one (.val (.int .i64 td)), .one (.ref 2)] (.int .i64 (Rp.aE c l td b)) := by
  have d := Ca.dchk td
  unfold Ca.Day at d
  refine V.Fn.mk_ V.Tok V.mixed Try.func12 rfl Try.ntmps12 (by kernel_rfl) rfl rfl ?_
  repeat' ((conv => whnf); first | refine V.NCond.mk ?_ | refine V.NPick.l ?_ | refine V.NIf.not_ ?_ | refine V.NIf.dec_ ?_ | refine V.a4 ?_ | refine V.a5 ?_ | refine V.NIf.mk (fun _ => ?_) (fun _ => ?_) | refine V.a7 ?_ | refine V.a8 ?_ | refine V.a9 ?_ | refine V.NBoth.mk ?_ ?_ | refine V.b1 ?_ | refine V.b2 ?_ | refine V.NTF.dec ?_ | refine V.b3 ?_ | refine V.b4 ?_ | ((first | refine V.Fn.k (v_rcaCheck c hc) [0] rfl ?_ ?_ | refine V.Fn.q (v_rcaCheck c hc) [0] rfl ?_ ?_ | refine V.Fn.a (v_rcaCheck c hc) [0] rfl ?_ ?_); · exact V.D_) | ((first | refine V.Fn.k (v_rfchecks l) [1] rfl ?_ ?_ | refine V.Fn.q (v_rfchecks l) [1] rfl ?_ ?_ | refine V.Fn.a (v_rfchecks l) [1] rfl ?_ ?_); · exact V.D_) | ((first | refine V.Fn.k (v_redges b hn) [2] rfl ?_ ?_ | refine V.Fn.q (v_redges b hn) [2] rfl ?_ ?_ | refine V.Fn.a (v_redges b hn) [2] rfl ?_ ?_); · exact V.D_) | (first | refine V.Fn.k0 (v_rbetween _ _ _) rfl ?_ | refine V.Fn.q0 (v_rbetween _ _ _) rfl ?_ | refine V.Fn.a0 (v_rbetween _ _ _) rfl ?_) | (refine V.NDraw.any (by kernel_rfl) ?_) | fail)
  all_goals (conv => whnf)
  · exact V.fin1 (Rp.aE_4 (by assumption) (by assumption) (by omega))
  · exact V.fin1 ((Rp.aE_3 (by assumption) (by assumption) (by omega)).trans (by omega))
  · exact V.fin1 (Rp.aE_2 (by assumption) (by assumption))
  · exact V.fin1 (Rp.aE_1 (by assumption))
theorem v_agecount (c : Cl) (day td most : Int) (h : Ca.Ok c) (hd : Ca.Day day) (ht : Ca.Day td) (hlt : day < td) (hm : 0 ≤ most ∧ most ≤ 3652058) : V.Fn Try.prog 15 [.arr 1 c.hs.length (ga e1 c.hs)] [.agg [.val (.int .i64 c.we), .ref 0], .one (.val (.int .i64 day)), .one (.val (.int .i64 td)), .one (.val (.int .i64 most))] (.int .i64 (Rp.cap most (Ca.cnt c day td))) := by
  unfold Ca.Day at hd ht
  refine V.Fn.mk_ V.Tok V.mixed Try.func15 rfl Try.ntmps15 (by kernel_rfl) rfl rfl ?_
  repeat' ((conv => whnf); first | refine V.NCond.mk ?_ | refine V.NPick.l ?_ | refine V.NIf.not_ ?_ | refine V.NIf.dec_ ?_ | refine V.a4 ?_ | refine V.a5 ?_ | refine V.NIf.mk (fun _ => ?_) (fun _ => ?_) | refine V.a7 ?_ | refine V.a8 ?_ | refine V.a9 ?_ | refine V.NBoth.mk ?_ ?_ | refine V.b1 ?_ | refine V.b2 ?_ | refine V.NTF.dec ?_ | refine V.b3 ?_ | refine V.b4 ?_ | (refine V.NDraw.any (by kernel_rfl) ?_) | fail)
  all_goals (conv => whnf)
  refine V.NLoop.auto (fun (j : Nat) => [(10, .one (.val (.int .i64 (day + 1 + j)))), (9, .one (.val (.int .i64 (Ca.cnt c day (day + j)))))]) (fun (j : Nat) => []) [] [] (fun (j : Nat) => (td - day).toNat - j) (fun (j : Nat) => (j : Int) ≤ td - day ∧ Ca.cnt c day (day + j) ≤ most + 1) 0 ⟨by omega, by rw [Ca.cnt_none (by omega)]; omega⟩ (by (conv => whnf); exact ⟨congrArg (fun z => V.SV.one (V.At.val (Value.int .i64 z))) (by omega), congrArg (fun z => V.SV.one (V.At.val (Value.int .i64 z))) (Ca.cnt_none (by omega)).symm, trivial⟩) V.S_ (fun _ => ⟨rfl, rfl⟩) ?_; (conv => whnf); refine ⟨⟨rfl, rfl⟩, ?_⟩
  rintro j ⟨hj, hJ⟩
  have sc := Ca.cnt_succ (c := c) (a := day) (b := day + j) (by omega)
  have o := Ca.op_01 c (day + 1 + j)
  have bd := (Ca.cnt_bd c day (day + j))
  have mn := Ca.cnt_mono (c := c) (a := day) (b := day + j) (d := td) (by omega)
  have e1 : day + (j : Int) + 1 = day + 1 + j := by omega
  have e2 : day + ((j + 1 : Nat) : Int) = day + j + 1 := by omega
  rw [e1, show Ca.cnt c day (day + 1 + j) = Ca.cnt c day (day + ((j + 1 : Nat) : Int)) by rw [e2, e1]] at sc
  have cp1 : Ca.cnt c day td ≤ most → Rp.cap most (Ca.cnt c day td) = Ca.cnt c day td := fun q => if_pos q
  have cp2 : ¬ Ca.cnt c day td ≤ most → Rp.cap most (Ca.cnt c day td) = most + 1 := fun q => if_neg q
  have en : (j : Int) = td - day → Ca.cnt c day (day + j) = Ca.cnt c day td := fun q => by rw [q, show day + (td - day) = td by omega]
  repeat' ((conv => whnf); first | refine V.NCond.mk ?_ | refine V.NPick.l ?_ | refine V.NIf.not_ ?_ | refine V.NIf.dec_ ?_ | refine V.a4 ?_ | refine V.a5 ?_ | refine V.NIf.mk (fun _ => ?_) (fun _ => ?_) | refine V.a7 ?_ | refine V.a8 ?_ | refine V.a9 ?_ | refine V.NBoth.mk ?_ ?_ | refine V.b1 ?_ | refine V.b2 ?_ | refine V.NTF.dec ?_ | refine V.b3 ?_ | refine V.b4 ?_ | ((first | refine V.Fn.k (v_business c (day + 1 + j) h) [0] rfl ?_ ?_ | refine V.Fn.q (v_business c (day + 1 + j) h) [0] rfl ?_ ?_ | refine V.Fn.a (v_business c (day + 1 + j) h) [0] rfl ?_ ?_); · exact V.D_) | (refine V.NDraw.any (by kernel_rfl) ?_) | fail)
  all_goals (conv => whnf)
  · have q : Ca.op c (day + 1 + j) = 1 := by rename_i q; exact q.2
    exact V.NBack.at_ (j + 1) [] ⟨by omega, by omega⟩ (by omega) V.S_ rfl V.S_ V.S_ V.S_
  · have q : ¬ Ca.op c (day + 1 + j) = 1 := by rename_i q; exact fun z => q ⟨⟨by omega, by omega⟩, z⟩
    exact V.NBack.at_ (j + 1) [] ⟨by omega, by omega⟩ (by omega) V.S_ rfl V.S_ V.S_ V.S_
  · exact V.fin1 (by omega)
  · have := en (by omega)
    by_cases q : Ca.cnt c day td ≤ most
    · exact V.fin1 (by have := cp1 q; omega)
    · exact V.fin1 (by have := cp2 q; omega)
theorem v_rparty (l : List Fl) (p : Nat) (hp : p < 31) (hl : F.checks l = 0) : V.Fn Try.prog 16 [.arr 10 l.length (ga encF l)] [.one (.ref 0), .one (.val (.int .i64 ((p : Int)))), .one (.tf true)] (.int .i64 (Rp.pt (·.fr) l p)) ∧ V.Fn Try.prog 16 [.arr 10 l.length (ga encF l)] [.one (.ref 0), .one (.val (.int .i64 ((p : Int)))), .one (.tf false)] (.int .i64 (Rp.pt (·.to) l p)) := by
  have n60 := F.checks_len (l := l) (by omega)
  have ok := Pn.all_ok hl
  constructor
  · refine V.Fn.mk_ V.Tok V.mixed Try.func16 rfl Try.ntmps16 (by kernel_rfl) rfl rfl ?_
    repeat' ((conv => whnf); first | refine V.NCond.mk ?_ | refine V.NPick.l ?_ | refine V.NIf.not_ ?_ | refine V.NIf.dec_ ?_ | refine V.a4 ?_ | refine V.a5 ?_ | refine V.NIf.mk (fun _ => ?_) (fun _ => ?_) | refine V.a7 ?_ | refine V.a8 ?_ | refine V.a9 ?_ | refine V.NBoth.mk ?_ ?_ | refine V.b1 ?_ | refine V.b2 ?_ | refine V.NTF.dec ?_ | refine V.b3 ?_ | refine V.b4 ?_ | (refine V.NDraw.any (by kernel_rfl) ?_) | fail)
    all_goals (conv => whnf)
    refine V.NLoop.auto (fun (k : Nat) => [(8, .one (.val (.int .i64 k))), (7, .one (.val (.int .i64 (Rp.pt (·.fr) (l.take k) p))))]) (fun (k : Nat) => []) [] [] (fun (k : Nat) => l.length - k) (fun (k : Nat) => k ≤ l.length) 0 (Nat.zero_le _) V.S_ V.S_ (fun _ => ⟨rfl, rfl⟩) ?_; (conv => whnf); refine ⟨⟨rfl, rfl⟩, ?_⟩
    rintro k hk
    by_cases hlt : k < l.length
    · have o := ok _ (getD_mem hlt)
      have sc := Rp.pt_snoc (g := fun f : Fl => f.fr) hlt p
      have b1 := Rp.pt_bd (g := fun f : Fl => f.fr) (l := l.take k) (fun f hf => ok f (List.mem_of_mem_take hf)) p
      have b2 := F.ok_bounds o
      rw [List.length_take] at b1
      have s1 : (l.getD k default).fr = (p : Int) → Rp.pt (fun f : Fl => f.fr) (l.take (k + 1)) p = Rp.pt (fun f : Fl => f.fr) (l.take k) p + F.left (l.getD k default) := fun q => by rw [sc, if_pos q]
      have s2 : ¬ (l.getD k default).fr = (p : Int) → Rp.pt (fun f : Fl => f.fr) (l.take (k + 1)) p = Rp.pt (fun f : Fl => f.fr) (l.take k) p := fun q => by rw [sc, if_neg q]; omega
      repeat' ((conv => whnf); first | refine V.NCond.mk ?_ | refine V.NPick.l ?_ | refine V.NIf.not_ ?_ | refine V.NIf.dec_ ?_ | refine V.a4 ?_ | refine V.a5 ?_ | refine V.NIf.mk (fun _ => ?_) (fun _ => ?_) | refine V.a7 ?_ | refine V.a8 ?_ | refine V.a9 ?_ | refine V.NBoth.mk ?_ ?_ | refine V.b1 ?_ | refine V.b2 ?_ | refine V.NTF.dec ?_ | refine V.b3 ?_ | refine V.b4 ?_ | (refine NIdx.mk ⟨k, rfl, by omega, ?_⟩) | (first | refine V.Fn.k0 (v_rfopen _ ⟨o.1, o.2.2.1⟩) rfl ?_ | refine V.Fn.q0 (v_rfopen _ ⟨o.1, o.2.2.1⟩) rfl ?_ | refine V.Fn.a0 (v_rfopen _ ⟨o.1, o.2.2.1⟩) rfl ?_) | (refine V.NDraw.any (by kernel_rfl) ?_) | fail)
      all_goals (conv => whnf)
      all_goals exact V.NBack.at_ (k + 1) [] (by omega) (by omega) V.S_ rfl V.S_ V.S_ V.S_
    · obtain rfl : k = l.length := by omega
      rw [List.take_length]
      repeat' ((conv => whnf); first | refine V.NCond.mk ?_ | refine V.NPick.l ?_ | refine V.NIf.not_ ?_ | refine V.NIf.dec_ ?_ | refine V.a4 ?_ | refine V.a5 ?_ | refine V.NIf.mk (fun _ => ?_) (fun _ => ?_) | refine V.a7 ?_ | refine V.a8 ?_ | refine V.a9 ?_ | refine V.NBoth.mk ?_ ?_ | refine V.b1 ?_ | refine V.b2 ?_ | refine V.NTF.dec ?_ | refine V.b3 ?_ | refine V.b4 ?_ | (refine V.NDraw.any (by kernel_rfl) ?_) | fail)
      all_goals (conv => whnf)
      all_goals exact V.fin1 rfl
  · refine V.Fn.mk_ V.Tok V.mixed Try.func16 rfl Try.ntmps16 (by kernel_rfl) rfl rfl ?_
    repeat' ((conv => whnf); first | refine V.NCond.mk ?_ | refine V.NPick.l ?_ | refine V.NIf.not_ ?_ | refine V.NIf.dec_ ?_ | refine V.a4 ?_ | refine V.a5 ?_ | refine V.NIf.mk (fun _ => ?_) (fun _ => ?_) | refine V.a7 ?_ | refine V.a8 ?_ | refine V.a9 ?_ | refine V.NBoth.mk ?_ ?_ | refine V.b1 ?_ | refine V.b2 ?_ | refine V.NTF.dec ?_ | refine V.b3 ?_ | refine V.b4 ?_ | (refine V.NDraw.any (by kernel_rfl) ?_) | fail)
    all_goals (conv => whnf)
    refine V.NLoop.auto (fun (k : Nat) => [(8, .one (.val (.int .i64 k))), (7, .one (.val (.int .i64 (Rp.pt (·.to) (l.take k) p))))]) (fun (k : Nat) => []) [] [] (fun (k : Nat) => l.length - k) (fun (k : Nat) => k ≤ l.length) 0 (Nat.zero_le _) V.S_ V.S_ (fun _ => ⟨rfl, rfl⟩) ?_; (conv => whnf); refine ⟨⟨rfl, rfl⟩, ?_⟩
    rintro k hk
    by_cases hlt : k < l.length
    · have o := ok _ (getD_mem hlt)
      have sc := Rp.pt_snoc (g := fun f : Fl => f.to) hlt p
      have b1 := Rp.pt_bd (g := fun f : Fl => f.to) (l := l.take k) (fun f hf => ok f (List.mem_of_mem_take hf)) p
      have b2 := F.ok_bounds o
      rw [List.length_take] at b1
      have s1 : (l.getD k default).to = (p : Int) → Rp.pt (fun f : Fl => f.to) (l.take (k + 1)) p = Rp.pt (fun f : Fl => f.to) (l.take k) p + F.left (l.getD k default) := fun q => by rw [sc, if_pos q]
      have s2 : ¬ (l.getD k default).to = (p : Int) → Rp.pt (fun f : Fl => f.to) (l.take (k + 1)) p = Rp.pt (fun f : Fl => f.to) (l.take k) p := fun q => by rw [sc, if_neg q]; omega
      repeat' ((conv => whnf); first | refine V.NCond.mk ?_ | refine V.NPick.l ?_ | refine V.NIf.not_ ?_ | refine V.NIf.dec_ ?_ | refine V.a4 ?_ | refine V.a5 ?_ | refine V.NIf.mk (fun _ => ?_) (fun _ => ?_) | refine V.a7 ?_ | refine V.a8 ?_ | refine V.a9 ?_ | refine V.NBoth.mk ?_ ?_ | refine V.b1 ?_ | refine V.b2 ?_ | refine V.NTF.dec ?_ | refine V.b3 ?_ | refine V.b4 ?_ | (refine NIdx.mk ⟨k, rfl, by omega, ?_⟩) | (first | refine V.Fn.k0 (v_rfopen _ ⟨o.1, o.2.2.1⟩) rfl ?_ | refine V.Fn.q0 (v_rfopen _ ⟨o.1, o.2.2.1⟩) rfl ?_ | refine V.Fn.a0 (v_rfopen _ ⟨o.1, o.2.2.1⟩) rfl ?_) | (refine V.NDraw.any (by kernel_rfl) ?_) | fail)
      all_goals (conv => whnf)
      all_goals exact V.NBack.at_ (k + 1) [] (by omega) (by omega) V.S_ rfl V.S_ V.S_ V.S_
    · obtain rfl : k = l.length := by omega
      rw [List.take_length]
      repeat' ((conv => whnf); first | refine V.NCond.mk ?_ | refine V.NPick.l ?_ | refine V.NIf.not_ ?_ | refine V.NIf.dec_ ?_ | refine V.a4 ?_ | refine V.a5 ?_ | refine V.NIf.mk (fun _ => ?_) (fun _ => ?_) | refine V.a7 ?_ | refine V.a8 ?_ | refine V.a9 ?_ | refine V.NBoth.mk ?_ ?_ | refine V.b1 ?_ | refine V.b2 ?_ | refine V.NTF.dec ?_ | refine V.b3 ?_ | refine V.b4 ?_ | (refine V.NDraw.any (by kernel_rfl) ?_) | fail)
      all_goals (conv => whnf)
      all_goals exact V.fin1 rfl
end Go.Proofs.Ytdehibmofmfkbaa

namespace Go.Proofs.Ytdehibmofmfkbaa.V
open Go Go.RowKit
variable [Dr]
def aN (n : Nat) : At → At
  | .ref j => if j = n then .val (.slice none 0 0) else .ref j
  | a => a
def aNok (n : Nat) : At → Bool
  | .ptr i _ _ _ => i != n
  | .clo _ _ => false
  | _ => true
def rN (n : Nat) (ρ : Rho) : Rho := fun i => if i = n then some (.slice none 0 0) else ρ i
theorem At.nil_ {n : Nat} {ρ : Rho} {a : At} {x : Value} (hk : aNok n a = true) (h : (aN n a).is ρ x) : a.is (rN n ρ) x := by
  cases a with
  | val v => exact h
  | tf b => exact h
  | prop p => exact h
  | clo f c => cases hk
  | ptr i k j s =>
    have hne : i ≠ n := by simpa [aNok] using hk
    obtain ⟨b, e, q⟩ := h
    refine ⟨b, ?_, q⟩
    unfold base rN at *
    rw [if_neg hne]; exact e
  | ref i =>
    by_cases e : i = n
    · have h : (aN n (.ref i)).is ρ x := h
      rw [show aN n (.ref i) = .val (.slice none 0 0) from if_pos e] at h
      have h : x = .slice none 0 0 := h
      subst h
      exact ⟨if_pos e, rfl⟩
    · have h : (aN n (.ref i)).is ρ x := h
      rw [show aN n (.ref i) = .ref i from if_neg e] at h
      exact ⟨(if_neg e).trans h.1, h.2⟩
theorem Ats.nil_ {n : Nat} {ρ : Rho} : ∀ {l : List At} {xs : List Value}, l.all (aNok n) = true → Ats ρ (l.map (aN n)) xs → Ats (rN n ρ) l xs
  | [], _, _, h => h
  | a :: l, _, hk, ⟨x, r, e, h, hr⟩ => by
    simp only [List.all_cons, Bool.and_eq_true] at hk
    exact ⟨x, r, e, At.nil_ hk.1 h, Ats.nil_ hk.2 hr⟩
theorem NApp.to_ {α : Type} [Inhabited α] {en : α → List Value} {n m : Nat} (l' : List α) {get news : Nat → List Value} {bytes : Nat} {K : Nat → (Nat → List Value) → Prop} (h : n + m = l'.length) (hb : l'.length ≤ 9223372036854775807) (hr : l'.length * bytes ≤ 140737488355328) (h1 : ∀ k, k < n → ga en l' k = get k) (h2 : ∀ k, k < m → ga en l' (n + k) = news k) (hK : K l'.length (ga en l')) : NApp n m get news bytes K :=
  ⟨⟨_, _, h.symm, hb, hr, h1, h2, hK⟩⟩
theorem ga_take {α : Type} [Inhabited α] {en : α → List Value} {l : List α} {i k : Nat} (h : k < i) (hl : i ≤ l.length) : ga en (l.take i) k = ga en l k := by
  rw [ga_at (by rw [List.length_take]; omega), ga_at (by omega), List.getElem_take]
theorem ga_left {α : Type} [Inhabited α] {en : α → List Value} {l r : List α} {k : Nat} (h : k < l.length) : ga en (l ++ r) k = ga en l k := by
  rw [ga_at (by simp; omega), ga_at h, List.getElem_append_left h]
theorem ga_right {α : Type} [Inhabited α] {en : α → List Value} {l r : List α} {n k : Nat} (hn : n = l.length) (h : k < r.length) : ga en (l ++ r) (n + k) = ga en r k := by
  subst hn
  rw [ga_at (by simp; omega), ga_at h, List.getElem_append_right (by omega)]
  congr 2
  omega
theorem ga_drop {α : Type} [Inhabited α] {en : α → List Value} {l : List α} {i k : Nat} (h : i + k < l.length) : ga en (l.drop i) k = ga en l (i + k) := by
  rw [ga_at (by simp; omega), ga_at h, List.getElem_drop]
end Go.Proofs.Ytdehibmofmfkbaa.V

namespace Go.Proofs.Ytdehibmofmfkbaa
open Go Go.RowKit V
theorem v_rrate (l : List Fl) : V.Fn Try.prog 11 [.arr 10 l.length (ga encF l)] [.one (.ref 0)] (.tuple #[.int .i64 (Rp.rV l), .int .i64 (Rp.rE l)]) := by
  refine V.Fn.mk_ V.Tok V.mixed Try.func11 rfl Try.ntmps11 (by kernel_rfl) rfl rfl ?_
  repeat' ((conv => whnf); first | refine V.NCond.mk ?_ | refine V.NPick.l ?_ | refine V.NIf.not_ ?_ | refine V.NIf.dec_ ?_ | refine V.a4 ?_ | refine V.a5 ?_ | refine V.NIf.mk (fun _ => ?_) (fun _ => ?_) | refine V.a7 ?_ | refine V.a8 ?_ | refine V.a9 ?_ | refine V.NBoth.mk ?_ ?_ | refine V.b1 ?_ | refine V.b2 ?_ | refine V.NTF.dec ?_ | refine V.b3 ?_ | refine V.b4 ?_ | ((first | refine V.Fn.k (v_fchecks l) [0] rfl ?_ ?_ | refine V.Fn.q (v_fchecks l) [0] rfl ?_ ?_ | refine V.Fn.a (v_fchecks l) [0] rfl ?_ ?_); · exact V.D_) | (refine V.NDraw.any (by kernel_rfl) ?_) | fail)
  all_goals (conv => whnf)
  · obtain ⟨a, b⟩ := Rp.rE_2 (l := l) (by assumption) (by omega)
    exact V.fin2 ⟨b, a⟩
  rotate_left
  · obtain ⟨a, b⟩ := Rp.rE_1 (l := l) (by assumption)
    exact V.fin2 ⟨b, a⟩
  have hl : F.checks l = 0 := by assumption
  have n60 := F.checks_len (l := l) (by omega)
  have ok := Pn.all_ok hl
  refine V.NLoop.auto (fun (k : Nat) => [(22, .one (.val (.int .i64 k))), (5, .one (.val (.int .i64 (Rp.dn (l.take k))))), (6, .one (.val (.int .i64 (Rp.al (l.take k)))))]) (fun (k : Nat) => []) [] [] (fun (k : Nat) => l.length - k) (fun (k : Nat) => k ≤ l.length) 0 (Nat.zero_le _) V.S_ V.S_ (fun _ => ⟨rfl, rfl⟩) ?_; (conv => whnf); refine ⟨⟨rfl, rfl⟩, ?_⟩
  rintro k hk
  by_cases hlt : k < l.length
  · have o := F.ok_bounds (ok _ (getD_mem hlt))
    have s1 := Rp.dn_snoc hlt
    have s2 := Rp.al_snoc hlt
    have b1 := Rp.da_bd (l := l.take k) (fun f hf => ok f (List.mem_of_mem_take hf))
    rw [List.length_take] at b1
    repeat' ((conv => whnf); first | refine V.NCond.mk ?_ | refine V.NPick.l ?_ | refine V.NIf.not_ ?_ | refine V.NIf.dec_ ?_ | refine V.a4 ?_ | refine V.a5 ?_ | refine V.NIf.mk (fun _ => ?_) (fun _ => ?_) | refine V.a7 ?_ | refine V.a8 ?_ | refine V.a9 ?_ | refine V.NBoth.mk ?_ ?_ | refine V.b1 ?_ | refine V.b2 ?_ | refine V.NTF.dec ?_ | refine V.b3 ?_ | refine V.b4 ?_ | (refine NIdx.mk ⟨k, rfl, by omega, ?_⟩) | (refine V.NDraw.any (by kernel_rfl) ?_) | fail)
    all_goals (conv => whnf)
    all_goals exact V.NBack.at_ (k + 1) [] (by omega) (by omega) V.S_ rfl V.S_ V.S_ V.S_
  · obtain rfl : k = l.length := by omega
    rw [List.take_length]
    obtain ⟨r1, r2, r3⟩ := Rp.rate_bd ok (by omega) n60
    obtain ⟨a, b⟩ := Rp.rE_3 hl (by omega)
    repeat' ((conv => whnf); first | refine V.NCond.mk ?_ | refine V.NPick.l ?_ | refine V.NIf.not_ ?_ | refine V.NIf.dec_ ?_ | refine V.a4 ?_ | refine V.a5 ?_ | refine V.NIf.mk (fun _ => ?_) (fun _ => ?_) | refine V.a7 ?_ | refine V.a8 ?_ | refine V.a9 ?_ | refine V.NBoth.mk ?_ ?_ | refine V.b1 ?_ | refine V.b2 ?_ | refine V.NTF.dec ?_ | refine V.b3 ?_ | refine V.b4 ?_ | (first | refine V.Fn.k0 (v_part _ _ _) rfl ?_ | refine V.Fn.q0 (v_part _ _ _) rfl ?_ | refine V.Fn.a0 (v_part _ _ _) rfl ?_) | (refine V.NDraw.any (by kernel_rfl) ?_) | fail)
    all_goals (conv => whnf)
    exact V.fin2 ⟨b.trans r3.symm, a.trans r2.symm⟩
set_option maxHeartbeats 4000000 in
theorem v_parties (l : List Fl) : V.FnR Try.prog 9 [.arr 10 l.length (ga encF l)] [.one (.ref 0)] (.tup [.one (.ref 1), .one (.ref 2), .one (.val (.int .i64 (F.checks l)))]) [.row 3 1 (Rp.frV l).length (ga e1 (Rp.frV l)), .row 3 1 (Rp.toV l).length (ga e1 (Rp.toV l))] := by
  refine V.FnR.mk_ V.Tok V.mixed Try.func9 rfl Try.ntmps9 (by kernel_rfl) rfl rfl rfl rfl ?_
  repeat' ((conv => whnf); first | refine V.NCond.mk ?_ | refine V.NPick.l ?_ | refine V.NIf.not_ ?_ | refine V.NIf.dec_ ?_ | refine V.a4 ?_ | refine V.a5 ?_ | refine V.NIf.mk (fun _ => ?_) (fun _ => ?_) | refine V.a7 ?_ | refine V.a8 ?_ | refine V.a9 ?_ | refine V.NBoth.mk ?_ ?_ | refine V.b1 ?_ | refine V.b2 ?_ | refine V.NTF.dec ?_ | refine V.b3 ?_ | refine V.b4 ?_ | ((first | refine V.Fn.k (v_fchecks l) [0] rfl ?_ ?_ | refine V.Fn.q (v_fchecks l) [0] rfl ?_ ?_ | refine V.Fn.a (v_fchecks l) [0] rfl ?_ ?_); · exact V.D_) | (refine NMake.mk ⟨31, 31, rfl, rfl, by omega, by omega, by first | omega | decide | (simp; done) | (simp; omega), ?_⟩) | (refine V.NCall.inl (f := 32) V.Tok V.mixed Try.func32 rfl Try.ntmps32 (by kernel_rfl) rfl ?_) | (refine V.NRange.inl V.Tok V.mixed Try.func58 rfl Try.ntmps58 (by kernel_rfl) [2, 3] [] ?_; (conv => whnf); refine V.NIs.mk rfl ?_; (conv => whnf); intro L hL) | (refine V.NDraw.any (by kernel_rfl) ?_) | fail)
  all_goals (conv => whnf)
  rotate_left
  all_goals try (
    have hx : ¬ F.checks l = 0 := by assumption
    rw [show Rp.frV l = [] from if_neg hx, show Rp.toV l = [] from if_neg hx]
    refine NRet.mk_ [none, none] rfl ?_ ?_
    · exact ⟨⟨Nat.le_refl _, rfl⟩, ⟨by simp, rfl⟩, rfl, trivial⟩
    · exact ⟨rfl, rfl, trivial⟩)
  all_goals
    have hx : F.checks l = 0 := by assumption
    have n60 := F.checks_len (l := l) (by omega)
    have ok := Pn.all_ok hx
    have eF : Rp.frV l = Rp.pts (·.fr) l := if_pos hx
    have eT : Rp.toV l = Rp.pts (·.to) l := if_pos hx
  all_goals first
    | (
      refine V.NLoop.auto (fun (k : Nat) => [(7, .one (.val (.int .i64 k)))]) (fun (k : Nat) => [(5, .row 3 1 (Rp.pts (·.fr) (l.take k)).length (ga e1 (Rp.pts (·.fr) (l.take k)))), (6, .row 3 1 (Rp.pts (·.to) (l.take k)).length (ga e1 (Rp.pts (·.to) (l.take k))))]) [] [] (fun (k : Nat) => l.length - k) (fun (k : Nat) => k ≤ l.length) 0 (Nat.zero_le _) V.S_ (by (conv => whnf); exact ⟨ObLe.rep 0 (Rp.pts_nil _) (fun _ => rfl), ObLe.rep 0 (Rp.pts_nil _) (fun _ => rfl), trivial⟩) (fun _ => ⟨rfl, rfl⟩) ?_; (conv => whnf); refine ⟨⟨rfl, rfl⟩, ?_⟩
      rintro k hk
      by_cases hlt : k < l.length
      · have o := ok _ (getD_mem hlt)
        have ob := F.ok_bounds o
        obtain ⟨⟨_, bf, bt, _⟩, _⟩ := id o
        have pl1 := Rp.pts_len (·.fr) (l.take k)
        have pl2 := Rp.pts_len (·.to) (l.take k)
        have at1 := Rp.pts_at (·.fr) (l.take k) (p := (l.getD k default).fr.toNat) (by omega)
        have at2 := Rp.pts_at (·.to) (l.take k) (p := (l.getD k default).to.toNat) (by omega)
        have pb1 := Rp.pt_bd (g := (·.fr)) (l := l.take k) (fun f hf => ok f (List.mem_of_mem_take hf)) (l.getD k default).fr.toNat
        have pb2 := Rp.pt_bd (g := (·.to)) (l := l.take k) (fun f hf => ok f (List.mem_of_mem_take hf)) (l.getD k default).to.toNat
        rw [← at1, List.length_take] at pb1
        rw [← at2, List.length_take] at pb2
        have q1 := Rp.pts_snoc (g := (·.fr)) hlt bf
        have q2 := Rp.pts_snoc (g := (·.to)) hlt bt
        repeat' ((conv => whnf); first | refine V.NCond.mk ?_ | refine V.NPick.l ?_ | refine V.NIf.not_ ?_ | refine V.NIf.dec_ ?_ | refine V.a4 ?_ | refine V.a5 ?_ | refine V.NIf.mk (fun _ => ?_) (fun _ => ?_) | refine V.a7 ?_ | refine V.a8 ?_ | refine V.a9 ?_ | refine V.NBoth.mk ?_ ?_ | refine V.b1 ?_ | refine V.b2 ?_ | refine V.NTF.dec ?_ | refine V.b3 ?_ | refine V.b4 ?_ | (refine NIdx.mk ⟨k, rfl, by omega, ?_⟩) | (refine NIdx.mk ⟨(l.getD k default).fr.toNat, by omega, by omega, ?_⟩) | (refine NIdx.mk ⟨(l.getD k default).to.toNat, by omega, by omega, ?_⟩) | (first | refine V.Fn.k0 (v_fleft _ o) rfl ?_ | refine V.Fn.q0 (v_fleft _ o) rfl ?_ | refine V.Fn.a0 (v_fleft _ o) rfl ?_) | (refine V.NYield.mk_ V.Tok V.mixed hL rfl rfl ?_) | (refine NPut.to (en := e1) ((Rp.pts (·.fr) (l.take k)).getD (l.getD k default).fr.toNat default + F.left (l.getD k default)) rfl rfl ?_) | (refine NPut.to (en := e1) ((Rp.pts (·.to) (l.take k)).getD (l.getD k default).to.toNat default + F.left (l.getD k default)) rfl rfl ?_) | (refine V.NDraw.any (by kernel_rfl) ?_) | fail)
        all_goals (conv => whnf)
        all_goals first
          | exact V.NBack.at_ (k + 1) [] (by omega) (by omega) V.S_ rfl ⟨ObLe.is_ q1 (by rw [Rp.pts_len, Rp.pts_len]), ObLe.is_ q2 (by rw [Rp.pts_len, Rp.pts_len]), trivial⟩ V.S_ V.S_
          | exact V.NBack.at_ (k + 1) [] (by omega) (by omega) V.S_ rfl ⟨ObLe.as_ (Rp.pts_none hlt (by omega)), ObLe.as_ (Rp.pts_none hlt (by omega)), trivial⟩ V.S_ V.S_
          | fail
      · obtain rfl : k = l.length := by omega
        rw [List.take_length] at *
        repeat' ((conv => whnf); first | refine V.NCond.mk ?_ | refine V.NPick.l ?_ | refine V.NIf.not_ ?_ | refine V.NIf.dec_ ?_ | refine V.a4 ?_ | refine V.a5 ?_ | refine V.NIf.mk (fun _ => ?_) (fun _ => ?_) | refine V.a7 ?_ | refine V.a8 ?_ | refine V.a9 ?_ | refine V.NBoth.mk ?_ ?_ | refine V.b1 ?_ | refine V.b2 ?_ | refine V.NTF.dec ?_ | refine V.b3 ?_ | refine V.b4 ?_ | (refine V.NDraw.any (by kernel_rfl) ?_) | fail)
        all_goals (conv => whnf)
        all_goals refine NRet.mk_ [some 5, some 6] rfl ?_ ?_
        all_goals first
          | exact ⟨rfl, rfl, V.fin1 hx, trivial⟩
          | exact ⟨ObLe.as_ eF, ObLe.as_ eT, trivial⟩
          | fail)
    | (
      refine V.NLoop.auto (fun (k : Nat) => [(7, .one (.val (.int .i64 k)))]) (fun (k : Nat) => [(6, .row 3 1 (Rp.pts (·.fr) (l.take k)).length (ga e1 (Rp.pts (·.fr) (l.take k)))), (5, .row 3 1 (Rp.pts (·.to) (l.take k)).length (ga e1 (Rp.pts (·.to) (l.take k))))]) [] [] (fun (k : Nat) => l.length - k) (fun (k : Nat) => k ≤ l.length) 0 (Nat.zero_le _) V.S_ (by (conv => whnf); exact ⟨ObLe.rep 0 (Rp.pts_nil _) (fun _ => rfl), ObLe.rep 0 (Rp.pts_nil _) (fun _ => rfl), trivial⟩) (fun _ => ⟨rfl, rfl⟩) ?_; (conv => whnf); refine ⟨⟨rfl, rfl⟩, ?_⟩
      rintro k hk
      by_cases hlt : k < l.length
      · have o := ok _ (getD_mem hlt)
        have ob := F.ok_bounds o
        obtain ⟨⟨_, bf, bt, _⟩, _⟩ := id o
        have pl1 := Rp.pts_len (·.fr) (l.take k)
        have pl2 := Rp.pts_len (·.to) (l.take k)
        have at1 := Rp.pts_at (·.fr) (l.take k) (p := (l.getD k default).fr.toNat) (by omega)
        have at2 := Rp.pts_at (·.to) (l.take k) (p := (l.getD k default).to.toNat) (by omega)
        have pb1 := Rp.pt_bd (g := (·.fr)) (l := l.take k) (fun f hf => ok f (List.mem_of_mem_take hf)) (l.getD k default).fr.toNat
        have pb2 := Rp.pt_bd (g := (·.to)) (l := l.take k) (fun f hf => ok f (List.mem_of_mem_take hf)) (l.getD k default).to.toNat
        rw [← at1, List.length_take] at pb1
        rw [← at2, List.length_take] at pb2
        have q1 := Rp.pts_snoc (g := (·.fr)) hlt bf
        have q2 := Rp.pts_snoc (g := (·.to)) hlt bt
        repeat' ((conv => whnf); first | refine V.NCond.mk ?_ | refine V.NPick.l ?_ | refine V.NIf.not_ ?_ | refine V.NIf.dec_ ?_ | refine V.a4 ?_ | refine V.a5 ?_ | refine V.NIf.mk (fun _ => ?_) (fun _ => ?_) | refine V.a7 ?_ | refine V.a8 ?_ | refine V.a9 ?_ | refine V.NBoth.mk ?_ ?_ | refine V.b1 ?_ | refine V.b2 ?_ | refine V.NTF.dec ?_ | refine V.b3 ?_ | refine V.b4 ?_ | (refine NIdx.mk ⟨k, rfl, by omega, ?_⟩) | (refine NIdx.mk ⟨(l.getD k default).fr.toNat, by omega, by omega, ?_⟩) | (refine NIdx.mk ⟨(l.getD k default).to.toNat, by omega, by omega, ?_⟩) | (first | refine V.Fn.k0 (v_fleft _ o) rfl ?_ | refine V.Fn.q0 (v_fleft _ o) rfl ?_ | refine V.Fn.a0 (v_fleft _ o) rfl ?_) | (refine V.NYield.mk_ V.Tok V.mixed hL rfl rfl ?_) | (refine NPut.to (en := e1) ((Rp.pts (·.fr) (l.take k)).getD (l.getD k default).fr.toNat default + F.left (l.getD k default)) rfl rfl ?_) | (refine NPut.to (en := e1) ((Rp.pts (·.to) (l.take k)).getD (l.getD k default).to.toNat default + F.left (l.getD k default)) rfl rfl ?_) | (refine V.NDraw.any (by kernel_rfl) ?_) | fail)
        all_goals (conv => whnf)
        all_goals first
          | exact V.NBack.at_ (k + 1) [] (by omega) (by omega) V.S_ rfl ⟨ObLe.is_ q1 (by rw [Rp.pts_len, Rp.pts_len]), ObLe.is_ q2 (by rw [Rp.pts_len, Rp.pts_len]), trivial⟩ V.S_ V.S_
          | exact V.NBack.at_ (k + 1) [] (by omega) (by omega) V.S_ rfl ⟨ObLe.as_ (Rp.pts_none hlt (by omega)), ObLe.as_ (Rp.pts_none hlt (by omega)), trivial⟩ V.S_ V.S_
          | fail
      · obtain rfl : k = l.length := by omega
        rw [List.take_length] at *
        repeat' ((conv => whnf); first | refine V.NCond.mk ?_ | refine V.NPick.l ?_ | refine V.NIf.not_ ?_ | refine V.NIf.dec_ ?_ | refine V.a4 ?_ | refine V.a5 ?_ | refine V.NIf.mk (fun _ => ?_) (fun _ => ?_) | refine V.a7 ?_ | refine V.a8 ?_ | refine V.a9 ?_ | refine V.NBoth.mk ?_ ?_ | refine V.b1 ?_ | refine V.b2 ?_ | refine V.NTF.dec ?_ | refine V.b3 ?_ | refine V.b4 ?_ | (refine V.NDraw.any (by kernel_rfl) ?_) | fail)
        all_goals (conv => whnf)
        all_goals refine NRet.mk_ [some 6, some 5] rfl ?_ ?_
        all_goals first
          | exact ⟨rfl, rfl, V.fin1 hx, trivial⟩
          | exact ⟨ObLe.as_ eF, ObLe.as_ eT, trivial⟩
          | fail)
    | trace_state
end Go.Proofs.Ytdehibmofmfkbaa

namespace Go.Proofs.Ytdehibmofmfkbaa
open Go Go.RowKit V
set_option maxHeartbeats 4000000 in
theorem v_rages (c : Cl) (l : List Fl) (td : Int) (b : List Int) (hc : c.hs.length ≤ 9223372036854775807) (hn : b.length ≤ 9223372036854775807) : V.FnR Try.prog 8 [.arr 1 c.hs.length (ga e1 c.hs), .arr 10 l.length (ga encF l), .arr 1 b.length (ga e1 b)] [.agg [.val (.int .i64 c.we), .ref 0], .one (.ref 1), .one (.val (.int .i64 td)), .one (.ref 2)] (.tup [.one (.ref 3), .one (.val (.int .i64 (Rp.aE c l td b)))]) [.row 3 1 (Rp.aV c l td b).length (ga e1 (Rp.aV c l td b))] := by
  refine V.FnR.mk_ V.Tok V.mixed Try.func8 rfl Try.ntmps8 (by kernel_rfl) rfl rfl rfl rfl ?_
  repeat' ((conv => whnf); first | refine V.NCond.mk ?_ | refine V.NPick.l ?_ | refine V.NIf.not_ ?_ | refine V.NIf.dec_ ?_ | refine V.a4 ?_ | refine V.a5 ?_ | refine V.NIf.mk (fun _ => ?_) (fun _ => ?_) | refine V.a7 ?_ | refine V.a8 ?_ | refine V.a9 ?_ | refine V.NBoth.mk ?_ ?_ | refine V.b1 ?_ | refine V.b2 ?_ | refine V.NTF.dec ?_ | refine V.b3 ?_ | refine V.b4 ?_ | ((first | refine V.Fn.k (v_caCheck c hc) [0] rfl ?_ ?_ | refine V.Fn.q (v_caCheck c hc) [0] rfl ?_ ?_ | refine V.Fn.a (v_caCheck c hc) [0] rfl ?_ ?_); · exact V.D_) | ((first | refine V.Fn.k (v_fchecks l) [1] rfl ?_ ?_ | refine V.Fn.q (v_fchecks l) [1] rfl ?_ ?_ | refine V.Fn.a (v_fchecks l) [1] rfl ?_ ?_); · exact V.D_) | (first | refine V.Fn.k0 (v_dcheck _) rfl ?_ | refine V.Fn.q0 (v_dcheck _) rfl ?_ | refine V.Fn.a0 (v_dcheck _) rfl ?_) | ((first | refine V.Fn.k (v_edges b hn) [2] rfl ?_ ?_ | refine V.Fn.q (v_edges b hn) [2] rfl ?_ ?_ | refine V.Fn.a (v_edges b hn) [2] rfl ?_ ?_); · exact V.D_) | (refine V.NDraw.any (by kernel_rfl) ?_) | fail)
  all_goals (conv => whnf)
  rotate_left
  all_goals first
    | (have e := Rp.aE_4 (c := c) (l := l) (td := td) (b := b) (by assumption) (by assumption) (by assumption)
       rw [Rp.aV_no (by rw [e]; assumption), e]
       (first | exact V.er 0 | exact V.er 1 | exact V.er 2 | exact V.er 3 | exact V.er 4 | exact V.er 5 | exact V.er 6 | exact V.er 7 | exact V.er 8 | exact V.er 9 | exact V.er 10 | exact V.er 11 | exact V.er 12 | exact V.er 13 | exact V.er 14 | exact V.er 15 | exact V.er 16 | exact V.er 17))
    | (have e := Rp.aE_3 (c := c) (l := l) (td := td) (b := b) (by assumption) (by assumption) (by assumption)
       rw [Rp.aV_no (by rw [e]; assumption), e]
       (first | exact V.er 0 | exact V.er 1 | exact V.er 2 | exact V.er 3 | exact V.er 4 | exact V.er 5 | exact V.er 6 | exact V.er 7 | exact V.er 8 | exact V.er 9 | exact V.er 10 | exact V.er 11 | exact V.er 12 | exact V.er 13 | exact V.er 14 | exact V.er 15 | exact V.er 16 | exact V.er 17))
    | (have e := Rp.aE_2 (c := c) (l := l) (td := td) (b := b) (by assumption) (by assumption)
       rw [Rp.aV_no (by rw [e]; assumption), e]
       (first | exact V.er 0 | exact V.er 1 | exact V.er 2 | exact V.er 3 | exact V.er 4 | exact V.er 5 | exact V.er 6 | exact V.er 7 | exact V.er 8 | exact V.er 9 | exact V.er 10 | exact V.er 11 | exact V.er 12 | exact V.er 13 | exact V.er 14 | exact V.er 15 | exact V.er 16 | exact V.er 17))
    | (have e := Rp.aE_1 (c := c) (l := l) (td := td) (b := b) (by assumption)
       rw [Rp.aV_no (by rw [e]; assumption), e]
       (first | exact V.er 0 | exact V.er 1 | exact V.er 2 | exact V.er 3 | exact V.er 4 | exact V.er 5 | exact V.er 6 | exact V.er 7 | exact V.er 8 | exact V.er 9 | exact V.er 10 | exact V.er 11 | exact V.er 12 | exact V.er 13 | exact V.er 14 | exact V.er 15 | exact V.er 16 | exact V.er 17))
    | skip
  have h1 : Ca.chk c = 0 := by assumption
  have hx : F.checks l = 0 := by assumption
  have h3 : D.chk td = 0 := by assumption
  have h4 : Rp.eE b = 0 := by assumption
  have e := (Rp.aE_4 (c := c) h1 hx h3).trans h4
  have E := Rp.eE_ok h4
  have El := E.le
  have n60 := F.checks_len (l := l) (by omega)
  have ok := Pn.all_ok hx
  rw [Rp.aV_yes e, e]
  repeat' ((conv => whnf); first | refine V.NCond.mk ?_ | refine V.NPick.l ?_ | refine V.NIf.not_ ?_ | refine V.NIf.dec_ ?_ | refine V.a4 ?_ | refine V.a5 ?_ | refine V.NIf.mk (fun _ => ?_) (fun _ => ?_) | refine V.a7 ?_ | refine V.a8 ?_ | refine V.a9 ?_ | refine V.NBoth.mk ?_ ?_ | refine V.b1 ?_ | refine V.b2 ?_ | refine V.NTF.dec ?_ | refine V.b3 ?_ | refine V.b4 ?_ | (refine NMake.mk ⟨b.length + 1, b.length + 1, rfl, rfl, by omega, by omega, by first | omega | decide | (simp; done) | (simp; omega), ?_⟩) | (refine V.NCall.inl (f := 32) V.Tok V.mixed Try.func32 rfl Try.ntmps32 (by kernel_rfl) rfl ?_) | (refine V.NRange.inl V.Tok V.mixed Try.func58 rfl Try.ntmps58 (by kernel_rfl) [4, 6, 7, 11] [] ?_; (conv => whnf); refine V.NIs.mk rfl ?_; (conv => whnf); intro L hL) | (refine V.NDraw.any (by kernel_rfl) ?_) | fail)
  all_goals (conv => whnf)
  refine V.NLoop.auto (fun (k : Nat) => [(7, .one (.val (.int .i64 k)))]) (fun (k : Nat) => [(7, .row 3 1 (Rp.ag c td b (l.take k)).length (ga e1 (Rp.ag c td b (l.take k))))]) [] [] (fun (k : Nat) => l.length - k) (fun (k : Nat) => k ≤ l.length) 0 (Nat.zero_le _) V.S_ (by (conv => whnf); exact ⟨ObLe.rep 0 rfl (fun _ => rfl), trivial⟩) (fun _ => ⟨rfl, rfl⟩) ?_; (conv => whnf); refine ⟨⟨rfl, rfl⟩, ?_⟩
  rintro k hk
  by_cases hlt : k < l.length
  · have o := ok _ (getD_mem hlt)
    have sn := Rp.ag_snoc (c := c) (td := td) (b := b) hlt
    have al := Rp.ag_len c td b (l.take k)
    have ab := Rp.ag_bd0 c td b (l.take k)
    have y1 : Rp.Lt_ td (l.getD k default) → Rp.ag c td b (l.take (k + 1)) = (Rp.ag c td b (l.take k)).set (Rp.pc b (Ca.cnt c (l.getD k default).day td)) ((Rp.ag c td b (l.take k)).getD (Rp.pc b (Ca.cnt c (l.getD k default).day td)) default + 1) := fun q => sn.trans (if_pos q)
    have y2 : ¬ Rp.Lt_ td (l.getD k default) → Rp.ag c td b (l.take (k + 1)) = Rp.ag c td b (l.take k) := fun q => sn.trans (if_neg q)
    have c2 := v_caCount c (l.getD k default).day td hc
    have dy : Ca.Day (l.getD k default).day := by obtain ⟨⟨_, _, _, _, _, d, _⟩, _⟩ := id o; exact d
    have co : (l.getD k default).day < td → Ca.coE c (l.getD k default).day td = 0 ∧ Ca.coV c (l.getD k default).day td = Ca.cnt c (l.getD k default).day td := fun q => by
      have dtd : Ca.Day td := by have w := Ca.dchk td; unfold Ca.Day at *; omega
      have z := Ca.coE_of (b := td) h1 dy dtd (by omega)
      exact ⟨z, if_pos z⟩
    have fp := Rp.pc_lb E.up (Ca.cnt c (l.getD k default).day td)
    have fl := Rp.pc_le E.up (Ca.cnt c (l.getD k default).day td)
    have lbl := (Rp.lb_spec b (Ca.cnt c (l.getD k default).day td) E.up).1
    have c3 := v_bsearch b (Ca.cnt c (l.getD k default).day td) (by omega) E.up
    have lt : (0 < F.left (l.getD k default) ∧ (l.getD k default).day < td) ↔ Rp.Lt_ td (l.getD k default) := Iff.rfl
    generalize Ca.cnt c (l.getD k default).day td = n at *
    have fb : 0 ≤ (Rp.ag c td b (l.take k)).getD (Rp.pc b n) default ∧ (Rp.ag c td b (l.take k)).getD (Rp.pc b n) default ≤ 60 := by
      have := ab _ (getD_mem (k := Rp.pc b n) (by omega))
      rw [List.length_take] at this
      omega
    generalize Rp.pc b n = p at *
    generalize Rp.ag c td b (l.take k) = A at *
    by_cases hd : (l.getD k default).day < td
    · obtain ⟨z1, z2⟩ := co hd
      rw [z1, z2] at c2
      clear co sn ab
      repeat' ((conv => whnf); first | refine V.NCond.mk ?_ | refine V.NPick.l ?_ | refine V.NIf.not_ ?_ | refine V.NIf.dec_ ?_ | refine V.a4 ?_ | refine V.a5 ?_ | refine V.NIf.mk (fun _ => ?_) (fun _ => ?_) | refine V.a7 ?_ | refine V.a8 ?_ | refine V.a9 ?_ | refine V.NBoth.mk ?_ ?_ | refine V.b1 ?_ | refine V.b2 ?_ | refine V.NTF.dec ?_ | refine V.b3 ?_ | refine V.b4 ?_ | (refine NIdx.mk ⟨k, rfl, by omega, ?_⟩) | (refine NIdx.mk ⟨p, by have := fp.1 (by assumption); omega, by omega, ?_⟩) | (refine NIdx.mk ⟨p, by have := fp.2 (by assumption); omega, by omega, ?_⟩) | (first | refine V.Fn.k0 (v_fleft _ o) rfl ?_ | refine V.Fn.q0 (v_fleft _ o) rfl ?_ | refine V.Fn.a0 (v_fleft _ o) rfl ?_) | (refine V.NYield.mk_ V.Tok V.mixed hL rfl rfl ?_) | ((first | refine V.Fn.k (c2) [0] rfl ?_ ?_ | refine V.Fn.q (c2) [0] rfl ?_ ?_ | refine V.Fn.a (c2) [0] rfl ?_ ?_); · exact V.D_) | ((first | refine V.Fn.k (c3) [2] rfl ?_ ?_ | refine V.Fn.q (c3) [2] rfl ?_ ?_ | refine V.Fn.a (c3) [2] rfl ?_ ?_); · exact V.D_) | (refine NPut.to (en := e1) (A.getD p default + 1) rfl rfl ?_) | (refine V.NDraw.any (by kernel_rfl) ?_) | fail)
      all_goals (conv => whnf)
      all_goals first
        | exact V.NBack.at_ (k + 1) [] (by omega) (by omega) V.S_ rfl ⟨ObLe.is_ (y1 (lt.1 ⟨by assumption, hd⟩)) (by rw [Rp.ag_len]; exact al), trivial⟩ V.S_ V.S_
        | exact V.NBack.at_ (k + 1) [] (by omega) (by omega) V.S_ rfl ⟨ObLe.as_ (y2 (fun z => absurd (lt.2 z).1 (by assumption))), trivial⟩ V.S_ V.S_
        | trace_state
    · have y2 := y2 (fun z => hd (lt.2 z).2)
      clear co c2 c3 fp sn ab y1
      repeat' ((conv => whnf); first | refine V.NCond.mk ?_ | refine V.NPick.l ?_ | refine V.NIf.not_ ?_ | refine V.NIf.dec_ ?_ | refine V.a4 ?_ | refine V.a5 ?_ | refine V.NIf.mk (fun _ => ?_) (fun _ => ?_) | refine V.a7 ?_ | refine V.a8 ?_ | refine V.a9 ?_ | refine V.NBoth.mk ?_ ?_ | refine V.b1 ?_ | refine V.b2 ?_ | refine V.NTF.dec ?_ | refine V.b3 ?_ | refine V.b4 ?_ | (refine NIdx.mk ⟨k, rfl, by omega, ?_⟩) | (first | refine V.Fn.k0 (v_fleft _ o) rfl ?_ | refine V.Fn.q0 (v_fleft _ o) rfl ?_ | refine V.Fn.a0 (v_fleft _ o) rfl ?_) | (refine V.NYield.mk_ V.Tok V.mixed hL rfl rfl ?_) | (refine V.NDraw.any (by kernel_rfl) ?_) | fail)
      all_goals (conv => whnf)
      all_goals first
        | exact V.NBack.at_ (k + 1) [] (by omega) (by omega) V.S_ rfl ⟨ObLe.as_ y2, trivial⟩ V.S_ V.S_
        | trace_state
  · obtain rfl : k = l.length := by omega
    rw [List.take_length]
    repeat' ((conv => whnf); first | refine V.NCond.mk ?_ | refine V.NPick.l ?_ | refine V.NIf.not_ ?_ | refine V.NIf.dec_ ?_ | refine V.a4 ?_ | refine V.a5 ?_ | refine V.NIf.mk (fun _ => ?_) (fun _ => ?_) | refine V.a7 ?_ | refine V.a8 ?_ | refine V.a9 ?_ | refine V.NBoth.mk ?_ ?_ | refine V.b1 ?_ | refine V.b2 ?_ | refine V.NTF.dec ?_ | refine V.b3 ?_ | refine V.b4 ?_ | (refine V.NDraw.any (by kernel_rfl) ?_) | fail)
    all_goals (conv => whnf)
    all_goals (first | exact V.erf 0 | exact V.erf 1 | exact V.erf 2 | exact V.erf 3 | exact V.erf 4 | exact V.erf 5 | exact V.erf 6 | exact V.erf 7 | exact V.erf 8 | exact V.erf 9 | exact V.erf 10 | exact V.erf 11 | exact V.erf 12 | exact V.erf 13 | exact V.erf 14 | exact V.erf 15 | exact V.erf 16 | exact V.erf 17)
end Go.Proofs.Ytdehibmofmfkbaa

namespace Go.Proofs.Ytdehibmofmfkbaa
structure Wt where
  id : Int
  wo : Int
instance : Inhabited Wt := ⟨⟨0, 0⟩⟩
namespace Rp
def Lt (a b : Wt) : Prop := b.wo < a.wo ∨ (a.wo = b.wo ∧ a.id < b.id)
instance (a b : Wt) : Decidable (Lt a b) := by unfold Lt; exact inferInstance
def cf (a b : Wt) : Int := if b.wo < a.wo then -1 else if a.wo < b.wo then 1 else if a.id < b.id then -1 else if b.id < a.id then 1 else 0
theorem cf_lt (a b : Wt) : decide (cf a b < 0) = decide (Lt a b) := by
  rw [decide_eq_decide]
  unfold cf Lt
  (repeat' split) <;> omega
theorem lt_irr (a : Wt) : ¬ Lt a a := by unfold Lt; omega
theorem lt_tr {a b c : Wt} (h : Lt a b) (k : Lt b c) : Lt a c := by unfold Lt at *; omega
theorem lt_ntr {a b c : Wt} (h : ¬ Lt a b) (k : ¬ Lt b c) : ¬ Lt a c := by unfold Lt at *; omega
theorem lt_eq {a b : Wt} (h : ¬ Lt a b) (k : ¬ Lt b a) : a = b := by
  cases a; cases b
  unfold Lt at h k
  simp only at h k
  congr 1 <;> omega
def srt (l : List Wt) : List Wt := l.mergeSort fun x y => !decide (Lt y x)
theorem srt_perm (l : List Wt) : (srt l).Perm l := List.mergeSort_perm _ _
theorem srt_len (l : List Wt) : (srt l).length = l.length := (srt_perm l).length_eq
theorem srt_up (l : List Wt) : (srt l).Pairwise fun x y => ¬ Lt y x := by
  have h := List.pairwise_mergeSort (le := fun x y => !decide (Lt y x)) (fun a b c h1 h2 => by
    simp only [Bool.not_eq_true', decide_eq_false_iff_not] at h1 h2 ⊢
    exact lt_ntr h2 h1) (fun a b => by
    by_cases q : Lt b a
    · have : ¬ Lt a b := fun z => lt_irr a (lt_tr z q)
      simp [q, this]
    · simp [q]) l
  refine h.imp fun {a b} q => ?_
  simpa using q
def wt (pr : List Int) (f : Fl) : Wt := ⟨f.id, P.cost (F.left f) (P.pr pr f.pa)⟩
def wts (pr : List Int) (l : List Fl) : List Wt := (l.filter fun f => decide (0 < F.left f)).map (wt pr)
def tp (pr : List Int) (l : List Fl) : List Wt := srt (wts pr l)
theorem wts_snoc {pr : List Int} {l : List Fl} {k : Nat} (h : k < l.length) : wts pr (l.take (k + 1)) = wts pr (l.take k) ++ if 0 < F.left (l.getD k default) then [wt pr (l.getD k default)] else [] := by
  unfold wts
  rw [List.take_succ_eq_append_getElem h, List.filter_append, List.map_append, ← getD_at h]
  by_cases e : 0 < F.left (l.getD k default)
  · rw [if_pos e, List.filter_cons_of_pos (by simpa using e)]; rfl
  · rw [if_neg e, List.filter_cons_of_neg (by simpa using e)]; rfl
theorem wts_len (pr : List Int) (l : List Fl) : (wts pr l).length ≤ l.length := by
  unfold wts; rw [List.length_map]; exact List.length_filter_le _ _
theorem tp_len (pr : List Int) (l : List Fl) : (tp pr l).length ≤ l.length := by
  unfold tp; rw [srt_len]; exact wts_len pr l
theorem mem_tp {pr : List Int} {l : List Fl} {x : Wt} : x ∈ tp pr l ↔ ∃ f ∈ l, 0 < F.left f ∧ wt pr f = x := by
  unfold tp
  rw [(srt_perm _).mem_iff]
  unfold wts
  rw [List.mem_map]
  constructor
  · rintro ⟨f, hf, e⟩
    obtain ⟨a, b⟩ := List.mem_filter.1 hf
    exact ⟨f, a, by simpa using b, e⟩
  · rintro ⟨f, a, b, e⟩
    exact ⟨f, List.mem_filter.2 ⟨a, by simpa using b⟩, e⟩
theorem tp_ids {pr : List Int} {l : List Fl} (h : (l.map (·.id)).Nodup) : ((tp pr l).map (·.id)).Nodup := by
  have p : ((tp pr l).map (·.id)).Perm ((wts pr l).map (·.id)) := (srt_perm _).map _
  rw [p.nodup_iff]
  have e : (wts pr l).map (·.id) = (l.filter fun f => decide (0 < F.left f)).map (·.id) := by
    unfold wts; rw [List.map_map]; rfl
  rw [e]
  exact h.sublist (List.Sublist.map _ List.filter_sublist)
theorem nodup_inj {α : Type} {l : List α} (h : l.Nodup) {i j : Nat} (hi : i < l.length) (hj : j < l.length) (e : l[i] = l[j]) : i = j := by
  have p := List.pairwise_iff_getElem.1 h
  rcases Nat.lt_trichotomy i j with q | q | q
  · exact absurd e (p i j hi hj q)
  · exact q
  · exact absurd e.symm (p j i hj hi q)
theorem nodup_of_map {α β : Type} {f : α → β} : ∀ {l : List α}, (l.map f).Nodup → l.Nodup
  | [], _ => List.nodup_nil
  | a :: r, h => by
    rw [List.map_cons, List.nodup_cons] at h
    exact List.nodup_cons.2 ⟨fun q => h.1 (List.mem_map_of_mem q), nodup_of_map h.2⟩
def In (pr : List Int) (l : List Fl) (k : Nat) (f : Fl) : Prop := 0 < F.left f ∧ wt pr f ∈ (tp pr l).take k
instance (pr : List Int) (l : List Fl) (k : Nat) (f : Fl) : Decidable (In pr l k f) := by
  have : DecidableEq Wt := fun a b => by
    by_cases h : a.id = b.id ∧ a.wo = b.wo
    · exact isTrue (by cases a; cases b; simp_all)
    · exact isFalse (fun e => h (by rw [e]; exact ⟨rfl, rfl⟩))
  unfold In
  exact inferInstance
def Un (pr : List Int) (l : List Fl) (k : Nat) (f : Fl) : Prop := 0 < F.left f ∧ ¬ In pr l k f
theorem in_0 (pr : List Int) (l : List Fl) (f : Fl) : ¬ In pr l 0 f := fun h => by simp [In] at h
def B (pr : List Int) (l : List Fl) (k : Nat) (i : Nat) (b : Int) : Prop :=
  (b = -1 ∧ ∀ j, j < i → ¬ Un pr l k (l.getD j default)) ∨ ∃ m : Nat, b = (m : Int) ∧ m < i ∧ Un pr l k (l.getD m default) ∧ ∀ j, j < i → Un pr l k (l.getD j default) → ¬ Lt (wt pr (l.getD j default)) (wt pr (l.getD m default))
section
variable {pr : List Int} {l : List Fl} {k i : Nat} {b : Int}
theorem B.zero : B pr l k 0 (-1) := .inl ⟨rfl, fun j h => absurd h (Nat.not_lt_zero _)⟩
theorem B.skip (h : B pr l k i b) (u : ¬ Un pr l k (l.getD i default)) : B pr l k (i + 1) b := by
  rcases h with ⟨e, a⟩ | ⟨m, e, hm, um, a⟩
  · refine .inl ⟨e, fun j hj => ?_⟩
    by_cases q : j = i
    · rw [q]; exact u
    · exact a j (by omega)
  · refine .inr ⟨m, e, by omega, um, fun j hj uj => ?_⟩
    by_cases q : j = i
    · rw [q] at uj; exact absurd uj u
    · exact a j (by omega) uj
theorem B.first (h : B pr l k i (-1)) (u : Un pr l k (l.getD i default)) : B pr l k (i + 1) i := by
  rcases h with ⟨e, a⟩ | ⟨m, e, _⟩
  · refine .inr ⟨i, rfl, by omega, u, fun j hj uj => ?_⟩
    by_cases q : j = i
    · rw [q]; exact lt_irr _
    · exact absurd uj (a j (by omega))
  · omega
theorem B.better {m : Nat} (h : B pr l k i m) (u : Un pr l k (l.getD i default)) (g : Lt (wt pr (l.getD i default)) (wt pr (l.getD m default))) : B pr l k (i + 1) i := by
  rcases h with ⟨e, a⟩ | ⟨m', e, hm, um, a⟩
  · omega
  · obtain rfl : m' = m := by omega
    refine .inr ⟨i, rfl, by omega, u, fun j hj uj => ?_⟩
    by_cases q : j = i
    · rw [q]; exact lt_irr _
    · exact fun z => a j (by omega) uj (lt_tr z g)
theorem B.stay {m : Nat} (h : B pr l k i m) (u : Un pr l k (l.getD i default)) (g : ¬ Lt (wt pr (l.getD i default)) (wt pr (l.getD m default))) : B pr l k (i + 1) m := by
  rcases h with ⟨e, a⟩ | ⟨m', e, hm, um, a⟩
  · omega
  · obtain rfl : m' = m := by omega
    refine .inr ⟨m', rfl, by omega, um, fun j hj uj => ?_⟩
    by_cases q : j = i
    · rw [q]; exact g
    · exact a j (by omega) uj
theorem B.cases_ (h : B pr l k i b) : b = -1 ∨ ∃ m : Nat, b = (m : Int) ∧ m < i ∧ 0 < F.left (l.getD m default) := by
  rcases h with ⟨e, _⟩ | ⟨m, e, hm, um, _⟩
  · exact .inl e
  · exact .inr ⟨m, e, hm, um.1⟩
theorem at_un (h : (l.map (·.id)).Nodup) (hk : k < (tp pr l).length) : ∃ j, j < l.length ∧ Un pr l k (l.getD j default) ∧ wt pr (l.getD j default) = (tp pr l).getD k default := by
  have m : (tp pr l).getD k default ∈ tp pr l := getD_mem hk
  obtain ⟨f, hf, h0, e⟩ := mem_tp.1 m
  obtain ⟨j, hj, rfl⟩ := List.getElem_of_mem hf
  refine ⟨j, hj, ?_, by rw [getD_at hj]; exact e⟩
  rw [getD_at hj]
  refine ⟨h0, fun q => ?_⟩
  have nd := nodup_of_map (tp_ids (pr := pr) h)
  have q2 := q.2
  rw [e, getD_at hk] at q2
  obtain ⟨i, hi, ei⟩ := List.getElem_of_mem q2
  rw [List.length_take] at hi
  rw [List.getElem_take] at ei
  have := nodup_inj nd (by omega) hk ei
  omega
theorem B.none (h : B pr l k l.length (-1)) (nd : (l.map (·.id)).Nodup) : (tp pr l).length ≤ k := by
  rcases h with ⟨_, a⟩ | ⟨m, e, _⟩
  · apply Classical.byContradiction
    intro q
    obtain ⟨j, hj, u, _⟩ := at_un (pr := pr) (k := k) nd (by omega)
    exact a j hj u
  · omega
theorem B.some_ {m : Nat} (h : B pr l k l.length m) (nd : (l.map (·.id)).Nodup) : m < l.length ∧ k < (tp pr l).length ∧ wt pr (l.getD m default) = (tp pr l).getD k default := by
  rcases h with ⟨e, _⟩ | ⟨m', e, hm, um, a⟩
  · omega
  · obtain rfl : m' = m := by omega
    have mem : wt pr (l.getD m' default) ∈ tp pr l := mem_tp.2 ⟨_, getD_mem hm, um.1, rfl⟩
    obtain ⟨p, hp, ep⟩ := List.getElem_of_mem mem
    have hkp : k ≤ p := by
      apply Classical.byContradiction
      intro q
      refine um.2 ⟨um.1, ?_⟩
      rw [← ep]
      exact List.mem_iff_getElem.2 ⟨p, by rw [List.length_take]; omega, List.getElem_take⟩
    have hk : k < (tp pr l).length := by omega
    obtain ⟨j, hj, uj, ej⟩ := at_un (pr := pr) nd hk
    have n1 := a j hj uj
    rw [ej] at n1
    refine ⟨hm, hk, ?_⟩
    by_cases e : k = p
    · subst e; rw [← ep, getD_at hk]
    · have up := List.pairwise_iff_getElem.1 (srt_up (wts pr l)) k p hk hp (by omega)
      refine lt_eq (fun z => ?_) n1
      rw [getD_at hk] at z
      rw [← ep] at z
      exact up z
theorem in_next {m : Nat} (nd : (l.map (·.id)).Nodup) (hk : k < (tp pr l).length) (hm : m < l.length) (u : 0 < F.left (l.getD m default)) (e : wt pr (l.getD m default) = (tp pr l).getD k default) {j : Nat} (hj : j < l.length) :
    In pr l (k + 1) (l.getD j default) ↔ j = m ∨ In pr l k (l.getD j default) := by
  have t : (tp pr l).take (k + 1) = (tp pr l).take k ++ [(tp pr l).getD k default] := by rw [List.take_succ_eq_append_getElem hk, getD_at hk]
  unfold In
  rw [t, List.mem_append, List.mem_singleton, ← e]
  constructor
  · rintro ⟨a, b | b⟩
    · exact .inr ⟨a, b⟩
    · left
      have i : (l.getD j default).id = (l.getD m default).id := congrArg Wt.id b
      have : (l.map (·.id))[j]'(by simpa using hj) = (l.map (·.id))[m]'(by simpa using hm) := by
        rw [List.getElem_map, List.getElem_map, ← getD_at hj, ← getD_at hm]; exact i
      exact nodup_inj nd (by simpa using hj) (by simpa using hm) this
  · rintro (rfl | ⟨a, b⟩)
    · exact ⟨u, .inr rfl⟩
    · exact ⟨a, .inl b⟩
end
def tE (l : List Fl) (pr : List Int) (many : Int) : Int := if F.checks l ≠ 0 then F.checks l else if P.chks pr ≠ 0 then P.chks pr else if 0 ≤ many ∧ many ≤ 60 then 0 else 3
def tV (l : List Fl) (pr : List Int) (many : Int) : List Int := if tE l pr many = 0 then ((tp pr l).take many.toNat).map (·.id) else []
section
variable {l : List Fl} {pr : List Int} {many : Int}
theorem tE_1 (h : ¬ F.checks l = 0) : tE l pr many = F.checks l := if_pos h
theorem tE_2 (h : F.checks l = 0) (k : ¬ P.chks pr = 0) : tE l pr many = P.chks pr := (if_neg (by omega)).trans (if_pos k)
theorem tE_3 (h : F.checks l = 0) (k : P.chks pr = 0) (n : ¬ (0 ≤ many ∧ many ≤ 60)) : tE l pr many = 3 := (if_neg (by omega)).trans ((if_neg (by omega)).trans (if_neg n))
theorem tE_4 (h : F.checks l = 0) (k : P.chks pr = 0) (n : 0 ≤ many ∧ many ≤ 60) : tE l pr many = 0 := (if_neg (by omega)).trans ((if_neg (by omega)).trans (if_pos n))
theorem tE_ok (h : tE l pr many = 0) : F.checks l = 0 ∧ P.chks pr = 0 ∧ 0 ≤ many ∧ many ≤ 60 := by
  unfold tE at h
  split at h
  · exact absurd h (by assumption)
  · split at h
    · exact absurd h (by assumption)
    · split at h
      · exact ⟨by omega, by omega, by assumption⟩
      · cases h
theorem tV_yes (h : tE l pr many = 0) : tV l pr many = ((tp pr l).take many.toNat).map (·.id) := if_pos h
theorem tV_no (h : ¬ tE l pr many = 0) : tV l pr many = [] := if_neg h
end
end Rp
end Go.Proofs.Ytdehibmofmfkbaa

namespace Go.Proofs.Ytdehibmofmfkbaa.V
open Go Go.RowKit Go.Sort
theorem Cls.inPlaceK {B nx : Nat} {ρ : Rho} {obs : Obs} {w w' : World} {i t s n n' : Nat} {get g : Nat → List Value} {v : Value} (h : Cls B ρ obs nx w) (ho : fnd obs i = some (.row t s n get)) (hv : ρ i = some v) (hr : RowIs B w' v t s n' g)
    (hg : w.grownBy w' (footV v)) : Cls B ρ ((i, .row t s n' g) :: obs) nx w' := by
  have fi : foot ρ i (.row t s n get) = footV v := by
    obtain ⟨v2, e, hr2⟩ := h.sat i _ ho
    rw [hv] at e; injection e with e; subst e
    exact foot_rowV hv hr2
  have fn_ : foot ρ i (.row t s n' g) = footV v := foot_rowV hv hr
  have apart_ : ∀ j o b, i ≠ j → fnd obs j = some o → foot ρ j o = some b → footV v ≠ some b := fun j o b hne hj hb e => by
    have h1 : foot ρ i (.row t s n get) = some b := fi.trans e
    exact h.apart i j _ o b ho hj hne rfl h1 hb
  have subA : ∀ j u b, fnd obs j = some u → sub u b → footV v ≠ some b := fun j u b hu hb q => (h.apx j i u _ b hu ho hb).1 (fi.trans q)
  refine ⟨Nat.le_trans h.le hg.size, fun j u hu => ?_, fun j k o1 o2 c h1 h2 hne hmu hf1 => ?_, h.new, Apx.cons h.apx (fun _ _ _ _ => rfl) fun j u b _ hu hb q => subA j u b hu hb (fn_.symm.trans q)⟩
  · rcases fnd_cons hu with ⟨rfl, rfl⟩ | ⟨hn, hu⟩
    · exact ⟨v, hv, hr⟩
    · exact (h.sat j u hu).keep hg.size (fun b hb => hg.block b (foot_lt (h.sat j u hu) hb) (fun e => apart_ j u b hn hu hb e.symm)) fun b hb => hg.block b (sub_lt (h.sat j u hu) hb).2 (fun e => subA j u b hu hb e.symm)
  · rcases fnd_cons h1 with ⟨rfl, rfl⟩ | ⟨hn1, h1⟩
    · rcases fnd_cons h2 with ⟨rfl, rfl⟩ | ⟨hn2, h2⟩
      · exact absurd rfl hne
      · rw [fn_] at hf1
        intro q
        exact apart_ k o2 c hn2 h2 q hf1
    · rcases fnd_cons h2 with ⟨rfl, rfl⟩ | ⟨hn2, h2⟩
      · rw [fn_]
        exact apart_ j o1 c hn1 h1 hf1
      · exact h.apart j k o1 o2 c h1 h2 hne hmu hf1
theorem holdsV {w : World} {g : Nat} {cur : Array Value} {e : TypeId} {F : Array Value} (hb : w.heap[g]? = some (.cells cur e (0, 0))) (ht : cur.toList.take F.size = F.toList) : Holds id w g 0 F := by
  intro j hj
  refine ⟨?_, by simp [World.frozen?, hb]⟩
  have h1 : (cur.toList.take F.size)[j]? = F.toList[j]? := by rw [ht]
  rw [List.getElem?_take_of_lt hj] at h1
  simp only [World.cell?, hb, Nat.zero_add]
  simp only [Option.isSome_none, Bool.false_eq_true, if_false]
  rw [← Array.getElem?_toList, h1]
  simp [hj]
theorem heapV {w : World} {g n : Nat} {os : Array Obj} {cur : Array Value} {e : TypeId} {fr : Nat × Nat} (d : Array Value) (hb : w.heap[g]? = some (.cells cur e fr)) :
    (grow (putRow id (Sort.ahead w n) g 0 d) os).heap[g]? = some (.cells (putCells id 0 d cur) e fr) := by
  have hg : g < w.heap.size := (Array.getElem?_eq_some_iff.1 hb).1
  rw [heap_grow_old _ _ (by simpa using hg)]
  simp [putRow, mapBlock, Sort.ahead, Array.getElem?_modify, hb, onCells]
theorem grownV {w : World} {g n : Nat} {os : Array Obj} (d : Array Value) : w.grownBy (grow (putRow id (Sort.ahead w n) g 0 d) os) (some g) := by
  refine ⟨rfl, rfl, rfl, by simp, fun k hk hne => ?_⟩
  rw [heap_grow_old _ _ (by simpa using hk)]
  have : g ≠ k := fun e => hne (by rw [e])
  simp [putRow, mapBlock, Sort.ahead, Array.getElem?_modify, this]
theorem takeV (cur : Array Value) (F : Array Value) (h : F.size ≤ cur.size) : (putCells id 0 F cur).toList.take F.size = F.toList := by
  apply List.ext_getElem?
  intro j
  by_cases hj : j < F.size
  · rw [List.getElem?_take_of_lt hj, Array.getElem?_toList]
    simp [putCells, hj, show j < cur.size by omega]
  · rw [List.getElem?_take_eq_none (by omega), List.getElem?_eq_none (by simp; omega)]
section
variable {α : Type} [Inhabited α] {enc : α → List Value} {k : Nat}
theorem flat_size (hk : ∀ x, (enc x).length = k) (l : List α) : ∀ n, (flat (ga enc l) n).length = n * k := fun n => by
  induction n with
  | zero => simp [flat]
  | succ n ih =>
    have : flat (ga enc l) (n + 1) = flat (ga enc l) n ++ ga enc l n := by unfold flat; rw [List.range_succ, List.flatMap_append]; simp
    rw [this, List.length_append, ih, show (ga enc l n).length = k from hk _, Nat.add_mul]; omega
theorem flat_at (hk : ∀ x, (enc x).length = k) (l : List α) (n : Nat) : ∀ m, m ≤ n → ∀ t, t < m * k → (flat (ga enc l) m)[t]? = (enc (l.getD (t / k) default))[t % k]? := fun m hm => by
  induction m with
  | zero => intro t ht; omega
  | succ m ih =>
    intro t ht
    have e : flat (ga enc l) (m + 1) = flat (ga enc l) m ++ ga enc l m := by unfold flat; rw [List.range_succ, List.flatMap_append]; simp
    have sz := flat_size hk l m
    rw [e]
    by_cases q : t < m * k
    · rw [List.getElem?_append_left (by omega)]
      exact ih (by omega) t q
    · rw [List.getElem?_append_right (by omega), sz]
      have kp : 0 < k := by
        rcases Nat.eq_zero_or_pos k with z | z
        · rw [z, Nat.mul_zero] at ht; omega
        · exact z
      have h1 : t < (m + 1) * k := ht
      have d : t / k = m := by
        rw [Nat.div_eq_iff kp]
        rw [Nat.add_mul] at h1
        omega
      have r : t % k = t - m * k := by
        have := Nat.div_add_mod t k
        rw [d, Nat.mul_comm] at this
        omega
      rw [d, r]
      rfl
theorem flatK_list (hk : ∀ x, (enc x).length = k) (l : List α) : (flatK enc k l.toArray).toList = flat (ga enc l) l.length := by
  have hs := flat_size hk l l.length
  apply List.ext_getElem?
  intro t
  by_cases ht : t < l.length * k
  · have kp : 0 < k := by
      rcases Nat.eq_zero_or_pos k with z | z
      · rw [z, Nat.mul_zero] at ht; omega
      · exact z
    have hd : t / k < l.length := Nat.div_lt_of_lt_mul (by rw [Nat.mul_comm]; exact ht)
    have hm : t % k < (enc (l.getD (t / k) default)).length := by rw [hk]; exact Nat.mod_lt _ kp
    rw [flat_at hk l l.length l.length (Nat.le_refl _) t ht, List.getElem?_eq_getElem hm]
    unfold flatK
    have e : l.toArray[t / k]! = l.getD (t / k) default := by
      simp [List.getD, hd]
    simp only [List.size_toArray, Array.toList_map, Array.toList_range, List.getElem?_map]
    rw [List.getElem?_range ht]
    simp only [Option.map_some, e]
    congr 1
    exact getElem!_pos (enc (l.getD (t / k) default)) (t % k) hm
  · rw [List.getElem?_eq_none (by unfold flatK; simp; omega), List.getElem?_eq_none (by omega)]
end
end Go.Proofs.Ytdehibmofmfkbaa.V

namespace Go.Proofs.Ytdehibmofmfkbaa
open Go Go.RowKit V
namespace Cm
def cmp (u v : Int) : Int := if u < v then -1 else if v < u then 1 else 0
def or2 (u v : Int) : Int := if u = 0 then v else u
theorem grown_of {w w' : World} (h : @Belw ⟨True⟩ w.heap.size w w') : ∃ q os', w' = Go.Sort.grow (w.drewN q) os' := by
  refine ⟨w'.drawn - w.drawn, w'.heap.extract w.heap.size w'.heap.size, ?_⟩
  have hd := @Belw.drawn ⟨True⟩ _ _ _ h trivial
  have hb := (@Belw.toBelow ⟨True⟩ _ _ _ h)
  obtain ⟨h1, h2, h3, h4, h5⟩ := hb
  have hh : w'.heap = w.heap ++ w'.heap.extract w.heap.size w'.heap.size := by
    apply Array.ext_getElem?
    intro k
    by_cases hk : k < w.heap.size
    · rw [h5 k hk, Array.getElem?_append_left hk]
    · rw [Array.getElem?_append_right (by omega), Array.getElem?_extract]
      by_cases hk2 : k < w'.heap.size
      · rw [if_pos (by omega)]
        congr 1
        omega
      · rw [if_neg (by omega), Array.getElem?_eq_none (by omega)]
  cases w with
  | mk heap tape drawn os output =>
    cases w' with
    | mk heap' tape' drawn' os' output' =>
      simp only at h1 h2 h3 hd hh
      subst h1 h2 h3
      unfold Go.Sort.grow World.drewN
      simp only
      rw [← hh]
      congr 1
      omega
theorem lays {P : Program} {g : FuncId} {xs : List Value} {r : Value} {args : List SV} (h : @V.Fn ⟨True⟩ P g [] args r) (ha : ∀ ρ : V.Rho, Svs ρ args xs) (w : World) : Calls P g xs.toArray w fun e w' => e = .returned r ∧ ∃ q os', w' = Go.Sort.grow (w.drewN q) os' :=
  (@V.Fn.c ⟨True⟩ _ _ _ _ _ h w (fun _ => none) xs (fun i o q => by simp at q) (ha _)).mono fun e w' q => ⟨q.1, grown_of q.2⟩
end Cm
section
variable [Dr]
theorem v_isNaN_d (x : Int) : V.Fn Try.prog 66 [] [.one (.val (.int .i64 x))] (.bool false) := by
  refine V.Fn.mk_ V.Tok V.mixed Try.func66 rfl Try.ntmps66 (by kernel_rfl) rfl rfl ?_
  repeat' ((conv => whnf); first | refine V.NCond.mk ?_ | refine V.NPick.l ?_ | refine V.NIf.not_ ?_ | refine V.NIf.dec_ ?_ | refine V.a4 ?_ | refine V.a5 ?_ | refine V.NIf.mk (fun _ => ?_) (fun _ => ?_) | refine V.a7 ?_ | refine V.a8 ?_ | refine V.a9 ?_ | refine V.NBoth.mk ?_ ?_ | refine V.b1 ?_ | refine V.b2 ?_ | refine V.NTF.dec ?_ | refine V.b3 ?_ | refine V.b4 ?_ | (refine V.NDraw.any (by kernel_rfl) ?_) | fail)
  all_goals (conv => whnf)
  all_goals exact ⟨false, rfl, iff_of_false (by omega) (by decide)⟩
theorem v_compare_d (u v : Int) : V.Fn Try.prog 41 [] [.one (.val (.int .i64 u)), .one (.val (.int .i64 v))] (.int .i64 (Cm.cmp u v)) := by
  have c1 : u < v → Cm.cmp u v = -1 := fun h => if_pos h
  have c2 : ¬ u < v → v < u → Cm.cmp u v = 1 := fun h k => (if_neg h).trans (if_pos k)
  have c3 : ¬ u < v → ¬ v < u → Cm.cmp u v = 0 := fun h k => (if_neg h).trans (if_neg k)
  refine V.Fn.mk_ V.Tok V.mixed Try.func41 rfl Try.ntmps41 (by kernel_rfl) rfl rfl ?_
  repeat' ((conv => whnf); first | (refine V.NIf.yes ?_ ?_; · (decide; done)) | (refine V.NIf.no ?_ ?_; · (decide; done)) | refine V.NCond.mk ?_ | refine V.NPick.l ?_ | refine V.NIf.not_ ?_ | refine V.NIf.dec_ ?_ | refine V.a4 ?_ | refine V.a5 ?_ | refine V.NIf.mk (fun _ => ?_) (fun _ => ?_) | refine V.a7 ?_ | refine V.a8 ?_ | refine V.a9 ?_ | refine V.NBoth.mk ?_ ?_ | refine V.b1 ?_ | refine V.b2 ?_ | refine V.NTF.dec ?_ | refine V.b3 ?_ | refine V.b4 ?_ | (first | refine V.Fn.k0 (v_isNaN_d _) rfl ?_ | refine V.Fn.q0 (v_isNaN_d _) rfl ?_ | refine V.Fn.a0 (v_isNaN_d _) rfl ?_) | (refine V.NDraw.any (by kernel_rfl) ?_) | fail)
  all_goals (conv => whnf)
  · rw [c1 (by assumption)]
  · rw [c2 (by assumption) (by assumption)]
  · rw [c3 (by assumption) (by assumption)]
set_option maxHeartbeats 4000000 in
theorem v_or_d (u v : Int) : V.Fn Try.prog 40 [.arr 1 2 (ga e1 [u, v])] [.one (.ref 0)] (.int .i64 (Cm.or2 u v)) := by
  have o1 : ¬ u = 0 → Cm.or2 u v = u := fun h => if_neg h
  have o2 : u = 0 → Cm.or2 u v = v := fun h => if_pos h
  refine V.Fn.mk_ V.Tok V.mixed Try.func40 rfl Try.ntmps40 (by kernel_rfl) rfl rfl ?_
  repeat' ((conv => whnf); first | refine V.NCond.mk ?_ | refine V.NPick.l ?_ | refine V.NIf.not_ ?_ | refine V.NIf.dec_ ?_ | refine V.a4 ?_ | refine V.a5 ?_ | refine V.NIf.mk (fun _ => ?_) (fun _ => ?_) | refine V.a7 ?_ | refine V.a8 ?_ | refine V.a9 ?_ | refine V.NBoth.mk ?_ ?_ | refine V.b1 ?_ | refine V.b2 ?_ | refine V.NTF.dec ?_ | refine V.b3 ?_ | refine V.b4 ?_ | (refine V.NDraw.any (by kernel_rfl) ?_) | fail)
  all_goals (conv => whnf)
  refine V.NLoop.auto (fun (k : Nat) => [(8, .one (.val (.int .i64 k)))]) (fun (k : Nat) => []) [] [] (fun (k : Nat) => 2 - k) (fun (k : Nat) => k ≤ 2 ∧ (0 < k → u = 0) ∧ (1 < k → v = 0)) 0 ⟨Nat.zero_le _, fun h => absurd h (by decide), fun h => absurd h (by decide)⟩ V.S_ V.S_ (fun _ => ⟨rfl, rfl⟩) ?_; (conv => whnf); refine ⟨⟨rfl, rfl⟩, ?_⟩
  rintro k ⟨hk, h1, h2⟩
  match k, hk with
  | 0, _ =>
    repeat' ((conv => whnf); first | refine V.NCond.mk ?_ | refine V.NPick.l ?_ | refine V.NIf.not_ ?_ | refine V.NIf.dec_ ?_ | refine V.a4 ?_ | refine V.a5 ?_ | refine V.NIf.mk (fun _ => ?_) (fun _ => ?_) | refine V.a7 ?_ | refine V.a8 ?_ | refine V.a9 ?_ | refine V.NBoth.mk ?_ ?_ | refine V.b1 ?_ | refine V.b2 ?_ | refine V.NTF.dec ?_ | refine V.b3 ?_ | refine V.b4 ?_ | (refine NIdx.mk ⟨0, rfl, by omega, ?_⟩) | (refine V.NDraw.any (by kernel_rfl) ?_) | fail)
    all_goals (conv => whnf)
    all_goals first
      | exact V.fin1 (o1 (by assumption))
      | (rename_i q; exact V.NBack.at_ 1 [] ⟨by omega, fun _ => q, fun h => absurd h (by decide)⟩ (by omega) V.S_ rfl V.S_ V.S_ V.S_)
  | 1, _ =>
    have := h1 (by decide)
    repeat' ((conv => whnf); first | refine V.NCond.mk ?_ | refine V.NPick.l ?_ | refine V.NIf.not_ ?_ | refine V.NIf.dec_ ?_ | refine V.a4 ?_ | refine V.a5 ?_ | refine V.NIf.mk (fun _ => ?_) (fun _ => ?_) | refine V.a7 ?_ | refine V.a8 ?_ | refine V.a9 ?_ | refine V.NBoth.mk ?_ ?_ | refine V.b1 ?_ | refine V.b2 ?_ | refine V.NTF.dec ?_ | refine V.b3 ?_ | refine V.b4 ?_ | (refine NIdx.mk ⟨1, rfl, by omega, ?_⟩) | (refine V.NDraw.any (by kernel_rfl) ?_) | fail)
    all_goals (conv => whnf)
    all_goals first
      | exact V.fin1 (o2 this)
      | (rename_i q; exact V.NBack.at_ 2 [] ⟨by omega, fun _ => this, fun _ => q⟩ (by omega) V.S_ rfl V.S_ V.S_ V.S_)
  | 2, _ =>
    have a := h1 (by decide)
    have b := h2 (by decide)
    repeat' ((conv => whnf); first | refine V.NCond.mk ?_ | refine V.NPick.l ?_ | refine V.NIf.not_ ?_ | refine V.NIf.dec_ ?_ | refine V.a4 ?_ | refine V.a5 ?_ | refine V.NIf.mk (fun _ => ?_) (fun _ => ?_) | refine V.a7 ?_ | refine V.a8 ?_ | refine V.a9 ?_ | refine V.NBoth.mk ?_ ?_ | refine V.b1 ?_ | refine V.b2 ?_ | refine V.NTF.dec ?_ | refine V.b3 ?_ | refine V.b4 ?_ | (refine V.NDraw.any (by kernel_rfl) ?_) | fail)
    all_goals (conv => whnf)
    exact V.fin1 ((o2 a).trans b)
end
end Go.Proofs.Ytdehibmofmfkbaa

namespace Go.Proofs.Ytdehibmofmfkbaa.V
open Go Go.RowKit Go.Sort Go.Shelf
set_option maxHeartbeats 1000000 in
theorem NCall.sortK {P : Program} {R : Ren} {α : Type} [Inhabited α] (L : SlLaysF0.n6 P R) (k : Nat) (hk0 : 0 < k) (aE : ∀ w, (isAgg (R.t 24)).run P w = .ok true w) (zE : ∀ w, (Go.sizeOf (R.t 24)).run P w = .ok k w) (enc : α → List Value) (hk : ∀ x, (enc x).length = k) (h1 : ∀ x, ∀ v ∈ enc x, v.oneCell' = true)
    (cf : α → α → Int) (hO : SWO (ltOf cf)) (hT : ∀ x y, (ltOf cf) x y = false → (ltOf cf) y x = false → x = y) (g : FuncId) (hb : hasBody P (R.f 6) = true) (eg : ∀ args w, (callFunc g args).run P w = .ok (.enter g args) w)
    (hc : ∀ x y w, Calls P g #[.agg (enc x).toArray, .agg (enc y).toArray] w fun e w' => e = .returned (.int .i64 (cf x y)) ∧ ∃ q os', w' = grow (w.drewN q) os')
    {obs : Obs} {nx : Nat} {K : SV → Obs → Nat → Prop} (i : Nat) {t : TypeId} (l : List α) {get : Nat → List Value} (ho : fnd obs i = some (.row t k l.length get)) (hg : ∀ j, j < l.length → get j = ga enc l j) (hl : l.length < 4611686018427387904)
    (h : K (.tup []) ((i, .row t k l.length (ga enc (l.mergeSort fun x y => !(ltOf cf) y x))) :: obs) nx) : NCall P (R.f 6) [.one (.ref i), .one (.clo g [])] obs nx K := by
  refine ⟨hb, fun B ρ w xs hC hxs => ?_⟩
  obtain ⟨x, _, rfl, ⟨hx, _⟩, y, _, rfl, ⟨cs, hcs, rfl⟩, rfl⟩ := hxs
  obtain rfl : cs = [] := hcs
  obtain ⟨v, hv, hr⟩ := hC.sat i _ ho
  rw [hx] at hv
  injection hv with hv
  subst hv
  have hr0 := hr.congr (g := ga enc l) fun j hj => (hg j hj).symm
  obtain ⟨A, c, rfl, hn, hlen, hcase⟩ := hr0
  rcases hcase with ⟨h0, hc0⟩ | ⟨b, cur, rfl, hB, hgc, hnc, hc0, hcm, hcs', htk⟩
  · subst hc0
    have el : l = [] := List.eq_nil_of_length_eq_zero h0
    subst el
    refine (AnyF.slices_SortFunc_none L A 0 _ w).mono ?_
    rintro e w' ⟨rfl, rfl⟩
    refine ⟨_, _, _, ρ, _, h, fun _ _ q => q, rfl, ⟨[], rfl, rfl⟩, ?_, Belw.refl _ _, Oth.refl _⟩
    refine hC.inPlaceK ho hx ⟨A, 0, rfl, hn, fun k hk => absurd hk (Nat.not_lt_zero _), .inl ⟨rfl, rfl⟩⟩ ⟨rfl, rfl, rfl, Nat.le_refl _, fun _ _ _ => rfl⟩
  · have hF0 := flatK_list hk l
    have hsz0 : (flatK enc k l.toArray).size = l.length * k := by simp
    rw [← hF0, ← hsz0] at htk
    have hH : HoldsK enc k w b 0 l.toArray := holdsV hgc htk
    have hlt := (Array.getElem?_eq_some_iff.1 hgc).1
    refine (AnyQ.slices_SortFunc_total L k aE zE enc hk h1 cf hO g #[] b 0 c l.toArray w eg (fun m os dk _ x y => hc x y _) hH hlt (by simpa using hl) hT).mono ?_
    rintro e w' ⟨rfl, n, os, rfl⟩
    generalize hM : (l.toArray.toList.mergeSort fun x y => !(ltOf cf) y x) = M
    have hM' : (l.mergeSort fun x y => !(ltOf cf) y x) = M := hM
    rw [hM'] at h
    have hML : M.length = l.length := by rw [← hM']; simp
    have hG := grownV (w := w) (g := b) (n := n) (os := os) (flatK enc k M.toArray)
    have hS := heapV (w := w) (g := b) (n := n) (os := os) (flatK enc k M.toArray) hgc
    have hszM : (flatK enc k M.toArray).size = l.length * k := by simp [hML]
    have hT2 := takeV cur (flatK enc k M.toArray) (by rw [hszM, hcs']; exact Nat.mul_le_mul_right _ hnc)
    rw [flatK_list hk M, hML, hszM] at hT2
    have hF : footV (.slice (some ⟨b, 0, none⟩) l.length c) = some b := by
      unfold footV
      cases c with
      | zero => omega
      | succ c => rfl
    refine ⟨_, _, _, ρ, _, h, fun _ _ q => q, rfl, ⟨[], rfl, rfl⟩, hC.inPlaceK ho hx ⟨_, c, rfl, hn, fun j hj => hk _, .inr ⟨b, _, rfl, hB, hS, hnc, hc0, hcm, by simpa [putCells] using hcs', hT2⟩⟩ (by rw [hF]; exact hG), ⟨⟨hG.os, hG.tape, hG.output, hG.size, fun j hj => hG.block j (by have := hC.le; omega) (fun e => by injection e with e; omega)⟩, fun _ => Nat.le_add_right _ _⟩, fun j D hj => ?_⟩
    exact (hG.block j (Array.getElem?_eq_some_iff.1 hj).1 (fun e => by injection e with e; subst e; rw [hgc] at hj; cases hj)).trans hj
end Go.Proofs.Ytdehibmofmfkbaa.V

namespace Go.Proofs
open Go.Shelf
def Try.sortW_ren : Go.Shelf.Ren := ⟨fun | 6 => 38 | 15 => 65 | 14 => 64 | 28 => 82 | 29 => 83 | 20 => 74 | 21 => 75 | 22 => 76 | 23 => 77 | 24 => 78 | 25 => 79 | 26 => 80 | 27 => 81 | 46 => 85 | 47 => 86 | 48 => 87 | 49 => 88 | 50 => 89 | 57 => 92 | n => n, fun | 22 => 64 | 24 => 68 | 25 => 72 | 3 => 3 | 39 => 92 | 0 => 0 | 53 => 109 | 55 => 111 | 4 => 4 | 46 => 103 | 45 => 102 | 50 => 62 | 5 => 5 | 9 => 9 | 66 => 114 | 70 => 118 | 76 => 123 | 77 => 81 | n => n, fun | n => n⟩
theorem Try.sortW : Go.Proofs.SlLaysF0.n6 Try.prog Try.sortW_ren := {
  mixed := by kernel_rfl
  f6 := ⟨Try.f38.name, by decide, Try.func38.trans (congrArg some (by kernel_rfl))⟩
  f14 := ⟨Try.f64.name, by decide, Try.func64.trans (congrArg some (by kernel_rfl))⟩
  f15 := Try.func65.trans (congrArg some (by kernel_rfl))
  f20 := ⟨Try.f74.name, by decide, Try.func74.trans (congrArg some (by kernel_rfl))⟩
  f21 := ⟨Try.f75.name, by decide, Try.func75.trans (congrArg some (by kernel_rfl))⟩
  f22 := ⟨Try.f76.name, by decide, Try.func76.trans (congrArg some (by kernel_rfl))⟩
  f23 := ⟨Try.f77.name, by decide, Try.func77.trans (congrArg some (by kernel_rfl))⟩
  f24 := ⟨Try.f78.name, by decide, Try.func78.trans (congrArg some (by kernel_rfl))⟩
  f25 := ⟨Try.f79.name, by decide, Try.func79.trans (congrArg some (by kernel_rfl))⟩
  f26 := ⟨Try.f80.name, by decide, Try.func80.trans (congrArg some (by kernel_rfl))⟩
  f27 := ⟨Try.f81.name, by decide, Try.func81.trans (congrArg some (by kernel_rfl))⟩
  f28 := Try.func82.trans (congrArg some (by kernel_rfl))
  f29 := Try.func83.trans (congrArg some (by kernel_rfl))
  f46 := ⟨Try.f85.name, by decide, Try.func85.trans (congrArg some (by kernel_rfl))⟩
  f47 := Try.func86.trans (congrArg some (by kernel_rfl))
  f48 := Try.func87.trans (congrArg some (by kernel_rfl))
  f49 := ⟨Try.f88.name, by decide, Try.func88.trans (congrArg some (by kernel_rfl))⟩
  f50 := ⟨Try.f89.name, by decide, Try.func89.trans (congrArg some (by kernel_rfl))⟩
  f57 := ⟨Try.f92.name, by decide, Try.func92.trans (congrArg some (by kernel_rfl))⟩
  t0 := Try.underlying0
  a0 := Try.isAgg0
  z0 := Try.sizeOf0
  v0 := Try.zeroValue0
  t3 := Try.underlying3
  a3 := Try.isAgg3
  z3 := Try.sizeOf3
  v3 := Try.zeroValue3
  t4 := Try.underlying4
  a4 := Try.isAgg4
  z4 := Try.sizeOf4
  v4 := Try.zeroValue4
  t5 := Try.underlying5
  a5 := Try.isAgg5
  z5 := Try.sizeOf5
  v5 := Try.zeroValue5
  t9 := Try.underlying9
  a9 := Try.isAgg9
  z9 := Try.sizeOf9
  v9 := Try.zeroValue9
  t22 := Try.underlying64
  a22 := Try.isAgg64
  z22 := Try.sizeOf64
  v22 := Try.zeroValue64
  t25 := Try.underlying72
  a25 := Try.isAgg72
  z25 := Try.sizeOf72
  v25 := Try.zeroValue72
  t39 := Try.underlying92
  a39 := Try.isAgg92
  z39 := Try.sizeOf92
  v39 := Try.zeroValue92
  t45 := Try.underlying102
  a45 := Try.isAgg102
  z45 := Try.sizeOf102
  v45 := Try.zeroValue102
  t46 := Try.underlying103
  a46 := Try.isAgg103
  z46 := Try.sizeOf103
  v46 := Try.zeroValue103
  t50 := Try.underlying62
  a50 := Try.isAgg62
  z50 := Try.sizeOf62
  v50 := Try.zeroValue62
  t53 := Try.underlying109
  a53 := Try.isAgg109
  z53 := Try.sizeOf109
  v53 := Try.zeroValue109
  t55 := Try.underlying111
  a55 := Try.isAgg111
  z55 := Try.sizeOf111
  v55 := Try.zeroValue111
  t66 := Try.underlying114
  a66 := Try.isAgg114
  z66 := Try.sizeOf114
  v66 := Try.zeroValue114
  t70 := Try.underlying118
  a70 := Try.isAgg118
  z70 := Try.sizeOf118
  v70 := Try.zeroValue118
  t76 := Try.underlying123
  a76 := Try.isAgg123
  z76 := Try.sizeOf123
  v76 := Try.zeroValue123
  t77 := Try.underlying81
  a77 := Try.isAgg81
  z77 := Try.sizeOf81
  v77 := Try.zeroValue81 }
end Go.Proofs

namespace Go.Proofs.Ytdehibmofmfkbaa
open Go Go.RowKit V
theorem cf_is (x y : Wt) : Rp.cf x y = Cm.or2 (Cm.cmp y.wo x.wo) (Cm.cmp x.id y.id) := by
  unfold Rp.cf Cm.or2 Cm.cmp
  (repeat' split) <;> omega
section
variable [Dr]
theorem v_topcmp (x y : Wt) : V.Fn Try.prog 39 [] [.agg [.val (.int .i64 x.id), .val (.int .i64 x.wo)], .agg [.val (.int .i64 y.id), .val (.int .i64 y.wo)]] (.int .i64 (Rp.cf x y)) := by
  have c1 := v_compare_d y.wo x.wo
  have c2 := v_compare_d x.id y.id
  have c3 := v_or_d (Cm.cmp y.wo x.wo) (Cm.cmp x.id y.id)
  rw [cf_is]
  generalize Cm.cmp y.wo x.wo = X at *
  generalize Cm.cmp x.id y.id = Y at *
  generalize Cm.or2 X Y = Z at *
  refine V.Fn.mk_ V.Tok V.mixed Try.func39 rfl Try.ntmps39 (by kernel_rfl) rfl rfl ?_
  repeat' ((conv => whnf); first | refine V.NCond.mk ?_ | refine V.NPick.l ?_ | refine V.NIf.not_ ?_ | refine V.NIf.dec_ ?_ | refine V.a4 ?_ | refine V.a5 ?_ | refine V.NIf.mk (fun _ => ?_) (fun _ => ?_) | refine V.a7 ?_ | refine V.a8 ?_ | refine V.a9 ?_ | refine V.NBoth.mk ?_ ?_ | refine V.b1 ?_ | refine V.b2 ?_ | refine V.NTF.dec ?_ | refine V.b3 ?_ | refine V.b4 ?_ | (first | refine V.Fn.k0 (c1) rfl ?_ | refine V.Fn.q0 (c1) rfl ?_ | refine V.Fn.a0 (c1) rfl ?_) | (first | refine V.Fn.k0 (c2) rfl ?_ | refine V.Fn.q0 (c2) rfl ?_ | refine V.Fn.a0 (c2) rfl ?_) | ((first | refine V.Fn.k (c3) [2] rfl ?_ ?_ | refine V.Fn.q (c3) [2] rfl ?_ ?_ | refine V.Fn.a (c3) [2] rfl ?_ ?_); · exact V.D_) | ((first | refine V.Fn.k (c3) [3] rfl ?_ ?_ | refine V.Fn.q (c3) [3] rfl ?_ ?_ | refine V.Fn.a (c3) [3] rfl ?_ ?_); · exact V.D_) | (refine V.NDraw.any (by kernel_rfl) ?_) | fail)
  all_goals (conv => whnf)
end
def encW (x : Wt) : List Go.Value := [.int .i64 x.id, .int .i64 x.wo]
theorem ltOf_cf (a b : Wt) : Go.Proofs.ltOf Rp.cf a b = decide (Rp.Lt a b) := Rp.cf_lt a b
theorem swoW : Go.Sort.SWO (Go.Proofs.ltOf Rp.cf) where
  irrefl x := by rw [ltOf_cf]; exact decide_eq_false (Rp.lt_irr x)
  trans x y z h1 h2 := by
    rw [ltOf_cf] at *
    exact decide_eq_true (Rp.lt_tr (of_decide_eq_true h1) (of_decide_eq_true h2))
  ntrans x y z h1 h2 := by
    rw [ltOf_cf] at *
    exact decide_eq_false (Rp.lt_ntr (of_decide_eq_false h1) (of_decide_eq_false h2))
theorem V.NCall.sortW {obs : Obs} {nx : Nat} {K : SV → Obs → Nat → Prop} (i : Nat) {t : TypeId} (l : List Wt) {get : Nat → List Go.Value} (ho : fnd obs i = some (.row t 2 l.length get)) (hg : ∀ j, j < l.length → get j = ga encW l j) (hl : l.length < 4611686018427387904)
    (h : K (.tup []) ((i, .row t 2 l.length (ga encW (Rp.srt l))) :: obs) nx) : NCall Try.prog 38 [.one (.ref i), .one (.clo 39 [])] obs nx K := by
  have e : (l.mergeSort fun x y => !(Go.Proofs.ltOf Rp.cf) y x) = Rp.srt l := by
    unfold Rp.srt
    congr 1
    funext x y
    rw [ltOf_cf]
  refine V.NCall.sortK Try.sortW 2 (by decide) Try.isAgg68 Try.sizeOf68 encW (fun _ => rfl) (fun x v hv => by simp [encW] at hv; rcases hv with rfl | rfl <;> rfl) Rp.cf swoW (fun x y h1 h2 => ?_) 39 (by kernel_rfl) (enters_of Try.func39 (by kernel_rfl) rfl)
    (fun x y w => Cm.lays (@v_topcmp ⟨True⟩ x y) (fun ρ => ⟨_, _, rfl, ⟨_, V.Ats.vals ρ [_, _], rfl⟩, _, _, rfl, ⟨_, V.Ats.vals ρ [_, _], rfl⟩, rfl⟩) w) i l ho hg hl (by rw [e]; exact h)
  · rw [ltOf_cf] at h1 h2
    exact Rp.lt_eq (of_decide_eq_false h1) (of_decide_eq_false h2)
end Go.Proofs.Ytdehibmofmfkbaa

namespace Go.Proofs.Ytdehibmofmfkbaa
open Go.RowKit
end Go.Proofs.Ytdehibmofmfkbaa

namespace Go.Proofs.Ytdehibmofmfkbaa
open Go.RowKit
end Go.Proofs.Ytdehibmofmfkbaa

namespace Go.Proofs.Ytdehibmofmfkbaa
open Go.RowKit
end Go.Proofs.Ytdehibmofmfkbaa

namespace Go.Proofs.Ytdehibmofmfkbaa
open Go.RowKit
end Go.Proofs.Ytdehibmofmfkbaa

namespace Go.Proofs.Ytdehibmofmfkbaa
open Go Go.RowKit V
namespace V
theorem Svs.vals_ {ρ : Rho} : ∀ {vs xs : List Value}, Svs ρ (vs.map fun v => SV.one (.val v)) xs → xs = vs
  | [], _, h => h
  | v :: l, _, ⟨x, r, e, hv, hr⟩ => by
    have : x = v := hv
    subst this
    rw [e, Svs.vals_ hr]
theorem Fn.old {P : Program} {f : FuncId} {os : List Ob} {x : Value} (vs : List Value) (hb : hasBody P f = true) (h : ∀ w, (∀ (i : Nat) o, os[i]? = some o → ∃ ρ v, Ro ρ w v o) → Calls P f vs.toArray w fun e w' => e = .returned x ∧ w = w') : Fn P f os (vs.map fun v => SV.one (.val v)) x :=
  ⟨hb, fun w ρ xs ho hs => by
    rw [Svs.vals_ hs]
    refine (h w fun i o e => by obtain ⟨v, _, q⟩ := ho i o e; exact ⟨ρ, v, q⟩).mono ?_
    rintro e w' ⟨rfl, rfl⟩
    exact ⟨rfl, Belw.refl _ _⟩⟩
end V
end Go.Proofs.Ytdehibmofmfkbaa

namespace Go.Proofs.Ytdehibmofmfkbaa
open Go Go.RowKit V
end Go.Proofs.Ytdehibmofmfkbaa

namespace Go.Proofs.Ytdehibmofmfkbaa
open Go Go.RowKit V
end Go.Proofs.Ytdehibmofmfkbaa

namespace Go.Proofs.Ytdehibmofmfkbaa
open Go Go.RowKit V
end Go.Proofs.Ytdehibmofmfkbaa

namespace Go.Proofs.Ytdehibmofmfkbaa
open Go Go.RowKit V
namespace Pn
end Pn
namespace Pn
theorem oE_yes {c : Cl} {n : Int} (h : Ca.chk c = 0) (k : Ca.Day n ∧ Ca.op c n = 1) : oE c n = 0 := by
  have e := Ca.e1_of h k.1
  exact (if_neg (by omega)).trans (if_pos (by unfold Ca.isV; rw [decide_eq_true_iff]; exact ⟨e, k.2⟩))
end Pn
end Go.Proofs.Ytdehibmofmfkbaa
