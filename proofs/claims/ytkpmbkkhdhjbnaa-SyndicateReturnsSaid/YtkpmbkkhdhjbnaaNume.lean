/- bits.Div64: the quotient and the rest of 128 bits by 64. -/
import Derived.Test.YtkpmbkkhdhjbnaaNumc
import Derived.Test.YtkpmbkkhdhjbnaaNumf
namespace Go.Proofs.Ytkpmbkkhdhjbnaa
open Go.ChangeShapes Go.WideShapes Go.ChangeAt Go.RowKit Go.Lott

set_option maxRecDepth 100000 in
set_option maxHeartbeats 4000000 in
theorem Div64_any (hi lo y q0 r0 : Int) (w : World) (h0 : 1 ≤ hi) (h1 : hi < y) (y1 : y ≤ 18446744073709551615) (l0 : 0 ≤ lo) (l1 : lo ≤ 18446744073709551615) (hq : (hi * 18446744073709551616 + lo) / y = q0) (hr : (hi * 18446744073709551616 + lo) % y = r0) :
    Calls Try.prog 59 #[.int .u64 hi, .int .u64 lo, .int .u64 y] w (RetS (.tuple #[.int .u64 q0, .int .u64 r0]) w) := by
  have hy0 : (y == 0) = false := by simp; omega
  have hle : decide (y ≤ hi) = false := decide_eq_false (by omega)
  have hh0 : (hi == 0) = false := by simp; omega
  obtain ⟨b0, b1, b2⟩ := Num.shift_of y.toNat (by omega) (by omega)
  have hlz := Try.bits_LeadingZeros64 y w (by omega) (by omega)
  rw [show (64 : Int) - (Lib.bitLen y.toNat : Int) = ((64 - Lib.bitLen y.toNat : Nat) : Int) by omega] at hlz
  have hs := Nat.sub_le 64 (Lib.bitLen y.toNat)
  generalize 64 - Lib.bitLen y.toNat = s at *
  have hs63 : s ≤ 63 := by
    rcases Nat.lt_or_ge s 64 with c | c
    · omega
    · obtain rfl : s = 64 := by omega
      omega
  obtain ⟨Y, yn1, yn0, u, t, un1, un0, P, r1, r2, r3, r4, r5, r6, r7, k1, k2, k3, k4, k5, k6, k7, k8, k9, k10, k11, k12, k13, k14, k15⟩ := Num.div_setup hi lo y s (by omega) h1 l0 l1 hs b1 b2
  have HLZ := Lib.hid hlz
  have HY := Lib.hid (And.intro k1 (And.intro k12 (And.intro k14 k15)))
  have KS : Num.KSet yn1 yn0 u un1 := ⟨k2, k3, k4, k5, k6, k7, k8, k9⟩
  obtain ⟨ki, m1, m2, m3⟩ := Num.k_start KS
  have kq1 := ki.hi
  have kq0 : 0 ≤ u / yn1 := Int.ediv_nonneg k6 (by omega)
  have HQ := Lib.hid (And.intro hq hr)
  clear hlz b0 b1 b2 hq hr k1 k12 k14 k15 hs
  go_enter Try.func59, Try.ntmps59
  go_wp2_with (go_at_call 69; refine (HLZ.out).mono ?_; rintro e w' ⟨rfl, rfl⟩)

  go_loop [15, 16] (fun a b => ∃ q r : Int, a = .int .u64 q ∧ b = .int .u64 r ∧ Num.KInv yn1 yn0 u un1 q r ∧ r ≤ 4294967295) (fun a _ => (intOf a).toNat)
  case atStart => exact ⟨_, _, rfl, rfl, ki, m1⟩
  case round =>
    obtain ⟨q, r, rfl, rfl, kv, hr⟩ := hrel
    obtain ⟨s0, s1, s2, s3⟩ := Num.kQ_spec KS
    have g1 := kv.lo
    have g2 := kv.hi
    have g3 := kv.r0
    have KV := Lib.hid kv
    have KSH := Lib.hid KS
    clear kv KS s2 s3
    by_cases t1 : 4294967296 ≤ q
    · have t1' : decide (4294967296 ≤ q) = true := decide_eq_true t1
      have KN := Lib.hid (Num.k_more KSH.out KV.out (.inl t1))
      by_cases t3 : 4294967296 ≤ r + yn1
      · have t3' : decide (4294967296 ≤ r + yn1) = true := decide_eq_true t3
        have HK := Lib.hid (Num.k_break KSH.out KN.out (by omega) (by omega))
        clear KV KN g1 g3
        have KSA := Lib.hid (show Num.KSet yn1 yn0 u un1 from KSH.out)
        have HK1 := Lib.hid (show q - 1 = Num.kQ yn1 yn0 u un1 from HK.out)
        have x1 : 0 ≤ q - 1 ∧ q - 1 ≤ 4294967295 := by rw [HK1.out]; exact ⟨(Num.kQ_spec KSA.out).1, (Num.kQ_spec KSA.out).2.1⟩
        obtain ⟨x10, x11⟩ := x1
        obtain ⟨v, hv, v0, v1, v2, KS2⟩ := Num.k_rest KSA.out ⟨k10, k11⟩ HY.out.1 HK1.out
        have hv1 := Num.wrap3 hv v0 v2
        have HV := Lib.hid (And.intro hv v1)
        obtain ⟨ki2, m21, m22, m23⟩ := Num.k_start KS2
        have kq21 := ki2.hi
        have kq20 : 0 ≤ v / yn1 := Int.ediv_nonneg v0 (by omega)
        clear hv v1 HK KSH s0 s1
        go_wp2
        go_loop [18, 16] (fun a b => ∃ q r : Int, a = .int .u64 q ∧ b = .int .u64 r ∧ Num.KInv yn1 yn0 v un0 q r ∧ r ≤ 4294967295) (fun a _ => (intOf a).toNat)
        case atStart => exact ⟨_, _, rfl, rfl, ki2, m21⟩
        case round =>
          obtain ⟨q2, r2, rfl, rfl, kv2, hr2⟩ := hrel
          clear ki2 m21 m22 m23 kq21 kq20 hr
          obtain ⟨s0, s1, s2, s3⟩ := Num.kQ_spec KS2
          have g1 := kv2.lo
          have g2 := kv2.hi
          have g3 := kv2.r0
          have KV := Lib.hid kv2
          have KSH := Lib.hid KS2
          clear kv2 KS2 s2 s3
          by_cases t1 : 4294967296 ≤ q2
          · have t1' : decide (4294967296 ≤ q2) = true := decide_eq_true t1
            have KN := Lib.hid (Num.k_more KSH.out KV.out (.inl t1))
            by_cases t3 : 4294967296 ≤ r2 + yn1
            · have t3' : decide (4294967296 ≤ r2 + yn1) = true := decide_eq_true t3
              have HK := Lib.hid (Num.k_break KSH.out KN.out (by omega) (by omega))
              clear KV KN g1 g3
              have HK2 := Lib.hid (show q2 - 1 = Num.kQ yn1 yn0 v un0 from HK.out)
              have x2 : 0 ≤ q2 - 1 ∧ q2 - 1 ≤ 4294967295 := by rw [HK2.out]; exact ⟨(Num.kQ_spec KSH.out).1, (Num.kQ_spec KSH.out).2.1⟩
              obtain ⟨x20, x21⟩ := x2
              obtain ⟨R, hR, R0, R1, R2, _⟩ := Num.k_rest KSH.out ⟨k10, k11⟩ HY.out.1 HK2.out
              have hR1 := Num.wrap3 hR R0 R2
              have HE := Lib.hid (Num.div_end HY.out.2.2.1 HY.out.2.2.2 HV.out.1 hR k13 (by omega) R0 R1)
              have HP2 := Lib.hid HY.out.2.1
              clear hR R1 HK KSH s0 s1
              go_wp2
              go_ret2
              exact ⟨ret_two (HE.out.1.symm.trans HQ.out.1) (by rw [← HP2.out]; exact HE.out.2.symm.trans HQ.out.2), rfl⟩
            · have t3' : decide (4294967296 ≤ r2 + yn1) = false := decide_eq_false t3
              go_wp2
              go_round
              case rel => exact ⟨q2 - 1, r2 + yn1, rfl, rfl, KN.out, by omega⟩
              case measure => simp [intOf]; omega
          · obtain ⟨pb0, pb1⟩ := Num.prod_bd (x := q2) (y := yn0) (M := 4294967295) (N := 4294967295) (by omega) (by omega) k4 k5
            have pb2 : q2 * yn0 ≤ 18446744065119617025 := Int.le_trans pb1 (by decide)
            clear pb1
            have t1' : decide (4294967296 ≤ q2) = false := decide_eq_false t1
            by_cases t2 : 4294967296 * r2 + un0 < q2 * yn0
            · have t2' : decide (4294967296 * r2 + un0 < q2 * yn0) = true := decide_eq_true t2
              have KN := Lib.hid (Num.k_more KSH.out KV.out (.inr t2))
              have q1 : 1 ≤ q2 := by
                rcases Int.lt_or_le 0 q2 with c | c
                · omega
                · obtain rfl : q2 = 0 := by omega
                  simp at t2; omega
              by_cases t3 : 4294967296 ≤ r2 + yn1
              · have t3' : decide (4294967296 ≤ r2 + yn1) = true := decide_eq_true t3
                have HK := Lib.hid (Num.k_break KSH.out KN.out (by omega) (by omega))
                clear KV KN g1 g3
                have HK2 := Lib.hid (show q2 - 1 = Num.kQ yn1 yn0 v un0 from HK.out)
                have x2 : 0 ≤ q2 - 1 ∧ q2 - 1 ≤ 4294967295 := by rw [HK2.out]; exact ⟨(Num.kQ_spec KSH.out).1, (Num.kQ_spec KSH.out).2.1⟩
                obtain ⟨x20, x21⟩ := x2
                obtain ⟨R, hR, R0, R1, R2, _⟩ := Num.k_rest KSH.out ⟨k10, k11⟩ HY.out.1 HK2.out
                have hR1 := Num.wrap3 hR R0 R2
                have HE := Lib.hid (Num.div_end HY.out.2.2.1 HY.out.2.2.2 HV.out.1 hR k13 (by omega) R0 R1)
                have HP2 := Lib.hid HY.out.2.1
                clear hR R1 HK KSH s0 s1
                go_wp2
                go_ret2
                exact ⟨ret_two (HE.out.1.symm.trans HQ.out.1) (by rw [← HP2.out]; exact HE.out.2.symm.trans HQ.out.2), rfl⟩
              · have t3' : decide (4294967296 ≤ r2 + yn1) = false := decide_eq_false t3
                go_wp2
                go_round
                case rel => exact ⟨q2 - 1, r2 + yn1, rfl, rfl, KN.out, by omega⟩
                case measure => simp [intOf]; omega
            · have t2' : decide (4294967296 * r2 + un0 < q2 * yn0) = false := decide_eq_false t2
              have HK := Lib.hid (Num.k_done KSH.out KV.out (by omega))
              clear KV g1 g3
              have HK2 := Lib.hid (show q2 = Num.kQ yn1 yn0 v un0 from HK.out)
              have x2 : 0 ≤ q2 ∧ q2 ≤ 4294967295 := by rw [HK2.out]; exact ⟨(Num.kQ_spec KSH.out).1, (Num.kQ_spec KSH.out).2.1⟩
              obtain ⟨x20, x21⟩ := x2
              obtain ⟨R, hR, R0, R1, R2, _⟩ := Num.k_rest KSH.out ⟨k10, k11⟩ HY.out.1 HK2.out
              have hR1 := Num.wrap3 hR R0 R2
              have HE := Lib.hid (Num.div_end HY.out.2.2.1 HY.out.2.2.2 HV.out.1 hR k13 (by omega) R0 R1)
              have HP2 := Lib.hid HY.out.2.1
              clear hR R1 HK KSH s0 s1
              go_wp2
              go_ret2
              exact ⟨ret_two (HE.out.1.symm.trans HQ.out.1) (by rw [← HP2.out]; exact HE.out.2.symm.trans HQ.out.2), rfl⟩
      · have t3' : decide (4294967296 ≤ r + yn1) = false := decide_eq_false t3
        go_wp2
        go_round
        case rel => exact ⟨q - 1, r + yn1, rfl, rfl, KN.out, by omega⟩
        case measure => simp [intOf]; omega
    · obtain ⟨pb0, pb1⟩ := Num.prod_bd (x := q) (y := yn0) (M := 4294967295) (N := 4294967295) (by omega) (by omega) k4 k5
      have pb2 : q * yn0 ≤ 18446744065119617025 := Int.le_trans pb1 (by decide)
      clear pb1
      have t1' : decide (4294967296 ≤ q) = false := decide_eq_false t1
      by_cases t2 : 4294967296 * r + un1 < q * yn0
      · have t2' : decide (4294967296 * r + un1 < q * yn0) = true := decide_eq_true t2
        have KN := Lib.hid (Num.k_more KSH.out KV.out (.inr t2))
        have q1 : 1 ≤ q := by
          rcases Int.lt_or_le 0 q with c | c
          · omega
          · obtain rfl : q = 0 := by omega
            simp at t2; omega
        by_cases t3 : 4294967296 ≤ r + yn1
        · have t3' : decide (4294967296 ≤ r + yn1) = true := decide_eq_true t3
          have HK := Lib.hid (Num.k_break KSH.out KN.out (by omega) (by omega))
          clear KV KN g1 g3
          have KSA := Lib.hid (show Num.KSet yn1 yn0 u un1 from KSH.out)
          have HK1 := Lib.hid (show q - 1 = Num.kQ yn1 yn0 u un1 from HK.out)
          have x1 : 0 ≤ q - 1 ∧ q - 1 ≤ 4294967295 := by rw [HK1.out]; exact ⟨(Num.kQ_spec KSA.out).1, (Num.kQ_spec KSA.out).2.1⟩
          obtain ⟨x10, x11⟩ := x1
          obtain ⟨v, hv, v0, v1, v2, KS2⟩ := Num.k_rest KSA.out ⟨k10, k11⟩ HY.out.1 HK1.out
          have hv1 := Num.wrap3 hv v0 v2
          have HV := Lib.hid (And.intro hv v1)
          obtain ⟨ki2, m21, m22, m23⟩ := Num.k_start KS2
          have kq21 := ki2.hi
          have kq20 : 0 ≤ v / yn1 := Int.ediv_nonneg v0 (by omega)
          clear hv v1 HK KSH s0 s1
          go_wp2
          go_loop [18, 16] (fun a b => ∃ q r : Int, a = .int .u64 q ∧ b = .int .u64 r ∧ Num.KInv yn1 yn0 v un0 q r ∧ r ≤ 4294967295) (fun a _ => (intOf a).toNat)
          case atStart => exact ⟨_, _, rfl, rfl, ki2, m21⟩
          case round =>
            obtain ⟨q2, r2, rfl, rfl, kv2, hr2⟩ := hrel
            clear ki2 m21 m22 m23 kq21 kq20 hr
            obtain ⟨s0, s1, s2, s3⟩ := Num.kQ_spec KS2
            have g1 := kv2.lo
            have g2 := kv2.hi
            have g3 := kv2.r0
            have KV := Lib.hid kv2
            have KSH := Lib.hid KS2
            clear kv2 KS2 s2 s3
            by_cases t1 : 4294967296 ≤ q2
            · have t1' : decide (4294967296 ≤ q2) = true := decide_eq_true t1
              have KN := Lib.hid (Num.k_more KSH.out KV.out (.inl t1))
              by_cases t3 : 4294967296 ≤ r2 + yn1
              · have t3' : decide (4294967296 ≤ r2 + yn1) = true := decide_eq_true t3
                have HK := Lib.hid (Num.k_break KSH.out KN.out (by omega) (by omega))
                clear KV KN g1 g3
                have HK2 := Lib.hid (show q2 - 1 = Num.kQ yn1 yn0 v un0 from HK.out)
                have x2 : 0 ≤ q2 - 1 ∧ q2 - 1 ≤ 4294967295 := by rw [HK2.out]; exact ⟨(Num.kQ_spec KSH.out).1, (Num.kQ_spec KSH.out).2.1⟩
                obtain ⟨x20, x21⟩ := x2
                obtain ⟨R, hR, R0, R1, R2, _⟩ := Num.k_rest KSH.out ⟨k10, k11⟩ HY.out.1 HK2.out
                have hR1 := Num.wrap3 hR R0 R2
                have HE := Lib.hid (Num.div_end HY.out.2.2.1 HY.out.2.2.2 HV.out.1 hR k13 (by omega) R0 R1)
                have HP2 := Lib.hid HY.out.2.1
                clear hR R1 HK KSH s0 s1
                go_wp2
                go_ret2
                exact ⟨ret_two (HE.out.1.symm.trans HQ.out.1) (by rw [← HP2.out]; exact HE.out.2.symm.trans HQ.out.2), rfl⟩
              · have t3' : decide (4294967296 ≤ r2 + yn1) = false := decide_eq_false t3
                go_wp2
                go_round
                case rel => exact ⟨q2 - 1, r2 + yn1, rfl, rfl, KN.out, by omega⟩
                case measure => simp [intOf]; omega
            · obtain ⟨pb0, pb1⟩ := Num.prod_bd (x := q2) (y := yn0) (M := 4294967295) (N := 4294967295) (by omega) (by omega) k4 k5
              have pb2 : q2 * yn0 ≤ 18446744065119617025 := Int.le_trans pb1 (by decide)
              clear pb1
              have t1' : decide (4294967296 ≤ q2) = false := decide_eq_false t1
              by_cases t2 : 4294967296 * r2 + un0 < q2 * yn0
              · have t2' : decide (4294967296 * r2 + un0 < q2 * yn0) = true := decide_eq_true t2
                have KN := Lib.hid (Num.k_more KSH.out KV.out (.inr t2))
                have q1 : 1 ≤ q2 := by
                  rcases Int.lt_or_le 0 q2 with c | c
                  · omega
                  · obtain rfl : q2 = 0 := by omega
                    simp at t2; omega
                by_cases t3 : 4294967296 ≤ r2 + yn1
                · have t3' : decide (4294967296 ≤ r2 + yn1) = true := decide_eq_true t3
                  have HK := Lib.hid (Num.k_break KSH.out KN.out (by omega) (by omega))
                  clear KV KN g1 g3
                  have HK2 := Lib.hid (show q2 - 1 = Num.kQ yn1 yn0 v un0 from HK.out)
                  have x2 : 0 ≤ q2 - 1 ∧ q2 - 1 ≤ 4294967295 := by rw [HK2.out]; exact ⟨(Num.kQ_spec KSH.out).1, (Num.kQ_spec KSH.out).2.1⟩
                  obtain ⟨x20, x21⟩ := x2
                  obtain ⟨R, hR, R0, R1, R2, _⟩ := Num.k_rest KSH.out ⟨k10, k11⟩ HY.out.1 HK2.out
                  have hR1 := Num.wrap3 hR R0 R2
                  have HE := Lib.hid (Num.div_end HY.out.2.2.1 HY.out.2.2.2 HV.out.1 hR k13 (by omega) R0 R1)
                  have HP2 := Lib.hid HY.out.2.1
                  clear hR R1 HK KSH s0 s1
                  go_wp2
                  go_ret2
                  exact ⟨ret_two (HE.out.1.symm.trans HQ.out.1) (by rw [← HP2.out]; exact HE.out.2.symm.trans HQ.out.2), rfl⟩
                · have t3' : decide (4294967296 ≤ r2 + yn1) = false := decide_eq_false t3
                  go_wp2
                  go_round
                  case rel => exact ⟨q2 - 1, r2 + yn1, rfl, rfl, KN.out, by omega⟩
                  case measure => simp [intOf]; omega
              · have t2' : decide (4294967296 * r2 + un0 < q2 * yn0) = false := decide_eq_false t2
                have HK := Lib.hid (Num.k_done KSH.out KV.out (by omega))
                clear KV g1 g3
                have HK2 := Lib.hid (show q2 = Num.kQ yn1 yn0 v un0 from HK.out)
                have x2 : 0 ≤ q2 ∧ q2 ≤ 4294967295 := by rw [HK2.out]; exact ⟨(Num.kQ_spec KSH.out).1, (Num.kQ_spec KSH.out).2.1⟩
                obtain ⟨x20, x21⟩ := x2
                obtain ⟨R, hR, R0, R1, R2, _⟩ := Num.k_rest KSH.out ⟨k10, k11⟩ HY.out.1 HK2.out
                have hR1 := Num.wrap3 hR R0 R2
                have HE := Lib.hid (Num.div_end HY.out.2.2.1 HY.out.2.2.2 HV.out.1 hR k13 (by omega) R0 R1)
                have HP2 := Lib.hid HY.out.2.1
                clear hR R1 HK KSH s0 s1
                go_wp2
                go_ret2
                exact ⟨ret_two (HE.out.1.symm.trans HQ.out.1) (by rw [← HP2.out]; exact HE.out.2.symm.trans HQ.out.2), rfl⟩
        · have t3' : decide (4294967296 ≤ r + yn1) = false := decide_eq_false t3
          go_wp2
          go_round
          case rel => exact ⟨q - 1, r + yn1, rfl, rfl, KN.out, by omega⟩
          case measure => simp [intOf]; omega
      · have t2' : decide (4294967296 * r + un1 < q * yn0) = false := decide_eq_false t2
        have HK := Lib.hid (Num.k_done KSH.out KV.out (by omega))
        clear KV g1 g3
        have KSA := Lib.hid (show Num.KSet yn1 yn0 u un1 from KSH.out)
        have HK1 := Lib.hid (show q = Num.kQ yn1 yn0 u un1 from HK.out)
        have x1 : 0 ≤ q ∧ q ≤ 4294967295 := by rw [HK1.out]; exact ⟨(Num.kQ_spec KSA.out).1, (Num.kQ_spec KSA.out).2.1⟩
        obtain ⟨x10, x11⟩ := x1
        obtain ⟨v, hv, v0, v1, v2, KS2⟩ := Num.k_rest KSA.out ⟨k10, k11⟩ HY.out.1 HK1.out
        have hv1 := Num.wrap3 hv v0 v2
        have HV := Lib.hid (And.intro hv v1)
        obtain ⟨ki2, m21, m22, m23⟩ := Num.k_start KS2
        have kq21 := ki2.hi
        have kq20 : 0 ≤ v / yn1 := Int.ediv_nonneg v0 (by omega)
        clear hv v1 HK KSH s0 s1
        go_wp2
        go_loop [18, 16] (fun a b => ∃ q r : Int, a = .int .u64 q ∧ b = .int .u64 r ∧ Num.KInv yn1 yn0 v un0 q r ∧ r ≤ 4294967295) (fun a _ => (intOf a).toNat)
        case atStart => exact ⟨_, _, rfl, rfl, ki2, m21⟩
        case round =>
          obtain ⟨q2, r2, rfl, rfl, kv2, hr2⟩ := hrel
          clear ki2 m21 m22 m23 kq21 kq20 hr
          obtain ⟨s0, s1, s2, s3⟩ := Num.kQ_spec KS2
          have g1 := kv2.lo
          have g2 := kv2.hi
          have g3 := kv2.r0
          have KV := Lib.hid kv2
          have KSH := Lib.hid KS2
          clear kv2 KS2 s2 s3
          by_cases t1 : 4294967296 ≤ q2
          · have t1' : decide (4294967296 ≤ q2) = true := decide_eq_true t1
            have KN := Lib.hid (Num.k_more KSH.out KV.out (.inl t1))
            by_cases t3 : 4294967296 ≤ r2 + yn1
            · have t3' : decide (4294967296 ≤ r2 + yn1) = true := decide_eq_true t3
              have HK := Lib.hid (Num.k_break KSH.out KN.out (by omega) (by omega))
              clear KV KN g1 g3
              have HK2 := Lib.hid (show q2 - 1 = Num.kQ yn1 yn0 v un0 from HK.out)
              have x2 : 0 ≤ q2 - 1 ∧ q2 - 1 ≤ 4294967295 := by rw [HK2.out]; exact ⟨(Num.kQ_spec KSH.out).1, (Num.kQ_spec KSH.out).2.1⟩
              obtain ⟨x20, x21⟩ := x2
              obtain ⟨R, hR, R0, R1, R2, _⟩ := Num.k_rest KSH.out ⟨k10, k11⟩ HY.out.1 HK2.out
              have hR1 := Num.wrap3 hR R0 R2
              have HE := Lib.hid (Num.div_end HY.out.2.2.1 HY.out.2.2.2 HV.out.1 hR k13 (by omega) R0 R1)
              have HP2 := Lib.hid HY.out.2.1
              clear hR R1 HK KSH s0 s1
              go_wp2
              go_ret2
              exact ⟨ret_two (HE.out.1.symm.trans HQ.out.1) (by rw [← HP2.out]; exact HE.out.2.symm.trans HQ.out.2), rfl⟩
            · have t3' : decide (4294967296 ≤ r2 + yn1) = false := decide_eq_false t3
              go_wp2
              go_round
              case rel => exact ⟨q2 - 1, r2 + yn1, rfl, rfl, KN.out, by omega⟩
              case measure => simp [intOf]; omega
          · obtain ⟨pb0, pb1⟩ := Num.prod_bd (x := q2) (y := yn0) (M := 4294967295) (N := 4294967295) (by omega) (by omega) k4 k5
            have pb2 : q2 * yn0 ≤ 18446744065119617025 := Int.le_trans pb1 (by decide)
            clear pb1
            have t1' : decide (4294967296 ≤ q2) = false := decide_eq_false t1
            by_cases t2 : 4294967296 * r2 + un0 < q2 * yn0
            · have t2' : decide (4294967296 * r2 + un0 < q2 * yn0) = true := decide_eq_true t2
              have KN := Lib.hid (Num.k_more KSH.out KV.out (.inr t2))
              have q1 : 1 ≤ q2 := by
                rcases Int.lt_or_le 0 q2 with c | c
                · omega
                · obtain rfl : q2 = 0 := by omega
                  simp at t2; omega
              by_cases t3 : 4294967296 ≤ r2 + yn1
              · have t3' : decide (4294967296 ≤ r2 + yn1) = true := decide_eq_true t3
                have HK := Lib.hid (Num.k_break KSH.out KN.out (by omega) (by omega))
                clear KV KN g1 g3
                have HK2 := Lib.hid (show q2 - 1 = Num.kQ yn1 yn0 v un0 from HK.out)
                have x2 : 0 ≤ q2 - 1 ∧ q2 - 1 ≤ 4294967295 := by rw [HK2.out]; exact ⟨(Num.kQ_spec KSH.out).1, (Num.kQ_spec KSH.out).2.1⟩
                obtain ⟨x20, x21⟩ := x2
                obtain ⟨R, hR, R0, R1, R2, _⟩ := Num.k_rest KSH.out ⟨k10, k11⟩ HY.out.1 HK2.out
                have hR1 := Num.wrap3 hR R0 R2
                have HE := Lib.hid (Num.div_end HY.out.2.2.1 HY.out.2.2.2 HV.out.1 hR k13 (by omega) R0 R1)
                have HP2 := Lib.hid HY.out.2.1
                clear hR R1 HK KSH s0 s1
                go_wp2
                go_ret2
                exact ⟨ret_two (HE.out.1.symm.trans HQ.out.1) (by rw [← HP2.out]; exact HE.out.2.symm.trans HQ.out.2), rfl⟩
              · have t3' : decide (4294967296 ≤ r2 + yn1) = false := decide_eq_false t3
                go_wp2
                go_round
                case rel => exact ⟨q2 - 1, r2 + yn1, rfl, rfl, KN.out, by omega⟩
                case measure => simp [intOf]; omega
            · have t2' : decide (4294967296 * r2 + un0 < q2 * yn0) = false := decide_eq_false t2
              have HK := Lib.hid (Num.k_done KSH.out KV.out (by omega))
              clear KV g1 g3
              have HK2 := Lib.hid (show q2 = Num.kQ yn1 yn0 v un0 from HK.out)
              have x2 : 0 ≤ q2 ∧ q2 ≤ 4294967295 := by rw [HK2.out]; exact ⟨(Num.kQ_spec KSH.out).1, (Num.kQ_spec KSH.out).2.1⟩
              obtain ⟨x20, x21⟩ := x2
              obtain ⟨R, hR, R0, R1, R2, _⟩ := Num.k_rest KSH.out ⟨k10, k11⟩ HY.out.1 HK2.out
              have hR1 := Num.wrap3 hR R0 R2
              have HE := Lib.hid (Num.div_end HY.out.2.2.1 HY.out.2.2.2 HV.out.1 hR k13 (by omega) R0 R1)
              have HP2 := Lib.hid HY.out.2.1
              clear hR R1 HK KSH s0 s1
              go_wp2
              go_ret2
              exact ⟨ret_two (HE.out.1.symm.trans HQ.out.1) (by rw [← HP2.out]; exact HE.out.2.symm.trans HQ.out.2), rfl⟩
end Go.Proofs.Ytkpmbkkhdhjbnaa
