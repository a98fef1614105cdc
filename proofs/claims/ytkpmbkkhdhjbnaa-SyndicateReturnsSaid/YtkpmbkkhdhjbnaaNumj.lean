/- Quotients of products: the reference, by long division, bit by bit. -/
import Derived.Test.YtkpmbkkhdhjbnaaNumi
import Derived.Test.YtkpmbkkhdhjbnaaNumn
namespace Go.Proofs.Ytkpmbkkhdhjbnaa
open Go.ChangeShapes Go.WideShapes Go.ChangeAt Go.RowKit Go.Lott

theorem half_bd (v : Int) (k : Nat) (h0 : 0 ≤ v) (h1 : v ≤ 18446744073709551615) : 0 ≤ v / (2 : Int) ^ k ∧ v / (2 : Int) ^ k ≤ 18446744073709551615 :=
  ⟨Int.ediv_nonneg h0 (Int.le_of_lt (Num.pow_pos k)), Int.le_trans (Int.ediv_le_self _ h0) h1⟩
def HalfAt (X : Int) (k : Nat) (v : Int) : Prop := X / (2 : Int) ^ k = v
theorem HalfAt.next {X v : Int} {k : Nat} (h : HalfAt X k v) : HalfAt X (k + 1) (v / 2) := by unfold HalfAt at *; rw [← Num.half_pow, h]
theorem HalfAt.bit {X v P : Int} {k j : Nat} (h : HalfAt X k v) (hb : X / (2 : Int) ^ k % 2 = Num.bitI P j) : v % 2 = Num.bitI P j := by rw [← h]; exact hb
set_option maxHeartbeats 1000000 in
theorem rBit_any (hi lo P : Int) (j : Nat) (w : World) (hP : hi * 18446744073709551616 + lo = P) (h0 : 0 ≤ hi) (h1 : hi ≤ 18446744073709551615) (l0 : 0 ≤ lo) (l1 : lo ≤ 18446744073709551615) (hj : j ≤ 127) :
    Calls Try.prog 52 #[.int .u64 hi, .int .u64 lo, .int .i64 (j : Int)] w (RetS (.int .u64 (Num.bitI P j)) w) := by
  by_cases hc : 64 ≤ j
  · obtain ⟨m, rfl⟩ : ∃ m, j = 64 + m := ⟨j - 64, by omega⟩
    have hb := Lib.hid (Num.bit_hi (k := m) hP l0 l1)
    have e : ((64 + m : Nat) : Int) = 64 + (m : Int) := by omega
    clear hP
    rw [e]
    go_enter Try.func52, Try.ntmps52
    go_wp2
    go_loop [7, 8] (fun u i => ∃ (k : Nat) (v : Int), k ≤ m ∧ u = .int .u64 v ∧ i = .int .i64 k ∧ HalfAt hi k v ∧ 0 ≤ v ∧ v ≤ 18446744073709551615) (fun _ i => m - (intOf i).toNat)
    case atStart => exact ⟨0, hi, by omega, rfl, rfl, by simp [HalfAt], by omega, by omega⟩
    case round =>
      obtain ⟨k, v, hk, rfl, rfl, hA, v0, v1⟩ := hrel
      by_cases hlt : k < m
      · have HN := Lib.hid hA.next
        go_wp2
        go_round
        case rel => exact ⟨k + 1, v / 2, by omega, rfl, by go_num, HN.out, by omega, by omega⟩
        case measure => simp [intOf]; omega
      · obtain rfl : k = m := by omega
        have HV := Lib.hid (hA.bit hb.out)
        go_wp2
        go_ret
        exact ⟨ret_int HV.out, rfl⟩
  · have hb := Lib.hid (Num.bit_lo (k := j) hP (by omega))
    clear hP
    go_enter Try.func52, Try.ntmps52
    go_wp2
    go_loop [7, 8] (fun u i => ∃ (k : Nat) (v : Int), k ≤ j ∧ u = .int .u64 v ∧ i = .int .i64 k ∧ HalfAt lo k v ∧ 0 ≤ v ∧ v ≤ 18446744073709551615) (fun _ i => j - (intOf i).toNat)
    case atStart => exact ⟨0, lo, by omega, rfl, rfl, by simp [HalfAt], by omega, by omega⟩
    case round =>
      obtain ⟨k, v, hk, rfl, rfl, hA, v0, v1⟩ := hrel
      by_cases hlt : k < j
      · have HN := Lib.hid hA.next
        go_wp2
        go_round
        case rel => exact ⟨k + 1, v / 2, by omega, rfl, by go_num, HN.out, by omega, by omega⟩
        case measure => simp [intOf]; omega
      · obtain rfl : k = j := by omega
        have HV := Lib.hid (hA.bit hb.out)
        go_wp2
        go_ret
        exact ⟨ret_int HV.out, rfl⟩
set_option maxHeartbeats 2000000 in
theorem rMulDiv_any (a b c : Int) (w : World) (ha1 : a ≤ 9223372036854775807) (hb1 : b ≤ 9223372036854775807) (hc1 : c ≤ 9223372036854775807) (ha0 : -9223372036854775808 ≤ a) (hb0 : -9223372036854775808 ≤ b) (hc0 : -9223372036854775808 ≤ c) :
    Calls Try.prog 32 #[.int .i64 a, .int .i64 b, .int .i64 c] w (RetS (mdV a b c) w) := by
  by_cases hc : c = 0
  · have HV := Lib.hid (md_zero (a := a) (b := b) hc)
    have hz : (c == 0) = true := by simp [hc]
    clear hc
    go_enter Try.func32, Try.ntmps32
    go_wp2
    go_ret3
    exact ⟨ret_three HV.out.1 HV.out.2.1 HV.out.2.2, rfl⟩
  · have hz : (c == 0) = false := by simp [hc]
    by_cases hn : a < 0 ∨ b < 0 ∨ c < 0
    · have HV := Lib.hid (md_range (a := a) (b := b) hc hn)
      clear hc
      go_enter Try.func32, Try.ntmps32
      go_wp2
      all_goals first
        | (go_ret3; exact ⟨ret_three HV.out.1 HV.out.2.1 HV.out.2.2, rfl⟩)
        | (exfalso; omega)
    · obtain ⟨p, hp⟩ : ∃ p, a * b = p := ⟨_, rfl⟩
      have a0 : 0 ≤ a := by omega
      have b0 : 0 ≤ b := by omega
      have c0 : 1 ≤ c := by omega
      have p0 : 0 ≤ p := by rw [← hp]; exact Int.mul_nonneg a0 b0
      have h1 : p / 18446744073709551616 * 18446744073709551616 + p % 18446744073709551616 = p := by omega
      have h2 : 0 ≤ p % 18446744073709551616 ∧ p % 18446744073709551616 ≤ 18446744073709551615 := by omega
      have h3 : 0 ≤ p / 18446744073709551616 := by omega
      have HP := Lib.hid (hp.trans h1.symm)
      have HPP := Lib.hid hp
      generalize p / 18446744073709551616 = hi at *
      generalize p % 18446744073709551616 = lo at *
      obtain ⟨l0, l1⟩ := h2
      have H1 := Lib.hid h1
      clear hp h1 hn hc
      by_cases hbig : c ≤ hi
      · have HV := Lib.hid (md_over (a := a) (b := b) (c := c) ⟨a0, b0, c0⟩ (by
          rw [HPP.out]
          have : 9223372036854775808 ≤ p / c := (Int.le_ediv_iff_mul_le (by omega)).2 (by have := H1.out; omega)
          omega))
        have d1 : decide (c ≤ hi) = true := decide_eq_true hbig
        go_enter Try.func32, Try.ntmps32
        go_wp2_with (go_at_call 51; refine (rWide_v _ _ hi lo _ (by omega) (by omega) (by omega) (by omega) HP.out l0 l1).mono ?_; rintro e w' ⟨rfl, rfl⟩)
        go_ret3
        exact ⟨ret_three HV.out.1 HV.out.2.1 HV.out.2.2, rfl⟩
      · have d1 : decide (c ≤ hi) = false := decide_eq_false hbig
        have hic : hi ≤ 9223372036854775807 := by omega
        have LS := Lib.hid (Num.LD.start (P := p) (c := c) c0 p0 (by have := H1.out; omega))
        have LB : Hid (∀ j q r, Num.LD p c j q r → q ≤ 18446744073709551615) := Lib.hid fun j q r h => h.bd p0 (by have := H1.out; omega)
        go_enter Try.func32, Try.ntmps32
        go_wp2_with (go_at_call 51; refine (rWide_v _ _ hi lo _ (by omega) (by omega) (by omega) (by omega) HP.out l0 l1).mono ?_; rintro e w' ⟨rfl, rfl⟩)
        go_loop [11, 12, 13] (fun x y i => ∃ (j : Nat) (q r I : Int), j ≤ 128 ∧ x = .int .u64 q ∧ y = .int .u64 r ∧ i = .int .i64 I ∧ I + 1 = (j : Int) ∧ Num.LD p c j q r ∧ 0 ≤ q ∧ q ≤ 18446744073709551615 ∧ 0 ≤ r ∧ r < c) (fun _ _ i => (intOf i + 1).toNat)
        case atStart => exact ⟨128, 0, 0, 127, by omega, rfl, rfl, rfl, rfl, LS.out, by omega, by omega, by omega, by omega⟩
        case round =>
          obtain ⟨j, q, r, I, hj, rfl, rfl, rfl, hI, hL, q0, q1, r0, r1⟩ := hrel
          have HL := Lib.hid hL
          clear hL
          by_cases hz : j = 0
          · subst hz
            obtain rfl : I = -1 := by omega
            have he := Lib.hid HL.out.end
            by_cases hq : q ≤ 9223372036854775807
            · have HV := Lib.hid (md_fine (a := a) (b := b) (c := c) ⟨a0, b0, c0⟩ (by rw [HPP.out, he.out.1]; exact hq))
              rw [HPP.out, he.out.1, he.out.2] at HV
              go_wp2
              go_ret3
              exact ⟨ret_three HV.out.1 HV.out.2.1 HV.out.2.2, rfl⟩
            · have HV := Lib.hid (md_over (a := a) (b := b) (c := c) ⟨a0, b0, c0⟩ (by rw [HPP.out, he.out.1]; omega))
              go_wp2
              go_ret3
              exact ⟨ret_three HV.out.1 HV.out.2.1 HV.out.2.2, rfl⟩
          · obtain ⟨m, rfl⟩ : ∃ m, j = m + 1 := ⟨j - 1, by omega⟩
            obtain rfl : I = (m : Int) := by omega
            obtain ⟨bb0, bb1⟩ := Num.bitI_bd p m
            clear hz
            by_cases hg : c ≤ 2 * r + Num.bitI p m
            · have HN := Lib.hid (HL.out.big hg)
              have hq := LB.out _ _ _ HN.out
              go_wp2_with (go_at_call 52; refine (rBit_any hi lo p _ _ H1.out (by omega) (by omega) (by omega) (by omega) (by omega)).mono ?_; rintro e w' ⟨rfl, rfl⟩)
              go_round
              case rel => exact ⟨m, _, _, _, by omega, rfl, rfl, rfl, by omega, HN.out, by omega, hq, by omega, by omega⟩
              case measure => simp [intOf]
            · have HN := Lib.hid (HL.out.small (by omega))
              have hq := LB.out _ _ _ HN.out
              replace hg : 2 * r + Num.bitI p m < c := by omega
              go_wp2_with (go_at_call 52; refine (rBit_any hi lo p _ _ H1.out (by omega) (by omega) (by omega) (by omega) (by omega)).mono ?_; rintro e w' ⟨rfl, rfl⟩)
              go_round
              case rel => exact ⟨m, _, _, _, by omega, rfl, rfl, rfl, by omega, HN.out, by omega, hq, by omega, by omega⟩
              case measure => simp [intOf]
end Go.Proofs.Ytkpmbkkhdhjbnaa
