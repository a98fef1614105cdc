/- The laws NumDivides and NumPowersGrow. -/
import Derived.Test.YtgloiddnbppblaaDoorNumu
namespace Go.Proofs.YtgloiddnbppblaaDoor
open Go.ChangeShapes Go.WideShapes Go.ChangeAt Go.RowKit Go.Lott

set_option maxHeartbeats 2000000 in
theorem numDivides_walk (a b c : Int) (W : World) (ha : (Lit.int .i64 a).wf = true) (hb : (Lit.int .i64 b).wf = true) (hc : (Lit.int .i64 c).wf = true) (hp : P10 W) : Calls Tryd.prog 8 #[.int .i64 a, .int .i64 b, .int .i64 c] W (RetB (.bool true) W) := by
  have hbel := Below.refl W.heap.size W
  have HT := Lib.hid hp
  clear hp
  obtain ⟨a0, a1⟩ := wf_int ha
  obtain ⟨b0, b1⟩ := wf_int hb
  obtain ⟨c0, c1⟩ := wf_int hc
  clear ha hb hc
  have hM := fun w => MulDiv_u a b c w a1 b1 c1 a0 b0 c0
  by_cases hz : c = 0
  · obtain ⟨e1, e2, e3⟩ := md_zero (a := a) (b := b) hz
    rw [← e1, ← e2, ← e3] at hM
    have HM := Lib.hid hM
    clear hM e1 e2 e3
    have hle : decide (c ≤ 0) = true := decide_eq_true (by omega)
    clear hz
    go_enter Tryd.func8, Tryd.ntmps8
    go_wp2_with (first | (go_at_call 28; ((with_reducible refine (HM.out _).mono ?_); rintro e w1 ⟨rfl, hb1⟩; replace hbel := hbel.trans (hb1.mono hbel.size); clear hb1)) | (go_at_call 27; ((with_reducible refine (awake_any _ (HT.out.grow hbel)).mono ?_); rintro e w1 ⟨rfl, hb1⟩; replace hbel := hbel.trans (hb1.mono hbel.size); clear hb1)))
    all_goals first
      | (go_ret; exact ⟨rfl, hbel⟩)
      | (exfalso; omega)
  · by_cases hn : a < 0 ∨ b < 0 ∨ c < 0
    · obtain ⟨e1, e2, e3⟩ := md_range (a := a) (b := b) hz hn
      rw [← e1, ← e2, ← e3] at hM
      have HM := Lib.hid hM
      clear hM e1 e2 e3 hz
      go_enter Tryd.func8, Tryd.ntmps8
      go_wp2_with (first | (go_at_call 28; ((with_reducible refine (HM.out _).mono ?_); rintro e w1 ⟨rfl, hb1⟩; replace hbel := hbel.trans (hb1.mono hbel.size); clear hb1)) | (go_at_call 27; ((with_reducible refine (awake_any _ (HT.out.grow hbel)).mono ?_); rintro e w1 ⟨rfl, hb1⟩; replace hbel := hbel.trans (hb1.mono hbel.size); clear hb1)))
      all_goals first
        | (go_ret; exact ⟨rfl, hbel⟩)
        | (exfalso; omega)
    · obtain ⟨p, hp⟩ : ∃ p, a * b = p := ⟨_, rfl⟩
      have a2 : 0 ≤ a := by omega
      have b2 : 0 ≤ b := by omega
      have c2 : 1 ≤ c := by omega
      have p0 : 0 ≤ p := by rw [← hp]; exact Int.mul_nonneg a2 b2
      obtain ⟨hi, hhi⟩ : ∃ hi, hi = p / 18446744073709551616 := ⟨_, rfl⟩
      obtain ⟨lo, hlo⟩ : ∃ lo, lo = p % 18446744073709551616 := ⟨_, rfl⟩
      have hP : p = hi * 18446744073709551616 + lo := by omega
      have l0 : 0 ≤ lo := by omega
      have l1 : lo ≤ 18446744073709551615 := by omega
      have h0 : 0 ≤ hi := by omega
      obtain ⟨top, htop⟩ : ∃ t, t = c / 2 := ⟨_, rfl⟩
      obtain ⟨low, hlow⟩ : ∃ t, t = c % 2 * 9223372036854775808 := ⟨_, rfl⟩
      have HW1 := Lib.hid (fun w => lWide_v a b hi lo w a2 (by omega) b2 (by omega) (hp.trans hP) l0 l1)
      have HW2 := Lib.hid (fun w => lWide_v c 9223372036854775808 top low w (by omega) (by omega) (by decide) (by decide) (by omega) (by omega) (by omega))
      obtain ⟨Q, hQ⟩ : ∃ Q, p / c = Q := ⟨_, rfl⟩
      obtain ⟨R, hR⟩ : ∃ R, p % c = R := ⟨_, rfl⟩
      have Q0 : 0 ≤ Q := by rw [← hQ]; exact Int.ediv_nonneg p0 (by omega)
      have R0 : 0 ≤ R := by rw [← hR]; exact Int.emod_nonneg p (by omega)
      have R1 : R < c := by rw [← hR]; exact Int.emod_lt_of_pos p (by omega)
      have hE : Q * c + R = p := by rw [← hQ, ← hR, Int.mul_comm]; exact Int.mul_ediv_add_emod p c
      have t0 : 0 ≤ top := by omega
      have t1 : 0 ≤ low := by omega
      by_cases hover : c * 9223372036854775808 ≤ p
      · have hq : 9223372036854775807 < Q := by
          have : 9223372036854775808 ≤ p / c := (Int.le_ediv_iff_mul_le (by omega)).2 (by rw [Int.mul_comm]; exact hover)
          omega
        obtain ⟨e1, e2, e3⟩ := md_over (a := a) (b := b) (c := c) ⟨a2, b2, c2⟩ (by rw [hp, hQ]; exact hq)
        rw [← e1, ← e2, ← e3] at hM
        have HM := Lib.hid hM
        by_cases ht : top < hi
        · clear hM e1 e2 e3 hz hn hp hhi hlo hP htop hlow hQ hR hE hover
          go_enter Tryd.func8, Tryd.ntmps8
          go_wp2_with (first | (go_at_call 28; ((with_reducible refine (HM.out _).mono ?_); rintro e w1 ⟨rfl, hb1⟩; replace hbel := hbel.trans (hb1.mono hbel.size); clear hb1)) | (go_at_call 30; ((with_reducible refine (HW1.out _).mono ?_); rintro e w' ⟨rfl, rfl⟩)) | (go_at_call 30; ((with_reducible refine (HW2.out _).mono ?_); rintro e w' ⟨rfl, rfl⟩)) | (go_at_call 27; ((with_reducible refine (awake_any _ (HT.out.grow hbel)).mono ?_); rintro e w1 ⟨rfl, hb1⟩; replace hbel := hbel.trans (hb1.mono hbel.size); clear hb1)))
          go_ret
          exact ⟨rfl, hbel⟩
        · have ht2 : (top == hi) = true := by rw [beq_iff_eq]; omega
          have ht3 : low ≤ lo := by omega
          have ht4 : hi ≤ top := by omega
          clear hM e1 e2 e3 hz hn hp hhi hlo hP htop hlow hQ hR hE hover ht
          go_enter Tryd.func8, Tryd.ntmps8
          go_wp2_with (first | (go_at_call 28; ((with_reducible refine (HM.out _).mono ?_); rintro e w1 ⟨rfl, hb1⟩; replace hbel := hbel.trans (hb1.mono hbel.size); clear hb1)) | (go_at_call 30; ((with_reducible refine (HW1.out _).mono ?_); rintro e w' ⟨rfl, rfl⟩)) | (go_at_call 30; ((with_reducible refine (HW2.out _).mono ?_); rintro e w' ⟨rfl, rfl⟩)) | (go_at_call 27; ((with_reducible refine (awake_any _ (HT.out.grow hbel)).mono ?_); rintro e w1 ⟨rfl, hb1⟩; replace hbel := hbel.trans (hb1.mono hbel.size); clear hb1)))
          go_ret
          exact ⟨rfl, hbel⟩
      · have hq : Q ≤ 9223372036854775807 := by
          have : p / c < 9223372036854775808 := Int.ediv_lt_of_lt_mul (by omega) (by rw [Int.mul_comm]; omega)
          omega
        obtain ⟨e1, e2, e3⟩ := md_fine (a := a) (b := b) (c := c) ⟨a2, b2, c2⟩ (by rw [hp, hQ]; exact hq)
        rw [← e1, ← e2, ← e3, hp, hQ, hR] at hM
        have HM := Lib.hid hM
        obtain ⟨x, hx⟩ : ∃ x, x = Q * c / 18446744073709551616 := ⟨_, rfl⟩
        obtain ⟨y, hy⟩ : ∃ y, y = Q * c % 18446744073709551616 := ⟨_, rfl⟩
        have hqc : 0 ≤ Q * c := Int.mul_nonneg Q0 (by omega)
        have HW3 := Lib.hid (fun w => lWide_v Q c x y w Q0 (by omega) (by omega) (by omega) (by omega) (by omega) (by omega))
        have y0 : 0 ≤ y := by omega
        have y1 : y ≤ 18446744073709551615 := by omega
        have x0 : 0 ≤ x := by omega
        by_cases hs : y + R ≤ 18446744073709551615
        · obtain rfl : x = hi := by omega
          obtain rfl : lo = y + R := by omega
          by_cases ht : top = x
          · subst ht
            have ht3 : y + R < low := by omega
            clear hM e1 e2 e3 hz hn hp hhi hlo hP htop hlow hQ hR hE hover hx hy hqc
            go_enter Tryd.func8, Tryd.ntmps8
            go_wp2_with (first | (go_at_call 28; ((with_reducible refine (HM.out _).mono ?_); rintro e w1 ⟨rfl, hb1⟩; replace hbel := hbel.trans (hb1.mono hbel.size); clear hb1)) | (go_at_call 30; ((with_reducible refine (HW1.out _).mono ?_); rintro e w' ⟨rfl, rfl⟩)) | (go_at_call 30; ((with_reducible refine (HW2.out _).mono ?_); rintro e w' ⟨rfl, rfl⟩)) | (go_at_call 30; ((with_reducible refine (HW3.out _).mono ?_); rintro e w' ⟨rfl, rfl⟩)) | (go_at_call 27; ((with_reducible refine (awake_any _ (HT.out.grow hbel)).mono ?_); rintro e w1 ⟨rfl, hb1⟩; replace hbel := hbel.trans (hb1.mono hbel.size); clear hb1)))
            go_ret
            exact ⟨rfl, hbel⟩
          · have ht1 : x < top := by omega
            have ht2 : (top == x) = false := by rw [beq_eq_false_iff_ne]; exact ht
            clear hM e1 e2 e3 hz hn hp hhi hlo hP htop hlow hQ hR hE hover hx hy hqc ht
            go_enter Tryd.func8, Tryd.ntmps8
            go_wp2_with (first | (go_at_call 28; ((with_reducible refine (HM.out _).mono ?_); rintro e w1 ⟨rfl, hb1⟩; replace hbel := hbel.trans (hb1.mono hbel.size); clear hb1)) | (go_at_call 30; ((with_reducible refine (HW1.out _).mono ?_); rintro e w' ⟨rfl, rfl⟩)) | (go_at_call 30; ((with_reducible refine (HW2.out _).mono ?_); rintro e w' ⟨rfl, rfl⟩)) | (go_at_call 30; ((with_reducible refine (HW3.out _).mono ?_); rintro e w' ⟨rfl, rfl⟩)) | (go_at_call 27; ((with_reducible refine (awake_any _ (HT.out.grow hbel)).mono ?_); rintro e w1 ⟨rfl, hb1⟩; replace hbel := hbel.trans (hb1.mono hbel.size); clear hb1)))
            go_ret
            exact ⟨rfl, hbel⟩
        · obtain rfl : hi = x + 1 := by omega
          obtain rfl : lo = y + R - 18446744073709551616 := by omega
          have hwr : IntKind.u64.wrap (y + R) = y + R - 18446744073709551616 := by unfold IntKind.wrap; simp [IntKind.signed, IntKind.bits]; omega
          have x1 : x ≤ 9223372036854775807 := by omega
          by_cases ht : top = x + 1
          · subst ht
            have ht3 : y + R - 18446744073709551616 < low := by omega
            clear hM e1 e2 e3 hz hn hp hhi hlo hP htop hlow hQ hR hE hover hx hy hqc
            go_enter Tryd.func8, Tryd.ntmps8
            go_wp2_with (first | (go_at_call 28; ((with_reducible refine (HM.out _).mono ?_); rintro e w1 ⟨rfl, hb1⟩; replace hbel := hbel.trans (hb1.mono hbel.size); clear hb1)) | (go_at_call 30; ((with_reducible refine (HW1.out _).mono ?_); rintro e w' ⟨rfl, rfl⟩)) | (go_at_call 30; ((with_reducible refine (HW2.out _).mono ?_); rintro e w' ⟨rfl, rfl⟩)) | (go_at_call 30; ((with_reducible refine (HW3.out _).mono ?_); rintro e w' ⟨rfl, rfl⟩)) | (go_at_call 27; ((with_reducible refine (awake_any _ (HT.out.grow hbel)).mono ?_); rintro e w1 ⟨rfl, hb1⟩; replace hbel := hbel.trans (hb1.mono hbel.size); clear hb1)))
            go_ret
            exact ⟨rfl, hbel⟩
          · have ht1 : x + 1 < top := by omega
            have ht2 : (top == x + 1) = false := by rw [beq_eq_false_iff_ne]; exact ht
            clear hM e1 e2 e3 hz hn hp hhi hlo hP htop hlow hQ hR hE hover hx hy hqc ht
            go_enter Tryd.func8, Tryd.ntmps8
            go_wp2_with (first | (go_at_call 28; ((with_reducible refine (HM.out _).mono ?_); rintro e w1 ⟨rfl, hb1⟩; replace hbel := hbel.trans (hb1.mono hbel.size); clear hb1)) | (go_at_call 30; ((with_reducible refine (HW1.out _).mono ?_); rintro e w' ⟨rfl, rfl⟩)) | (go_at_call 30; ((with_reducible refine (HW2.out _).mono ?_); rintro e w' ⟨rfl, rfl⟩)) | (go_at_call 30; ((with_reducible refine (HW3.out _).mono ?_); rintro e w' ⟨rfl, rfl⟩)) | (go_at_call 27; ((with_reducible refine (awake_any _ (HT.out.grow hbel)).mono ?_); rintro e w1 ⟨rfl, hb1⟩; replace hbel := hbel.trans (hb1.mono hbel.size); clear hb1)))
            go_ret
            exact ⟨rfl, hbel⟩
end Go.Proofs.YtgloiddnbppblaaDoor
