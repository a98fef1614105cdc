/- Parts, multiples and quotients of amounts. -/
import Derived.Test.YtkpmbkkhdhjbnaaDoorMpd
namespace Go.Lott.Mny
def ptB (m b : Int) : Prop := (0 ≤ m ∧ m ≤ 1000000000000) ∧ 0 ≤ b ∧ b ≤ 10000
def rdB (m u : Int) : Prop := (0 ≤ m ∧ m ≤ 1000000000000) ∧ 1 ≤ u ∧ u ≤ 1000000000000
def evB (m n : Int) : Prop := (0 ≤ m ∧ m ≤ 1000000000000) ∧ 1 ≤ n
instance (m b : Int) : Decidable (ptB m b) := by unfold ptB; infer_instance
instance (m b : Int) : Decidable (rdB m b) := by unfold rdB; infer_instance
instance (m b : Int) : Decidable (evB m b) := by unfold evB; infer_instance
def ptV (m b : Int) : Int := if ptB m b then m * b / 10000 else 0
def ptE (m b : Int) : Int := if ptB m b then 0 else 2
def rdQ (m u : Int) : Int := if rdB m u then m - m % u else 0
def rdR (m u : Int) : Int := if rdB m u then m % u else 0
def rdE (m u : Int) : Int := if rdB m u then 0 else 2
def evQ (m n : Int) : Int := if evB m n then m / n else 0
def evR (m n : Int) : Int := if evB m n then m % n else 0
def evE (m n : Int) : Int := if evB m n then 0 else 2
theorem pt_no {m b : Int} (h : ¬ ptB m b) : 0 = ptV m b ∧ 2 = ptE m b := by unfold ptV ptE; rw [if_neg h, if_neg h]; exact ⟨rfl, rfl⟩
theorem pt_yes {m b : Int} (h : ptB m b) : m * b / 10000 = ptV m b ∧ 0 = ptE m b := by unfold ptV ptE; rw [if_pos h, if_pos h]; exact ⟨rfl, rfl⟩
theorem rd_no {m b : Int} (h : ¬ rdB m b) : 0 = rdQ m b ∧ 0 = rdR m b ∧ 2 = rdE m b := by unfold rdQ rdR rdE; rw [if_neg h, if_neg h, if_neg h]; exact ⟨rfl, rfl, rfl⟩
theorem rd_yes {m b : Int} (h : rdB m b) : m - m % b = rdQ m b ∧ m % b = rdR m b ∧ 0 = rdE m b := by unfold rdQ rdR rdE; rw [if_pos h, if_pos h, if_pos h]; exact ⟨rfl, rfl, rfl⟩
theorem ev_no {m b : Int} (h : ¬ evB m b) : 0 = evQ m b ∧ 0 = evR m b ∧ 2 = evE m b := by unfold evQ evR evE; rw [if_neg h, if_neg h, if_neg h]; exact ⟨rfl, rfl, rfl⟩
theorem ev_yes {m b : Int} (h : evB m b) : m / b = evQ m b ∧ m % b = evR m b ∧ 0 = evE m b := by unfold evQ evR evE; rw [if_pos h, if_pos h, if_pos h]; exact ⟨rfl, rfl, rfl⟩
theorem dm_bd {m u : Int} (h0 : 0 ≤ m) (h1 : 1 ≤ u) : 0 ≤ m / u ∧ m / u ≤ m ∧ 0 ≤ m % u ∧ m % u ≤ m ∧ m % u ≤ u - 1 ∧ m / u * u = m - m % u := by
  have e := Int.mul_ediv_add_emod m u
  have a := Int.emod_lt_of_pos m (show 0 < u by omega)
  have b := Int.emod_nonneg m (show u ≠ 0 by omega)
  have c := Int.ediv_nonneg h0 (show 0 ≤ u by omega)
  have d : m / u ≤ m := Int.ediv_le_self _ h0
  have g : m / u * u = u * (m / u) := Int.mul_comm _ _
  have k : 0 ≤ u * (m / u) := Int.mul_nonneg (by omega) c
  exact ⟨c, d, b, by omega, by omega, by omega⟩
end Go.Lott.Mny
namespace Go.Proofs.YtkpmbkkhdhjbnaaDoor
open Go.ChangeShapes Go.WideShapes Go.ChangeAt Go.RowKit Go.Lott
open Go.Lott.Mny
set_option maxHeartbeats 1000000 in
theorem Part_any (m b : Int) (w : World) : Calls Tryd.prog 24 #[.int .i64 m, .int .i64 b] w (RetS (.tuple #[.int .i64 (ptV m b), .int .i64 (ptE m b)]) w) := by
  have hv := fun w => Valid_any m w
  by_cases hm : 0 ≤ m ∧ m ≤ 1000000000000
  · rw [(amB_iff m).2 hm] at hv
    have HM := Lib.hid hv
    obtain ⟨m0, m1⟩ := hm
    clear hv
    by_cases b0 : b < 0
    · have HV := Lib.hid (pt_no (m := m) (b := b) (fun h => by have := h.2.1; omega))
      go_enter Tryd.func24, Tryd.ntmps24
      go_wp2_with (go_at_call 15; refine (HM.out _).mono ?_; rintro e w' ⟨rfl, rfl⟩)
      go_ret2
      exact ⟨ret_two HV.out.1 HV.out.2, rfl⟩
    by_cases b1 : 10000 < b
    · have HV := Lib.hid (pt_no (m := m) (b := b) (fun h => by have := h.2.2; omega))
      go_enter Tryd.func24, Tryd.ntmps24
      go_wp2_with (go_at_call 15; refine (HM.out _).mono ?_; rintro e w' ⟨rfl, rfl⟩)
      go_ret2
      exact ⟨ret_two HV.out.1 HV.out.2, rfl⟩
    have b2 : 0 ≤ b := by omega
    have b3 : b ≤ 10000 := by omega
    have HV := Lib.hid (pt_yes (m := m) (b := b) ⟨⟨m0, m1⟩, b2, b3⟩)
    have p0 : 0 ≤ m * b := Int.mul_nonneg m0 b2
    have p1 : m * b ≤ 10000000000000000 := by
      have a1 := Int.mul_le_mul_of_nonneg_left b3 m0
      omega
    have w1 : IntKind.i64.wrap (m * b) = m * b := IntWalk.i64_in _ (by omega)
    have t1 : (m * b).tdiv 10000 = m * b / 10000 := Int.tdiv_eq_ediv_of_nonneg p0
    have q0 : 0 ≤ m * b / 10000 := by omega
    have q1 : m * b / 10000 ≤ 1000000000000 := by omega
    clear b0 b1
    go_enter Tryd.func24, Tryd.ntmps24
    go_wp2_with (go_at_call 15; refine (HM.out _).mono ?_; rintro e w' ⟨rfl, rfl⟩)
    go_ret2
    exact ⟨ret_two HV.out.1 HV.out.2, rfl⟩
  · rw [show amB m = false from decide_eq_false hm] at hv
    have HM := Lib.hid hv
    have HN := Lib.hid hm
    clear hv hm
    have HV := Lib.hid (pt_no (m := m) (b := b) (fun h => HN.out h.1))
    go_enter Tryd.func24, Tryd.ntmps24
    go_wp2_with (go_at_call 15; refine (HM.out _).mono ?_; rintro e w' ⟨rfl, rfl⟩)
    go_ret2
    exact ⟨ret_two HV.out.1 HV.out.2, rfl⟩
set_option maxHeartbeats 1000000 in
theorem rPart_any (m b : Int) (w : World) : Calls Tryd.prog 25 #[.int .i64 m, .int .i64 b] w (RetS (.tuple #[.int .i64 (ptV m b), .int .i64 (ptE m b)]) w) := by
  have hv := fun w => rValid_any m w
  by_cases hm : 0 ≤ m ∧ m ≤ 1000000000000
  · rw [(amB_iff m).2 hm] at hv
    have HM := Lib.hid hv
    obtain ⟨m0, m1⟩ := hm
    clear hv
    by_cases b0 : b < 0
    · have HV := Lib.hid (pt_no (m := m) (b := b) (fun h => by have := h.2.1; omega))
      go_enter Tryd.func25, Tryd.ntmps25
      go_wp2_with (go_at_call 30; refine (HM.out _).mono ?_; rintro e w' ⟨rfl, rfl⟩)
      go_ret2
      exact ⟨ret_two HV.out.1 HV.out.2, rfl⟩
    by_cases b1 : 10000 < b
    · have HV := Lib.hid (pt_no (m := m) (b := b) (fun h => by have := h.2.2; omega))
      go_enter Tryd.func25, Tryd.ntmps25
      go_wp2_with (go_at_call 30; refine (HM.out _).mono ?_; rintro e w' ⟨rfl, rfl⟩)
      go_ret2
      exact ⟨ret_two HV.out.1 HV.out.2, rfl⟩
    have b2 : 0 ≤ b := by omega
    have b3 : b ≤ 10000 := by omega
    have HV := Lib.hid (pt_yes (m := m) (b := b) ⟨⟨m0, m1⟩, b2, b3⟩)
    have p0 : 0 ≤ m * b := Int.mul_nonneg m0 b2
    have p1 : m * b ≤ 10000000000000000 := by
      have a1 := Int.mul_le_mul_of_nonneg_left b3 m0
      omega
    have w1 : IntKind.i64.wrap (m * b) = m * b := IntWalk.i64_in _ (by omega)
    have t1 : (m * b).tdiv 10000 = m * b / 10000 := Int.tdiv_eq_ediv_of_nonneg p0
    have q0 : 0 ≤ m * b / 10000 := by omega
    have q1 : m * b / 10000 ≤ 1000000000000 := by omega
    clear b0 b1
    go_enter Tryd.func25, Tryd.ntmps25
    go_wp2_with (go_at_call 30; refine (HM.out _).mono ?_; rintro e w' ⟨rfl, rfl⟩)
    go_ret2
    exact ⟨ret_two HV.out.1 HV.out.2, rfl⟩
  · rw [show amB m = false from decide_eq_false hm] at hv
    have HM := Lib.hid hv
    have HN := Lib.hid hm
    clear hv hm
    have HV := Lib.hid (pt_no (m := m) (b := b) (fun h => HN.out h.1))
    go_enter Tryd.func25, Tryd.ntmps25
    go_wp2_with (go_at_call 30; refine (HM.out _).mono ?_; rintro e w' ⟨rfl, rfl⟩)
    go_ret2
    exact ⟨ret_two HV.out.1 HV.out.2, rfl⟩
set_option maxHeartbeats 1000000 in
theorem Round_any (m u : Int) (w : World) : Calls Tryd.prog 21 #[.int .i64 m, .int .i64 u] w (RetB (.tuple #[.int .i64 (rdQ m u), .int .i64 (rdR m u), .int .i64 (rdE m u)]) w) := by
  have hv := fun w => Valid_any m w
  by_cases hm : 0 ≤ m ∧ m ≤ 1000000000000
  · rw [(amB_iff m).2 hm] at hv
    have HM := Lib.hid hv
    obtain ⟨m0, m1⟩ := hm
    clear hv
    by_cases b0 : u < 1
    · have HV := Lib.hid (rd_no (m := m) (b := u) (fun h => by have := h.2.1; omega))
      go_enter Tryd.func21, Tryd.ntmps21
      go_wp2_with (go_at_call 15; refine (HM.out _).mono ?_; rintro e w' ⟨rfl, rfl⟩)
      go_ret3
      exact ⟨ret_three HV.out.1 HV.out.2.1 HV.out.2.2, Below.refl _ _⟩
    by_cases b1 : 1000000000000 < u
    · have HV := Lib.hid (rd_no (m := m) (b := u) (fun h => by have := h.2.2; omega))
      go_enter Tryd.func21, Tryd.ntmps21
      go_wp2_with (go_at_call 15; refine (HM.out _).mono ?_; rintro e w' ⟨rfl, rfl⟩)
      go_ret3
      exact ⟨ret_three HV.out.1 HV.out.2.1 HV.out.2.2, Below.refl _ _⟩
    have u0 : 1 ≤ u := by omega
    have u1 : u ≤ 1000000000000 := by omega
    have HV := Lib.hid (rd_yes (m := m) (b := u) ⟨⟨m0, m1⟩, u0, u1⟩)
    obtain ⟨d0, d1, d2, d3, d4, d5⟩ := dm_bd m0 u0
    have u3 : (u == 0) = false := by rw [beq_eq_false_iff_ne]; omega
    have u4 : u ≠ 0 := by omega
    have t1 : m.tmod u = m % u := Int.tmod_eq_emod_of_nonneg m0
    have t2 : m.tdiv u = m / u := Int.tdiv_eq_ediv_of_nonneg m0
    have w1 : IntKind.i64.wrap (m % u) = m % u := IntWalk.i64_in _ (by omega)
    have w2 : IntKind.i64.wrap (m / u) = m / u := IntWalk.i64_in _ (by omega)
    have w3 : IntKind.i64.wrap (m - m % u) = m - m % u := IntWalk.i64_in _ (by omega)
    clear b0 b1
    go_enter Tryd.func21, Tryd.ntmps21
    go_wp2_with (go_at_call 15; refine (HM.out _).mono ?_; rintro e w' ⟨rfl, rfl⟩)
    refine wp_region_below (by kernel_rfl) (by kernel_rfl) ?_
    repeat (go_big_quiet_step (fail))
    refine wpQuiet_nil ?_
    rintro wx ⟨⟨_, hbx⟩, rfl⟩
    go_wp2
    go_ret3
    exact ⟨ret_three HV.out.1 HV.out.2.1 HV.out.2.2, hbx⟩
  · rw [show amB m = false from decide_eq_false hm] at hv
    have HM := Lib.hid hv
    have HN := Lib.hid hm
    clear hv hm
    have HV := Lib.hid (rd_no (m := m) (b := u) (fun h => HN.out h.1))
    go_enter Tryd.func21, Tryd.ntmps21
    go_wp2_with (go_at_call 15; refine (HM.out _).mono ?_; rintro e w' ⟨rfl, rfl⟩)
    go_ret3
    exact ⟨ret_three HV.out.1 HV.out.2.1 HV.out.2.2, Below.refl _ _⟩
set_option maxHeartbeats 1000000 in
theorem rRound_any (m u : Int) (w : World) : Calls Tryd.prog 26 #[.int .i64 m, .int .i64 u] w (RetB (.tuple #[.int .i64 (rdQ m u), .int .i64 (rdR m u), .int .i64 (rdE m u)]) w) := by
  have hv := fun w => rValid_any m w
  by_cases hm : 0 ≤ m ∧ m ≤ 1000000000000
  · rw [(amB_iff m).2 hm] at hv
    have HM := Lib.hid hv
    obtain ⟨m0, m1⟩ := hm
    clear hv
    by_cases b0 : u < 1
    · have HV := Lib.hid (rd_no (m := m) (b := u) (fun h => by have := h.2.1; omega))
      go_enter Tryd.func26, Tryd.ntmps26
      go_wp2_with (go_at_call 30; refine (HM.out _).mono ?_; rintro e w' ⟨rfl, rfl⟩)
      go_ret3
      exact ⟨ret_three HV.out.1 HV.out.2.1 HV.out.2.2, Below.refl _ _⟩
    by_cases b1 : 1000000000000 < u
    · have HV := Lib.hid (rd_no (m := m) (b := u) (fun h => by have := h.2.2; omega))
      go_enter Tryd.func26, Tryd.ntmps26
      go_wp2_with (go_at_call 30; refine (HM.out _).mono ?_; rintro e w' ⟨rfl, rfl⟩)
      go_ret3
      exact ⟨ret_three HV.out.1 HV.out.2.1 HV.out.2.2, Below.refl _ _⟩
    have u0 : 1 ≤ u := by omega
    have u1 : u ≤ 1000000000000 := by omega
    have HV := Lib.hid (rd_yes (m := m) (b := u) ⟨⟨m0, m1⟩, u0, u1⟩)
    obtain ⟨d0, d1, d2, d3, d4, d5⟩ := dm_bd m0 u0
    have u3 : (u == 0) = false := by rw [beq_eq_false_iff_ne]; omega
    have u4 : u ≠ 0 := by omega
    have t1 : m.tmod u = m % u := Int.tmod_eq_emod_of_nonneg m0
    have t2 : m.tdiv u = m / u := Int.tdiv_eq_ediv_of_nonneg m0
    have w1 : IntKind.i64.wrap (m % u) = m % u := IntWalk.i64_in _ (by omega)
    have w2 : IntKind.i64.wrap (m / u) = m / u := IntWalk.i64_in _ (by omega)
    have w3 : IntKind.i64.wrap (m - m % u) = m - m % u := IntWalk.i64_in _ (by omega)
    clear b0 b1
    go_enter Tryd.func26, Tryd.ntmps26
    go_wp2_with (go_at_call 30; refine (HM.out _).mono ?_; rintro e w' ⟨rfl, rfl⟩)
    refine wp_region_below (by kernel_rfl) (by kernel_rfl) ?_
    repeat (go_big_quiet_step (fail))
    refine wpQuiet_nil ?_
    rintro wx ⟨⟨_, hbx⟩, rfl⟩
    go_wp2
    go_ret3
    exact ⟨ret_three HV.out.1 HV.out.2.1 HV.out.2.2, hbx⟩
  · rw [show amB m = false from decide_eq_false hm] at hv
    have HM := Lib.hid hv
    have HN := Lib.hid hm
    clear hv hm
    have HV := Lib.hid (rd_no (m := m) (b := u) (fun h => HN.out h.1))
    go_enter Tryd.func26, Tryd.ntmps26
    go_wp2_with (go_at_call 30; refine (HM.out _).mono ?_; rintro e w' ⟨rfl, rfl⟩)
    go_ret3
    exact ⟨ret_three HV.out.1 HV.out.2.1 HV.out.2.2, Below.refl _ _⟩
set_option maxHeartbeats 1000000 in
theorem Even_any (m u : Int) (w : World) (hu : u ≤ 9223372036854775807) : Calls Tryd.prog 23 #[.int .i64 m, .int .i64 u] w (RetB (.tuple #[.int .i64 (evQ m u), .int .i64 (evR m u), .int .i64 (evE m u)]) w) := by
  have hv := fun w => Valid_any m w
  by_cases hm : 0 ≤ m ∧ m ≤ 1000000000000
  · rw [(amB_iff m).2 hm] at hv
    have HM := Lib.hid hv
    obtain ⟨m0, m1⟩ := hm
    clear hv
    by_cases b0 : u < 1
    · have HV := Lib.hid (ev_no (m := m) (b := u) (fun h => by have := h.2; omega))
      go_enter Tryd.func23, Tryd.ntmps23
      go_wp2_with (go_at_call 15; refine (HM.out _).mono ?_; rintro e w' ⟨rfl, rfl⟩)
      go_ret3
      exact ⟨ret_three HV.out.1 HV.out.2.1 HV.out.2.2, Below.refl _ _⟩
    have u0 : 1 ≤ u := by omega
    have HV := Lib.hid (ev_yes (m := m) (b := u) ⟨⟨m0, m1⟩, u0⟩)
    obtain ⟨d0, d1, d2, d3, d4, d5⟩ := dm_bd m0 u0
    have u3 : (u == 0) = false := by rw [beq_eq_false_iff_ne]; omega
    have u4 : u ≠ 0 := by omega
    have t1 : m.tmod u = m % u := Int.tmod_eq_emod_of_nonneg m0
    have t2 : m.tdiv u = m / u := Int.tdiv_eq_ediv_of_nonneg m0
    have w1 : IntKind.i64.wrap (m % u) = m % u := IntWalk.i64_in _ (by omega)
    have w2 : IntKind.i64.wrap (m / u) = m / u := IntWalk.i64_in _ (by omega)
    have w3 : IntKind.i64.wrap (m - m % u) = m - m % u := IntWalk.i64_in _ (by omega)
    clear b0
    go_enter Tryd.func23, Tryd.ntmps23
    go_wp2_with (go_at_call 15; refine (HM.out _).mono ?_; rintro e w' ⟨rfl, rfl⟩)
    refine wp_region_below (by kernel_rfl) (by kernel_rfl) ?_
    repeat (go_big_quiet_step (fail))
    refine wpQuiet_nil ?_
    rintro wx ⟨⟨_, hbx⟩, rfl⟩
    go_wp2
    go_ret3
    exact ⟨ret_three HV.out.1 HV.out.2.1 HV.out.2.2, hbx⟩
  · rw [show amB m = false from decide_eq_false hm] at hv
    have HM := Lib.hid hv
    have HN := Lib.hid hm
    clear hv hm
    have HV := Lib.hid (ev_no (m := m) (b := u) (fun h => HN.out h.1))
    go_enter Tryd.func23, Tryd.ntmps23
    go_wp2_with (go_at_call 15; refine (HM.out _).mono ?_; rintro e w' ⟨rfl, rfl⟩)
    go_ret3
    exact ⟨ret_three HV.out.1 HV.out.2.1 HV.out.2.2, Below.refl _ _⟩
set_option maxHeartbeats 1000000 in
theorem rEven_any (m u : Int) (w : World) (hu : u ≤ 9223372036854775807) : Calls Tryd.prog 27 #[.int .i64 m, .int .i64 u] w (RetB (.tuple #[.int .i64 (evQ m u), .int .i64 (evR m u), .int .i64 (evE m u)]) w) := by
  have hv := fun w => rValid_any m w
  by_cases hm : 0 ≤ m ∧ m ≤ 1000000000000
  · rw [(amB_iff m).2 hm] at hv
    have HM := Lib.hid hv
    obtain ⟨m0, m1⟩ := hm
    clear hv
    by_cases b0 : u < 1
    · have HV := Lib.hid (ev_no (m := m) (b := u) (fun h => by have := h.2; omega))
      go_enter Tryd.func27, Tryd.ntmps27
      go_wp2_with (go_at_call 30; refine (HM.out _).mono ?_; rintro e w' ⟨rfl, rfl⟩)
      go_ret3
      exact ⟨ret_three HV.out.1 HV.out.2.1 HV.out.2.2, Below.refl _ _⟩
    have u0 : 1 ≤ u := by omega
    have HV := Lib.hid (ev_yes (m := m) (b := u) ⟨⟨m0, m1⟩, u0⟩)
    obtain ⟨d0, d1, d2, d3, d4, d5⟩ := dm_bd m0 u0
    have u3 : (u == 0) = false := by rw [beq_eq_false_iff_ne]; omega
    have u4 : u ≠ 0 := by omega
    have t1 : m.tmod u = m % u := Int.tmod_eq_emod_of_nonneg m0
    have t2 : m.tdiv u = m / u := Int.tdiv_eq_ediv_of_nonneg m0
    have w1 : IntKind.i64.wrap (m % u) = m % u := IntWalk.i64_in _ (by omega)
    have w2 : IntKind.i64.wrap (m / u) = m / u := IntWalk.i64_in _ (by omega)
    have w3 : IntKind.i64.wrap (m - m % u) = m - m % u := IntWalk.i64_in _ (by omega)
    clear b0
    go_enter Tryd.func27, Tryd.ntmps27
    go_wp2_with (go_at_call 30; refine (HM.out _).mono ?_; rintro e w' ⟨rfl, rfl⟩)
    refine wp_region_below (by kernel_rfl) (by kernel_rfl) ?_
    repeat (go_big_quiet_step (fail))
    refine wpQuiet_nil ?_
    rintro wx ⟨⟨_, hbx⟩, rfl⟩
    go_wp2
    go_ret3
    exact ⟨ret_three HV.out.1 HV.out.2.1 HV.out.2.2, hbx⟩
  · rw [show amB m = false from decide_eq_false hm] at hv
    have HM := Lib.hid hv
    have HN := Lib.hid hm
    clear hv hm
    have HV := Lib.hid (ev_no (m := m) (b := u) (fun h => HN.out h.1))
    go_enter Tryd.func27, Tryd.ntmps27
    go_wp2_with (go_at_call 30; refine (HM.out _).mono ?_; rintro e w' ⟨rfl, rfl⟩)
    go_ret3
    exact ⟨ret_three HV.out.1 HV.out.2.1 HV.out.2.2, Below.refl _ _⟩
end Go.Proofs.YtkpmbkkhdhjbnaaDoor
