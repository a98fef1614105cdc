/- The laws NumAdds, NumInverts, NumMulDivs, NumPowers, NumGCDs, NumParses, NumFormats: the walks of their own texts. -/
import Derived.Test.YtgloiddnbppblaaDoorNumq
namespace Go.Proofs.YtgloiddnbppblaaDoor
open Go.ChangeShapes Go.WideShapes Go.ChangeAt Go.RowKit Go.Lott

theorem wf_int {a : Int} (h : (Lit.int .i64 a).wf = true) : -9223372036854775808 ≤ a ∧ a ≤ 9223372036854775807 := by
  have h1 : IntKind.i64.min ≤ a ∧ a ≤ 9223372036854775807 := by simpa [Lit.wf] using h
  exact h1
theorem MulDiv_u (a b c : Int) (w : World) (ha1 : a ≤ 9223372036854775807) (hb1 : b ≤ 9223372036854775807) (hc1 : c ≤ 9223372036854775807) (ha0 : -9223372036854775808 ≤ a) (hb0 : -9223372036854775808 ≤ b) (hc0 : -9223372036854775808 ≤ c) :
    Calls Tryd.prog 28 #[.int .i64 a, .int .i64 b, .int .i64 c] w (RetB (.tuple #[.int .i64 (mdQ a b c), .int .i64 (mdR a b c), .int .i64 (mdE a b c)]) w) := MulDiv_any a b c w ha1 hb1 hc1 ha0 hb0 hc0
theorem rMulDiv_u (a b c : Int) (w : World) (ha1 : a ≤ 9223372036854775807) (hb1 : b ≤ 9223372036854775807) (hc1 : c ≤ 9223372036854775807) (ha0 : -9223372036854775808 ≤ a) (hb0 : -9223372036854775808 ≤ b) (hc0 : -9223372036854775808 ≤ c) :
    Calls Tryd.prog 29 #[.int .i64 a, .int .i64 b, .int .i64 c] w (RetS (.tuple #[.int .i64 (mdQ a b c), .int .i64 (mdR a b c), .int .i64 (mdE a b c)]) w) := rMulDiv_any a b c w ha1 hb1 hc1 ha0 hb0 hc0
theorem Parse_u (s : ByteArray) (w : World) (hs : s.size ≤ 9223372036854775807) : Calls Tryd.prog 35 #[.string s] w (RetS (.tuple #[.int .i64 (Num.parN s.data.toList), .int .i64 (Num.parE s.data.toList)]) w) := Parse_any s w hs
theorem rParse_u (s : ByteArray) (w : World) (hs : s.size ≤ 9223372036854775807) : Calls Tryd.prog 36 #[.string s] w (RetS (.tuple #[.int .i64 (Num.parN s.data.toList), .int .i64 (Num.parE s.data.toList)]) w) := rParse_any s w hs
set_option maxHeartbeats 2000000 in
theorem numAdds_walk (a b : Int) (W : World) (ha : (Lit.int .i64 a).wf = true) (hb : (Lit.int .i64 b).wf = true) (hp : P10 W) : Calls Tryd.prog 5 #[.int .i64 a, .int .i64 b] W (RetB (.bool true) W) := by
  have hbel := Below.refl W.heap.size W
  have HT := Lib.hid hp
  clear hp
  obtain ⟨a0, a1⟩ := wf_int ha
  obtain ⟨b0, b1⟩ := wf_int hb
  clear ha hb
  go_enter Tryd.func5, Tryd.ntmps5
  go_wp2_with (first | (go_at_call 21; refine (Add_any _ _ _ a0 a1 b0 b1).mono ?_; rintro e w' ⟨rfl, rfl⟩) | (go_at_call 22; refine (Sub_any _ _ _ a0 a1 b0 b1).mono ?_; rintro e w' ⟨rfl, rfl⟩) | (go_at_call 23; refine (Mul_any _ _ _ a0 a1 b0 b1).mono ?_; rintro e w' ⟨rfl, rfl⟩) | (go_at_call 24; refine (rAdd_any _ _ _ a0 a1 b0 b1).mono ?_; rintro e w' ⟨rfl, rfl⟩) | (go_at_call 25; refine (rSub_any _ _ _ a0 a1 b0 b1).mono ?_; rintro e w' ⟨rfl, rfl⟩) | (go_at_call 26; refine (rMul_any _ _ _ a0 a1 b0 b1).mono ?_; rintro e w' ⟨rfl, rfl⟩) | (go_at_call 27; refine (awake_any _ (HT.out.grow hbel)).mono ?_; rintro e w1 ⟨rfl, hb1⟩; replace hbel := hbel.trans (hb1.mono hbel.size); clear hb1))
  go_ret
  exact ⟨rfl, hbel⟩
set_option maxHeartbeats 2000000 in
theorem numMulDivs_walk (a b c : Int) (W : World) (ha : (Lit.int .i64 a).wf = true) (hb : (Lit.int .i64 b).wf = true) (hc : (Lit.int .i64 c).wf = true) (hp : P10 W) : Calls Tryd.prog 7 #[.int .i64 a, .int .i64 b, .int .i64 c] W (RetB (.bool true) W) := by
  have hbel := Below.refl W.heap.size W
  have HT := Lib.hid hp
  clear hp
  obtain ⟨a0, a1⟩ := wf_int ha
  obtain ⟨b0, b1⟩ := wf_int hb
  obtain ⟨c0, c1⟩ := wf_int hc
  clear ha hb hc
  go_enter Tryd.func7, Tryd.ntmps7
  go_wp2_with (first | (go_at_call 28; refine (MulDiv_u _ _ _ _ a1 b1 c1 a0 b0 c0).mono ?_; rintro e w1 ⟨rfl, hb1⟩; replace hbel := hbel.trans (hb1.mono hbel.size); clear hb1) | (go_at_call 29; refine (rMulDiv_u _ _ _ _ a1 b1 c1 a0 b0 c0).mono ?_; rintro e w' ⟨rfl, rfl⟩) | (go_at_call 27; refine (awake_any _ (HT.out.grow hbel)).mono ?_; rintro e w1 ⟨rfl, hb1⟩; replace hbel := hbel.trans (hb1.mono hbel.size); clear hb1))
  go_ret
  exact ⟨rfl, hbel⟩
set_option maxHeartbeats 2000000 in
theorem numPowers_walk (a b : Int) (W : World) (ha : (Lit.int .i64 a).wf = true) (_ : (Lit.int .i64 b).wf = true) (hp : P10 W) : Calls Tryd.prog 9 #[.int .i64 a, .int .i64 b] W (RetB (.bool true) W) := by
  have hbel := Below.refl W.heap.size W
  have HT := Lib.hid hp
  clear hp
  obtain ⟨a0, a1⟩ := wf_int ha
  clear ha
  go_enter Tryd.func9, Tryd.ntmps9
  go_wp2_with (first | (go_at_call 31; refine (Power_any _ _ _ a0 a1).mono ?_; rintro e w' ⟨rfl, rfl⟩) | (go_at_call 32; refine (rPower_any _ _ _ a0 a1).mono ?_; rintro e w' ⟨rfl, rfl⟩) | (go_at_call 27; refine (awake_any _ (HT.out.grow hbel)).mono ?_; rintro e w1 ⟨rfl, hb1⟩; replace hbel := hbel.trans (hb1.mono hbel.size); clear hb1))
  go_ret
  exact ⟨rfl, hbel⟩
/-- What NumInverts needs of sums, differences and products. -/
theorem nok {n : Int} : (Num.okE n = 0 ∧ Num.okN n = n ∧ -9223372036854775808 ≤ n ∧ n ≤ 9223372036854775807) ∨ (Num.okE n = 9 ∧ Num.okN n = 0) := by
  by_cases h : -9223372036854775808 ≤ n ∧ n ≤ 9223372036854775807
  · exact .inl ⟨(Num.ok_yes h).2, (Num.ok_yes h).1, h⟩
  · exact .inr ⟨(Num.ok_no h).2, (Num.ok_no h).1⟩
set_option maxHeartbeats 4000000 in
theorem numInverts_walk (a b : Int) (W : World) (ha : (Lit.int .i64 a).wf = true) (hb : (Lit.int .i64 b).wf = true) (hp : P10 W) : Calls Tryd.prog 6 #[.int .i64 a, .int .i64 b] W (RetB (.bool true) W) := by
  have hbel := Below.refl W.heap.size W
  have HT := Lib.hid hp
  clear hp
  obtain ⟨a0, a1⟩ := wf_int ha
  obtain ⟨b0, b1⟩ := wf_int hb
  clear ha hb
  have hA1 := fun w => Add_any a b w a0 a1 b0 b1
  have hA2 := fun w => Add_any b a w b0 b1 a0 a1
  have hS1 := fun w => Sub_any a b w a0 a1 b0 b1
  have hM1 := fun w => Mul_any a b w a0 a1 b0 b1
  have hM2 := fun w => Mul_any b a w b0 b1 a0 a1
  rw [Int.add_comm b a] at hA2
  rw [Int.mul_comm b a] at hM2
  generalize a * b = p at *
  have HM1 := Lib.hid hM1
  have HM2 := Lib.hid hM2
  clear hM1 hM2
  obtain ⟨s, hs⟩ : ∃ s, s = a + b := ⟨_, rfl⟩
  obtain ⟨d, hd⟩ : ∃ d, d = a - b := ⟨_, rfl⟩
  rw [← hs] at hA1 hA2
  rw [← hd] at hS1
  rcases @nok s with ⟨s1, s2, s3, s4⟩ | ⟨s1, s2⟩
  · have hX := fun w => Sub_any s b w s3 s4 b0 b1
    rw [show s - b = a by omega, (Num.ok_yes ⟨a0, a1⟩).1, (Num.ok_yes ⟨a0, a1⟩).2] at hX
    rw [s1, s2] at hA1 hA2
    have HX := Lib.hid hX
    have HA1 := Lib.hid hA1
    have HA2 := Lib.hid hA2
    clear hA1 hA2 hX s1 s2
    rcases @nok d with ⟨d1, d2, d3, d4⟩ | ⟨d1, d2⟩
    · have hY := fun w => Add_any d b w d3 d4 b0 b1
      rw [show d + b = a by omega, (Num.ok_yes ⟨a0, a1⟩).1, (Num.ok_yes ⟨a0, a1⟩).2] at hY
      rw [d1, d2] at hS1
      have HY := Lib.hid hY
      have HS1 := Lib.hid hS1
      clear hS1 hY d1 d2 hs hd
      go_enter Tryd.func6, Tryd.ntmps6
      go_wp2_with (first | (go_at_call 21; ((with_reducible refine (HA1.out _).mono ?_); rintro e w' ⟨rfl, rfl⟩)) | (go_at_call 21; ((with_reducible refine (HA2.out _).mono ?_); rintro e w' ⟨rfl, rfl⟩)) | (go_at_call 22; ((with_reducible refine (HS1.out _).mono ?_); rintro e w' ⟨rfl, rfl⟩)) | (go_at_call 23; ((with_reducible refine (HM1.out _).mono ?_); rintro e w' ⟨rfl, rfl⟩)) | (go_at_call 23; ((with_reducible refine (HM2.out _).mono ?_); rintro e w' ⟨rfl, rfl⟩)) | (go_at_call 22; ((with_reducible refine (HX.out _).mono ?_); rintro e w' ⟨rfl, rfl⟩)) | (go_at_call 21; ((with_reducible refine (HY.out _).mono ?_); rintro e w' ⟨rfl, rfl⟩)) | (go_at_call 27; ((with_reducible refine (awake_any _ (HT.out.grow hbel)).mono ?_); rintro e w1 ⟨rfl, hb1⟩; replace hbel := hbel.trans (hb1.mono hbel.size); clear hb1)))
      go_ret
      exact ⟨rfl, hbel⟩
    · rw [d1, d2] at hS1
      have HS1 := Lib.hid hS1
      clear hS1 d1 d2 hs hd
      go_enter Tryd.func6, Tryd.ntmps6
      go_wp2_with (first | (go_at_call 21; ((with_reducible refine (HA1.out _).mono ?_); rintro e w' ⟨rfl, rfl⟩)) | (go_at_call 21; ((with_reducible refine (HA2.out _).mono ?_); rintro e w' ⟨rfl, rfl⟩)) | (go_at_call 22; ((with_reducible refine (HS1.out _).mono ?_); rintro e w' ⟨rfl, rfl⟩)) | (go_at_call 23; ((with_reducible refine (HM1.out _).mono ?_); rintro e w' ⟨rfl, rfl⟩)) | (go_at_call 23; ((with_reducible refine (HM2.out _).mono ?_); rintro e w' ⟨rfl, rfl⟩)) | (go_at_call 22; ((with_reducible refine (HX.out _).mono ?_); rintro e w' ⟨rfl, rfl⟩)) | fail | (go_at_call 27; ((with_reducible refine (awake_any _ (HT.out.grow hbel)).mono ?_); rintro e w1 ⟨rfl, hb1⟩; replace hbel := hbel.trans (hb1.mono hbel.size); clear hb1)))
      go_ret
      exact ⟨rfl, hbel⟩
  · rw [s1, s2] at hA1 hA2
    have HA1 := Lib.hid hA1
    have HA2 := Lib.hid hA2
    clear hA1 hA2 s1 s2
    rcases @nok d with ⟨d1, d2, d3, d4⟩ | ⟨d1, d2⟩
    · have hY := fun w => Add_any d b w d3 d4 b0 b1
      rw [show d + b = a by omega, (Num.ok_yes ⟨a0, a1⟩).1, (Num.ok_yes ⟨a0, a1⟩).2] at hY
      rw [d1, d2] at hS1
      have HY := Lib.hid hY
      have HS1 := Lib.hid hS1
      clear hS1 hY d1 d2 hs hd
      go_enter Tryd.func6, Tryd.ntmps6
      go_wp2_with (first | (go_at_call 21; ((with_reducible refine (HA1.out _).mono ?_); rintro e w' ⟨rfl, rfl⟩)) | (go_at_call 21; ((with_reducible refine (HA2.out _).mono ?_); rintro e w' ⟨rfl, rfl⟩)) | (go_at_call 22; ((with_reducible refine (HS1.out _).mono ?_); rintro e w' ⟨rfl, rfl⟩)) | (go_at_call 23; ((with_reducible refine (HM1.out _).mono ?_); rintro e w' ⟨rfl, rfl⟩)) | (go_at_call 23; ((with_reducible refine (HM2.out _).mono ?_); rintro e w' ⟨rfl, rfl⟩)) | fail | (go_at_call 21; ((with_reducible refine (HY.out _).mono ?_); rintro e w' ⟨rfl, rfl⟩)) | (go_at_call 27; ((with_reducible refine (awake_any _ (HT.out.grow hbel)).mono ?_); rintro e w1 ⟨rfl, hb1⟩; replace hbel := hbel.trans (hb1.mono hbel.size); clear hb1)))
      go_ret
      exact ⟨rfl, hbel⟩
    · rw [d1, d2] at hS1
      have HS1 := Lib.hid hS1
      clear hS1 d1 d2 hs hd
      go_enter Tryd.func6, Tryd.ntmps6
      go_wp2_with (first | (go_at_call 21; ((with_reducible refine (HA1.out _).mono ?_); rintro e w' ⟨rfl, rfl⟩)) | (go_at_call 21; ((with_reducible refine (HA2.out _).mono ?_); rintro e w' ⟨rfl, rfl⟩)) | (go_at_call 22; ((with_reducible refine (HS1.out _).mono ?_); rintro e w' ⟨rfl, rfl⟩)) | (go_at_call 23; ((with_reducible refine (HM1.out _).mono ?_); rintro e w' ⟨rfl, rfl⟩)) | (go_at_call 23; ((with_reducible refine (HM2.out _).mono ?_); rintro e w' ⟨rfl, rfl⟩)) | fail | fail | (go_at_call 27; ((with_reducible refine (awake_any _ (HT.out.grow hbel)).mono ?_); rintro e w1 ⟨rfl, hb1⟩; replace hbel := hbel.trans (hb1.mono hbel.size); clear hb1)))
      go_ret
      exact ⟨rfl, hbel⟩
theorem gcdN_bd (a b : Int) : 0 ≤ gcdN a b := by unfold gcdN; split <;> omega
theorem gcdN_comm (a b : Int) : gcdN b a = gcdN a b := by unfold gcdN; rw [Nat.gcd_comm]
theorem gcdN_dvd {a b : Int} (h : gcdN a b ≠ 0) : a.tmod (gcdN a b) = 0 ∧ b.tmod (gcdN a b) = 0 := by
  unfold gcdN at *
  by_cases c : gcdB (Nat.gcd (Num.ab a).toNat (Num.ab b).toNat) = true
  · rw [if_pos c] at *
    have ha : (Num.ab a).toNat = a.natAbs := by unfold Num.ab; split <;> omega
    have hb : (Num.ab b).toNat = b.natAbs := by unfold Num.ab; split <;> omega
    rw [ha, hb] at *
    exact ⟨Int.tmod_eq_zero_of_dvd (Int.ofNat_dvd_left.2 (Nat.gcd_dvd_left _ _)), Int.tmod_eq_zero_of_dvd (Int.ofNat_dvd_left.2 (Nat.gcd_dvd_right _ _))⟩
  · rw [if_neg c] at h; exact (h rfl).elim
set_option maxHeartbeats 2000000 in
theorem numGCDs_walk (a b : Int) (W : World) (ha : (Lit.int .i64 a).wf = true) (hb : (Lit.int .i64 b).wf = true) (hp : P10 W) : Calls Tryd.prog 11 #[.int .i64 a, .int .i64 b] W (RetB (.bool true) W) := by
  have hbel := Below.refl W.heap.size W
  have HT := Lib.hid hp
  clear hp
  obtain ⟨a0, a1⟩ := wf_int ha
  obtain ⟨b0, b1⟩ := wf_int hb
  clear ha hb
  have h0 := gcdN_bd a b
  have hD := @gcdN_dvd a b
  have hG := fun w => GCD_any a b w a0 a1 b0 b1
  have hG2 := fun w => GCD_any b a w b0 b1 a0 a1
  have hR := fun w => rGCD_any a b w a0 a1 b0 b1
  rw [gcdN_comm] at hG2
  generalize gcdN a b = g at *
  have HG := Lib.hid hG
  have HG2 := Lib.hid hG2
  have HR := Lib.hid hR
  clear hG hG2 hR
  by_cases hz : g = 0
  · subst hz
    clear hD
    go_enter Tryd.func11, Tryd.ntmps11
    go_wp2_with (first | (go_at_call 33; ((with_reducible refine (HG.out _).mono ?_); rintro e w1 ⟨rfl, hb1⟩; replace hbel := hbel.trans (hb1.mono hbel.size); clear hb1)) | (go_at_call 33; ((with_reducible refine (HG2.out _).mono ?_); rintro e w1 ⟨rfl, hb1⟩; replace hbel := hbel.trans (hb1.mono hbel.size); clear hb1)) | (go_at_call 34; ((with_reducible refine (HR.out _).mono ?_); rintro e w' ⟨rfl, rfl⟩)) | (go_at_call 27; ((with_reducible refine (awake_any _ (HT.out.grow hbel)).mono ?_); rintro e w1 ⟨rfl, hb1⟩; replace hbel := hbel.trans (hb1.mono hbel.size); clear hb1)))
    go_ret
    exact ⟨rfl, hbel⟩
  · obtain ⟨d1, d2⟩ := hD hz
    have hz1 : (g == 0) = false := by simp [hz]
    have hz2 : 0 < g := by omega
    clear hD hz
    go_enter Tryd.func11, Tryd.ntmps11
    go_wp2_with (first | (go_at_call 33; ((with_reducible refine (HG.out _).mono ?_); rintro e w1 ⟨rfl, hb1⟩; replace hbel := hbel.trans (hb1.mono hbel.size); clear hb1)) | (go_at_call 33; ((with_reducible refine (HG2.out _).mono ?_); rintro e w1 ⟨rfl, hb1⟩; replace hbel := hbel.trans (hb1.mono hbel.size); clear hb1)) | (go_at_call 34; ((with_reducible refine (HR.out _).mono ?_); rintro e w' ⟨rfl, rfl⟩)) | (go_at_call 27; ((with_reducible refine (awake_any _ (HT.out.grow hbel)).mono ?_); rintro e w1 ⟨rfl, hb1⟩; replace hbel := hbel.trans (hb1.mono hbel.size); clear hb1)))
    go_ret
    exact ⟨rfl, hbel⟩
end Go.Proofs.YtgloiddnbppblaaDoor
