/- The report of totals: the reference's. -/
import Derived.Test.YtgmilhhifigkkaaDoorRpv
namespace Go.Proofs.YtgmilhhifigkkaaDoor
open Go.ChangeShapes Go.WideShapes Go.ChangeAt Go.RowKit Go.Lott
open Go.Lott.Mny Go.Lott.Rp
theorem tt_cell {W V : World} {z : Nat → Int} {t : TypeId} (h : V = W.alloc (.cells #[.int .i64 (z 0), .int .i64 (z 1), .int .i64 (z 2), .int .i64 (z 3), .int .i64 (z 4), .int .i64 (z 5), .int .i64 (z 6), .int .i64 (z 7), .int .i64 (z 8), .int .i64 (z 9), .int .i64 (z 10), .int .i64 (z 11), .int .i64 (z 12), .int .i64 (z 13), .int .i64 (z 14), .int .i64 (z 15), .int .i64 (z 16)] t)) (k : Nat) (hk : k < 17) (y : World) (hy : Below V.heap.size V y) : y.cell? ⟨W.heap.size, k, none⟩ = some (.int .i64 (z k)) := by
  have c : Cel V W.heap.size (fv 17 z) t := by rw [h]; exact Cel.new _ _ _
  rw [(c.below hy c.lt).cell, fv_get hk]
theorem tt_eq (z : Nat → Int) {b0 b1 b2 b3 b4 b5 b6 b7 b8 b9 b10 b11 b12 b13 b14 b15 b16 : ByteArray} (h0 : b0 = sumB ⟨#[115, 97, 108, 101, 115]⟩ (z 0)) (h1 : b1 = sumB ⟨#[99, 97, 110, 99, 101, 108, 115]⟩ (z 1)) (h2 : b2 = sumB ⟨#[97, 100, 100, 111, 110, 115]⟩ (z 2)) (h3 : b3 = sumB ⟨#[105, 110, 115, 116, 97, 110, 116, 115]⟩ (z 3)) (h4 : b4 = sumB ⟨#[114, 101, 116, 117, 114, 110, 115]⟩ (z 4)) (h5 : b5 = sumB ⟨#[102, 117, 110, 100, 115]⟩ (z 5)) (h6 : b6 = sumB ⟨#[114, 101, 115, 101, 114, 118, 101]⟩ (z 6)) (h7 : b7 = sumB ⟨#[112, 114, 105, 122, 101, 115]⟩ (z 7)) (h8 : b8 = sumB ⟨#[99, 97, 114, 114, 105, 101, 100]⟩ (z 8)) (h9 : b9 = sumB ⟨#[98, 114, 101, 97, 107, 97, 103, 101]⟩ (z 9)) (h10 : b10 = sumB ⟨#[99, 108, 97, 105, 109, 101, 100]⟩ (z 10)) (h11 : b11 = sumB ⟨#[101, 120, 112, 105, 114, 101, 100]⟩ (z 11)) (h12 : b12 = sumB ⟨#[116, 97, 120]⟩ (z 12)) (h13 : b13 = sumB ⟨#[111, 102, 102, 115, 101, 116]⟩ (z 13)) (h14 : b14 = sumB ⟨#[110, 101, 116]⟩ (z 14)) (h15 : b15 = sumB ⟨#[99, 111, 109, 109, 105, 115, 115, 105, 111, 110]⟩ (z 15)) (h16 : b16 = sumB ⟨#[100, 117, 101]⟩ (z 16)) : ((((((((((((((((b0 ++ b1) ++ b2) ++ b3) ++ b4) ++ b5) ++ b6) ++ b7) ++ b8) ++ b9) ++ b10) ++ b11) ++ b12) ++ b13) ++ b14) ++ b15) ++ b16) = ⟨(totT z 17).toArray⟩ := bytes_of (by
  subst h0 h1 h2 h3 h4 h5 h6 h7 h8 h9 h10 h11 h12 h13 h14 h15 h16
  simp only [ByteArray.data_append, Array.toList_append, sumB_list]
  rfl)
set_option maxHeartbeats 8000000 in
set_option maxRecDepth 100000 in
theorem rTotals_any (z : Nat → Int) (W : World) (hz : ∀ j, j < 17 → I64 (z j)) :
    Calls Tryd.prog 17 #[.agg #[.int .i64 (z 0), .int .i64 (z 1), .int .i64 (z 2), .int .i64 (z 3), .int .i64 (z 4), .int .i64 (z 5), .int .i64 (z 6), .int .i64 (z 7), .int .i64 (z 8), .int .i64 (z 9), .int .i64 (z 10), .int .i64 (z 11), .int .i64 (z 12), .int .i64 (z 13), .int .i64 (z 14), .int .i64 (z 15), .int .i64 (z 16)]] W (RetB (.string ⟨(totT z 17).toArray⟩) W) := by
  obtain ⟨V, hV⟩ : ∃ V : World, V = W.alloc (.cells #[.int .i64 (z 0), .int .i64 (z 1), .int .i64 (z 2), .int .i64 (z 3), .int .i64 (z 4), .int .i64 (z 5), .int .i64 (z 6), .int .i64 (z 7), .int .i64 (z 8), .int .i64 (z 9), .int .i64 (z 10), .int .i64 (z 11), .int .i64 (z 12), .int .i64 (z 13), .int .i64 (z 14), .int .i64 (z 15), .int .i64 (z 16)] 35) := ⟨_, rfl⟩
  have HBV : Hid (Below W.heap.size W V) := by rw [hV]; exact (Below.refl _ _).alloc (Nat.le_refl _) _
  have HG := Lib.hid (tt_cell hV)
  have HW := Lib.hid hV
  have HX := Lib.hid (Below.refl V.heap.size V)
  have hlt : W.heap.size < V.heap.size := by rw [hV]; simp
  have HZ := Lib.hid hz
  clear hV hz
  obtain ⟨b0, hb0⟩ : ∃ b : ByteArray, b = sumB ⟨#[115, 97, 108, 101, 115]⟩ (z 0) := ⟨_, rfl⟩
  have n0 : b0.size ≤ 100 := by rw [hb0]; exact Nat.le_trans (sumB_size _ _) (by decide)
  have E0 := Lib.hid fun w => rSum_any ⟨#[115, 97, 108, 101, 115]⟩ (z 0) w (by decide) (HZ.out 0 (by omega)).1 (HZ.out 0 (by omega)).2
  rw [← hb0] at E0
  obtain ⟨b1, hb1⟩ : ∃ b : ByteArray, b = sumB ⟨#[99, 97, 110, 99, 101, 108, 115]⟩ (z 1) := ⟨_, rfl⟩
  have n1 : b1.size ≤ 100 := by rw [hb1]; exact Nat.le_trans (sumB_size _ _) (by decide)
  have E1 := Lib.hid fun w => rSum_any ⟨#[99, 97, 110, 99, 101, 108, 115]⟩ (z 1) w (by decide) (HZ.out 1 (by omega)).1 (HZ.out 1 (by omega)).2
  rw [← hb1] at E1
  obtain ⟨b2, hb2⟩ : ∃ b : ByteArray, b = sumB ⟨#[97, 100, 100, 111, 110, 115]⟩ (z 2) := ⟨_, rfl⟩
  have n2 : b2.size ≤ 100 := by rw [hb2]; exact Nat.le_trans (sumB_size _ _) (by decide)
  have E2 := Lib.hid fun w => rSum_any ⟨#[97, 100, 100, 111, 110, 115]⟩ (z 2) w (by decide) (HZ.out 2 (by omega)).1 (HZ.out 2 (by omega)).2
  rw [← hb2] at E2
  obtain ⟨b3, hb3⟩ : ∃ b : ByteArray, b = sumB ⟨#[105, 110, 115, 116, 97, 110, 116, 115]⟩ (z 3) := ⟨_, rfl⟩
  have n3 : b3.size ≤ 100 := by rw [hb3]; exact Nat.le_trans (sumB_size _ _) (by decide)
  have E3 := Lib.hid fun w => rSum_any ⟨#[105, 110, 115, 116, 97, 110, 116, 115]⟩ (z 3) w (by decide) (HZ.out 3 (by omega)).1 (HZ.out 3 (by omega)).2
  rw [← hb3] at E3
  obtain ⟨b4, hb4⟩ : ∃ b : ByteArray, b = sumB ⟨#[114, 101, 116, 117, 114, 110, 115]⟩ (z 4) := ⟨_, rfl⟩
  have n4 : b4.size ≤ 100 := by rw [hb4]; exact Nat.le_trans (sumB_size _ _) (by decide)
  have E4 := Lib.hid fun w => rSum_any ⟨#[114, 101, 116, 117, 114, 110, 115]⟩ (z 4) w (by decide) (HZ.out 4 (by omega)).1 (HZ.out 4 (by omega)).2
  rw [← hb4] at E4
  obtain ⟨b5, hb5⟩ : ∃ b : ByteArray, b = sumB ⟨#[102, 117, 110, 100, 115]⟩ (z 5) := ⟨_, rfl⟩
  have n5 : b5.size ≤ 100 := by rw [hb5]; exact Nat.le_trans (sumB_size _ _) (by decide)
  have E5 := Lib.hid fun w => rSum_any ⟨#[102, 117, 110, 100, 115]⟩ (z 5) w (by decide) (HZ.out 5 (by omega)).1 (HZ.out 5 (by omega)).2
  rw [← hb5] at E5
  obtain ⟨b6, hb6⟩ : ∃ b : ByteArray, b = sumB ⟨#[114, 101, 115, 101, 114, 118, 101]⟩ (z 6) := ⟨_, rfl⟩
  have n6 : b6.size ≤ 100 := by rw [hb6]; exact Nat.le_trans (sumB_size _ _) (by decide)
  have E6 := Lib.hid fun w => rSum_any ⟨#[114, 101, 115, 101, 114, 118, 101]⟩ (z 6) w (by decide) (HZ.out 6 (by omega)).1 (HZ.out 6 (by omega)).2
  rw [← hb6] at E6
  obtain ⟨b7, hb7⟩ : ∃ b : ByteArray, b = sumB ⟨#[112, 114, 105, 122, 101, 115]⟩ (z 7) := ⟨_, rfl⟩
  have n7 : b7.size ≤ 100 := by rw [hb7]; exact Nat.le_trans (sumB_size _ _) (by decide)
  have E7 := Lib.hid fun w => rSum_any ⟨#[112, 114, 105, 122, 101, 115]⟩ (z 7) w (by decide) (HZ.out 7 (by omega)).1 (HZ.out 7 (by omega)).2
  rw [← hb7] at E7
  obtain ⟨b8, hb8⟩ : ∃ b : ByteArray, b = sumB ⟨#[99, 97, 114, 114, 105, 101, 100]⟩ (z 8) := ⟨_, rfl⟩
  have n8 : b8.size ≤ 100 := by rw [hb8]; exact Nat.le_trans (sumB_size _ _) (by decide)
  have E8 := Lib.hid fun w => rSum_any ⟨#[99, 97, 114, 114, 105, 101, 100]⟩ (z 8) w (by decide) (HZ.out 8 (by omega)).1 (HZ.out 8 (by omega)).2
  rw [← hb8] at E8
  obtain ⟨b9, hb9⟩ : ∃ b : ByteArray, b = sumB ⟨#[98, 114, 101, 97, 107, 97, 103, 101]⟩ (z 9) := ⟨_, rfl⟩
  have n9 : b9.size ≤ 100 := by rw [hb9]; exact Nat.le_trans (sumB_size _ _) (by decide)
  have E9 := Lib.hid fun w => rSum_any ⟨#[98, 114, 101, 97, 107, 97, 103, 101]⟩ (z 9) w (by decide) (HZ.out 9 (by omega)).1 (HZ.out 9 (by omega)).2
  rw [← hb9] at E9
  obtain ⟨b10, hb10⟩ : ∃ b : ByteArray, b = sumB ⟨#[99, 108, 97, 105, 109, 101, 100]⟩ (z 10) := ⟨_, rfl⟩
  have n10 : b10.size ≤ 100 := by rw [hb10]; exact Nat.le_trans (sumB_size _ _) (by decide)
  have E10 := Lib.hid fun w => rSum_any ⟨#[99, 108, 97, 105, 109, 101, 100]⟩ (z 10) w (by decide) (HZ.out 10 (by omega)).1 (HZ.out 10 (by omega)).2
  rw [← hb10] at E10
  obtain ⟨b11, hb11⟩ : ∃ b : ByteArray, b = sumB ⟨#[101, 120, 112, 105, 114, 101, 100]⟩ (z 11) := ⟨_, rfl⟩
  have n11 : b11.size ≤ 100 := by rw [hb11]; exact Nat.le_trans (sumB_size _ _) (by decide)
  have E11 := Lib.hid fun w => rSum_any ⟨#[101, 120, 112, 105, 114, 101, 100]⟩ (z 11) w (by decide) (HZ.out 11 (by omega)).1 (HZ.out 11 (by omega)).2
  rw [← hb11] at E11
  obtain ⟨b12, hb12⟩ : ∃ b : ByteArray, b = sumB ⟨#[116, 97, 120]⟩ (z 12) := ⟨_, rfl⟩
  have n12 : b12.size ≤ 100 := by rw [hb12]; exact Nat.le_trans (sumB_size _ _) (by decide)
  have E12 := Lib.hid fun w => rSum_any ⟨#[116, 97, 120]⟩ (z 12) w (by decide) (HZ.out 12 (by omega)).1 (HZ.out 12 (by omega)).2
  rw [← hb12] at E12
  obtain ⟨b13, hb13⟩ : ∃ b : ByteArray, b = sumB ⟨#[111, 102, 102, 115, 101, 116]⟩ (z 13) := ⟨_, rfl⟩
  have n13 : b13.size ≤ 100 := by rw [hb13]; exact Nat.le_trans (sumB_size _ _) (by decide)
  have E13 := Lib.hid fun w => rSum_any ⟨#[111, 102, 102, 115, 101, 116]⟩ (z 13) w (by decide) (HZ.out 13 (by omega)).1 (HZ.out 13 (by omega)).2
  rw [← hb13] at E13
  obtain ⟨b14, hb14⟩ : ∃ b : ByteArray, b = sumB ⟨#[110, 101, 116]⟩ (z 14) := ⟨_, rfl⟩
  have n14 : b14.size ≤ 100 := by rw [hb14]; exact Nat.le_trans (sumB_size _ _) (by decide)
  have E14 := Lib.hid fun w => rSum_any ⟨#[110, 101, 116]⟩ (z 14) w (by decide) (HZ.out 14 (by omega)).1 (HZ.out 14 (by omega)).2
  rw [← hb14] at E14
  obtain ⟨b15, hb15⟩ : ∃ b : ByteArray, b = sumB ⟨#[99, 111, 109, 109, 105, 115, 115, 105, 111, 110]⟩ (z 15) := ⟨_, rfl⟩
  have n15 : b15.size ≤ 100 := by rw [hb15]; exact Nat.le_trans (sumB_size _ _) (by decide)
  have E15 := Lib.hid fun w => rSum_any ⟨#[99, 111, 109, 109, 105, 115, 115, 105, 111, 110]⟩ (z 15) w (by decide) (HZ.out 15 (by omega)).1 (HZ.out 15 (by omega)).2
  rw [← hb15] at E15
  obtain ⟨b16, hb16⟩ : ∃ b : ByteArray, b = sumB ⟨#[100, 117, 101]⟩ (z 16) := ⟨_, rfl⟩
  have n16 : b16.size ≤ 100 := by rw [hb16]; exact Nat.le_trans (sumB_size _ _) (by decide)
  have E16 := Lib.hid fun w => rSum_any ⟨#[100, 117, 101]⟩ (z 16) w (by decide) (HZ.out 16 (by omega)).1 (HZ.out 16 (by omega)).2
  rw [← hb16] at E16
  have HE := Lib.hid (tt_eq z hb0 hb1 hb2 hb3 hb4 hb5 hb6 hb7 hb8 hb9 hb10 hb11 hb12 hb13 hb14 hb15 hb16)
  clear hb0 hb1 hb2 hb3 hb4 hb5 hb6 hb7 hb8 hb9 hb10 hb11 hb12 hb13 hb14 hb15 hb16
  have q1 := Lib.hid (show (9223372036854775807 < b0.size + b1.size) = False by simp only [eq_iff_iff, iff_false]; omega)
  have q2 := Lib.hid (show (9223372036854775807 < b0.size + b1.size + b2.size) = False by simp only [eq_iff_iff, iff_false]; omega)
  have q3 := Lib.hid (show (9223372036854775807 < b0.size + b1.size + b2.size + b3.size) = False by simp only [eq_iff_iff, iff_false]; omega)
  have q4 := Lib.hid (show (9223372036854775807 < b0.size + b1.size + b2.size + b3.size + b4.size) = False by simp only [eq_iff_iff, iff_false]; omega)
  have q5 := Lib.hid (show (9223372036854775807 < b0.size + b1.size + b2.size + b3.size + b4.size + b5.size) = False by simp only [eq_iff_iff, iff_false]; omega)
  have q6 := Lib.hid (show (9223372036854775807 < b0.size + b1.size + b2.size + b3.size + b4.size + b5.size + b6.size) = False by simp only [eq_iff_iff, iff_false]; omega)
  have q7 := Lib.hid (show (9223372036854775807 < b0.size + b1.size + b2.size + b3.size + b4.size + b5.size + b6.size + b7.size) = False by simp only [eq_iff_iff, iff_false]; omega)
  have q8 := Lib.hid (show (9223372036854775807 < b0.size + b1.size + b2.size + b3.size + b4.size + b5.size + b6.size + b7.size + b8.size) = False by simp only [eq_iff_iff, iff_false]; omega)
  have q9 := Lib.hid (show (9223372036854775807 < b0.size + b1.size + b2.size + b3.size + b4.size + b5.size + b6.size + b7.size + b8.size + b9.size) = False by simp only [eq_iff_iff, iff_false]; omega)
  have q10 := Lib.hid (show (9223372036854775807 < b0.size + b1.size + b2.size + b3.size + b4.size + b5.size + b6.size + b7.size + b8.size + b9.size + b10.size) = False by simp only [eq_iff_iff, iff_false]; omega)
  have q11 := Lib.hid (show (9223372036854775807 < b0.size + b1.size + b2.size + b3.size + b4.size + b5.size + b6.size + b7.size + b8.size + b9.size + b10.size + b11.size) = False by simp only [eq_iff_iff, iff_false]; omega)
  have q12 := Lib.hid (show (9223372036854775807 < b0.size + b1.size + b2.size + b3.size + b4.size + b5.size + b6.size + b7.size + b8.size + b9.size + b10.size + b11.size + b12.size) = False by simp only [eq_iff_iff, iff_false]; omega)
  have q13 := Lib.hid (show (9223372036854775807 < b0.size + b1.size + b2.size + b3.size + b4.size + b5.size + b6.size + b7.size + b8.size + b9.size + b10.size + b11.size + b12.size + b13.size) = False by simp only [eq_iff_iff, iff_false]; omega)
  have q14 := Lib.hid (show (9223372036854775807 < b0.size + b1.size + b2.size + b3.size + b4.size + b5.size + b6.size + b7.size + b8.size + b9.size + b10.size + b11.size + b12.size + b13.size + b14.size) = False by simp only [eq_iff_iff, iff_false]; omega)
  have q15 := Lib.hid (show (9223372036854775807 < b0.size + b1.size + b2.size + b3.size + b4.size + b5.size + b6.size + b7.size + b8.size + b9.size + b10.size + b11.size + b12.size + b13.size + b14.size + b15.size) = False by simp only [eq_iff_iff, iff_false]; omega)
  have q16 := Lib.hid (show (9223372036854775807 < b0.size + b1.size + b2.size + b3.size + b4.size + b5.size + b6.size + b7.size + b8.size + b9.size + b10.size + b11.size + b12.size + b13.size + b14.size + b15.size + b16.size) = False by simp only [eq_iff_iff, iff_false]; omega)
  clear n0 n1 n2 n3 n4 n5 n6 n7 n8 n9 n10 n11 n12 n13 n14 n15 n16
  go_enter Tryd.func17, Tryd.ntmps17
  go_wp2
  rw [← HW.out]
  have g0 := fun x : Sub V.heap.size V => HG.out 0 (by omega) x.w (HX.out.trans (x.h.mono HX.out.size))
  have F0 := Lib.hid fun x : Sub V.heap.size V => E0.out x.w
  have g1 := fun x : Sub V.heap.size V => HG.out 1 (by omega) x.w (HX.out.trans (x.h.mono HX.out.size))
  have F1 := Lib.hid fun x : Sub V.heap.size V => E1.out x.w
  have r1 := q1.out
  have g2 := fun x : Sub V.heap.size V => HG.out 2 (by omega) x.w (HX.out.trans (x.h.mono HX.out.size))
  have F2 := Lib.hid fun x : Sub V.heap.size V => E2.out x.w
  have r2 := q2.out
  refine wp_region_below (by kernel_rfl) (by kernel_rfl) ?_
  repeat (go_big_quiet_step (((go_at_call 30; first | (with_reducible exact Sub.ofB _ (Nat.le_refl _) (F0.out _)) | (with_reducible exact Sub.ofB _ (Nat.le_refl _) (F1.out _)) | (with_reducible exact Sub.ofB _ (Nat.le_refl _) (F2.out _))))))
  refine wpQuiet_nil ?_
  rintro w1 ⟨⟨_, hb⟩, rfl⟩
  replace HX := Lib.hid (HX.out.trans (hb.mono HX.out.size))
  clear hb g0 g1 g2 F0 F1 F2 r1 r2
  go_wp2
  have g3 := fun x : Sub w1.heap.size w1 => HG.out 3 (by omega) x.w (HX.out.trans (x.h.mono HX.out.size))
  have F3 := Lib.hid fun x : Sub w1.heap.size w1 => E3.out x.w
  have r3 := q3.out
  have g4 := fun x : Sub w1.heap.size w1 => HG.out 4 (by omega) x.w (HX.out.trans (x.h.mono HX.out.size))
  have F4 := Lib.hid fun x : Sub w1.heap.size w1 => E4.out x.w
  have r4 := q4.out
  have g5 := fun x : Sub w1.heap.size w1 => HG.out 5 (by omega) x.w (HX.out.trans (x.h.mono HX.out.size))
  have F5 := Lib.hid fun x : Sub w1.heap.size w1 => E5.out x.w
  have r5 := q5.out
  have g6 := fun x : Sub w1.heap.size w1 => HG.out 6 (by omega) x.w (HX.out.trans (x.h.mono HX.out.size))
  have F6 := Lib.hid fun x : Sub w1.heap.size w1 => E6.out x.w
  have r6 := q6.out
  refine wp_region_below (by kernel_rfl) (by kernel_rfl) ?_
  repeat (go_big_quiet_step (((go_at_call 30; first | (with_reducible exact Sub.ofB _ (Nat.le_refl _) (F3.out _)) | (with_reducible exact Sub.ofB _ (Nat.le_refl _) (F4.out _)) | (with_reducible exact Sub.ofB _ (Nat.le_refl _) (F5.out _)) | (with_reducible exact Sub.ofB _ (Nat.le_refl _) (F6.out _))))))
  refine wpQuiet_nil ?_
  rintro w2 ⟨⟨_, hb⟩, rfl⟩
  replace HX := Lib.hid (HX.out.trans (hb.mono HX.out.size))
  clear hb g3 g4 g5 g6 F3 F4 F5 F6 r3 r4 r5 r6
  go_wp2
  have g7 := fun x : Sub w2.heap.size w2 => HG.out 7 (by omega) x.w (HX.out.trans (x.h.mono HX.out.size))
  have F7 := Lib.hid fun x : Sub w2.heap.size w2 => E7.out x.w
  have r7 := q7.out
  have g8 := fun x : Sub w2.heap.size w2 => HG.out 8 (by omega) x.w (HX.out.trans (x.h.mono HX.out.size))
  have F8 := Lib.hid fun x : Sub w2.heap.size w2 => E8.out x.w
  have r8 := q8.out
  have g9 := fun x : Sub w2.heap.size w2 => HG.out 9 (by omega) x.w (HX.out.trans (x.h.mono HX.out.size))
  have F9 := Lib.hid fun x : Sub w2.heap.size w2 => E9.out x.w
  have r9 := q9.out
  refine wp_region_below (by kernel_rfl) (by kernel_rfl) ?_
  repeat (go_big_quiet_step (((go_at_call 30; first | (with_reducible exact Sub.ofB _ (Nat.le_refl _) (F7.out _)) | (with_reducible exact Sub.ofB _ (Nat.le_refl _) (F8.out _)) | (with_reducible exact Sub.ofB _ (Nat.le_refl _) (F9.out _))))))
  refine wpQuiet_nil ?_
  rintro w3 ⟨⟨_, hb⟩, rfl⟩
  replace HX := Lib.hid (HX.out.trans (hb.mono HX.out.size))
  clear hb g7 g8 g9 F7 F8 F9 r7 r8 r9
  go_wp2
  have g10 := fun x : Sub w3.heap.size w3 => HG.out 10 (by omega) x.w (HX.out.trans (x.h.mono HX.out.size))
  have F10 := Lib.hid fun x : Sub w3.heap.size w3 => E10.out x.w
  have r10 := q10.out
  have g11 := fun x : Sub w3.heap.size w3 => HG.out 11 (by omega) x.w (HX.out.trans (x.h.mono HX.out.size))
  have F11 := Lib.hid fun x : Sub w3.heap.size w3 => E11.out x.w
  have r11 := q11.out
  have g12 := fun x : Sub w3.heap.size w3 => HG.out 12 (by omega) x.w (HX.out.trans (x.h.mono HX.out.size))
  have F12 := Lib.hid fun x : Sub w3.heap.size w3 => E12.out x.w
  have r12 := q12.out
  have g13 := fun x : Sub w3.heap.size w3 => HG.out 13 (by omega) x.w (HX.out.trans (x.h.mono HX.out.size))
  have F13 := Lib.hid fun x : Sub w3.heap.size w3 => E13.out x.w
  have r13 := q13.out
  have g14 := fun x : Sub w3.heap.size w3 => HG.out 14 (by omega) x.w (HX.out.trans (x.h.mono HX.out.size))
  have F14 := Lib.hid fun x : Sub w3.heap.size w3 => E14.out x.w
  have r14 := q14.out
  refine wp_region_below (by kernel_rfl) (by kernel_rfl) ?_
  repeat (go_big_quiet_step (((go_at_call 30; first | (with_reducible exact Sub.ofB _ (Nat.le_refl _) (F10.out _)) | (with_reducible exact Sub.ofB _ (Nat.le_refl _) (F11.out _)) | (with_reducible exact Sub.ofB _ (Nat.le_refl _) (F12.out _)) | (with_reducible exact Sub.ofB _ (Nat.le_refl _) (F13.out _)) | (with_reducible exact Sub.ofB _ (Nat.le_refl _) (F14.out _))))))
  refine wpQuiet_nil ?_
  rintro w4 ⟨⟨_, hb⟩, rfl⟩
  replace HX := Lib.hid (HX.out.trans (hb.mono HX.out.size))
  clear hb g10 g11 g12 g13 g14 F10 F11 F12 F13 F14 r10 r11 r12 r13 r14
  go_wp2
  have g15 := fun x : Sub w4.heap.size w4 => HG.out 15 (by omega) x.w (HX.out.trans (x.h.mono HX.out.size))
  have F15 := Lib.hid fun x : Sub w4.heap.size w4 => E15.out x.w
  have r15 := q15.out
  have g16 := fun x : Sub w4.heap.size w4 => HG.out 16 (by omega) x.w (HX.out.trans (x.h.mono HX.out.size))
  have F16 := Lib.hid fun x : Sub w4.heap.size w4 => E16.out x.w
  have r16 := q16.out
  refine wp_region_below (by kernel_rfl) (by kernel_rfl) ?_
  repeat (go_big_quiet_step (((go_at_call 30; first | (with_reducible exact Sub.ofB _ (Nat.le_refl _) (F15.out _)) | (with_reducible exact Sub.ofB _ (Nat.le_refl _) (F16.out _))))))
  refine wpQuiet_nil ?_
  rintro w5 ⟨⟨_, hb⟩, rfl⟩
  replace HX := Lib.hid (HX.out.trans (hb.mono HX.out.size))
  clear hb g15 g16 F15 F16 r15 r16
  go_wp2
  go_ret
  exact ⟨ret_str HE.out, HBV.out.trans (HX.out.mono HBV.out.size)⟩
end Go.Proofs.YtgmilhhifigkkaaDoor
