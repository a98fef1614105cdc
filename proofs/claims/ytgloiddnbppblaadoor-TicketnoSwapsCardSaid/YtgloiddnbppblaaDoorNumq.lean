/- The examples of the chapter, as the laws check them. -/
import Derived.Test.YtgloiddnbppblaaDoorNump
namespace Go.Proofs.YtgloiddnbppblaaDoor
open Go.ChangeShapes Go.WideShapes Go.ChangeAt Go.RowKit Go.Lott

theorem it_m12 : itB (-12) = ⟨#[45, 49, 50]⟩ := by
  unfold itB Lib.itoa
  rw [if_pos (by decide), show (-12 : Int).natAbs = 12 from rfl, Lib.decDigits_two (by decide) (by decide)]
  rfl
theorem aw1 (w : World) : Calls Tryd.prog 21 #[.int .i64 9223372036854775807, .int .i64 1] w (RetS (.tuple #[.int .i64 0, .int .i64 9]) w) := Add_any _ _ w (by decide) (by decide) (by decide) (by decide)
theorem aw2 (w : World) : Calls Tryd.prog 22 #[.int .i64 (-9223372036854775808), .int .i64 (-1)] w (RetS (.tuple #[.int .i64 (-9223372036854775807), .int .i64 0]) w) := Sub_any _ _ w (by decide) (by decide) (by decide) (by decide)
theorem aw3 (w : World) : Calls Tryd.prog 23 #[.int .i64 (-9223372036854775808), .int .i64 (-1)] w (RetS (.tuple #[.int .i64 0, .int .i64 9]) w) := Mul_any _ _ w (by decide) (by decide) (by decide) (by decide)
theorem aw4 (w : World) : Calls Tryd.prog 28 #[.int .i64 7, .int .i64 3, .int .i64 2] w (RetB (.tuple #[.int .i64 10, .int .i64 1, .int .i64 0]) w) := MulDiv_any _ _ _ w (by decide) (by decide) (by decide) (by decide) (by decide) (by decide)
theorem aw5 (w : World) : Calls Tryd.prog 31 #[.int .i64 (-2097152), .int .i64 3] w (RetS (.tuple #[.int .i64 (-9223372036854775808), .int .i64 0]) w) := Power_any _ _ w (by decide) (by decide)
theorem aw6 (w : World) : Calls Tryd.prog 35 #[.string ⟨#[45, 49, 50]⟩] w (RetS (.tuple #[.int .i64 (-12), .int .i64 0]) w) := Parse_any ⟨#[45, 49, 50]⟩ w (by decide)
theorem aw7 (w : World) : Calls Tryd.prog 35 #[.string ⟨#[48, 48, 55]⟩] w (RetS (.tuple #[.int .i64 0, .int .i64 1]) w) := Parse_any ⟨#[48, 48, 55]⟩ w (by decide)
theorem aw8 (w : World) : Calls Tryd.prog 33 #[.int .i64 12, .int .i64 (-18)] w (RetB (.int .i64 6) w) := GCD_any _ _ w (by decide) (by decide) (by decide) (by decide)
theorem aw9 (w : World) (h : P10 w) : Calls Tryd.prog 37 #[.int .i64 (-12)] w (RetB (.string ⟨#[45, 49, 50]⟩) w) := by
  have := Format_any (-12) w (by decide) (by decide) h
  rw [it_m12] at this; exact this
set_option maxHeartbeats 2000000 in
theorem awake_any (w : World) (hp : P10 w) : Calls Tryd.prog 27 #[] w (RetB (.bool true) w) := by
  have hbel := Below.refl w.heap.size w
  have HT := Lib.hid hp
  clear hp
  go_enter Tryd.func27, Tryd.ntmps27
  go_wp2_with (first | (go_at_call 21; ((with_reducible refine (aw1 _).mono ?_); rintro e w' ⟨rfl, rfl⟩)) | (go_at_call 22; ((with_reducible refine (aw2 _).mono ?_); rintro e w' ⟨rfl, rfl⟩)) | (go_at_call 23; ((with_reducible refine (aw3 _).mono ?_); rintro e w' ⟨rfl, rfl⟩)) | (go_at_call 28; ((with_reducible refine (aw4 _).mono ?_); rintro e w1 ⟨rfl, hb1⟩; replace hbel := hbel.trans (hb1.mono hbel.size); clear hb1)) | (go_at_call 31; ((with_reducible refine (aw5 _).mono ?_); rintro e w' ⟨rfl, rfl⟩)) | (go_at_call 35; ((with_reducible refine (aw6 _).mono ?_); rintro e w' ⟨rfl, rfl⟩)) | (go_at_call 35; ((with_reducible refine (aw7 _).mono ?_); rintro e w' ⟨rfl, rfl⟩)) | (go_at_call 33; ((with_reducible refine (aw8 _).mono ?_); rintro e w1 ⟨rfl, hb1⟩; replace hbel := hbel.trans (hb1.mono hbel.size); clear hb1)) | (go_at_call 37; ((with_reducible refine (aw9 _ (HT.out.grow hbel)).mono ?_); rintro e w1 ⟨rfl, hb1⟩; replace hbel := hbel.trans (hb1.mono hbel.size); clear hb1)))
  go_ret
  exact ⟨rfl, hbel⟩
end Go.Proofs.YtgloiddnbppblaaDoor
