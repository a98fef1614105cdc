/- Format and Parse of package calendar and of its reference: both compute the same plain functions. -/
import Derived.Test.YtmncocmdobondaaDoorCald
import Derived.Test.YtmncocmdobondaaDoorCalp
import Derived.Laws.BytesArg
namespace Go.Proofs.YtmncocmdobondaaDoor
open Go.ChangeShapes Go.WideShapes Go.ChangeAt Go.RowKit Go.Lott

theorem conv2 (a b : Int) (w : World) : (convert 62 9 (.slice (some ⟨w.heap.size, 0, none⟩) 2 2)).run Tryd.prog (w.alloc (.cells #[.int .u8 a, .int .u8 b] 5)) = .ok (.string (strOfNums [a, b])) (w.alloc (.cells #[.int .u8 a, .int .u8 b] 5)) :=
  run_convert_bytes_arg _ 62 5 Tryd.underlying62 Tryd.underlying5 _ 0 2 2 [a, b] rfl (fun i hi => by
    rcases (show i = 0 ∨ i = 1 by omega) with rfl | rfl <;> simp) 9 Tryd.underlying9
def twoS (n : Int) : ByteArray := strOfNums [48 + n / 10, 48 + n % 10]
theorem ret_str {a b : ByteArray} (h : a = b) : Ending.returned (.string a) = .returned (.string b) := by rw [h]
theorem fTwo_any (n : Int) (w : World) (h0 : 0 ≤ n) (h1 : n ≤ 99) : Calls Tryd.prog 54 #[.int .i64 n] w (RetB (.string (twoS n)) w) := by
  have hcv := conv2
  go_enter Tryd.func54, Tryd.ntmps54
  go_wp2
  go_ret
  exact ⟨ret_str (by unfold twoS; rw [show n / 10 % 10 = n / 10 by omega]), (Below.refl _ _).alloc (Nat.le_refl _) _⟩
theorem rTwo_any (n : Int) (w : World) (h0 : 0 ≤ n) (h1 : n ≤ 99) : Calls Tryd.prog 55 #[.int .i64 n] w (RetB (.string (twoS n)) w) := by
  have hcv := conv2
  go_enter Tryd.func55, Tryd.ntmps55
  go_wp2
  go_ret
  exact ⟨ret_str rfl, (Below.refl _ _).alloc (Nat.le_refl _) _⟩
theorem twoS_size (n : Int) : (twoS n).size = 2 := rfl
def fmtB (t : Int) : ByteArray :=
  twoS (Cal.cY (t / 1440) / 100) ++ twoS (Cal.cY (t / 1440) % 100) ++ ⟨#[45]⟩ ++ twoS (Cal.cM (t / 1440)) ++ ⟨#[45]⟩ ++ twoS (Cal.cD (t / 1440)) ++ ⟨#[32]⟩ ++ twoS (t % 1440 / 60) ++ ⟨#[58]⟩ ++ twoS (t % 60)
def fmtS (t : Int) : ByteArray := if isT t then fmtB t else ⟨#[]⟩
def fmtE (t : Int) : Int := if isT t then 0 else 2
theorem fmt_yes {t : Int} (h : isT t = true) : fmtS t = fmtB t ∧ fmtE t = 0 := by unfold fmtS fmtE; rw [h]; exact ⟨rfl, rfl⟩
theorem fmt_no {t : Int} (h : isT t = false) : fmtS t = ⟨#[]⟩ ∧ fmtE t = 2 := by unfold fmtS fmtE; rw [h]; exact ⟨rfl, rfl⟩
theorem ret_si {k : IntKind} {a a' : ByteArray} {b b' : Int} (h : a = a') (h' : b = b') : Ending.returned (.tuple #[.string a, .int k b]) = .returned (.tuple #[.string a', .int k b']) := by rw [h, h']
set_option maxHeartbeats 4000000 in
theorem Format_any (t : Int) (w : World) (ht : Tab w) : Calls Tryd.prog 26 #[.int .i64 t] w (RetB (.tuple #[.string (fmtS t), .int .i64 (fmtE t)]) w) := by
  have hbel := Below.refl w.heap.size w
  have HT := Lib.hid ht; clear ht
  by_cases hd : isT t = true
  · have hr : 0 ≤ t ∧ t ≤ 1073741824 := by simpa [isT] using hd
    have HF := Lib.hid (fmt_yes hd)
    obtain ⟨h0, h1⟩ := hr
    have hs := twoS_size
    have hy := Cal.cY_bd (t / 1440) (by omega) (by omega)
    obtain ⟨m1, m2, d1, d2, d3, d4⟩ := Cal.c_bd (t / 1440) (by omega) (by omega)
    go_enter Tryd.func26, Tryd.ntmps26
    go_wp2_with (first | (go_at_call 40; refine (isTime_any _ _).mono ?_; rintro e w' ⟨rfl, rfl⟩) | (go_at_call 37; refine (dateOf_t _ _ (HT.out.grow hbel) (by omega) (by omega)).mono ?_; rintro e w' ⟨rfl, rfl⟩) | (go_at_call 54; refine (fTwo_any _ _ (by omega) (by omega)).mono ?_; rintro e w1 ⟨rfl, hb1⟩; replace hbel := hbel.trans (hb1.mono hbel.size); clear hb1))
    go_ret2
    exact ⟨ret_si HF.out.1.symm HF.out.2.symm, hbel⟩
  · have hd' : isT t = false := by simpa using hd
    have HF := Lib.hid (fmt_no hd')
    clear hd
    go_enter Tryd.func26, Tryd.ntmps26
    go_wp2_with ((go_at_call 40; refine (isTime_any _ _).mono ?_; rintro e w' ⟨rfl, rfl⟩))
    go_ret2
    exact ⟨ret_si HF.out.1.symm HF.out.2.symm, hbel⟩
set_option maxHeartbeats 4000000 in
theorem rFormat_any (t : Int) (w : World) (_ : True) : Calls Tryd.prog 27 #[.int .i64 t] w (RetB (.tuple #[.string (fmtS t), .int .i64 (fmtE t)]) w) := by
  have hbel := Below.refl w.heap.size w
  skip
  by_cases hd : isT t = true
  · have hr : 0 ≤ t ∧ t ≤ 1073741824 := by simpa [isT] using hd
    have HF := Lib.hid (fmt_yes hd)
    obtain ⟨h0, h1⟩ := hr
    have hs := twoS_size
    have hy := Cal.cY_bd (t / 1440) (by omega) (by omega)
    obtain ⟨m1, m2, d1, d2, d3, d4⟩ := Cal.c_bd (t / 1440) (by omega) (by omega)
    go_enter Tryd.func27, Tryd.ntmps27
    go_wp2_with (first | (go_at_call 43; refine (rIsTime_any _ _).mono ?_; rintro e w' ⟨rfl, rfl⟩) | (go_at_call 39; refine (civil_t _ _ (by omega) (by omega)).mono ?_; rintro e w1 ⟨rfl, hb1⟩; replace hbel := hbel.trans (hb1.mono hbel.size); clear hb1) | (go_at_call 55; refine (rTwo_any _ _ (by omega) (by omega)).mono ?_; rintro e w1 ⟨rfl, hb1⟩; replace hbel := hbel.trans (hb1.mono hbel.size); clear hb1))
    go_ret2
    exact ⟨ret_si HF.out.1.symm HF.out.2.symm, hbel⟩
  · have hd' : isT t = false := by simpa using hd
    have HF := Lib.hid (fmt_no hd')
    clear hd
    go_enter Tryd.func27, Tryd.ntmps27
    go_wp2_with ((go_at_call 43; refine (rIsTime_any _ _).mono ?_; rintro e w' ⟨rfl, rfl⟩))
    go_ret2
    exact ⟨ret_si HF.out.1.symm HF.out.2.symm, hbel⟩
end Go.Proofs.YtmncocmdobondaaDoor
