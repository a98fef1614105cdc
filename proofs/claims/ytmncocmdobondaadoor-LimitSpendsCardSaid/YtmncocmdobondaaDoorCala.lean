/- The small functions of package calendar and of its reference: contracts by walks. -/
import Derived.Test.YtmncocmdobondaaDoorRows
import Derived.Test.YtmncocmdobondaaDoorKit
import Derived.Test.YtmncocmdobondaaDoorCalm
namespace Go.Proofs.YtmncocmdobondaaDoor
open Go.ChangeShapes Go.WideShapes Go.ChangeAt Go.RowKit Go.Lott


/-- The table of the days of the months, as the program lays it. -/
def Tab (w : World) : Prop := ∀ i, i < 13 → w.cell? ⟨0, i, none⟩ = some (.int .i64 (Cal.mt i))
theorem Tab.size {w : World} (h : Tab w) : 0 < w.heap.size := by
  have := h 0 (by omega)
  by_cases hz : 0 < w.heap.size
  · exact hz
  · have hn : w.heap[0]? = none := Array.getElem?_eq_none (by omega)
    simp [World.cell?, hn] at this
theorem Tab.below {w w1 : World} (h : Tab w) {B : Nat} (hb : Below B w w1) (hB : 0 < B) : Tab w1 := fun i hi => by rw [hb.cell (p := ⟨0, i, none⟩) hB]; exact h i hi
theorem Tab.grow {w w1 : World} (h : Tab w) (hb : Below w.heap.size w w1) : Tab w1 := h.below hb h.size

theorem leap_any (y : Int) (w : World) (h0 : 0 ≤ y) : Calls Tryd.prog 69 #[.int .i64 y] w (RetS (.bool (Cal.lp y)) w) := by
  go_enter Tryd.func69, Tryd.ntmps69
  go_wp2
  all_goals
    go_ret
    refine ⟨ret_bool ?_, rfl⟩
    rw [Bool.eq_iff_iff]
    simp_all [Cal.lp]
theorem rLeap_any (y : Int) (w : World) (h0 : 0 ≤ y) : Calls Tryd.prog 70 #[.int .i64 y] w (RetS (.bool (Cal.lp y)) w) := by
  go_enter Tryd.func70, Tryd.ntmps70
  go_wp2
  all_goals
    go_ret
    refine ⟨ret_bool ?_, rfl⟩
    rw [Bool.eq_iff_iff]
    simp_all [Cal.lp]
theorem rYear_any (y : Int) (w : World) (h0 : 0 ≤ y) : Calls Tryd.prog 68 #[.int .i64 y] w (RetS (.int .i64 (Cal.yd y)) w) := by
  go_enter Tryd.func68, Tryd.ntmps68
  go_wp2_with (go_at_call 70; refine (rLeap_any _ _ h0).mono ?_; rintro e w' ⟨rfl, rfl⟩)
  all_goals
    go_ret
    refine ⟨ret_int ?_, rfl⟩
    simp_all [Cal.yd]
theorem ysA_any (y : Int) (w : World) (h0 : 1 ≤ y) (h1 : y ≤ 1000000) : Calls Tryd.prog 76 #[.int .i64 y] w (RetS (.int .i64 ((y - 1) / 4 - (y - 1) / 100 + (y - 1) / 400)) w) := by
  go_enter Tryd.func76, Tryd.ntmps76
  go_wp2
  go_ret
  exact ⟨rfl, rfl⟩
theorem ys_any (y : Int) (w : World) (h0 : 2000 ≤ y) (h1 : y ≤ 10000) : Calls Tryd.prog 67 #[.int .i64 y] w (RetS (.int .i64 (Cal.ys y)) w) := by
  go_enter Tryd.func67, Tryd.ntmps67
  go_wp2_with (go_at_call 76; refine (ysA_any _ _ (by omega) (by omega)).mono ?_; rintro e w' ⟨rfl, rfl⟩)
  go_ret
  exact ⟨ret_int (by unfold Cal.ys; omega), rfl⟩
theorem wday_any (n : Int) (w : World) (h0 : 0 ≤ n) (h1 : n ≤ 1000000) : Calls Tryd.prog 41 #[.int .i64 n] w (RetS (.int .i64 ((n + 5) % 7)) w) := by
  go_enter Tryd.func41, Tryd.ntmps41
  go_wp2
  go_ret
  exact ⟨rfl, rfl⟩
theorem rOn_any (n : Int) (w : World) (h0 : 0 ≤ n) (h1 : n ≤ 1000000) : Calls Tryd.prog 44 #[.int .i64 n] w (RetS (.int .i64 ((n + 5) % 7)) w) := by
  go_enter Tryd.func44, Tryd.ntmps44
  go_wp2
  go_ret
  exact ⟨rfl, rfl⟩
def isD (n : Int) : Bool := decide (0 ≤ n ∧ n < 745654)
def isT (n : Int) : Bool := decide (0 ≤ n ∧ n ≤ 1073741824)
theorem isDay_any (n : Int) (w : World) : Calls Tryd.prog 36 #[.int .i64 n] w (RetS (.bool (isD n)) w) := by
  by_cases h : 0 ≤ n
  · go_enter Tryd.func36, Tryd.ntmps36
    go_wp2
    go_ret
    exact ⟨ret_bool (by simp [isD, h]), rfl⟩
  · go_enter Tryd.func36, Tryd.ntmps36
    go_wp2
    go_ret
    exact ⟨ret_bool (by rw [isD, decide_eq_false (by omega)]), rfl⟩
theorem rIsDay_any (n : Int) (w : World) : Calls Tryd.prog 38 #[.int .i64 n] w (RetS (.bool (isD n)) w) := by
  by_cases h : 0 ≤ n
  · go_enter Tryd.func38, Tryd.ntmps38
    go_wp2
    go_ret
    exact ⟨ret_bool (by simp [isD, h]), rfl⟩
  · go_enter Tryd.func38, Tryd.ntmps38
    go_wp2
    go_ret
    exact ⟨ret_bool (by rw [isD, decide_eq_false (by omega)]), rfl⟩
theorem isTime_any (n : Int) (w : World) : Calls Tryd.prog 40 #[.int .i64 n] w (RetS (.bool (isT n)) w) := by
  by_cases h : 0 ≤ n
  · go_enter Tryd.func40, Tryd.ntmps40
    go_wp2
    go_ret
    exact ⟨ret_bool (by simp [isT, h]), rfl⟩
  · go_enter Tryd.func40, Tryd.ntmps40
    go_wp2
    go_ret
    exact ⟨ret_bool (by rw [isT, decide_eq_false (by omega)]), rfl⟩
theorem rIsTime_any (n : Int) (w : World) : Calls Tryd.prog 43 #[.int .i64 n] w (RetS (.bool (isT n)) w) := by
  by_cases h : 0 ≤ n
  · go_enter Tryd.func43, Tryd.ntmps43
    go_wp2
    go_ret
    exact ⟨ret_bool (by simp [isT, h]), rfl⟩
  · go_enter Tryd.func43, Tryd.ntmps43
    go_wp2
    go_ret
    exact ⟨ret_bool (by rw [isT, decide_eq_false (by omega)]), rfl⟩
theorem len_any (y m : Int) (w : World) (ht : Tab w) (h0 : 0 ≤ y) (h1 : 1 ≤ m) (h2 : m ≤ 12) : Calls Tryd.prog 42 #[.int .i64 y, .int .i64 m] w (RetS (.int .i64 (Cal.len y m)) w) := by
  obtain ⟨k, rfl⟩ := Int.eq_ofNat_of_zero_le (show 0 ≤ m by omega)
  have hc := ht k (by omega)
  clear ht
  by_cases hk : k = 2
  · subst hk
    go_enter Tryd.func42, Tryd.ntmps42
    go_wp2_with (go_at_call 69; refine (leap_any _ _ h0).mono ?_; rintro e w' ⟨rfl, rfl⟩)
    all_goals
      go_ret
      refine ⟨ret_int ?_, rfl⟩
      simp_all [Cal.len, Cal.lenN, Cal.mt]
  · have hb : ((k : Int) == 2) = false := by simp; omega
    have H := Lib.hid hk
    clear hk
    go_enter Tryd.func42, Tryd.ntmps42
    go_wp2
    go_ret
    refine ⟨ret_int ?_, rfl⟩
    have := H.out
    simp [Cal.len, Cal.lenN, this]
set_option maxHeartbeats 4000000 in
theorem rLen_any (y m : Int) (w : World) (h0 : 0 ≤ y) (h1 : 1 ≤ m) (h2 : m ≤ 12) : Calls Tryd.prog 45 #[.int .i64 y, .int .i64 m] w (RetB (.int .i64 (Cal.len y m)) w) := by
  obtain ⟨k, rfl⟩ := Int.eq_ofNat_of_zero_le (show 0 ≤ m by omega)
  by_cases hk : k = 2
  · subst hk
    go_enter Tryd.func45, Tryd.ntmps45
    go_wp2_with (go_at_call 70; refine (rLeap_any _ _ h0).mono ?_; rintro e w' ⟨rfl, rfl⟩)
    all_goals
      go_ret
      refine ⟨ret_int ?_, (Below.refl _ _).alloc (Nat.le_refl _) _⟩
      simp_all [Cal.len, Cal.lenN, Cal.mt]
  · rcases (by omega : k = 1 ∨ k = 3 ∨ k = 4 ∨ k = 5 ∨ k = 6 ∨ k = 7 ∨ k = 8 ∨ k = 9 ∨ k = 10 ∨ k = 11 ∨ k = 12) with rfl | rfl | rfl | rfl | rfl | rfl | rfl | rfl | rfl | rfl | rfl
    all_goals
      go_enter Tryd.func45, Tryd.ntmps45
      go_wp2
      go_ret
      exact ⟨ret_int (by simp [Cal.len, Cal.lenN, Cal.mt]), (Below.refl _ _).alloc (Nat.le_refl _) _⟩
end Go.Proofs.YtmncocmdobondaaDoor
