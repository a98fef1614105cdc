/- The small functions of package calendar and of its reference: contracts by walks. -/
import Derived.Test.YtainelkenkgppaaDoorRows
import Derived.Test.YtainelkenkgppaaDoorKit
import Derived.Test.YtainelkenkgppaaDoorCalm
namespace Go.Proofs.YtainelkenkgppaaDoor
open Go.ChangeShapes Go.WideShapes Go.ChangeAt Go.RowKit Go.Lott


/-- The table of the days of the months, as the program lays it. -/
def Tab (w : World) : Prop := ∀ i, i < 13 → w.cell? ⟨0, i, none⟩ = some (.int .i64 (Cal.mt i))
theorem Tab.size {w : World} (h : Tab w) : 0 < w.heap.size := by
  have := h 0 (by omega)
  by_cases hz : 0 < w.heap.size
  · exact hz
  · have hn : w.heap[0]? = none := Array.getElem?_eq_none (by omega)
    simp [World.cell?, hn] at this
theorem Tab.below {w w1 : World} (h : Tab w) {B : Nat} (hb : Below B w w1) (hB : 0 < B) : Tab w1 := fun i hi => by rw [hb.cell (p := ⟨0, i, none⟩) hB]; exact h i hi
theorem Tab.grow {w w1 : World} (h : Tab w) (hb : Below w.heap.size w w1) : Tab w1 := h.below hb h.size

theorem leap_any (y : Int) (w : World) (h0 : 0 ≤ y) : Calls Tryd.prog 79 #[.int .i64 y] w (RetS (.bool (Cal.lp y)) w) := by
  go_enter Tryd.func79, Tryd.ntmps79
  go_wp2
  all_goals
    go_ret
    refine ⟨ret_bool ?_, rfl⟩
    rw [Bool.eq_iff_iff]
    simp_all [Cal.lp]
theorem rLeap_any (y : Int) (w : World) (h0 : 0 ≤ y) : Calls Tryd.prog 92 #[.int .i64 y] w (RetS (.bool (Cal.lp y)) w) := by
  go_enter Tryd.func92, Tryd.ntmps92
  go_wp2
  all_goals
    go_ret
    refine ⟨ret_bool ?_, rfl⟩
    rw [Bool.eq_iff_iff]
    simp_all [Cal.lp]
theorem rYear_any (y : Int) (w : World) (h0 : 0 ≤ y) : Calls Tryd.prog 90 #[.int .i64 y] w (RetS (.int .i64 (Cal.yd y)) w) := by
  go_enter Tryd.func90, Tryd.ntmps90
  go_wp2_with (go_at_call 92; refine (rLeap_any _ _ h0).mono ?_; rintro e w' ⟨rfl, rfl⟩)
  all_goals
    go_ret
    refine ⟨ret_int ?_, rfl⟩
    simp_all [Cal.yd]
theorem ysA_any (y : Int) (w : World) (h0 : 1 ≤ y) (h1 : y ≤ 1000000) : Calls Tryd.prog 85 #[.int .i64 y] w (RetS (.int .i64 ((y - 1) / 4 - (y - 1) / 100 + (y - 1) / 400)) w) := by
  go_enter Tryd.func85, Tryd.ntmps85
  go_wp2
  go_ret
  exact ⟨rfl, rfl⟩
theorem ys_any (y : Int) (w : World) (h0 : 2000 ≤ y) (h1 : y ≤ 10000) : Calls Tryd.prog 78 #[.int .i64 y] w (RetS (.int .i64 (Cal.ys y)) w) := by
  go_enter Tryd.func78, Tryd.ntmps78
  go_wp2_with (go_at_call 85; refine (ysA_any _ _ (by omega) (by omega)).mono ?_; rintro e w' ⟨rfl, rfl⟩)
  go_ret
  exact ⟨ret_int (by unfold Cal.ys; omega), rfl⟩
theorem wday_any (n : Int) (w : World) (h0 : 0 ≤ n) (h1 : n ≤ 1000000) : Calls Tryd.prog 61 #[.int .i64 n] w (RetS (.int .i64 ((n + 5) % 7)) w) := by
  go_enter Tryd.func61, Tryd.ntmps61
  go_wp2
  go_ret
  exact ⟨rfl, rfl⟩
theorem rOn_any (n : Int) (w : World) (h0 : 0 ≤ n) (h1 : n ≤ 1000000) : Calls Tryd.prog 88 #[.int .i64 n] w (RetS (.int .i64 ((n + 5) % 7)) w) := by
  go_enter Tryd.func88, Tryd.ntmps88
  go_wp2
  go_ret
  exact ⟨rfl, rfl⟩
def isD (n : Int) : Bool := decide (0 ≤ n ∧ n < 745654)
def isT (n : Int) : Bool := decide (0 ≤ n ∧ n ≤ 1073741824)
theorem isDay_any (n : Int) (w : World) : Calls Tryd.prog 58 #[.int .i64 n] w (RetS (.bool (isD n)) w) := by
  by_cases h : 0 ≤ n
  · go_enter Tryd.func58, Tryd.ntmps58
    go_wp2
    go_ret
    exact ⟨ret_bool (by simp [isD, h]), rfl⟩
  · go_enter Tryd.func58, Tryd.ntmps58
    go_wp2
    go_ret
    exact ⟨ret_bool (by rw [isD, decide_eq_false (by omega)]), rfl⟩
theorem rIsDay_any (n : Int) (w : World) : Calls Tryd.prog 83 #[.int .i64 n] w (RetS (.bool (isD n)) w) := by
  by_cases h : 0 ≤ n
  · go_enter Tryd.func83, Tryd.ntmps83
    go_wp2
    go_ret
    exact ⟨ret_bool (by simp [isD, h]), rfl⟩
  · go_enter Tryd.func83, Tryd.ntmps83
    go_wp2
    go_ret
    exact ⟨ret_bool (by rw [isD, decide_eq_false (by omega)]), rfl⟩
theorem isTime_any (n : Int) (w : World) : Calls Tryd.prog 60 #[.int .i64 n] w (RetS (.bool (isT n)) w) := by
  by_cases h : 0 ≤ n
  · go_enter Tryd.func60, Tryd.ntmps60
    go_wp2
    go_ret
    exact ⟨ret_bool (by simp [isT, h]), rfl⟩
  · go_enter Tryd.func60, Tryd.ntmps60
    go_wp2
    go_ret
    exact ⟨ret_bool (by rw [isT, decide_eq_false (by omega)]), rfl⟩
theorem rIsTime_any (n : Int) (w : World) : Calls Tryd.prog 87 #[.int .i64 n] w (RetS (.bool (isT n)) w) := by
  by_cases h : 0 ≤ n
  · go_enter Tryd.func87, Tryd.ntmps87
    go_wp2
    go_ret
    exact ⟨ret_bool (by simp [isT, h]), rfl⟩
  · go_enter Tryd.func87, Tryd.ntmps87
    go_wp2
    go_ret
    exact ⟨ret_bool (by rw [isT, decide_eq_false (by omega)]), rfl⟩
theorem len_any (y m : Int) (w : World) (ht : Tab w) (h0 : 0 ≤ y) (h1 : 1 ≤ m) (h2 : m ≤ 12) : Calls Tryd.prog 62 #[.int .i64 y, .int .i64 m] w (RetS (.int .i64 (Cal.len y m)) w) := by
  obtain ⟨k, rfl⟩ := Int.eq_ofNat_of_zero_le (show 0 ≤ m by omega)
  have hc := ht k (by omega)
  clear ht
  by_cases hk : k = 2
  · subst hk
    go_enter Tryd.func62, Tryd.ntmps62
    go_wp2_with (go_at_call 79; refine (leap_any _ _ h0).mono ?_; rintro e w' ⟨rfl, rfl⟩)
    all_goals
      go_ret
      refine ⟨ret_int ?_, rfl⟩
      simp_all [Cal.len, Cal.lenN, Cal.mt]
  · have hb : ((k : Int) == 2) = false := by simp; omega
    have H := Lib.hid hk
    clear hk
    go_enter Tryd.func62, Tryd.ntmps62
    go_wp2
    go_ret
    refine ⟨ret_int ?_, rfl⟩
    have := H.out
    simp [Cal.len, Cal.lenN, this]
set_option maxHeartbeats 4000000 in
theorem rLen_any (y m : Int) (w : World) (h0 : 0 ≤ y) (h1 : 1 ≤ m) (h2 : m ≤ 12) : Calls Tryd.prog 89 #[.int .i64 y, .int .i64 m] w (RetB (.int .i64 (Cal.len y m)) w) := by
  obtain ⟨k, rfl⟩ := Int.eq_ofNat_of_zero_le (show 0 ≤ m by omega)
  by_cases hk : k = 2
  · subst hk
    go_enter Tryd.func89, Tryd.ntmps89
    go_wp2_with (go_at_call 92; refine (rLeap_any _ _ h0).mono ?_; rintro e w' ⟨rfl, rfl⟩)
    all_goals
      go_ret
      refine ⟨ret_int ?_, (Below.refl _ _).alloc (Nat.le_refl _) _⟩
      simp_all [Cal.len, Cal.lenN, Cal.mt]
  · rcases (by omega : k = 1 ∨ k = 3 ∨ k = 4 ∨ k = 5 ∨ k = 6 ∨ k = 7 ∨ k = 8 ∨ k = 9 ∨ k = 10 ∨ k = 11 ∨ k = 12) with rfl | rfl | rfl | rfl | rfl | rfl | rfl | rfl | rfl | rfl | rfl
    all_goals
      go_enter Tryd.func89, Tryd.ntmps89
      go_wp2
      go_ret
      exact ⟨ret_int (by simp [Cal.len, Cal.lenN, Cal.mt]), (Below.refl _ _).alloc (Nat.le_refl _) _⟩
end Go.Proofs.YtainelkenkgppaaDoor
