/- The date of a day, and the day of a date: package calendar and its reference compute the same plain functions. -/
import Derived.Test.YtainelkenkgppaaDoorCala
namespace Go.Proofs.YtainelkenkgppaaDoor
open Go.ChangeShapes Go.WideShapes Go.ChangeAt Go.RowKit Go.Lott

def dateV (n : Int) : Value := .tuple #[.int .i64 (Cal.cY n), .int .i64 (Cal.cM n), .int .i64 (Cal.cD n)]

theorem date_val {n y m r : Int} (h : Cal.IsDate n y m r) (h0 : 0 ≤ n) (h1 : n < 1000000) : Ending.returned (.tuple #[.int .i64 y, .int .i64 m, .int .i64 r]) = .returned (dateV n) := by
  obtain ⟨e1, e2, e3⟩ := Cal.c_eq h h0 h1
  rw [dateV, e1, e2, e3]

set_option maxHeartbeats 1000000 in
theorem dateOf_any (n : Int) (w : World) (ht : Tab w) (h0 : 0 ≤ n) (h1 : n ≤ 745654) : Calls Tryd.prog 59 #[.int .i64 n] w (RetS (dateV n) w) := by
  have g0 := Cal.ys_guess n h0
  have HT := Lib.hid ht
  clear ht
  go_enter Tryd.func59, Tryd.ntmps59
  go_wp2
  go_loop [5] (fun t => ∃ y : Int, 2000 ≤ y ∧ y ≤ 4042 ∧ Cal.ys y ≤ n ∧ t = .int .i64 y) (fun t => (4100 - intOf t).toNat)
  case atStart => exact ⟨_, by omega, by omega, g0, rfl⟩
  case round =>
    obtain ⟨y, hy1, hy2, hy3, rfl⟩ := hrel
    clear g0
    have hb := Cal.ys_bd (y + 1) (by omega) (by omega)
    by_cases hc : Cal.ys (y + 1) ≤ n
    · have hy4 : y + 1 ≤ 4042 := by
        by_cases e : y = 4042
        · subst e; have e2 : (745655 : Int) ≤ Cal.ys (4042 + 1) := by decide
          omega
        · omega
      go_wp2_with (go_at_call 78; refine (ys_any _ _ (by omega) (by omega)).mono ?_; rintro e w' ⟨rfl, rfl⟩)
      go_round
      case rel => exact ⟨y + 1, by omega, by omega, hc, rfl⟩
      case measure => simp [intOf]; omega
    · have hlt : n < Cal.ys (y + 1) := by omega
      clear hc
      have hbb := Cal.ys_bd y (by omega) (by omega)
      have hst := Cal.ys_step y
      go_wp2_with (go_at_call 78; refine (ys_any _ _ (by omega) (by omega)).mono ?_; rintro e w' ⟨rfl, rfl⟩)
      go_loop [6, 7] (fun r k => ∃ m : Int, 1 ≤ m ∧ m ≤ 12 ∧ k = .int .i64 m ∧ 0 ≤ n - Cal.ys y - Cal.cum y m ∧ r = .int .i64 (n - Cal.ys y - Cal.cum y m)) (fun _ k => (20 - intOf k).toNat)
      case atStart => exact ⟨1, by omega, by omega, rfl, by rw [Cal.cum_1]; omega, by rw [Cal.cum_1]; simp⟩
      case round =>
        obtain ⟨m, hm1, hm2, rfl, hr, rfl⟩ := hrel
        have cb := Cal.cum_bd y m hm1 (by omega)
        have db := Cal.len_bd y m hm1 hm2
        have cs := Cal.cum_succ y m hm1 hm2
        have c13 := Cal.cum_13 y
        have yss := Cal.ys_succ y
        by_cases hc : Cal.len y m ≤ n - Cal.ys y - Cal.cum y m
        · have hm3 : m < 12 := by
            by_cases e : m = 12
            · subst e; have e13 : (12 : Int) + 1 = 13 := rfl
              rw [e13, c13] at cs; omega
            · omega
          have CS := Lib.hid cs; clear cs c13 yss
          go_wp2_with (go_at_call 62; refine (len_any _ _ _ HT.out (by omega) (by omega) (by omega)).mono ?_; rintro e w' ⟨rfl, rfl⟩)
          go_round
          case rel => exact ⟨m + 1, by omega, by omega, rfl, by rw [CS.out]; omega, by rw [CS.out]; go_num⟩
          case measure => simp [intOf]; omega
        · have hv : n - Cal.ys y - Cal.cum y m < Cal.len y m := by omega
          clear hc cs c13 yss
          go_wp2_with (go_at_call 62; refine (len_any _ _ _ HT.out (by omega) (by omega) (by omega)).mono ?_; rintro e w' ⟨rfl, rfl⟩)
          go_ret3
          exact ⟨date_val (Cal.IsDate.of_parts hy3 hm1 hm2 (by omega) hv) h0 (by omega), rfl⟩

set_option maxHeartbeats 1000000 in
theorem civil_any (n : Int) (w : World) (h0 : 0 ≤ n) (h1 : n ≤ 745654) : Calls Tryd.prog 84 #[.int .i64 n] w (RetB (dateV n) w) := by
  go_enter Tryd.func84, Tryd.ntmps84
  go_wp2
  go_loop [0, 5] (fun t u => ∃ y : Int, 2000 ≤ y ∧ y ≤ 4042 ∧ Cal.ys y ≤ n ∧ t = .int .i64 (n - Cal.ys y) ∧ u = .int .i64 y) (fun _ u => (4100 - intOf u).toNat)
  case atStart => exact ⟨2000, by omega, by omega, by rw [Cal.ys_2000]; exact h0, by rw [Cal.ys_2000]; simp, rfl⟩
  case round =>
    obtain ⟨y, hy1, hy2, hy3, rfl, rfl⟩ := hrel
    have hb := Cal.ys_bd y (by omega) (by omega)
    have hd := Cal.yd_bd y
    have hs := Cal.ys_succ y
    by_cases hc : Cal.yd y ≤ n - Cal.ys y
    · have hy4 : y + 1 ≤ 4042 := by
        by_cases e : y = 4042
        · subst e; have e2 : (745655 : Int) ≤ Cal.ys 4042 + Cal.yd 4042 := by decide
          omega
        · omega
      have HS := Lib.hid hs; clear hs
      go_wp2_with (go_at_call 90; refine (rYear_any _ _ (by omega)).mono ?_; rintro e w' ⟨rfl, rfl⟩)
      go_round
      case rel => exact ⟨y + 1, by omega, by omega, by rw [HS.out]; omega, by rw [HS.out]; go_num, rfl⟩
      case measure => simp [intOf]; omega
    · have hlt : n - Cal.ys y < Cal.yd y := by omega
      clear hc hs
      go_wp2_with (go_at_call 90; refine (rYear_any _ _ (by omega)).mono ?_; rintro e w' ⟨rfl, rfl⟩)
      go_loopw [0, 6] (fun r k wr => ∃ m : Int, 1 ≤ m ∧ m ≤ 12 ∧ k = .int .i64 m ∧ 0 ≤ n - Cal.ys y - Cal.cum y m ∧ r = .int .i64 (n - Cal.ys y - Cal.cum y m) ∧ Below w.heap.size w wr) (fun _ k _ => (20 - intOf k).toNat)
      case atStart => exact ⟨1, by omega, by omega, rfl, by rw [Cal.cum_1]; omega, by rw [Cal.cum_1]; simp, Below.refl _ _⟩
      case round =>
        obtain ⟨m, hm1, hm2, rfl, hr, rfl, hbel⟩ := hrel
        have cb := Cal.cum_bd y m hm1 (by omega)
        have db := Cal.len_bd y m hm1 hm2
        have cs := Cal.cum_succ y m hm1 hm2
        have c13 := Cal.cum_13 y
        by_cases hc : Cal.len y m ≤ n - Cal.ys y - Cal.cum y m
        · have hm3 : m < 12 := by
            by_cases e : m = 12
            · subst e; have e13 : (12 : Int) + 1 = 13 := rfl
              rw [e13, c13] at cs; omega
            · omega
          have CS := Lib.hid cs; clear cs c13
          go_wp2_with (go_at_call 89; refine (rLen_any _ _ _ (by omega) (by omega) (by omega)).mono ?_; rintro e w1 ⟨rfl, hb1⟩; replace hbel := hbel.trans (hb1.mono hbel.size); clear hb1)
          go_roundw
          case rel => exact ⟨m + 1, by omega, by omega, rfl, by rw [CS.out]; omega, by rw [CS.out]; go_num, hbel⟩
          case measure => simp [intOf]; omega
        · have hv : n - Cal.ys y - Cal.cum y m < Cal.len y m := by omega
          clear hc cs c13
          go_wp2_with (go_at_call 89; refine (rLen_any _ _ _ (by omega) (by omega) (by omega)).mono ?_; rintro e w1 ⟨rfl, hb1⟩; replace hbel := hbel.trans (hb1.mono hbel.size); clear hb1)
          go_ret3
          exact ⟨date_val (Cal.IsDate.of_parts hy3 hm1 hm2 (by omega) hv) h0 (by omega), hbel⟩

/-- Is there such a date from 2000 to 4100? -/
def exB (y m d : Int) : Bool := decide (2000 ≤ y ∧ y ≤ 4100 ∧ 1 ≤ m ∧ m ≤ 12 ∧ 1 ≤ d ∧ d ≤ Cal.len y m)
theorem exB_iff (y m d : Int) : exB y m d = true ↔ 2000 ≤ y ∧ y ≤ 4100 ∧ 1 ≤ m ∧ m ≤ 12 ∧ 1 ≤ d ∧ d ≤ Cal.len y m := by simp [exB]
theorem exB_no {y m d : Int} (h : ¬ (2000 ≤ y ∧ y ≤ 4100 ∧ 1 ≤ m ∧ m ≤ 12 ∧ 1 ≤ d ∧ d ≤ Cal.len y m)) : exB y m d = false := by unfold exB; exact decide_eq_false h

end Go.Proofs.YtainelkenkgppaaDoor
