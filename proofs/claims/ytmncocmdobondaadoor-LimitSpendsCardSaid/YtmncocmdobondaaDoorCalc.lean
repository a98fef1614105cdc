/- Day, Date, Weekday, Age of package calendar and of its reference: both compute the same plain functions. -/
import Derived.Test.YtmncocmdobondaaDoorCalb
namespace Go.Proofs.YtmncocmdobondaaDoor
open Go.ChangeShapes Go.WideShapes Go.ChangeAt Go.RowKit Go.Lott

set_option maxHeartbeats 1000000 in
theorem number_any (y m d : Int) (w : World) (h1 : 2000 ≤ y) (h2 : y ≤ 4100) (h3 : 1 ≤ m) (h4 : m ≤ 12) (h5 : 1 ≤ d) (h6 : d ≤ 31) : Calls Tryd.prog 48 #[.int .i64 y, .int .i64 m, .int .i64 d] w (RetB (.int .i64 (Cal.num y m d)) w) := by
  go_enter Tryd.func48, Tryd.ntmps48
  go_wp2
  go_loop [7, 8] (fun t i => ∃ k : Int, 2000 ≤ k ∧ k ≤ y ∧ i = .int .i64 k ∧ t = .int .i64 (d - 1 + Cal.ys k)) (fun _ i => (5000 - intOf i).toNat)
  case atStart => exact ⟨2000, by omega, by omega, rfl, by rw [Cal.ys_2000]; simp⟩
  case round =>
    obtain ⟨k, hk1, hk2, rfl, rfl⟩ := hrel
    have hb := Cal.ys_bd k (by omega) (by omega)
    have hd := Cal.yd_bd k
    have HS := Lib.hid (Cal.ys_succ k)
    by_cases hc : k < y
    · go_wp2_with (go_at_call 68; refine (rYear_any _ _ (by omega)).mono ?_; rintro e w' ⟨rfl, rfl⟩)
      go_round
      case rel => exact ⟨k + 1, by omega, by omega, rfl, by rw [HS.out]; go_num⟩
      case measure => simp [intOf]; omega
    · obtain rfl : k = y := by omega
      go_wp2
      go_loopw [7, 9] (fun t i wr => ∃ j : Int, 1 ≤ j ∧ j ≤ m ∧ i = .int .i64 j ∧ t = .int .i64 (d - 1 + Cal.ys k + Cal.cum k j) ∧ Below w.heap.size w wr) (fun _ i _ => (20 - intOf i).toNat)
      case atStart => exact ⟨1, by omega, by omega, rfl, by rw [Cal.cum_1]; simp, Below.refl _ _⟩
      case round =>
        obtain ⟨j, hj1, hj2, rfl, rfl, hbel⟩ := hrel
        have cb := Cal.cum_bd k j hj1 (by omega)
        have db := Cal.len_bd k j hj1 (by omega)
        have CS := Lib.hid (Cal.cum_succ k j hj1 (by omega))
        by_cases hc : j < m
        · go_wp2_with (go_at_call 45; refine (rLen_any _ _ _ (by omega) (by omega) (by omega)).mono ?_; rintro e w1 ⟨rfl, hb1⟩; replace hbel := hbel.trans (hb1.mono hbel.size); clear hb1)
          go_roundw
          case rel => exact ⟨j + 1, by omega, by omega, rfl, by rw [CS.out]; go_num, hbel⟩
          case measure => simp [intOf]; omega
        · obtain rfl : j = m := by omega
          go_wp2
          go_ret
          exact ⟨ret_int (by unfold Cal.num; omega), hbel⟩

def dN (y m d : Int) : Int := if exB y m d && isD (Cal.num y m d) then Cal.num y m d else 0
def dE (y m d : Int) : Int := if exB y m d && isD (Cal.num y m d) then 0 else 2
def dV (y m d : Int) : Value := .tuple #[.int .i64 (dN y m d), .int .i64 (dE y m d)]
theorem dV_no {y m d : Int} (h : (exB y m d && isD (Cal.num y m d)) = false) : Ending.returned (.tuple #[.int .i64 0, .int .i64 2]) = .returned (dV y m d) := by
  unfold dV dN dE; rw [h]; rfl
theorem dV_yes {y m d n : Int} (h : (exB y m d && isD (Cal.num y m d)) = true) (hn : n = Cal.num y m d) : Ending.returned (.tuple #[.int .i64 n, .int .i64 0]) = .returned (dV y m d) := by
  unfold dV dN dE; rw [h, hn]; rfl
theorem exB_bd {y m d : Int} (h : exB y m d = true) : 2000 ≤ y ∧ y ≤ 4100 ∧ 1 ≤ m ∧ m ≤ 12 ∧ 1 ≤ d ∧ d ≤ 31 ∧ 0 ≤ Cal.num y m d := by
  have h := (exB_iff y m d).1 h
  have hl := Cal.len_bd y m (by omega) (by omega)
  have hy := Cal.ys_bd y (by omega) (by omega)
  have hc := Cal.cum_bd y m (by omega) (by omega)
  unfold Cal.num
  omega

theorem dayVt (y m d : Int) (h : exB y m d = true) : dayV y m d = .tuple #[.int .i64 (Cal.num y m d), .int .i64 0] := by unfold dayV dayN dayE; rw [h]; rfl
theorem dayVf (y m d : Int) (h : exB y m d = false) : dayV y m d = .tuple #[.int .i64 0, .int .i64 2] := by unfold dayV dayN dayE; rw [h]; rfl
theorem Day_any (y m d : Int) (w : World) (ht : Tab w) : Calls Tryd.prog 18 #[.int .i64 y, .int .i64 m, .int .i64 d] w (RetS (dV y m d) w) := by
  by_cases hx : exB y m d = true
  · have hc := dayOf_any y m d w ht
    rw [dayVt y m d hx] at hc
    have HC := Lib.hid hc
    have HX := Lib.hid hx
    clear hc hx ht
    by_cases hn : isD (Cal.num y m d) = true
    · have HN := Lib.hid (show (exB y m d && isD (Cal.num y m d)) = true by rw [HX.out, hn]; rfl)
      go_enter Tryd.func18, Tryd.ntmps18
      go_wp2_with (first | (go_at_call 46; refine (HC.out).mono ?_; rintro e w' ⟨rfl, rfl⟩) | (go_at_call 36; refine (isDay_any _ _).mono ?_; rintro e w' ⟨rfl, rfl⟩))
      go_ret2
      exact ⟨dV_yes HN.out rfl, rfl⟩
    · have hn' : isD (Cal.num y m d) = false := by simpa using hn
      clear hn
      have HN := Lib.hid (show (exB y m d && isD (Cal.num y m d)) = false by rw [hn']; simp)
      go_enter Tryd.func18, Tryd.ntmps18
      go_wp2_with (first | (go_at_call 46; refine (HC.out).mono ?_; rintro e w' ⟨rfl, rfl⟩) | (go_at_call 36; refine (isDay_any _ _).mono ?_; rintro e w' ⟨rfl, rfl⟩))
      go_ret2
      exact ⟨dV_no HN.out, rfl⟩
  · have hx' : exB y m d = false := by simpa using hx
    have hc := dayOf_any y m d w ht
    rw [dayVf y m d hx'] at hc
    have HC := Lib.hid hc
    have HN := Lib.hid (show (exB y m d && isD (Cal.num y m d)) = false by rw [hx']; simp)
    clear hc hx ht hx'
    go_enter Tryd.func18, Tryd.ntmps18
    go_wp2_with (first | (go_at_call 46; refine (HC.out).mono ?_; rintro e w' ⟨rfl, rfl⟩) | (go_at_call 36; refine (isDay_any _ _).mono ?_; rintro e w' ⟨rfl, rfl⟩))
    go_ret2
    exact ⟨dV_no HN.out, rfl⟩
theorem rDay_any (y m d : Int) (w : World) : Calls Tryd.prog 19 #[.int .i64 y, .int .i64 m, .int .i64 d] w (RetB (dV y m d) w) := by
  have hbel := Below.refl w.heap.size w
  by_cases hx : exB y m d = true
  · obtain ⟨h1, h2, h3, h4, h5, h6, h7⟩ := exB_bd hx
    by_cases hn : Cal.num y m d < 745654
    · have HN := Lib.hid (show (exB y m d && isD (Cal.num y m d)) = true by rw [hx, isD, decide_eq_true ⟨h7, hn⟩]; rfl)
      go_enter Tryd.func19, Tryd.ntmps19
      go_wp2_with (first | (go_at_call 47; refine (exists_any _ _ _ _).mono ?_; rintro e w1 ⟨rfl, hb1⟩; replace hbel := hbel.trans (hb1.mono hbel.size); clear hb1) | (go_at_call 48; refine (number_any _ _ _ _ h1 h2 h3 h4 h5 h6).mono ?_; rintro e w1 ⟨rfl, hb1⟩; replace hbel := hbel.trans (hb1.mono hbel.size); clear hb1))
      go_ret2
      exact ⟨dV_yes HN.out rfl, hbel⟩
    · have HN := Lib.hid (show (exB y m d && isD (Cal.num y m d)) = false by rw [isD, decide_eq_false (by omega)]; simp)
      go_enter Tryd.func19, Tryd.ntmps19
      go_wp2_with (first | (go_at_call 47; refine (exists_any _ _ _ _).mono ?_; rintro e w1 ⟨rfl, hb1⟩; replace hbel := hbel.trans (hb1.mono hbel.size); clear hb1) | (go_at_call 48; refine (number_any _ _ _ _ h1 h2 h3 h4 h5 h6).mono ?_; rintro e w1 ⟨rfl, hb1⟩; replace hbel := hbel.trans (hb1.mono hbel.size); clear hb1))
      go_ret2
      exact ⟨dV_no HN.out, hbel⟩
  · have hx' : exB y m d = false := by simpa using hx
    have HN := Lib.hid (show (exB y m d && isD (Cal.num y m d)) = false by rw [hx']; simp)
    clear hx
    go_enter Tryd.func19, Tryd.ntmps19
    go_wp2_with (go_at_call 47; refine (exists_any _ _ _ _).mono ?_; rintro e w1 ⟨rfl, hb1⟩; replace hbel := hbel.trans (hb1.mono hbel.size); clear hb1)
    go_ret2
    exact ⟨dV_no HN.out, hbel⟩

def dtV (n : Int) : Value := if isD n then .tuple #[.int .i64 (Cal.cY n), .int .i64 (Cal.cM n), .int .i64 (Cal.cD n), .int .i64 0] else .tuple #[.int .i64 0, .int .i64 0, .int .i64 0, .int .i64 2]
theorem isD_iff (n : Int) : isD n = true ↔ 0 ≤ n ∧ n < 745654 := by simp [isD]
theorem dateOf_t (n : Int) (w : World) (ht : Tab w) (h0 : 0 ≤ n) (h1 : n ≤ 745654) : Calls Tryd.prog 37 #[.int .i64 n] w (RetS (.tuple #[.int .i64 (Cal.cY n), .int .i64 (Cal.cM n), .int .i64 (Cal.cD n)]) w) := dateOf_any n w ht h0 h1
theorem civil_t (n : Int) (w : World) (h0 : 0 ≤ n) (h1 : n ≤ 745654) : Calls Tryd.prog 39 #[.int .i64 n] w (RetB (.tuple #[.int .i64 (Cal.cY n), .int .i64 (Cal.cM n), .int .i64 (Cal.cD n)]) w) := civil_any n w h0 h1
theorem dtV_yes {n : Int} (h : isD n = true) : Ending.returned (.tuple #[.int .i64 (Cal.cY n), .int .i64 (Cal.cM n), .int .i64 (Cal.cD n), .int .i64 0]) = .returned (dtV n) := by unfold dtV; rw [h]; rfl
theorem dtV_no {n : Int} (h : isD n = false) : Ending.returned (.tuple #[.int .i64 0, .int .i64 0, .int .i64 0, .int .i64 2]) = .returned (dtV n) := by unfold dtV; rw [h]; rfl
theorem Date_any (n : Int) (w : World) (ht : Tab w) : Calls Tryd.prog 16 #[.int .i64 n] w (RetS (dtV n) w) := by
  have HT := Lib.hid ht
  clear ht
  by_cases hd : isD n = true
  · obtain ⟨h0, h1⟩ := (isD_iff n).1 hd
    have HD := Lib.hid hd
    go_enter Tryd.func16, Tryd.ntmps16
    go_wp2_with (first | (go_at_call 36; refine (isDay_any _ _).mono ?_; rintro e w' ⟨rfl, rfl⟩) | (go_at_call 37; refine (dateOf_t _ _ HT.out h0 (by omega)).mono ?_; rintro e w' ⟨rfl, rfl⟩))
    refine bodyPost_ret (results_tmp4 rfl _ _ _) rfl ?_
    exact ⟨dtV_yes HD.out, rfl⟩
  · have hd' : isD n = false := by simpa using hd
    have HD := Lib.hid hd'
    clear hd
    go_enter Tryd.func16, Tryd.ntmps16
    go_wp2_with (go_at_call 36; refine (isDay_any _ _).mono ?_; rintro e w' ⟨rfl, rfl⟩)
    refine bodyPost_ret (results_tmp4 rfl _ _ _) rfl ?_
    exact ⟨dtV_no HD.out, rfl⟩
theorem rDate_any (n : Int) (w : World) : Calls Tryd.prog 20 #[.int .i64 n] w (RetB (dtV n) w) := by
  have hbel := Below.refl w.heap.size w
  by_cases hd : isD n = true
  · obtain ⟨h0, h1⟩ := (isD_iff n).1 hd
    have HD := Lib.hid hd
    go_enter Tryd.func20, Tryd.ntmps20
    go_wp2_with (first | (go_at_call 38; refine (rIsDay_any _ _).mono ?_; rintro e w' ⟨rfl, rfl⟩) | (go_at_call 39; refine (civil_t _ _ h0 (by omega)).mono ?_; rintro e w1 ⟨rfl, hb1⟩; replace hbel := hbel.trans (hb1.mono hbel.size); clear hb1))
    refine bodyPost_ret (results_tmp4 rfl _ _ _) rfl ?_
    exact ⟨dtV_yes HD.out, hbel⟩
  · have hd' : isD n = false := by simpa using hd
    have HD := Lib.hid hd'
    clear hd
    go_enter Tryd.func20, Tryd.ntmps20
    go_wp2_with (go_at_call 38; refine (rIsDay_any _ _).mono ?_; rintro e w' ⟨rfl, rfl⟩)
    refine bodyPost_ret (results_tmp4 rfl _ _ _) rfl ?_
    exact ⟨dtV_no HD.out, hbel⟩
def wkN (n : Int) : Int := if isD n then (n + 5) % 7 else 0
def wkE (n : Int) : Int := if isD n then 0 else 2
theorem Weekday_any (n : Int) (w : World) : Calls Tryd.prog 21 #[.int .i64 n] w (RetS (.tuple #[.int .i64 (wkN n), .int .i64 (wkE n)]) w) := by
  by_cases hd : isD n = true
  · obtain ⟨h0, h1⟩ := (isD_iff n).1 hd
    have HN := Lib.hid (show wkN n = (n + 5) % 7 by rw [wkN, hd]; rfl)
    have HE := Lib.hid (show wkE n = 0 by rw [wkE, hd]; rfl)
    go_enter Tryd.func21, Tryd.ntmps21
    go_wp2_with (first | (go_at_call 36; refine (isDay_any _ _).mono ?_; rintro e w' ⟨rfl, rfl⟩) | (go_at_call 41; refine (wday_any _ _ h0 (by omega)).mono ?_; rintro e w' ⟨rfl, rfl⟩))
    go_ret2
    exact ⟨ret_two HN.out.symm HE.out.symm, rfl⟩
  · have hd' : isD n = false := by simpa using hd
    have HN := Lib.hid (show wkN n = 0 by rw [wkN, hd']; rfl)
    have HE := Lib.hid (show wkE n = 2 by rw [wkE, hd']; rfl)
    clear hd
    go_enter Tryd.func21, Tryd.ntmps21
    go_wp2_with (go_at_call 36; refine (isDay_any _ _).mono ?_; rintro e w' ⟨rfl, rfl⟩)
    go_ret2
    exact ⟨ret_two HN.out.symm HE.out.symm, rfl⟩
theorem rWeekday_any (n : Int) (w : World) : Calls Tryd.prog 22 #[.int .i64 n] w (RetS (.tuple #[.int .i64 (wkN n), .int .i64 (wkE n)]) w) := by
  by_cases hd : isD n = true
  · obtain ⟨h0, h1⟩ := (isD_iff n).1 hd
    have HN := Lib.hid (show wkN n = (n + 5) % 7 by rw [wkN, hd]; rfl)
    have HE := Lib.hid (show wkE n = 0 by rw [wkE, hd]; rfl)
    go_enter Tryd.func22, Tryd.ntmps22
    go_wp2_with (first | (go_at_call 38; refine (rIsDay_any _ _).mono ?_; rintro e w' ⟨rfl, rfl⟩) | (go_at_call 44; refine (rOn_any _ _ h0 (by omega)).mono ?_; rintro e w' ⟨rfl, rfl⟩))
    go_ret2
    exact ⟨ret_two HN.out.symm HE.out.symm, rfl⟩
  · have hd' : isD n = false := by simpa using hd
    have HN := Lib.hid (show wkN n = 0 by rw [wkN, hd']; rfl)
    have HE := Lib.hid (show wkE n = 2 by rw [wkE, hd']; rfl)
    clear hd
    go_enter Tryd.func22, Tryd.ntmps22
    go_wp2_with (go_at_call 38; refine (rIsDay_any _ _).mono ?_; rintro e w' ⟨rfl, rfl⟩)
    go_ret2
    exact ⟨ret_two HN.out.symm HE.out.symm, rfl⟩

/-- The age: full years. -/
def ageB (b n : Int) : Bool := isD b && isD n && decide (b ≤ n)
def ageY (b n : Int) : Int := Cal.cY n - Cal.cY b - if Cal.cM n < Cal.cM b ∨ Cal.cM n = Cal.cM b ∧ Cal.cD n < Cal.cD b then 1 else 0
def ageN (b n : Int) : Int := if ageB b n then ageY b n else 0
def ageE (b n : Int) : Int := if ageB b n then 0 else 2
theorem age_cases {b n : Int} (h : ageB b n = true) : 0 ≤ b ∧ b < 745654 ∧ 0 ≤ n ∧ n < 745654 ∧ b ≤ n := by
  simp [ageB, isD] at h; omega
theorem age_no {b n : Int} (h : ageB b n = false) : Ending.returned (.tuple #[.int .i64 0, .int .i64 2]) = .returned (.tuple #[.int .i64 (ageN b n), .int .i64 (ageE b n)]) := by
  unfold ageN ageE; rw [h]; rfl
theorem age_yes {b n k : Int} (h : ageB b n = true) (hk : k = ageY b n) : Ending.returned (.tuple #[.int .i64 k, .int .i64 0]) = .returned (.tuple #[.int .i64 (ageN b n), .int .i64 (ageE b n)]) := by
  unfold ageN ageE; rw [h, hk]; rfl
theorem ageY_lt {b n : Int} (h : Cal.cM n < Cal.cM b ∨ Cal.cM n = Cal.cM b ∧ Cal.cD n < Cal.cD b) : Cal.cY n - Cal.cY b - 1 = ageY b n := by unfold ageY; rw [if_pos h]
theorem ageY_ge {b n : Int} (h : ¬ (Cal.cM n < Cal.cM b ∨ Cal.cM n = Cal.cM b ∧ Cal.cD n < Cal.cD b)) : Cal.cY n - Cal.cY b = ageY b n := by unfold ageY; rw [if_neg h]; omega
set_option maxHeartbeats 1000000 in
theorem Age_any (b n : Int) (w : World) (ht : Tab w) : Calls Tryd.prog 12 #[.int .i64 b, .int .i64 n] w (RetB (.tuple #[.int .i64 (ageN b n), .int .i64 (ageE b n)]) w) := by
  have hbel := Below.refl w.heap.size w
  have HT := Lib.hid ht; clear ht
  by_cases hd : ageB b n = true
  · obtain ⟨h0, h1, h2, h3, h4⟩ := age_cases hd
    have HD := Lib.hid hd
    have hb1 : isD b = true := (isD_iff b).2 ⟨h0, h1⟩
    have hn1 : isD n = true := (isD_iff n).2 ⟨h2, h3⟩
    have hy1 := Cal.cY_bd b h0 (by omega)
    have hy2 := Cal.cY_bd n h2 (by omega)
    clear hd
    by_cases hlt : Cal.cM n < Cal.cM b ∨ Cal.cM n = Cal.cM b ∧ Cal.cD n < Cal.cD b
    · have HY := Lib.hid (ageY_lt hlt)
      rcases hlt with hlt | ⟨he, hlt⟩
      · go_enter Tryd.func12, Tryd.ntmps12
        go_wp2_with (first | (go_at_call 36; refine (isDay_any _ _).mono ?_; rintro e w' ⟨rfl, rfl⟩) | (go_at_call 37; refine (dateOf_t _ _ HT.out (by omega) (by omega)).mono ?_; rintro e w' ⟨rfl, rfl⟩))
        go_ret2
        exact ⟨age_yes HD.out HY.out, hbel⟩
      · have e1 : (Cal.cM n == Cal.cM b) = true := by simp [he]
        have l1 : ¬ (Cal.cM n < Cal.cM b) := by omega
        clear he
        go_enter Tryd.func12, Tryd.ntmps12
        go_wp2_with (first | (go_at_call 36; refine (isDay_any _ _).mono ?_; rintro e w' ⟨rfl, rfl⟩) | (go_at_call 37; refine (dateOf_t _ _ HT.out (by omega) (by omega)).mono ?_; rintro e w' ⟨rfl, rfl⟩))
        go_ret2
        exact ⟨age_yes HD.out HY.out, hbel⟩
    · have HY := Lib.hid (ageY_ge hlt)
      have l1 : ¬ (Cal.cM n < Cal.cM b) := by omega
      by_cases he : Cal.cM n = Cal.cM b
      · have e1 : (Cal.cM n == Cal.cM b) = true := by simp [he]
        have l2 : ¬ (Cal.cD n < Cal.cD b) := by omega
        clear he hlt
        go_enter Tryd.func12, Tryd.ntmps12
        go_wp2_with (first | (go_at_call 36; refine (isDay_any _ _).mono ?_; rintro e w' ⟨rfl, rfl⟩) | (go_at_call 37; refine (dateOf_t _ _ HT.out (by omega) (by omega)).mono ?_; rintro e w' ⟨rfl, rfl⟩))
        go_ret2
        exact ⟨age_yes HD.out HY.out, hbel⟩
      · have e1 : (Cal.cM n == Cal.cM b) = false := by simp [he]
        clear he hlt
        go_enter Tryd.func12, Tryd.ntmps12
        go_wp2_with (first | (go_at_call 36; refine (isDay_any _ _).mono ?_; rintro e w' ⟨rfl, rfl⟩) | (go_at_call 37; refine (dateOf_t _ _ HT.out (by omega) (by omega)).mono ?_; rintro e w' ⟨rfl, rfl⟩))
        go_ret2
        exact ⟨age_yes HD.out HY.out, hbel⟩
  · have hd' : ageB b n = false := by simpa using hd
    have HD := Lib.hid hd'
    clear hd hd'
    by_cases hb : isD b = true
    · by_cases hn : isD n = true
      · have hlt : n < b := by
          have := HD.out
          simp [ageB, hb, hn] at this
          omega
        go_enter Tryd.func12, Tryd.ntmps12
        go_wp2_with ((go_at_call 36; refine (isDay_any _ _).mono ?_; rintro e w' ⟨rfl, rfl⟩))
        go_ret2
        exact ⟨age_no HD.out, hbel⟩
      · have hn' : isD n = false := by simpa using hn
        clear hn
        go_enter Tryd.func12, Tryd.ntmps12
        go_wp2_with ((go_at_call 36; refine (isDay_any _ _).mono ?_; rintro e w' ⟨rfl, rfl⟩))
        go_ret2
        exact ⟨age_no HD.out, hbel⟩
    · have hb' : isD b = false := by simpa using hb
      clear hb
      go_enter Tryd.func12, Tryd.ntmps12
      go_wp2_with ((go_at_call 36; refine (isDay_any _ _).mono ?_; rintro e w' ⟨rfl, rfl⟩))
      go_ret2
      exact ⟨age_no HD.out, hbel⟩
set_option maxHeartbeats 1000000 in
theorem rAge_any (b n : Int) (w : World) (_ : True) : Calls Tryd.prog 13 #[.int .i64 b, .int .i64 n] w (RetB (.tuple #[.int .i64 (ageN b n), .int .i64 (ageE b n)]) w) := by
  have hbel := Below.refl w.heap.size w
  skip
  by_cases hd : ageB b n = true
  · obtain ⟨h0, h1, h2, h3, h4⟩ := age_cases hd
    have HD := Lib.hid hd
    have hb1 : isD b = true := (isD_iff b).2 ⟨h0, h1⟩
    have hn1 : isD n = true := (isD_iff n).2 ⟨h2, h3⟩
    have hy1 := Cal.cY_bd b h0 (by omega)
    have hy2 := Cal.cY_bd n h2 (by omega)
    clear hd
    by_cases hlt : Cal.cM n < Cal.cM b ∨ Cal.cM n = Cal.cM b ∧ Cal.cD n < Cal.cD b
    · have HY := Lib.hid (ageY_lt hlt)
      rcases hlt with hlt | ⟨he, hlt⟩
      · go_enter Tryd.func13, Tryd.ntmps13
        go_wp2_with (first | (go_at_call 38; refine (rIsDay_any _ _).mono ?_; rintro e w' ⟨rfl, rfl⟩) | (go_at_call 39; refine (civil_t _ _ (by omega) (by omega)).mono ?_; rintro e w1 ⟨rfl, hb1⟩; replace hbel := hbel.trans (hb1.mono hbel.size); clear hb1))
        go_ret2
        exact ⟨age_yes HD.out HY.out, hbel⟩
      · have e1 : (Cal.cM n == Cal.cM b) = true := by simp [he]
        have l1 : ¬ (Cal.cM n < Cal.cM b) := by omega
        clear he
        go_enter Tryd.func13, Tryd.ntmps13
        go_wp2_with (first | (go_at_call 38; refine (rIsDay_any _ _).mono ?_; rintro e w' ⟨rfl, rfl⟩) | (go_at_call 39; refine (civil_t _ _ (by omega) (by omega)).mono ?_; rintro e w1 ⟨rfl, hb1⟩; replace hbel := hbel.trans (hb1.mono hbel.size); clear hb1))
        go_ret2
        exact ⟨age_yes HD.out HY.out, hbel⟩
    · have HY := Lib.hid (ageY_ge hlt)
      have l1 : ¬ (Cal.cM n < Cal.cM b) := by omega
      by_cases he : Cal.cM n = Cal.cM b
      · have e1 : (Cal.cM n == Cal.cM b) = true := by simp [he]
        have l2 : ¬ (Cal.cD n < Cal.cD b) := by omega
        clear he hlt
        go_enter Tryd.func13, Tryd.ntmps13
        go_wp2_with (first | (go_at_call 38; refine (rIsDay_any _ _).mono ?_; rintro e w' ⟨rfl, rfl⟩) | (go_at_call 39; refine (civil_t _ _ (by omega) (by omega)).mono ?_; rintro e w1 ⟨rfl, hb1⟩; replace hbel := hbel.trans (hb1.mono hbel.size); clear hb1))
        go_ret2
        exact ⟨age_yes HD.out HY.out, hbel⟩
      · have e1 : (Cal.cM n == Cal.cM b) = false := by simp [he]
        clear he hlt
        go_enter Tryd.func13, Tryd.ntmps13
        go_wp2_with (first | (go_at_call 38; refine (rIsDay_any _ _).mono ?_; rintro e w' ⟨rfl, rfl⟩) | (go_at_call 39; refine (civil_t _ _ (by omega) (by omega)).mono ?_; rintro e w1 ⟨rfl, hb1⟩; replace hbel := hbel.trans (hb1.mono hbel.size); clear hb1))
        go_ret2
        exact ⟨age_yes HD.out HY.out, hbel⟩
  · have hd' : ageB b n = false := by simpa using hd
    have HD := Lib.hid hd'
    clear hd hd'
    by_cases hb : isD b = true
    · by_cases hn : isD n = true
      · have hlt : n < b := by
          have := HD.out
          simp [ageB, hb, hn] at this
          omega
        go_enter Tryd.func13, Tryd.ntmps13
        go_wp2_with ((go_at_call 38; refine (rIsDay_any _ _).mono ?_; rintro e w' ⟨rfl, rfl⟩))
        go_ret2
        exact ⟨age_no HD.out, hbel⟩
      · have hn' : isD n = false := by simpa using hn
        clear hn
        go_enter Tryd.func13, Tryd.ntmps13
        go_wp2_with ((go_at_call 38; refine (rIsDay_any _ _).mono ?_; rintro e w' ⟨rfl, rfl⟩))
        go_ret2
        exact ⟨age_no HD.out, hbel⟩
    · have hb' : isD b = false := by simpa using hb
      clear hb
      go_enter Tryd.func13, Tryd.ntmps13
      go_wp2_with ((go_at_call 38; refine (rIsDay_any _ _).mono ?_; rintro e w' ⟨rfl, rfl⟩))
      go_ret2
      exact ⟨age_no HD.out, hbel⟩
end Go.Proofs.YtmncocmdobondaaDoor
