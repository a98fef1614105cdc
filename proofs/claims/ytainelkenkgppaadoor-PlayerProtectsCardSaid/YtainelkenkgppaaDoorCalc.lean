/- Day, Date, Weekday, Age of package calendar and of its reference: both compute the same plain functions. -/
import Derived.Test.YtainelkenkgppaaDoorCalb
namespace Go.Proofs.YtainelkenkgppaaDoor
open Go.ChangeShapes Go.WideShapes Go.ChangeAt Go.RowKit Go.Lott

def dtV (n : Int) : Value := if isD n then .tuple #[.int .i64 (Cal.cY n), .int .i64 (Cal.cM n), .int .i64 (Cal.cD n), .int .i64 0] else .tuple #[.int .i64 0, .int .i64 0, .int .i64 0, .int .i64 2]
theorem isD_iff (n : Int) : isD n = true ↔ 0 ≤ n ∧ n < 745654 := by simp [isD]
theorem dateOf_t (n : Int) (w : World) (ht : Tab w) (h0 : 0 ≤ n) (h1 : n ≤ 745654) : Calls Tryd.prog 59 #[.int .i64 n] w (RetS (.tuple #[.int .i64 (Cal.cY n), .int .i64 (Cal.cM n), .int .i64 (Cal.cD n)]) w) := dateOf_any n w ht h0 h1
theorem civil_t (n : Int) (w : World) (h0 : 0 ≤ n) (h1 : n ≤ 745654) : Calls Tryd.prog 84 #[.int .i64 n] w (RetB (.tuple #[.int .i64 (Cal.cY n), .int .i64 (Cal.cM n), .int .i64 (Cal.cD n)]) w) := civil_any n w h0 h1
theorem dtV_yes {n : Int} (h : isD n = true) : Ending.returned (.tuple #[.int .i64 (Cal.cY n), .int .i64 (Cal.cM n), .int .i64 (Cal.cD n), .int .i64 0]) = .returned (dtV n) := by unfold dtV; rw [h]; rfl
theorem dtV_no {n : Int} (h : isD n = false) : Ending.returned (.tuple #[.int .i64 0, .int .i64 0, .int .i64 0, .int .i64 2]) = .returned (dtV n) := by unfold dtV; rw [h]; rfl
/-- The age: full years. -/
def ageB (b n : Int) : Bool := isD b && isD n && decide (b ≤ n)
def ageY (b n : Int) : Int := Cal.cY n - Cal.cY b - if Cal.cM n < Cal.cM b ∨ Cal.cM n = Cal.cM b ∧ Cal.cD n < Cal.cD b then 1 else 0
def ageN (b n : Int) : Int := if ageB b n then ageY b n else 0
def ageE (b n : Int) : Int := if ageB b n then 0 else 2
theorem age_cases {b n : Int} (h : ageB b n = true) : 0 ≤ b ∧ b < 745654 ∧ 0 ≤ n ∧ n < 745654 ∧ b ≤ n := by
  simp [ageB, isD] at h; omega
theorem age_no {b n : Int} (h : ageB b n = false) : Ending.returned (.tuple #[.int .i64 0, .int .i64 2]) = .returned (.tuple #[.int .i64 (ageN b n), .int .i64 (ageE b n)]) := by
  unfold ageN ageE; rw [h]; rfl
theorem age_yes {b n k : Int} (h : ageB b n = true) (hk : k = ageY b n) : Ending.returned (.tuple #[.int .i64 k, .int .i64 0]) = .returned (.tuple #[.int .i64 (ageN b n), .int .i64 (ageE b n)]) := by
  unfold ageN ageE; rw [h, hk]; rfl
theorem ageY_lt {b n : Int} (h : Cal.cM n < Cal.cM b ∨ Cal.cM n = Cal.cM b ∧ Cal.cD n < Cal.cD b) : Cal.cY n - Cal.cY b - 1 = ageY b n := by unfold ageY; rw [if_pos h]
theorem ageY_ge {b n : Int} (h : ¬ (Cal.cM n < Cal.cM b ∨ Cal.cM n = Cal.cM b ∧ Cal.cD n < Cal.cD b)) : Cal.cY n - Cal.cY b = ageY b n := by unfold ageY; rw [if_neg h]; omega
set_option maxHeartbeats 1000000 in
theorem Age_any (b n : Int) (w : World) (ht : Tab w) : Calls Tryd.prog 26 #[.int .i64 b, .int .i64 n] w (RetB (.tuple #[.int .i64 (ageN b n), .int .i64 (ageE b n)]) w) := by
  have hbel := Below.refl w.heap.size w
  have HT := Lib.hid ht; clear ht
  by_cases hd : ageB b n = true
  · obtain ⟨h0, h1, h2, h3, h4⟩ := age_cases hd
    have HD := Lib.hid hd
    have hb1 : isD b = true := (isD_iff b).2 ⟨h0, h1⟩
    have hn1 : isD n = true := (isD_iff n).2 ⟨h2, h3⟩
    have hy1 := Cal.cY_bd b h0 (by omega)
    have hy2 := Cal.cY_bd n h2 (by omega)
    clear hd
    by_cases hlt : Cal.cM n < Cal.cM b ∨ Cal.cM n = Cal.cM b ∧ Cal.cD n < Cal.cD b
    · have HY := Lib.hid (ageY_lt hlt)
      rcases hlt with hlt | ⟨he, hlt⟩
      · go_enter Tryd.func26, Tryd.ntmps26
        go_wp2_with (first | (go_at_call 58; refine (isDay_any _ _).mono ?_; rintro e w' ⟨rfl, rfl⟩) | (go_at_call 59; refine (dateOf_t _ _ HT.out (by omega) (by omega)).mono ?_; rintro e w' ⟨rfl, rfl⟩))
        go_ret2
        exact ⟨age_yes HD.out HY.out, hbel⟩
      · have e1 : (Cal.cM n == Cal.cM b) = true := by simp [he]
        have l1 : ¬ (Cal.cM n < Cal.cM b) := by omega
        clear he
        go_enter Tryd.func26, Tryd.ntmps26
        go_wp2_with (first | (go_at_call 58; refine (isDay_any _ _).mono ?_; rintro e w' ⟨rfl, rfl⟩) | (go_at_call 59; refine (dateOf_t _ _ HT.out (by omega) (by omega)).mono ?_; rintro e w' ⟨rfl, rfl⟩))
        go_ret2
        exact ⟨age_yes HD.out HY.out, hbel⟩
    · have HY := Lib.hid (ageY_ge hlt)
      have l1 : ¬ (Cal.cM n < Cal.cM b) := by omega
      by_cases he : Cal.cM n = Cal.cM b
      · have e1 : (Cal.cM n == Cal.cM b) = true := by simp [he]
        have l2 : ¬ (Cal.cD n < Cal.cD b) := by omega
        clear he hlt
        go_enter Tryd.func26, Tryd.ntmps26
        go_wp2_with (first | (go_at_call 58; refine (isDay_any _ _).mono ?_; rintro e w' ⟨rfl, rfl⟩) | (go_at_call 59; refine (dateOf_t _ _ HT.out (by omega) (by omega)).mono ?_; rintro e w' ⟨rfl, rfl⟩))
        go_ret2
        exact ⟨age_yes HD.out HY.out, hbel⟩
      · have e1 : (Cal.cM n == Cal.cM b) = false := by simp [he]
        clear he hlt
        go_enter Tryd.func26, Tryd.ntmps26
        go_wp2_with (first | (go_at_call 58; refine (isDay_any _ _).mono ?_; rintro e w' ⟨rfl, rfl⟩) | (go_at_call 59; refine (dateOf_t _ _ HT.out (by omega) (by omega)).mono ?_; rintro e w' ⟨rfl, rfl⟩))
        go_ret2
        exact ⟨age_yes HD.out HY.out, hbel⟩
  · have hd' : ageB b n = false := by simpa using hd
    have HD := Lib.hid hd'
    clear hd hd'
    by_cases hb : isD b = true
    · by_cases hn : isD n = true
      · have hlt : n < b := by
          have := HD.out
          simp [ageB, hb, hn] at this
          omega
        go_enter Tryd.func26, Tryd.ntmps26
        go_wp2_with ((go_at_call 58; refine (isDay_any _ _).mono ?_; rintro e w' ⟨rfl, rfl⟩))
        go_ret2
        exact ⟨age_no HD.out, hbel⟩
      · have hn' : isD n = false := by simpa using hn
        clear hn
        go_enter Tryd.func26, Tryd.ntmps26
        go_wp2_with ((go_at_call 58; refine (isDay_any _ _).mono ?_; rintro e w' ⟨rfl, rfl⟩))
        go_ret2
        exact ⟨age_no HD.out, hbel⟩
    · have hb' : isD b = false := by simpa using hb
      clear hb
      go_enter Tryd.func26, Tryd.ntmps26
      go_wp2_with ((go_at_call 58; refine (isDay_any _ _).mono ?_; rintro e w' ⟨rfl, rfl⟩))
      go_ret2
      exact ⟨age_no HD.out, hbel⟩
set_option maxHeartbeats 1000000 in
theorem rAge_any (b n : Int) (w : World) (_ : True) : Calls Tryd.prog 73 #[.int .i64 b, .int .i64 n] w (RetB (.tuple #[.int .i64 (ageN b n), .int .i64 (ageE b n)]) w) := by
  have hbel := Below.refl w.heap.size w
  skip
  by_cases hd : ageB b n = true
  · obtain ⟨h0, h1, h2, h3, h4⟩ := age_cases hd
    have HD := Lib.hid hd
    have hb1 : isD b = true := (isD_iff b).2 ⟨h0, h1⟩
    have hn1 : isD n = true := (isD_iff n).2 ⟨h2, h3⟩
    have hy1 := Cal.cY_bd b h0 (by omega)
    have hy2 := Cal.cY_bd n h2 (by omega)
    clear hd
    by_cases hlt : Cal.cM n < Cal.cM b ∨ Cal.cM n = Cal.cM b ∧ Cal.cD n < Cal.cD b
    · have HY := Lib.hid (ageY_lt hlt)
      rcases hlt with hlt | ⟨he, hlt⟩
      · go_enter Tryd.func73, Tryd.ntmps73
        go_wp2_with (first | (go_at_call 83; refine (rIsDay_any _ _).mono ?_; rintro e w' ⟨rfl, rfl⟩) | (go_at_call 84; refine (civil_t _ _ (by omega) (by omega)).mono ?_; rintro e w1 ⟨rfl, hb1⟩; replace hbel := hbel.trans (hb1.mono hbel.size); clear hb1))
        go_ret2
        exact ⟨age_yes HD.out HY.out, hbel⟩
      · have e1 : (Cal.cM n == Cal.cM b) = true := by simp [he]
        have l1 : ¬ (Cal.cM n < Cal.cM b) := by omega
        clear he
        go_enter Tryd.func73, Tryd.ntmps73
        go_wp2_with (first | (go_at_call 83; refine (rIsDay_any _ _).mono ?_; rintro e w' ⟨rfl, rfl⟩) | (go_at_call 84; refine (civil_t _ _ (by omega) (by omega)).mono ?_; rintro e w1 ⟨rfl, hb1⟩; replace hbel := hbel.trans (hb1.mono hbel.size); clear hb1))
        go_ret2
        exact ⟨age_yes HD.out HY.out, hbel⟩
    · have HY := Lib.hid (ageY_ge hlt)
      have l1 : ¬ (Cal.cM n < Cal.cM b) := by omega
      by_cases he : Cal.cM n = Cal.cM b
      · have e1 : (Cal.cM n == Cal.cM b) = true := by simp [he]
        have l2 : ¬ (Cal.cD n < Cal.cD b) := by omega
        clear he hlt
        go_enter Tryd.func73, Tryd.ntmps73
        go_wp2_with (first | (go_at_call 83; refine (rIsDay_any _ _).mono ?_; rintro e w' ⟨rfl, rfl⟩) | (go_at_call 84; refine (civil_t _ _ (by omega) (by omega)).mono ?_; rintro e w1 ⟨rfl, hb1⟩; replace hbel := hbel.trans (hb1.mono hbel.size); clear hb1))
        go_ret2
        exact ⟨age_yes HD.out HY.out, hbel⟩
      · have e1 : (Cal.cM n == Cal.cM b) = false := by simp [he]
        clear he hlt
        go_enter Tryd.func73, Tryd.ntmps73
        go_wp2_with (first | (go_at_call 83; refine (rIsDay_any _ _).mono ?_; rintro e w' ⟨rfl, rfl⟩) | (go_at_call 84; refine (civil_t _ _ (by omega) (by omega)).mono ?_; rintro e w1 ⟨rfl, hb1⟩; replace hbel := hbel.trans (hb1.mono hbel.size); clear hb1))
        go_ret2
        exact ⟨age_yes HD.out HY.out, hbel⟩
  · have hd' : ageB b n = false := by simpa using hd
    have HD := Lib.hid hd'
    clear hd hd'
    by_cases hb : isD b = true
    · by_cases hn : isD n = true
      · have hlt : n < b := by
          have := HD.out
          simp [ageB, hb, hn] at this
          omega
        go_enter Tryd.func73, Tryd.ntmps73
        go_wp2_with ((go_at_call 83; refine (rIsDay_any _ _).mono ?_; rintro e w' ⟨rfl, rfl⟩))
        go_ret2
        exact ⟨age_no HD.out, hbel⟩
      · have hn' : isD n = false := by simpa using hn
        clear hn
        go_enter Tryd.func73, Tryd.ntmps73
        go_wp2_with ((go_at_call 83; refine (rIsDay_any _ _).mono ?_; rintro e w' ⟨rfl, rfl⟩))
        go_ret2
        exact ⟨age_no HD.out, hbel⟩
    · have hb' : isD b = false := by simpa using hb
      clear hb
      go_enter Tryd.func73, Tryd.ntmps73
      go_wp2_with ((go_at_call 83; refine (rIsDay_any _ _).mono ?_; rintro e w' ⟨rfl, rfl⟩))
      go_ret2
      exact ⟨age_no HD.out, hbel⟩
end Go.Proofs.YtainelkenkgppaaDoor
