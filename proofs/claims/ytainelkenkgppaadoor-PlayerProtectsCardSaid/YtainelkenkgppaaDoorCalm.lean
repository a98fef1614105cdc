/- Plain facts on the calendar: leap years, days of months and years, dates and day numbers. No program stands in this text. -/
import Derived.Lib.Hide
namespace Go.Lott.Cal

def lp (y : Int) : Bool := decide (y % 4 = 0 ∧ (y % 100 ≠ 0 ∨ y % 400 = 0))
def yd (y : Int) : Int := if lp y then 366 else 365
/-- The days of the months of a common year. -/
def mt (m : Nat) : Int := match m with
  | 1 => 31 | 2 => 28 | 3 => 31 | 4 => 30 | 5 => 31 | 6 => 30 | 7 => 31 | 8 => 31 | 9 => 30 | 10 => 31 | 11 => 30 | 12 => 31 | _ => 0
def lenN (y : Int) (m : Nat) : Int := if m = 2 ∧ lp y = true then 29 else mt m
def len (y m : Int) : Int := lenN y m.toNat
/-- The days before month m. -/
def ct (m : Nat) : Int := match m with
  | 1 => 0 | 2 => 31 | 3 => 59 | 4 => 90 | 5 => 120 | 6 => 151 | 7 => 181 | 8 => 212 | 9 => 243 | 10 => 273 | 11 => 304 | 12 => 334 | 13 => 365 | _ => 0
def cumN (y : Int) (m : Nat) : Int := ct m + if 2 < m ∧ lp y = true then 1 else 0
def cum (y m : Int) : Int := cumN y m.toNat
/-- The days before the year y, from 2000 on. -/
def ys (y : Int) : Int := 365 * (y - 2000) + ((y - 1) / 4 - (y - 1) / 100 + (y - 1) / 400) - 484

theorem ys_2000 : ys 2000 = 0 := by decide
theorem ys_succ (y : Int) : ys (y + 1) = ys y + yd y := by
  unfold ys yd lp
  by_cases h : y % 4 = 0 ∧ (y % 100 ≠ 0 ∨ y % 400 = 0)
  · rw [decide_eq_true h, if_pos rfl]; omega
  · rw [decide_eq_false h, if_neg (by simp)]; omega
theorem ys_mono {a b : Int} (h : a ≤ b) : ys a ≤ ys b := by unfold ys; omega
theorem ys_lt {a b : Int} (h : a < b) : ys a + 365 ≤ ys b := by unfold ys; omega
theorem ys_step (a : Int) : ys a + 365 ≤ ys (a + 1) ∧ ys (a + 1) ≤ ys a + 366 := by unfold ys; omega
theorem yd_bd (y : Int) : 365 ≤ yd y ∧ yd y ≤ 366 := by unfold yd; split <;> omega
theorem ys_guess (n : Int) (h0 : 0 ≤ n) : ys (2000 + n / 366) ≤ n := by unfold ys; omega
theorem ys_bd (y : Int) (h0 : 2000 ≤ y) (h1 : y ≤ 4101) : 0 ≤ ys y ∧ ys y ≤ 767376 := by unfold ys; omega
theorem ys_4101 : ys 4101 = 767375 := by decide
theorem len_bd (y m : Int) (h1 : 1 ≤ m) (h2 : m ≤ 12) : 28 ≤ len y m ∧ len y m ≤ 31 := by
  unfold len lenN
  obtain ⟨k, rfl⟩ := Int.eq_ofNat_of_zero_le (show 0 ≤ m by omega)
  rcases (show k = 1 ∨ k = 2 ∨ k = 3 ∨ k = 4 ∨ k = 5 ∨ k = 6 ∨ k = 7 ∨ k = 8 ∨ k = 9 ∨ k = 10 ∨ k = 11 ∨ k = 12 by omega) with rfl | rfl | rfl | rfl | rfl | rfl | rfl | rfl | rfl | rfl | rfl | rfl <;> cases lp y <;> decide
theorem cum_1 (y : Int) : cum y 1 = 0 := by unfold cum cumN; cases lp y <;> decide
theorem cum_13 (y : Int) : cum y 13 = yd y := by unfold cum cumN yd; cases lp y <;> decide
theorem cum_succ (y m : Int) (h1 : 1 ≤ m) (h2 : m ≤ 12) : cum y (m + 1) = cum y m + len y m := by
  unfold len lenN cum cumN
  obtain ⟨k, rfl⟩ := Int.eq_ofNat_of_zero_le (show 0 ≤ m by omega)
  rcases (show k = 1 ∨ k = 2 ∨ k = 3 ∨ k = 4 ∨ k = 5 ∨ k = 6 ∨ k = 7 ∨ k = 8 ∨ k = 9 ∨ k = 10 ∨ k = 11 ∨ k = 12 by omega) with rfl | rfl | rfl | rfl | rfl | rfl | rfl | rfl | rfl | rfl | rfl | rfl <;> cases lp y <;> decide
theorem cum_bd (y m : Int) (h1 : 1 ≤ m) (h2 : m ≤ 13) : 0 ≤ cum y m ∧ cum y m ≤ 366 := by
  unfold cum cumN
  obtain ⟨k, rfl⟩ := Int.eq_ofNat_of_zero_le (show 0 ≤ m by omega)
  rcases (show k = 1 ∨ k = 2 ∨ k = 3 ∨ k = 4 ∨ k = 5 ∨ k = 6 ∨ k = 7 ∨ k = 8 ∨ k = 9 ∨ k = 10 ∨ k = 11 ∨ k = 12 ∨ k = 13 by omega) with rfl | rfl | rfl | rfl | rfl | rfl | rfl | rfl | rfl | rfl | rfl | rfl | rfl <;> cases lp y <;> decide
theorem cum_mono (y : Int) {a b : Int} (h0 : 1 ≤ a) (h : a ≤ b) (h1 : b ≤ 13) : cum y a ≤ cum y b := by
  obtain ⟨k, hk⟩ := Int.eq_ofNat_of_zero_le (show 0 ≤ b - a by omega)
  obtain rfl : b = a + k := by omega
  clear hk
  induction k with
  | zero => simp
  | succ k ih =>
    have h2 := ih (by omega) (by omega)
    have h3 := cum_succ y (a + k) (by omega) (by omega)
    have h4 := len_bd y (a + k) (by omega) (by omega)
    have h5 : a + ((k + 1 : Nat) : Int) = a + k + 1 := by omega
    rw [h5, h3]
    omega

/-- The number of the day d of month m of year y. -/
def num (y m d : Int) : Int := ys y + cum y m + d - 1

/-- (y, m, d) is the date of day n. -/
structure IsDate (n y m d : Int) : Prop where
  y0 : ys y ≤ n
  y1 : n < ys (y + 1)
  m0 : 1 ≤ m
  m1 : m ≤ 12
  d0 : 1 ≤ d
  d1 : d ≤ len y m
  eq : num y m d = n

theorem IsDate.unique {n y m d y' m' d' : Int} (h : IsDate n y m d) (k : IsDate n y' m' d') : y = y' ∧ m = m' ∧ d = d' := by
  obtain rfl : y = y' := by
    by_cases h1 : y < y'
    · have := ys_mono (show y + 1 ≤ y' by omega); have := h.y1; have := k.y0; omega
    · by_cases h2 : y' < y
      · have := ys_mono (show y' + 1 ≤ y by omega); have := k.y1; have := h.y0; omega
      · omega
  have e1 := h.eq
  have e2 := k.eq
  unfold num at e1 e2
  have := h.d0; have := h.d1; have := k.d0; have := k.d1
  have := h.m0; have := h.m1; have := k.m0; have := k.m1
  have s1 := cum_succ y m (by omega) (by omega)
  have s2 := cum_succ y m' (by omega) (by omega)
  obtain rfl : m = m' := by
    by_cases h1 : m < m'
    · have := cum_mono y (show 1 ≤ m + 1 by omega) (show m + 1 ≤ m' by omega) (by omega); omega
    · by_cases h2 : m' < m
      · have := cum_mono y (show 1 ≤ m' + 1 by omega) (show m' + 1 ≤ m by omega) (by omega); omega
      · omega
  exact ⟨rfl, rfl, by omega⟩

theorem IsDate.of_parts {n y m : Int} (h0 : ys y ≤ n) (m0 : 1 ≤ m) (m1 : m ≤ 12) (hc : cum y m ≤ n - ys y) (hl : n - ys y - cum y m < len y m) :
    IsDate n y m (n - ys y - cum y m + 1) := by
  refine ⟨h0, ?_, m0, m1, by omega, by omega, by unfold num; omega⟩
  have s1 := cum_succ y m m0 m1
  have := cum_mono y (show 1 ≤ m + 1 by omega) (show m + 1 ≤ 13 by omega) (by omega)
  rw [cum_13] at this
  rw [ys_succ]
  omega

theorem IsDate.of_num {y m d : Int} (m0 : 1 ≤ m) (m1 : m ≤ 12) (d0 : 1 ≤ d) (d1 : d ≤ len y m) : IsDate (num y m d) y m d := by
  have h := cum_bd y m m0 (by omega)
  have k : num y m d = ys y + cum y m + d - 1 := rfl
  have := IsDate.of_parts (n := num y m d) (y := y) (m := m) (by omega) m0 m1 (by omega) (by omega)
  have e : num y m d - ys y - cum y m + 1 = d := by omega
  rwa [e] at this

/-- The search for the year, by fuel. -/
def yr : Nat → Int → Int → Int
  | 0, y, _ => y
  | f + 1, y, n => if ys (y + 1) ≤ n then yr f (y + 1) n else y
/-- The search for the month, by fuel: k months are still to come. -/
def mo : Nat → Int → Int → Int → Int
  | 0, m, _, _ => m
  | f + 1, m, y, r => if cum y (m + 1) ≤ r then mo f (m + 1) y r else m
def cY (n : Int) : Int := yr 3000 2000 n
def cM (n : Int) : Int := mo 11 1 (cY n) (n - ys (cY n))
def cD (n : Int) : Int := n - ys (cY n) - cum (cY n) (cM n) + 1

theorem yr_spec : ∀ (f : Nat) (y n : Int), ys y ≤ n → n < ys (y + f + 1) → y ≤ yr f y n ∧ yr f y n ≤ y + f ∧ ys (yr f y n) ≤ n ∧ n < ys (yr f y n + 1)
  | 0, y, n, h0, h1 => by simpa [yr] using ⟨h0, by simpa using h1⟩
  | f + 1, y, n, h0, h1 => by
    unfold yr
    by_cases h : ys (y + 1) ≤ n
    · rw [if_pos h]
      have e : y + 1 + (f : Int) + 1 = y + ((f + 1 : Nat) : Int) + 1 := by omega
      have := yr_spec f (y + 1) n h (by rw [e]; exact h1)
      omega
    · rw [if_neg h]; omega
theorem mo_spec : ∀ (f : Nat) (m y r : Int), 1 ≤ m → m + f ≤ 12 → cum y m ≤ r → r < cum y (m + f + 1) → m ≤ mo f m y r ∧ mo f m y r ≤ m + f ∧ cum y (mo f m y r) ≤ r ∧ r < cum y (mo f m y r + 1)
  | 0, m, y, r, _, _, h0, h1 => by simpa [mo] using ⟨h0, by simpa using h1⟩
  | f + 1, m, y, r, hm, hf, h0, h1 => by
    unfold mo
    by_cases h : cum y (m + 1) ≤ r
    · rw [if_pos h]
      have e : m + 1 + (f : Int) + 1 = m + ((f + 1 : Nat) : Int) + 1 := by omega
      have := mo_spec f (m + 1) y r (by omega) (by omega) h (by rw [e]; exact h1)
      omega
    · rw [if_neg h]; omega

theorem ys_far : 1000000 ≤ ys (2000 + 3000 + 1) := by decide
theorem isDate_c (n : Int) (h0 : 0 ≤ n) (h1 : n < 1000000) : IsDate n (cY n) (cM n) (cD n) := by
  have hy := yr_spec 3000 2000 n (by rw [ys_2000]; omega) (by have := ys_far; have e : (2000 : Int) + ((3000 : Nat) : Int) + 1 = 2000 + 3000 + 1 := rfl; rw [e]; omega)
  change _ ≤ cY n ∧ cY n ≤ _ ∧ ys (cY n) ≤ n ∧ n < ys (cY n + 1) at hy
  have hs := ys_succ (cY n)
  have hm := mo_spec 11 1 (cY n) (n - ys (cY n)) (by omega) (by omega) (by rw [cum_1]; omega) (by have := cum_13 (cY n); have e : (1 : Int) + ((11 : Nat) : Int) + 1 = 13 := rfl; rw [e]; omega)
  change _ ≤ cM n ∧ cM n ≤ _ ∧ cum (cY n) (cM n) ≤ _ ∧ _ < cum (cY n) (cM n + 1) at hm
  have hc := cum_succ (cY n) (cM n) (by omega) (by omega)
  exact IsDate.of_parts hy.2.2.1 (by omega) (by omega) hm.2.2.1 (by omega)
theorem c_eq {n y m d : Int} (h : IsDate n y m d) (h0 : 0 ≤ n) (h1 : n < 1000000) : cY n = y ∧ cM n = m ∧ cD n = d := (isDate_c n h0 h1).unique h
theorem cY_bd (n : Int) (h0 : 0 ≤ n) (h1 : n < 746000) : 2000 ≤ cY n ∧ cY n ≤ 4042 := by
  have h := isDate_c n h0 (by omega)
  have a := h.y0
  have b := h.y1
  refine ⟨?_, ?_⟩
  · by_cases c : cY n < 2000
    · have := ys_mono (show cY n + 1 ≤ 2000 by omega); rw [ys_2000] at this; omega
    · omega
  · by_cases c : 4042 < cY n
    · have := ys_mono (show 4043 ≤ cY n by omega)
      have e : (746000 : Int) ≤ ys 4043 := by decide
      omega
    · omega
theorem ys_cY (n : Int) (h0 : 0 ≤ n) (h1 : n < 1000000) : ys (cY n) ≤ n ∧ n < ys (cY n + 1) := ⟨(isDate_c n h0 h1).y0, (isDate_c n h0 h1).y1⟩
end Go.Lott.Cal
