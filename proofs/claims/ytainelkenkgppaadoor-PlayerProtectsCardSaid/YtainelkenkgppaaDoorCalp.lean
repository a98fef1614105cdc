/- Plain laws on the calendar: the next day has the next date; ages grow by at most 1 a day; periods are the same or do not overlap. No program stands in this text. -/
import Derived.Test.YtainelkenkgppaaDoorCalm
namespace Go.Lott.Cal

/-- The next day has the next date. -/
theorem next_date {n y m d : Int} (h : IsDate n y m d) :
    (d < len y m ∧ IsDate (n + 1) y m (d + 1)) ∨ (d = len y m ∧ m < 12 ∧ IsDate (n + 1) y (m + 1) 1) ∨ (d = len y m ∧ m = 12 ∧ IsDate (n + 1) (y + 1) 1 1) := by
  have e := h.eq
  unfold num at e
  have hm0 := h.m0; have hm1 := h.m1; have hd0 := h.d0; have hd1 := h.d1
  by_cases c : d < len y m
  · refine .inl ⟨c, ?_⟩
    have := IsDate.of_num (y := y) (m := m) (d := d + 1) hm0 hm1 (by omega) (by omega)
    have e2 : num y m (d + 1) = n + 1 := by unfold num; omega
    rwa [e2] at this
  · have hd : d = len y m := by omega
    have cs := cum_succ y m hm0 hm1
    by_cases c2 : m < 12
    · refine .inr (.inl ⟨hd, c2, ?_⟩)
      have hl := len_bd y (m + 1) (by omega) (by omega)
      have := IsDate.of_num (y := y) (m := m + 1) (d := 1) (by omega) (by omega) (by omega) (by omega)
      have e2 : num y (m + 1) 1 = n + 1 := by unfold num; omega
      rwa [e2] at this
    · refine .inr (.inr ⟨hd, by omega, ?_⟩)
      have hl := len_bd (y + 1) 1 (by omega) (by omega)
      have := IsDate.of_num (y := y + 1) (m := 1) (d := 1) (by omega) (by omega) (by omega) (by omega)
      obtain rfl : m = 12 := by omega
      have e12 : (12 : Int) + 1 = 13 := rfl
      rw [e12, cum_13] at cs
      have e2 : num (y + 1) 1 1 = n + 1 := by unfold num; rw [ys_succ, cum_1]; omega
      rwa [e2] at this

theorem next_c (n : Int) (h0 : 0 ≤ n) (h1 : n < 999999) :
    (cD n < len (cY n) (cM n) ∧ cY (n + 1) = cY n ∧ cM (n + 1) = cM n ∧ cD (n + 1) = cD n + 1) ∨
    (cD n = len (cY n) (cM n) ∧ cM n < 12 ∧ cY (n + 1) = cY n ∧ cM (n + 1) = cM n + 1 ∧ cD (n + 1) = 1) ∨
    (cD n = len (cY n) (cM n) ∧ cM n = 12 ∧ cY (n + 1) = cY n + 1 ∧ cM (n + 1) = 1 ∧ cD (n + 1) = 1) := by
  rcases next_date (isDate_c n h0 (by omega)) with ⟨a, h⟩ | ⟨a, b, h⟩ | ⟨a, b, h⟩
  · exact .inl ⟨a, c_eq h (by omega) (by omega)⟩
  · exact .inr (.inl ⟨a, b, c_eq h (by omega) (by omega)⟩)
  · exact .inr (.inr ⟨a, b, c_eq h (by omega) (by omega)⟩)

theorem c_bd (n : Int) (h0 : 0 ≤ n) (h1 : n < 1000000) : 1 ≤ cM n ∧ cM n ≤ 12 ∧ 1 ≤ cD n ∧ cD n ≤ len (cY n) (cM n) ∧ len (cY n) (cM n) ≤ 31 ∧ 28 ≤ len (cY n) (cM n) := by
  have h := isDate_c n h0 h1
  have hl := len_bd (cY n) (cM n) h.m0 h.m1
  exact ⟨h.m0, h.m1, h.d0, h.d1, hl.2, hl.1⟩
theorem num_c (n : Int) (h0 : 0 ≤ n) (h1 : n < 1000000) : num (cY n) (cM n) (cD n) = n := (isDate_c n h0 h1).eq
theorem len_12 (y : Int) : len y 12 = 31 := by unfold len lenN; cases lp y <;> decide

/-- One date behind another within the year. -/
theorem step_age {m d m' d' mb db : Int} (h : m' = m ∧ d' = d + 1 ∨ m' = m + 1 ∧ d' = 1) :
    (m' < mb ∨ m' = mb ∧ d' < db) → (m < mb ∨ m = mb ∧ d < db) := by omega

/-- Months apart do not overlap. -/
theorem month_apart {y m y' m' : Int} (h1 : 1 ≤ m) (h2 : m ≤ 12) (h3 : 1 ≤ m') (h4 : m' ≤ 12) (h : y < y' ∨ y = y' ∧ m < m') : ys y + cum y m + len y m ≤ ys y' + cum y' m' := by
  have cs := cum_succ y m h1 h2
  have c1 := cum_mono y (show 1 ≤ m + 1 by omega) (show m + 1 ≤ 13 by omega) (by omega)
  rw [cum_13] at c1
  have b := cum_bd y' m' h3 (by omega)
  rcases h with h | ⟨rfl, h⟩
  · have := ys_mono (show y + 1 ≤ y' by omega)
    rw [ys_succ] at this
    omega
  · have := cum_mono y (show 1 ≤ m + 1 by omega) (show m + 1 ≤ m' by omega) (by omega)
    omega
end Go.Lott.Cal
