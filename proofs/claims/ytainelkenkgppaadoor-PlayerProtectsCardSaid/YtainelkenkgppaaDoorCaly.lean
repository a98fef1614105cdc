/- A time is in its period. No program stands in this text. -/
import Derived.Test.YtainelkenkgppaaDoorCald
import Derived.Test.YtainelkenkgppaaDoorCalp
namespace Go.Proofs.YtainelkenkgppaaDoor
open Go.Lott
theorem raw_bd {t k : Int} (h0 : 0 ≤ t) (h1 : t ≤ 1073741824) : 1440 * pFirst t k ≤ t ∧ t ≤ 1440 * (pFirst t k + pDays t k) - 1 := by
  have hb := Cal.c_bd (t / 1440) (by omega) (by omega)
  unfold pFirst pDays
  by_cases k2 : k = 2
  · rw [if_pos k2, if_pos k2]; omega
  · rw [if_neg k2, if_neg k2]
    by_cases k3 : k = 3
    · rw [if_pos k3, if_pos k3]; omega
    · rw [if_neg k3, if_neg k3]; omega
theorem per_in {t k : Int} (h : isT t = true) (h2 : 1 ≤ k) (h3 : k ≤ 3) : perF t k ≤ t ∧ t ≤ perL t k := by
  have hr : 0 ≤ t ∧ t ≤ 1073741824 := by simpa [isT] using h
  have a := raw_bd (k := k) hr.1 hr.2
  rw [perF_yes h h2 h3 rfl, perL_yes h h2 h3 rfl rfl]
  generalize pFirst t k = x at *
  generalize pDays t k = y at *
  constructor
  · split <;> omega
  · split <;> omega
end Go.Proofs.YtainelkenkgppaaDoor
