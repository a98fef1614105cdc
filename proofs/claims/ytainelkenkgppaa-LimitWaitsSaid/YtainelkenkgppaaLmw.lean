/- The law LimitWaits: plain facts on two changes. -/
import Derived.Test.YtainelkenkgppaaLmh
namespace Go.Lott.Lm
def zW (p a b : Int) (i j : Nat) : Int := if j = 0 then (if i = 0 then p else p + 10) else if i = 0 then a else b
theorem rowW (p a b : Int) : row4 (zW p a b) 2 = [(p, a, a, a), (p + 10, b, b, b)] := rfl
theorem kdW (p a : Int) (k : Nat) : kd (p, a, a, a) k = a := by unfold kd; split <;> (try split) <;> rfl
theorem ew1 {p a : Int} (k : Nat) (t : Int) (ha : a ≠ 0) : effE [(p, a, a, a)] k t = a := by
  have h : foldE [(p, a, a, a)] k = ⟨a, 0, 0, false⟩ := by
    show stepE ⟨0, 0, 0, false⟩ p (kd (p, a, a, a) k) = _
    rw [kdW]; exact step_a (L := 0) rfl ha (.inl rfl)
  rw [eff_lim h]; rfl
theorem ew2d {p a b : Int} (k : Nat) (t : Int) (hb : b ≠ 0) (h : b < a) (ha : a ≠ 0) : effE [(p, a, a, a), (p + 10, b, b, b)] k t = b := by
  have h0 : foldE [(p, a, a, a), (p + 10, b, b, b)] k = ⟨b, 0, 0, false⟩ := by
    show stepE (stepE ⟨0, 0, 0, false⟩ p (kd (p, a, a, a) k)) (p + 10) (kd (p + 10, b, b, b) k) = _
    rw [kdW, kdW, step_a (L := 0) (s := ⟨0, 0, 0, false⟩) rfl ha (.inl rfl)]
    exact step_a (L := a) rfl hb (.inr h)
  rw [eff_lim h0]; rfl
theorem ew2u {p a b : Int} (k : Nat) (t : Int) (ha : a ≠ 0) (h : b = 0 ∨ a < b) : effE [(p, a, a, a), (p + 10, b, b, b)] k t = if p + 10090 ≤ t then b else a := by
  have h0 : foldE [(p, a, a, a), (p + 10, b, b, b)] k = ⟨a, b, p + 10 + 10080, true⟩ := by
    show stepE (stepE ⟨0, 0, 0, false⟩ p (kd (p, a, a, a) k)) (p + 10) (kd (p + 10, b, b, b) k) = _
    rw [kdW, kdW, step_a (L := 0) (s := ⟨0, 0, 0, false⟩) rfl ha (.inl rfl)]
    exact step_c (L := a) rfl (by omega) (by omega)
  rw [eff_lim h0]
  show (if true = true ∧ p + 10 + 10080 ≤ t then b else a) = _
  by_cases c : p + 10090 ≤ t
  · rw [if_pos c, if_pos ⟨rfl, by omega⟩]
  · rw [if_neg c, if_neg (by omega)]
/-- Both changes are valid. -/
theorem vlW2 {p a b t : Int} (h0 : 0 ≤ p) (h1 : p + 10 ≤ 1073741824) (h2 : p + 10 ≤ t) (ha : 0 ≤ a ∧ a ≤ 1000000000000) (hb : 0 ≤ b ∧ b ≤ 1000000000000) : stS (vlL (zW p a b) t 2) = [(p, a, a, a), (p + 10, b, b, b)] := by
  have c0 : vC t (p, a, a, a) = true := by unfold vC; simp; omega
  have c1 : vC t (p + 10, b, b, b) = true := by unfold vC; simp; omega
  unfold vlL
  rw [rowW, List.filter_cons, if_pos c0, List.filter_cons, if_pos c1, List.filter_nil]
  show insS (p + 10, b, b, b) (insS (p, a, a, a) []) = _
  show (if p + 10 < p then _ else _) = _
  rw [if_neg (by omega)]; rfl
/-- The first is valid, the second is not yet. -/
theorem vlW1 {p a b t : Int} (h0 : 0 ≤ p) (h1 : p ≤ 1073741824) (h2 : p ≤ t) (h3 : t < p + 10) (ha : 0 ≤ a ∧ a ≤ 1000000000000) : stS (vlL (zW p a b) t 2) = [(p, a, a, a)] := by
  have c0 : vC t (p, a, a, a) = true := by unfold vC; simp; omega
  have c1 : ¬ vC t (p + 10, b, b, b) = true := by unfold vC; simp; omega
  unfold vlL
  rw [rowW, List.filter_cons, if_pos c0, List.filter_cons, if_neg c1, List.filter_nil]
  rfl
def ag (x : Int) : Value := .agg #[.int .i64 x, .int .i64 x, .int .i64 x]
theorem evW2 {p a b t : Int} (ht : tm t = true) (h0 : 0 ≤ p) (h1 : p + 10 ≤ 1073741824) (h2 : p + 10 ≤ t) (ha : 1 ≤ a ∧ a ≤ 1000000000000) (hb : b = 0 ∨ a < b ∧ b ≤ 1000000000000) : EV (zW p a b) 2 t = ag (if p + 10090 ≤ t then b else a) := by
  rw [EV_yes ht, vlW2 h0 h1 h2 (by omega) (by omega)]
  unfold effV ag
  rw [ew2u 0 t (by omega) (by omega), ew2u 1 t (by omega) (by omega), ew2u 2 t (by omega) (by omega)]
theorem evD2 {p a b t : Int} (ht : tm t = true) (h0 : 0 ≤ p) (h1 : p + 10 ≤ 1073741824) (h2 : p + 10 ≤ t) (ha : a ≤ 1000000000000) (hb : 1 ≤ b) (h : b < a) : EV (zW p a b) 2 t = ag b := by
  rw [EV_yes ht, vlW2 h0 h1 h2 (by omega) (by omega)]
  unfold effV ag
  rw [ew2d 0 t (by omega) h (by omega), ew2d 1 t (by omega) h (by omega), ew2d 2 t (by omega) h (by omega)]
theorem evD1 {p a b t : Int} (ht : tm t = true) (h0 : 0 ≤ p) (h1 : p ≤ 1073741824) (h2 : p ≤ t) (h3 : t < p + 10) (ha : 1 ≤ a ∧ a ≤ 1000000000000) : EV (zW p a b) 2 t = ag a := by
  rw [EV_yes ht, vlW1 h0 h1 h2 h3 (by omega)]
  unfold effV ag
  rw [ew1 0 t (by omega), ew1 1 t (by omega), ew1 2 t (by omega)]
end Go.Lott.Lm
