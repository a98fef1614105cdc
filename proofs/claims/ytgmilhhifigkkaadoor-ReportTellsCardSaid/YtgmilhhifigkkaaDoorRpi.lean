/- The law ReportTells: its walk. -/
import Derived.Test.YtgmilhhifigkkaaDoorRph
namespace Go.Proofs.YtgmilhhifigkkaaDoor
open Go.ChangeShapes Go.WideShapes Go.ChangeAt Go.RowKit Go.Lott
open Go.Lott.Mny Go.Lott.Rp
/-- Bounded amounts. -/
def bdB (n : Int) : Bool := decide (-1000000000000 ≤ n ∧ n ≤ 1000000000000)
theorem bdB_yes {n : Int} (h : bdB n = true) : Bd n := of_decide_eq_true (p := -1000000000000 ≤ n ∧ n ≤ 1000000000000) h
theorem bound_any (n : Int) (w : World) : Calls Tryd.prog 31 #[.int .i64 n] w (RetS (.bool (bdB n)) w) := by
  by_cases h : -1000000000000 ≤ n
  · go_enter Tryd.func31, Tryd.ntmps31
    go_wp2
    go_ret
    exact ⟨ret_bool (by simp [bdB, h]), rfl⟩
  · go_enter Tryd.func31, Tryd.ntmps31
    go_wp2
    go_ret
    exact ⟨ret_bool (by rw [bdB, decide_eq_false (by omega)]), rfl⟩
theorem bound_at (n : Int) (v : Bool) (h : bdB n = v) (w : World) : Calls Tryd.prog 31 #[.int .i64 n] w (RetS (.bool v) w) := h ▸ bound_any n w
def monB (a b c d e : Int) : Bool := bdB a && (bdB b && (bdB c && (bdB d && bdB e)))
set_option maxHeartbeats 2000000 in
theorem money_any (a b c d e : Int) (w : World) : Calls Tryd.prog 12 #[.agg #[.int .i64 a, .int .i64 b, .int .i64 c, .int .i64 d, .int .i64 e]] w (RetB (.bool (monB a b c d e)) w) := by
  cases ha : bdB a with
  | false =>
    have HA := Lib.hid (bound_at a _ ha)
    have HV := Lib.hid (show false = monB a b c d e by unfold monB; rw [ha]; rfl)
    clear ha
    go_enter Tryd.func12, Tryd.ntmps12
    go_wp2_with (go_at_call 31; (with_reducible refine (HA.out _).mono ?_); rintro e w' ⟨rfl, rfl⟩)
    go_ret
    exact ⟨ret_bool HV.out, (Below.refl _ _).alloc (Nat.le_refl _) _⟩
  | true =>
    have HA := Lib.hid (bound_at a _ ha)
    cases hb : bdB b with
    | false =>
      have HB := Lib.hid (bound_at b _ hb)
      have HV := Lib.hid (show false = monB a b c d e by unfold monB; rw [ha, hb]; rfl)
      clear ha hb
      go_enter Tryd.func12, Tryd.ntmps12
      go_wp2_with (go_at_call 31; (first | (with_reducible refine (HA.out _).mono ?_) | (with_reducible refine (HB.out _).mono ?_)); rintro e w' ⟨rfl, rfl⟩)
      go_ret
      exact ⟨ret_bool HV.out, (Below.refl _ _).alloc (Nat.le_refl _) _⟩
    | true =>
      have HB := Lib.hid (bound_at b _ hb)
      cases hc : bdB c with
      | false =>
        have HC := Lib.hid (bound_at c _ hc)
        have HV := Lib.hid (show false = monB a b c d e by unfold monB; rw [ha, hb, hc]; rfl)
        clear ha hb hc
        go_enter Tryd.func12, Tryd.ntmps12
        go_wp2_with (go_at_call 31; (first | (with_reducible refine (HA.out _).mono ?_) | (with_reducible refine (HB.out _).mono ?_) | (with_reducible refine (HC.out _).mono ?_)); rintro e w' ⟨rfl, rfl⟩)
        go_ret
        exact ⟨ret_bool HV.out, (Below.refl _ _).alloc (Nat.le_refl _) _⟩
      | true =>
        have HC := Lib.hid (bound_at c _ hc)
        cases hd : bdB d with
        | false =>
          have HD := Lib.hid (bound_at d _ hd)
          have HV := Lib.hid (show false = monB a b c d e by unfold monB; rw [ha, hb, hc, hd]; rfl)
          clear ha hb hc hd
          go_enter Tryd.func12, Tryd.ntmps12
          go_wp2_with (go_at_call 31; (first | (with_reducible refine (HA.out _).mono ?_) | (with_reducible refine (HB.out _).mono ?_) | (with_reducible refine (HC.out _).mono ?_) | (with_reducible refine (HD.out _).mono ?_)); rintro e w' ⟨rfl, rfl⟩)
          go_ret
          exact ⟨ret_bool HV.out, (Below.refl _ _).alloc (Nat.le_refl _) _⟩
        | true =>
          have HD := Lib.hid (bound_at d _ hd)
          have HE := Lib.hid (bound_at e _ rfl)
          have HV := Lib.hid (show bdB e = monB a b c d e by unfold monB; rw [ha, hb, hc, hd]; rfl)
          clear ha hb hc hd
          go_enter Tryd.func12, Tryd.ntmps12
          go_wp2_with (go_at_call 31; (first | (with_reducible refine (HA.out _).mono ?_) | (with_reducible refine (HB.out _).mono ?_) | (with_reducible refine (HC.out _).mono ?_) | (with_reducible refine (HD.out _).mono ?_) | (with_reducible refine (HE.out _).mono ?_)); rintro e w' ⟨rfl, rfl⟩)
          go_ret
          exact ⟨ret_bool HV.out, (Below.refl _ _).alloc (Nat.le_refl _) _⟩
theorem money_at (a b c d e : Int) (v : Bool) (h : monB a b c d e = v) (w : World) : Calls Tryd.prog 12 #[.agg #[.int .i64 a, .int .i64 b, .int .i64 c, .int .i64 d, .int .i64 e]] w (RetB (.bool v) w) := h ▸ money_any a b c d e w
theorem monB_yes {a b c d e : Int} (h : monB a b c d e = true) : Bd a ∧ Bd b ∧ Bd c ∧ Bd d ∧ Bd e := by
  unfold monB at h
  simp only [Bool.and_eq_true] at h
  exact ⟨bdB_yes h.1, bdB_yes h.2.1, bdB_yes h.2.2.1, bdB_yes h.2.2.2.1, bdB_yes h.2.2.2.2⟩
theorem setB_inj {t a b c d e t' a' b' c' d' e' : Int} (h1 : monB a b c d e = true) (h2 : monB a' b' c' d' e' = true) (h : setB t a b c d e = setB t' a' b' c' d' e') : t = t' ∧ a = a' ∧ b = b' ∧ c = c' ∧ d = d' ∧ e = e' := by
  obtain ⟨p1, p2, p3, p4, p5⟩ := monB_yes h1
  obtain ⟨q1, q2, q3, q4, q5⟩ := monB_yes h2
  refine setT_inj p1 p2 p3 p4 p5 q1 q2 q3 q4 q5 ?_
  rw [← setB_list, h, setB_list]
end Go.Proofs.YtgmilhhifigkkaaDoor
