/- The functions limit.Check, limit.each, limit.isAmount and lotteryref21.Check return what they should, for every argument. -/
import Derived.Test.YtainelkenkgppaaDoorRows
import Derived.Test.YtainelkenkgppaaDoorKit
namespace Go.Proofs.YtainelkenkgppaaDoor
open Go.ChangeShapes Go.WideShapes Go.ChangeAt Go.RowKit Go.Lott

def amt (n : Int) : Bool := decide (0 ≤ n ∧ n ≤ 1000000000000)
def chk (a b c : Int) : Int := if amt a && amt b && amt c then 0 else 2
theorem amt_iff (n : Int) : amt n = true ↔ 0 ≤ n ∧ n ≤ 1000000000000 := by simp [amt]

theorem isAmount_any (n : Int) (w : World) : Calls Tryd.prog 43 #[.int .i64 n] w (RetS (.bool (amt n)) w) := by
  by_cases h : 0 ≤ n
  · go_enter Tryd.func43, Tryd.ntmps43
    go_wp2
    go_ret
    exact ⟨ret_bool (by simp [amt, h]), rfl⟩
  · go_enter Tryd.func43, Tryd.ntmps43
    go_wp2
    go_ret
    exact ⟨ret_bool (by rw [amt, decide_eq_false (by omega)]), rfl⟩

theorem amount_any (n : Int) (w : World) : Calls Tryd.prog 44 #[.int .i64 n] w (RetS (.bool (amt n)) w) := by
  by_cases h : 0 ≤ n
  · go_enter Tryd.func44, Tryd.ntmps44
    go_wp2
    go_ret
    exact ⟨ret_bool (by simp [amt, h]), rfl⟩
  · go_enter Tryd.func44, Tryd.ntmps44
    go_wp2
    go_ret
    exact ⟨ret_bool (by rw [amt, decide_eq_false (by omega)]), rfl⟩

theorem each_any (a b c : Int) (w : World) : Calls Tryd.prog 30 #[.agg #[.int .i64 a, .int .i64 b, .int .i64 c]] w (RetB (.agg #[.int .i64 a, .int .i64 b, .int .i64 c]) w) := by
  go_enter Tryd.func30, Tryd.ntmps30
  go_wp2
  exact bodyPost_ret (v := .agg #[.int .i64 a, .int .i64 b, .int .i64 c]) (by simp [results, Tryd.results30, go_sem]) rfl ⟨rfl, ((Below.refl _ _).alloc (Nat.le_refl _) _).alloc (by simp) _⟩

theorem check_any (a b c : Int) (w : World) : Calls Tryd.prog 34 #[.agg #[.int .i64 a, .int .i64 b, .int .i64 c]] w (RetB (.int .i64 (chk a b c)) w) := by
  have i0 : ∀ w, (Instr.index 64 (.agg #[.int .i64 a, .int .i64 b, .int .i64 c]) (.int .i64 0)).run Tryd.prog w = .ok (.int .i64 a) w := fun _ => by kernel_rfl
  have i1 : ∀ w, (Instr.index 64 (.agg #[.int .i64 a, .int .i64 b, .int .i64 c]) (.int .i64 1)).run Tryd.prog w = .ok (.int .i64 b) w := fun _ => by kernel_rfl
  have i2 : ∀ w, (Instr.index 64 (.agg #[.int .i64 a, .int .i64 b, .int .i64 c]) (.int .i64 2)).run Tryd.prog w = .ok (.int .i64 c) w := fun _ => by kernel_rfl
  go_enter Tryd.func34, Tryd.ntmps34
  go_wp2_with (go_at_call 30; refine (each_any _ _ _ _).mono ?_; rintro e w1 ⟨rfl, hb1⟩)
  go_loop [7] (fun i => ∃ k : Nat, k ≤ 3 ∧ i = .int .i64 k ∧ (1 ≤ k → amt a = true) ∧ (2 ≤ k → amt b = true) ∧ (3 ≤ k → amt c = true)) (fun i => 3 - (intOf i).toNat)
  case atStart => exact ⟨0, by omega, rfl, by omega, by omega, by omega⟩
  case round =>
    obtain ⟨k, hk, rfl, h1, h2, h3⟩ := hrel
    have hbel : Below w.heap.size w w1 := ((Below.refl _ _).alloc (Nat.le_refl _) _).trans (hb1.mono (by simp))
    by_cases hk3 : k = 3
    · subst hk3
      have Ha := Lib.hid (h1 (by omega)); have Hb := Lib.hid (h2 (by omega)); have Hc := Lib.hid (h3 (by omega))
      clear h1 h2 h3
      go_wp2
      go_ret
      exact ⟨by rw [chk, Ha.out, Hb.out, Hc.out]; rfl, hbel⟩
    · rcases (by omega : k = 0 ∨ k = 1 ∨ k = 2) with rfl | rfl | rfl
      · clear h1 h2 h3
        go_wp2_with (go_at_call 43; refine (isAmount_any _ _).mono ?_; rintro e w2 ⟨rfl, rfl⟩)
        · go_ret
          rename_i h
          exact ⟨ret_int (by simp at h; simp [chk, h]), hbel⟩
        · rename_i h
          simp at h
          refine ⟨⟨1, by omega, rfl, fun _ => h, by omega, by omega⟩, by simp [intOf]⟩
      · have Ha := Lib.hid (h1 (by omega)); clear h1 h2 h3
        go_wp2_with (go_at_call 43; refine (isAmount_any _ _).mono ?_; rintro e w2 ⟨rfl, rfl⟩)
        · go_ret
          rename_i h
          exact ⟨ret_int (by simp at h; simp [chk, h]), hbel⟩
        · rename_i h
          simp at h
          refine ⟨⟨2, by omega, rfl, fun _ => Ha.out, fun _ => h, by omega⟩, by simp [intOf]⟩
      · have Ha := Lib.hid (h1 (by omega)); have Hb := Lib.hid (h2 (by omega)); clear h1 h2 h3
        go_wp2_with (go_at_call 43; refine (isAmount_any _ _).mono ?_; rintro e w2 ⟨rfl, rfl⟩)
        · go_ret
          rename_i h
          exact ⟨ret_int (by simp at h; simp [chk, h]), hbel⟩
        · rename_i h
          simp at h
          refine ⟨⟨3, by omega, rfl, fun _ => Ha.out, fun _ => Hb.out, fun _ => h⟩, by simp [intOf]⟩

theorem refCheck_any (a b c : Int) (w : World) : Calls Tryd.prog 76 #[.agg #[.int .i64 a, .int .i64 b, .int .i64 c]] w (RetB (.int .i64 (chk a b c)) w) := by
  go_enter Tryd.func76, Tryd.ntmps76
  go_wp2_with (go_at_call 44; refine (amount_any _ _).mono ?_; rintro e w2 ⟨rfl, rfl⟩)
  all_goals (
    go_ret
    refine ⟨ret_int ?_, (Below.refl _ _).alloc (Nat.le_refl _) _⟩
    simp_all [chk])

end Go.Proofs.YtainelkenkgppaaDoor
