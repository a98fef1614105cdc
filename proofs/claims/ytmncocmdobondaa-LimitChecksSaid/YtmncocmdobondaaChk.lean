/- The functions limit.Check, limit.each, limit.isAmount and lotteryref21.Check return what they should, for every argument. -/
import Derived.Test.YtmncocmdobondaaRows
import Derived.Test.YtmncocmdobondaaKit
namespace Go.Proofs.Ytmncocmdobondaa
open Go.ChangeShapes Go.WideShapes Go.ChangeAt Go.RowKit Go.Lott

def amt (n : Int) : Bool := decide (0 ≤ n ∧ n ≤ 1000000000000)
def chk (a b c : Int) : Int := if amt a && amt b && amt c then 0 else 2
theorem amt_iff (n : Int) : amt n = true ↔ 0 ≤ n ∧ n ≤ 1000000000000 := by simp [amt]

theorem isAmount_any (n : Int) (w : World) : Calls Try.prog 12 #[.int .i64 n] w (RetS (.bool (amt n)) w) := by
  by_cases h : 0 ≤ n
  · go_enter Try.func12, Try.ntmps12
    go_wp2
    go_ret
    exact ⟨ret_bool (by simp [amt, h]), rfl⟩
  · go_enter Try.func12, Try.ntmps12
    go_wp2
    go_ret
    exact ⟨ret_bool (by rw [amt, decide_eq_false (by omega)]), rfl⟩

theorem amount_any (n : Int) (w : World) : Calls Try.prog 13 #[.int .i64 n] w (RetS (.bool (amt n)) w) := by
  by_cases h : 0 ≤ n
  · go_enter Try.func13, Try.ntmps13
    go_wp2
    go_ret
    exact ⟨ret_bool (by simp [amt, h]), rfl⟩
  · go_enter Try.func13, Try.ntmps13
    go_wp2
    go_ret
    exact ⟨ret_bool (by rw [amt, decide_eq_false (by omega)]), rfl⟩

theorem each_any (a b c : Int) (w : World) : Calls Try.prog 11 #[.agg #[.int .i64 a, .int .i64 b, .int .i64 c]] w (RetB (.agg #[.int .i64 a, .int .i64 b, .int .i64 c]) w) := by
  go_enter Try.func11, Try.ntmps11
  go_wp2
  exact bodyPost_ret (v := .agg #[.int .i64 a, .int .i64 b, .int .i64 c]) (by simp [results, Try.results11, go_sem]) rfl ⟨rfl, ((Below.refl _ _).alloc (Nat.le_refl _) _).alloc (by simp) _⟩

theorem check_any (a b c : Int) (w : World) : Calls Try.prog 6 #[.agg #[.int .i64 a, .int .i64 b, .int .i64 c]] w (RetB (.int .i64 (chk a b c)) w) := by
  have i0 : ∀ w, (Instr.index 34 (.agg #[.int .i64 a, .int .i64 b, .int .i64 c]) (.int .i64 0)).run Try.prog w = .ok (.int .i64 a) w := fun _ => by kernel_rfl
  have i1 : ∀ w, (Instr.index 34 (.agg #[.int .i64 a, .int .i64 b, .int .i64 c]) (.int .i64 1)).run Try.prog w = .ok (.int .i64 b) w := fun _ => by kernel_rfl
  have i2 : ∀ w, (Instr.index 34 (.agg #[.int .i64 a, .int .i64 b, .int .i64 c]) (.int .i64 2)).run Try.prog w = .ok (.int .i64 c) w := fun _ => by kernel_rfl
  go_enter Try.func6, Try.ntmps6
  go_wp2_with (go_at_call 11; refine (each_any _ _ _ _).mono ?_; rintro e w1 ⟨rfl, hb1⟩)
  go_loop [7] (fun i => ∃ k : Nat, k ≤ 3 ∧ i = .int .i64 k ∧ (1 ≤ k → amt a = true) ∧ (2 ≤ k → amt b = true) ∧ (3 ≤ k → amt c = true)) (fun i => 3 - (intOf i).toNat)
  case atStart => exact ⟨0, by omega, rfl, by omega, by omega, by omega⟩
  case round =>
    obtain ⟨k, hk, rfl, h1, h2, h3⟩ := hrel
    have hbel : Below w.heap.size w w1 := ((Below.refl _ _).alloc (Nat.le_refl _) _).trans (hb1.mono (by simp))
    by_cases hk3 : k = 3
    · subst hk3
      have Ha := Lib.hid (h1 (by omega)); have Hb := Lib.hid (h2 (by omega)); have Hc := Lib.hid (h3 (by omega))
      clear h1 h2 h3
      go_wp2
      go_ret
      exact ⟨by rw [chk, Ha.out, Hb.out, Hc.out]; rfl, hbel⟩
    · rcases (by omega : k = 0 ∨ k = 1 ∨ k = 2) with rfl | rfl | rfl
      · clear h1 h2 h3
        go_wp2_with (go_at_call 12; refine (isAmount_any _ _).mono ?_; rintro e w2 ⟨rfl, rfl⟩)
        · go_ret
          rename_i h
          exact ⟨ret_int (by simp at h; simp [chk, h]), hbel⟩
        · rename_i h
          simp at h
          refine ⟨⟨1, by omega, rfl, fun _ => h, by omega, by omega⟩, by simp [intOf]⟩
      · have Ha := Lib.hid (h1 (by omega)); clear h1 h2 h3
        go_wp2_with (go_at_call 12; refine (isAmount_any _ _).mono ?_; rintro e w2 ⟨rfl, rfl⟩)
        · go_ret
          rename_i h
          exact ⟨ret_int (by simp at h; simp [chk, h]), hbel⟩
        · rename_i h
          simp at h
          refine ⟨⟨2, by omega, rfl, fun _ => Ha.out, fun _ => h, by omega⟩, by simp [intOf]⟩
      · have Ha := Lib.hid (h1 (by omega)); have Hb := Lib.hid (h2 (by omega)); clear h1 h2 h3
        go_wp2_with (go_at_call 12; refine (isAmount_any _ _).mono ?_; rintro e w2 ⟨rfl, rfl⟩)
        · go_ret
          rename_i h
          exact ⟨ret_int (by simp at h; simp [chk, h]), hbel⟩
        · rename_i h
          simp at h
          refine ⟨⟨3, by omega, rfl, fun _ => Ha.out, fun _ => Hb.out, fun _ => h⟩, by simp [intOf]⟩

theorem refCheck_any (a b c : Int) (w : World) : Calls Try.prog 7 #[.agg #[.int .i64 a, .int .i64 b, .int .i64 c]] w (RetB (.int .i64 (chk a b c)) w) := by
  go_enter Try.func7, Try.ntmps7
  go_wp2_with (go_at_call 13; refine (amount_any _ _).mono ?_; rintro e w2 ⟨rfl, rfl⟩)
  all_goals (
    go_ret
    refine ⟨ret_int ?_, (Below.refl _ _).alloc (Nat.le_refl _) _⟩
    simp_all [chk])

theorem limitChecks_walk (a b c : Int) (w : World) (_ : (Lit.int .i64 a).wf = true) (_ : (Lit.int .i64 b).wf = true) (_ : (Lit.int .i64 c).wf = true) : Calls Try.prog 3 #[.agg #[.int .i64 a, .int .i64 b, .int .i64 c]] w (RetB (.bool true) w) := by
  have hc : ∀ x : Sub (w.alloc (.cells #[.int .i64 a, .int .i64 b, .int .i64 c] 23)).heap.size (w.alloc (.cells #[.int .i64 a, .int .i64 b, .int .i64 c] 23)), x.w.cell? ⟨w.heap.size, 0, none⟩ = some (.int .i64 a) := Sub.cell (by simp) (by simp)
  have hc1 : ∀ x : Sub (w.alloc (.cells #[.int .i64 a, .int .i64 b, .int .i64 c] 23)).heap.size (w.alloc (.cells #[.int .i64 a, .int .i64 b, .int .i64 c] 23)), x.w.cell? ⟨w.heap.size, 1, none⟩ = some (.int .i64 b) := Sub.cell (by simp) (by simp)
  have hc2 : ∀ x : Sub (w.alloc (.cells #[.int .i64 a, .int .i64 b, .int .i64 c] 23)).heap.size (w.alloc (.cells #[.int .i64 a, .int .i64 b, .int .i64 c] 23)), x.w.cell? ⟨w.heap.size, 2, none⟩ = some (.int .i64 c) := Sub.cell (by simp) (by simp)
  go_enter Try.func3, Try.ntmps3
  go_wp2
  refine wp_region_below (by kernel_rfl) (by kernel_rfl) ?_
  repeat (go_big_quiet_step (first | (go_at_call 6; exact Sub.ofB _ (by simp) (check_any _ _ _ _)) | (go_at_call 7; exact Sub.ofB _ (by simp) (refCheck_any _ _ _ _))))
  refine wpQuiet_nil ?_
  rintro _ ⟨⟨w1, hb1⟩, rfl⟩
  go_wp2
  go_ret
  exact ⟨ret_bool (by decide), ((Below.refl _ _).alloc (Nat.le_refl _) _).trans (hb1.mono (by simp))⟩
end Go.Proofs.Ytmncocmdobondaa
