/- The rules of the game Lotto: Name, badMatrix, badTerms. -/
import Derived.Test.YtnnocbelgfhecaaGreatDoorKit
import Derived.Test.YtnnocbelgfhecaaGreatDoorKitb
import Derived.Test.YtnnocbelgfhecaaGreatDoorMem
import Derived.Test.YtnnocbelgfhecaaGreatDoorProg
namespace Go.Proofs.YtnnocbelgfhecaaGreatDoor
open Go.ChangeShapes Go.WideShapes Go.ChangeAt Go.RowKit Go.Lott
/-- The name of the game. -/
def nmB : ByteArray := ⟨#[108, 111, 116, 116, 111]⟩
/-- The game, its tiers in a slice. -/
def gameV (v : Value) : Value := .agg #[.string nmB, .int .i64 1, .int .i64 200, .int .i64 2, .int .i64 6, .int .i64 0, .int .i64 0, .int .i64 0, .int .i64 4, .int .i64 4, .int .i64 32, .int .i64 1230, .int .i64 30, .int .i64 15, .int .i64 90, .int .i64 5000, .int .i64 0, .int .i64 1, .int .i64 0, .int .i64 0, .slice none 0 0, v]
theorem within_any (n a b : Int) (w : World) : Calls Tryz.prog 59 #[.int .i64 n, .int .i64 a, .int .i64 b] w (RetS (.bool (decide (a ≤ n) && decide (n ≤ b))) w) := by
  cases h1 : decide (a ≤ n) with
  | true =>
    have h1' : a ≤ n := of_decide_eq_true h1
    clear h1
    go_enter Tryz.func59, Tryz.ntmps59
    go_wp2
    go_ret
    exact ⟨rfl, rfl⟩
  | false =>
    have h1' : n < a := by have := of_decide_eq_false h1; omega
    clear h1
    go_enter Tryz.func59, Tryz.ntmps59
    go_wp2
    go_ret
    exact ⟨rfl, rfl⟩
theorem nm_size : nmB.size = 5 := by decide
theorem nm_ch : ∀ i (h : i < nmB.size), 97 ≤ (nmB[i].toNat : Int) ∧ (nmB[i].toNat : Int) ≤ 122 := fun i h => by
  have h5 : i < 5 := h
  rcases (show i = 0 ∨ i = 1 ∨ i = 2 ∨ i = 3 ∨ i = 4 by omega) with rfl | rfl | rfl | rfl | rfl
  · exact (by decide +kernel : 97 ≤ ((nmB[0]'(by decide)).toNat : Int) ∧ ((nmB[0]'(by decide)).toNat : Int) ≤ 122)
  · exact (by decide +kernel : 97 ≤ ((nmB[1]'(by decide)).toNat : Int) ∧ ((nmB[1]'(by decide)).toNat : Int) ≤ 122)
  · exact (by decide +kernel : 97 ≤ ((nmB[2]'(by decide)).toNat : Int) ∧ ((nmB[2]'(by decide)).toNat : Int) ≤ 122)
  · exact (by decide +kernel : 97 ≤ ((nmB[3]'(by decide)).toNat : Int) ∧ ((nmB[3]'(by decide)).toNat : Int) ≤ 122)
  · exact (by decide +kernel : 97 ≤ ((nmB[4]'(by decide)).toNat : Int) ∧ ((nmB[4]'(by decide)).toNat : Int) ≤ 122)
set_option maxHeartbeats 2000000 in
theorem name_s (s : ByteArray) (hz : s.size = 5) (hch : ∀ i (h : i < s.size), 97 ≤ (s[i].toNat : Int) ∧ (s[i].toNat : Int) ≤ 122) (w : World) : Calls Tryz.prog 30 #[.string s] w (RetB (.bool true) w) := by
  obtain ⟨x0, x1⟩ := hch 0 (by omega)
  have HCH := Lib.hid hch
  clear hch
  go_enter Tryz.func30, Tryz.ntmps30
  go_wp2
  go_loop [25] (fun i => ∃ k : Nat, k ≤ 5 ∧ i = .int .i64 k) (fun i => 5 - (intOf i).toNat)
  case atStart => exact ⟨0, by omega, rfl⟩
  case round =>
    obtain ⟨k, hk, rfl⟩ := hrel
    by_cases hlt : k < 5
    · have hks : k < s.size := by omega
      obtain ⟨c1, c2⟩ := HCH.out k hks
      go_wp2
      go_round
      case rel => exact ⟨k + 1, by omega, by go_num⟩
      case measure => simp [intOf]; omega
    · obtain rfl : k = 5 := by omega
      go_wp2
      go_ret
      exact ⟨rfl, Below.refl _ _⟩
theorem name_any (w : World) : Calls Tryz.prog 30 #[.string nmB] w (RetB (.bool true) w) := name_s nmB nm_size nm_ch w
set_option maxHeartbeats 2000000 in
set_option maxRecDepth 100000 in
theorem badMatrix_any (v : Value) (w : World) : Calls Tryz.prog 31 #[gameV v] w (RetB (.string ⟨#[]⟩) w) := by
  unfold gameV
  go_enter Tryz.func31, Tryz.ntmps31
  go_wp2_with (go_at_call 59; (with_reducible refine (within_any _ _ _ _).mono ?_); rintro e w' ⟨rfl, rfl⟩)
  all_goals
    go_ret
    exact ⟨rfl, (Below.refl _ _).alloc (Nat.le_refl _) _⟩
set_option maxHeartbeats 2000000 in
set_option maxRecDepth 100000 in
theorem badTerms_any (v : Value) (w : World) : Calls Tryz.prog 32 #[gameV v] w (RetB (.string ⟨#[]⟩) w) := by
  unfold gameV
  go_enter Tryz.func32, Tryz.ntmps32
  go_wp2_with (go_at_call 59; (with_reducible refine (within_any _ _ _ _).mono ?_); rintro e w' ⟨rfl, rfl⟩)
  all_goals
    go_ret
    exact ⟨rfl, (Below.refl _ _).alloc (Nat.le_refl _) _⟩
end Go.Proofs.YtnnocbelgfhecaaGreatDoor
