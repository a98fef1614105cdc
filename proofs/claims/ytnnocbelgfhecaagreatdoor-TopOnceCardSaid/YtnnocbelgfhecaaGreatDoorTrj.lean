/- matrix.Count of the game is 15. -/
import Derived.Test.YtnnocbelgfhecaaGreatDoorTrh
import Derived.Test.YtnnocbelgfhecaaGreatDoorNumb
namespace Go.Proofs.YtnnocbelgfhecaaGreatDoor
open Go.ChangeShapes Go.WideShapes Go.ChangeAt Go.RowKit Go.Lott
theorem mul_in (a b c : Int) (w : World) (h : a * b = c) (ha0 : 0 ≤ a) (ha1 : a ≤ 1000000) (hb0 : 0 ≤ b) (hb1 : b ≤ 1000000) (hc : 0 ≤ c ∧ c ≤ 1000000000000) : Calls Tryz.prog 68 #[.int .i64 a, .int .i64 b] w (RetS (.tuple #[.int .i64 c, .int .i64 0]) w) := by
  have := Mul_any a b w (by omega) (by omega) (by omega) (by omega)
  rw [h, (Num.ok_yes (n := c) (by omega)).1, (Num.ok_yes (n := c) (by omega)).2] at this
  exact this
theorem mul15 (w : World) : Calls Tryz.prog 68 #[.int .i64 15, .int .i64 1] w (RetS (.tuple #[.int .i64 15, .int .i64 0]) w) := mul_in 15 1 15 w (by decide) (by decide) (by decide) (by decide) (by decide) (by decide)
set_option maxHeartbeats 2000000 in
set_option maxRecDepth 100000 in
theorem count_any (v : Value) (w : World) (ht : IsTier w v) : Calls Tryz.prog 63 #[gameV v] w (RetB (.tuple #[.int .i64 15, .int .i64 0]) w) := by
  have HX := Lib.hid (Below.alloc (Below.refl w.heap.size w) (Nat.le_refl _) (.cells #[.string nmB, .int .i64 1, .int .i64 200, .int .i64 2, .int .i64 6, .int .i64 0, .int .i64 0, .int .i64 0, .int .i64 4, .int .i64 4, .int .i64 32, .int .i64 1230, .int .i64 30, .int .i64 15, .int .i64 90, .int .i64 5000, .int .i64 0, .int .i64 1, .int .i64 0, .int .i64 0, .slice none 0 0, v] 27))
  have HT := Lib.hid (ht.below HX.out (Nat.le_refl _))
  have HG := Lib.hid (Cel.new w #[.string nmB, .int .i64 1, .int .i64 200, .int .i64 2, .int .i64 6, .int .i64 0, .int .i64 0, .int .i64 0, .int .i64 4, .int .i64 4, .int .i64 32, .int .i64 1230, .int .i64 30, .int .i64 15, .int .i64 90, .int .i64 5000, .int .i64 0, .int .i64 1, .int .i64 0, .int .i64 0, .slice none 0 0, v] 27)
  have HS := Lib.hid fun W (h : IsTier W v) => check_any v W h
  clear ht
  unfold gameV at *
  go_enter Tryz.func63, Tryz.ntmps63
  go_wp2_with (first
    | (refine wpList_load_row rfl 27 _ rfl w.heap.size rfl _ _ _ _ HG.out Tryz.underlying27 rfl (by kernel_rfl) ?_)
    | (go_at_call 17; (with_reducible refine (HS.out _ HT.out).mono ?_); rintro e w1 ⟨rfl, hb1⟩; replace HX := Lib.hid (HX.out.trans (hb1.mono HX.out.size)); replace HG := Lib.hid (HG.out.below hb1 HG.out.lt); have g1 := HG.out.cell 1
       have g3 := HG.out.cell 3
       have g4 := HG.out.cell 4
       have g5 := HG.out.cell 5
       have g6 := HG.out.cell 6
       have gl := HG.out.lt
       simp at g1 g3 g4 g5 g6; clear hb1)
    | (go_at_call 93; (with_reducible refine (count62 _).mono ?_); rintro e w1 ⟨rfl, hb1⟩; clear g1 g3 g4 g5 g6 gl; replace HX := Lib.hid (HX.out.trans (hb1.mono HX.out.size)); replace HG := Lib.hid (HG.out.below hb1 HG.out.lt); have g1 := HG.out.cell 1
       have g3 := HG.out.cell 3
       have g4 := HG.out.cell 4
       have g5 := HG.out.cell 5
       have g6 := HG.out.cell 6
       have gl := HG.out.lt
       simp at g1 g3 g4 g5 g6; clear hb1)
    | (go_at_call 93; (with_reducible refine (count00 _).mono ?_); rintro e w1 ⟨rfl, hb1⟩; clear g1 g3 g4 g5 g6 gl; replace HX := Lib.hid (HX.out.trans (hb1.mono HX.out.size)); replace HG := Lib.hid (HG.out.below hb1 HG.out.lt); have g1 := HG.out.cell 1
       have g3 := HG.out.cell 3
       have g4 := HG.out.cell 4
       have g5 := HG.out.cell 5
       have g6 := HG.out.cell 6
       have gl := HG.out.lt
       simp at g1 g3 g4 g5 g6; clear hb1)
    | (go_at_call 68; (with_reducible refine (mul15 _).mono ?_); rintro e w1 ⟨rfl, rfl⟩))
  go_ret2
  exact ⟨rfl, HX.out⟩
end Go.Proofs.YtnnocbelgfhecaaGreatDoor
/- A line of the game: matrix.Check, Canon. -/
namespace Go.Proofs.YtnnocbelgfhecaaGreatDoor
open Go.ChangeShapes Go.WideShapes Go.ChangeAt Go.RowKit Go.Lott
/-- Two numbers of the game in a slice. -/
def IsTwo (w : World) (v : Value) (x y : Int) : Prop := 1 ≤ x ∧ x < y ∧ y ≤ 6 ∧ ∃ b o c, v = .slice (some ⟨b, o, none⟩) 2 c ∧ 2 ≤ c ∧ b < w.heap.size ∧ w.cell? ⟨b, o, none⟩ = some (.int .i64 x) ∧ w.cell? ⟨b, o + 1, none⟩ = some (.int .i64 y)
theorem IsTwo.below {w w1 : World} {v : Value} {x y : Int} {B : Nat} (h : IsTwo w v x y) (hb : Below B w w1) (hB : w.heap.size ≤ B) : IsTwo w1 v x y := by
  obtain ⟨h0, h1, h2, b, o, c, h3, h4, h5, h6, h7⟩ := h
  exact ⟨h0, h1, h2, b, o, c, h3, h4, Nat.lt_of_lt_of_le h5 hb.size, (hb.cell (p := ⟨b, o, none⟩) (Nat.lt_of_lt_of_le h5 hB)).trans h6, (hb.cell (p := ⟨b, o + 1, none⟩) (Nat.lt_of_lt_of_le h5 hB)).trans h7⟩
theorem inside_two (v : Value) (x y : Int) (w : World) (h : IsTwo w v x y) : Calls Tryz.prog 132 #[v, .int .i64 1, .int .i64 6] w (RetS (.bool true) w) := by
  obtain ⟨h0, h1, h2, b, o, c, rfl, h4, h5, h6, h7⟩ := h
  have h8 : 1 ≤ y := by omega
  have h9 : x ≤ 6 := by omega
  go_enter Tryz.func132, Tryz.ntmps132
  go_wp2
  refine wp_loop_rounds 3 ?_
  rw [rounds_succ]
  go_wp2
  rw [rounds_succ]
  go_wp2
  rw [rounds_succ]
  go_wp2
  go_ret
  exact ⟨rfl, rfl⟩
theorem inside_nil (a b : Int) (w : World) : Calls Tryz.prog 132 #[.slice none 0 0, .int .i64 a, .int .i64 b] w (RetS (.bool true) w) := by
  go_enter Tryz.func132, Tryz.ntmps132
  go_wp2
  refine wp_loop_rounds 1 ?_
  rw [rounds_succ]
  go_wp2
  go_ret
  exact ⟨rfl, rfl⟩
theorem repeated_nil (w : World) : Calls Tryz.prog 133 #[.slice none 0 0] w (RetS (.bool false) w) := by
  go_enter Tryz.func133, Tryz.ntmps133
  go_wp2
  refine wp_loop_rounds 1 ?_
  rw [rounds_succ]
  go_wp2
  go_ret
  exact ⟨rfl, rfl⟩
theorem repeated_two (v : Value) (x y : Int) (w : World) (h : IsTwo w v x y) : Calls Tryz.prog 133 #[v] w (RetS (.bool false) w) := by
  obtain ⟨h0, h1, h2, b, o, c, rfl, h4, h5, h6, h7⟩ := h
  have HC0 := Lib.hid (Tryz.slices_Contains_int_empty (some ⟨b, o, none⟩) c x w)
  have HC1 := Lib.hid (Tryz.slices_Contains_int b o 1 c [x] y w (Nat.le_refl _) (by decide) (fun j hj => by
    have : j = 0 := by simp at hj; exact hj
    subst this
    exact h6))
  have hxy : ([x].take 1).contains y = false := by simp; omega
  rw [hxy] at HC1
  go_enter Tryz.func133, Tryz.ntmps133
  go_wp2
  refine wp_loop_rounds 3 ?_
  rw [rounds_succ]
  go_wp2_with fail
  refine HC0.out.mono ?_
  rintro e w1 ⟨rfl, rfl⟩
  go_wp2
  rw [rounds_succ]
  go_wp2_with fail
  refine HC1.out.mono ?_
  rintro e w1 ⟨rfl, rfl⟩
  go_wp2
  rw [rounds_succ]
  go_wp2
  go_ret
  exact ⟨rfl, rfl⟩
end Go.Proofs.YtnnocbelgfhecaaGreatDoor
