/- The draws of the game: schedule.Draw, Close, Open. -/
import Derived.Test.YtnnocbelgfhecaaGreatDoorTrm
import Derived.Test.YtnnocbelgfhecaaGreatDoorTpa
set_option linter.unusedSimpArgs false
namespace Go.Proofs.YtnnocbelgfhecaaGreatDoor
open Go.ChangeShapes Go.WideShapes Go.ChangeAt Go.RowKit Go.Lott
theorem wday_any' (n : Int) (w : World) (h0 : 0 ≤ n) (h1 : n ≤ 1000000) : Calls Tryz.prog 105 #[.int .i64 n] w (RetS (.int .i64 ((n + 5) % 7)) w) := by
  go_enter Tryz.func105, Tryz.ntmps105
  go_wp2
  go_ret
  exact ⟨rfl, rfl⟩
theorem ones_32 (w : World) : Calls Tryz.prog 104 #[.int .u64 32] w (RetS (.int .i64 1) w) := by
  go_enter Tryz.func104, Tryz.ntmps104
  go_wp2
  go_ret
  exact ⟨ret_int (by kernel_rfl), rfl⟩
theorem ones32 (w : World) : Calls Tryz.prog 74 #[.int .u64 32] w (RetS (.int .i64 1) w) := by
  go_enter Tryz.func74, Tryz.ntmps74
  go_wp2_with (go_at_call 104; (with_reducible refine (ones_32 _).mono ?_); rintro e w' ⟨rfl, rfl⟩)
  go_ret
  exact ⟨rfl, rfl⟩
set_option maxRecDepth 100000 in
theorem next_zero (w : World) : Calls Tryz.prog 76 #[.int .i64 32, .int .i64 1230, .int .i64 (-1)] w (RetS (.tuple #[.int .i64 1230, .int .i64 0]) w) := by
  go_enter Tryz.func76, Tryz.ntmps76
  go_wp2
  refine wp_loop_rounds 1 ?_
  rw [rounds_succ]
  go_wp2_with (go_at_call 105; (refine (wday_any' _ _ (by omega) (by omega)).mono ?_); rintro e w' ⟨rfl, rfl⟩)
  go_ret2
  exact ⟨ret_two (by decide) rfl, rfl⟩
set_option maxRecDepth 100000 in
theorem next_pos (k : Int) (w : World) (h1 : 1 ≤ k) (h2 : k ≤ 1000) : Calls Tryz.prog 76 #[.int .i64 32, .int .i64 1230, .int .i64 (k * 10080 - 1)] w (RetS (.tuple #[.int .i64 (k * 10080 + 1230), .int .i64 0]) w) := by
  have hd : max (k * 10080 - 1) 0 / 1440 = 7 * k - 1 := by omega
  have HD := Lib.hid hd
  have b4 : (7 * k - 1 + 5) % 7 = 4 := by omega
  have b5 : (7 * k - 1 + 1 + 5) % 7 = 5 := by omega
  have HB4 := Lib.hid b4
  have HB5 := Lib.hid b5
  clear hd b4 b5
  go_enter Tryz.func76, Tryz.ntmps76
  go_wp2
  rw [HD.out]
  refine wp_loop_rounds 2 ?_
  rw [rounds_succ]
  go_wp2_with (go_at_call 105; (refine (wday_any' _ _ (by omega) (by omega)).mono ?_); rintro e w' ⟨rfl, rfl⟩)
  rw [rounds_succ]
  go_wp2_with (go_at_call 105; (refine (wday_any' _ _ (by omega) (by omega)).mono ?_); rintro e w' ⟨rfl, rfl⟩)
  go_ret2
  exact ⟨ret_two (by omega) rfl, rfl⟩
theorem next_any (k : Int) (w : World) (h1 : 0 ≤ k) (h2 : k ≤ 1000) : Calls Tryz.prog 76 #[.int .i64 32, .int .i64 1230, .int .i64 (k * 10080 - 1)] w (RetS (.tuple #[.int .i64 (k * 10080 + 1230), .int .i64 0]) w) := by
  by_cases h : 1 ≤ k
  · exact next_pos k w h h2
  · obtain rfl : k = 0 := by omega
    exact next_zero w
theorem draw1_any (v : Value) (gB tB : Nat) (k : Int) (w : World) (h1 : 0 ≤ k) (h2 : k ≤ 1000) (hg : Cel w gB #[.string nmB, .int .i64 1, .int .i64 200, .int .i64 2, .int .i64 6, .int .i64 0, .int .i64 0, .int .i64 0, .int .i64 4, .int .i64 4, .int .i64 32, .int .i64 1230, .int .i64 30, .int .i64 15, .int .i64 90, .int .i64 5000, .int .i64 0, .int .i64 1, .int .i64 0, .int .i64 0, .slice none 0 0, v] 27) (ht : Cel w tB #[.int .i64 (k * 10080 - 1)] 3) :
    Calls Tryz.prog 75 #[.pointer (some ⟨gB, 0, none⟩), .pointer (some ⟨tB, 0, none⟩)] w fun e w' => e = .returned (.int .i64 0) ∧ w' = w.setCell ⟨tB, 0, none⟩ (.int .i64 (k * 10080 + 1230)) := by
  have g10 := hg.cell 10
  have g11 := hg.cell 11
  have gl := hg.lt
  have t0 := ht.cell 0
  have t1 := ht.free 0
  have tl := ht.lt
  simp at g10 g11 t0
  clear hg ht
  go_enter Tryz.func75, Tryz.ntmps75
  go_wp2_with (go_at_call 76; (refine (next_any k _ (by omega) (by omega)).mono ?_); rintro e w' ⟨rfl, rfl⟩)
  go_ret
  exact ⟨rfl, rfl⟩
set_option maxHeartbeats 2000000 in
set_option maxRecDepth 100000 in
theorem draw_any (v : Value) (n : Int) (w : World) (ht : IsTier w v) (h1 : 1 ≤ n) (h2 : n ≤ 1000) : Calls Tryz.prog 50 #[gameV v, .int .i64 n] w (RetB (.tuple #[.int .i64 ((n - 1) * 10080 + 1230), .int .i64 0]) w) := by
  have HX := Lib.hid (Below.alloc (Below.refl w.heap.size w) (Nat.le_refl _) (.cells #[.string nmB, .int .i64 1, .int .i64 200, .int .i64 2, .int .i64 6, .int .i64 0, .int .i64 0, .int .i64 0, .int .i64 4, .int .i64 4, .int .i64 32, .int .i64 1230, .int .i64 30, .int .i64 15, .int .i64 90, .int .i64 5000, .int .i64 0, .int .i64 1, .int .i64 0, .int .i64 0, .slice none 0 0, v] 27))
  have HT := Lib.hid (ht.below HX.out (Nat.le_refl _))
  have HG := Lib.hid (Cel.new w #[.string nmB, .int .i64 1, .int .i64 200, .int .i64 2, .int .i64 6, .int .i64 0, .int .i64 0, .int .i64 0, .int .i64 4, .int .i64 4, .int .i64 32, .int .i64 1230, .int .i64 30, .int .i64 15, .int .i64 90, .int .i64 5000, .int .i64 0, .int .i64 1, .int .i64 0, .int .i64 0, .slice none 0 0, v] 27)
  have HS := Lib.hid fun W (h : IsTier W v) => check_any v W h
  clear ht
  unfold gameV at *
  go_enter Tryz.func50, Tryz.ntmps50
  go_wp2_with (first
    | (refine wpList_load_row rfl 27 _ rfl w.heap.size rfl _ _ _ _ HG.out Tryz.underlying27 rfl (by kernel_rfl) ?_)
    | (go_at_call 17; (with_reducible refine (HS.out _ HT.out).mono ?_)
       rintro e w1 ⟨rfl, hb1⟩
       replace HX := Lib.hid (HX.out.trans (hb1.mono HX.out.size))
       replace HG := Lib.hid (HG.out.below hb1 HG.out.lt)
       have g10 := HG.out.cell 10
       have gl := HG.out.lt
       simp at g10
       clear hb1)
    | (go_at_call 74; (with_reducible refine (ones32 _).mono ?_); rintro e w' ⟨rfl, rfl⟩))
  obtain ⟨W2, hW2⟩ : ∃ W2, W2 = w1.alloc (.cells #[.int .i64 ((n - 1) * 10080 - 1)] 3) := ⟨_, rfl⟩
  have hb1 : Below w1.heap.size w1 W2 := by rw [hW2]; exact (Below.refl _ _).alloc (Nat.le_refl _) _
  have HK := Lib.hid (show Cel W2 w1.heap.size #[.int .i64 ((n - 1) * 10080 - 1)] 3 by rw [hW2]; exact Cel.new _ _ _)
  have hws := Lib.hid (show w.heap.size ≤ w1.heap.size from HX.out.size)
  replace HX := Lib.hid (HX.out.trans (hb1.mono HX.out.size))
  replace HG := Lib.hid (HG.out.below hb1 HG.out.lt)
  rw [← hW2]
  clear hb1 hW2 g10 gl
  refine wp_loop_rounds 2 ?_
  rw [rounds_succ]
  go_wp2_with fail
  refine (draw1_any v w.heap.size w1.heap.size (n - 1) _ (by omega) (by omega) HG.out HK.out).mono ?_
  rintro e w3 ⟨rfl, rfl⟩
  have k0 := (HK.out.set 0 (.int .i64 ((n - 1) * 10080 + 1230))).cell 0
  have kl := HK.out.lt
  simp at k0
  go_wp2
  rw [rounds_succ]
  go_wp2
  go_ret2
  refine ⟨rfl, HX.out.setCell hws.out _⟩
set_option maxHeartbeats 2000000 in
set_option maxRecDepth 100000 in
theorem close_any (v : Value) (n : Int) (w : World) (ht : IsTier w v) (h1 : 1 ≤ n) (h2 : n ≤ 1000) : Calls Tryz.prog 24 #[gameV v, .int .i64 n] w (RetB (.tuple #[.int .i64 ((n - 1) * 10080 + 1200), .int .i64 0]) w) := by
  have HX := Lib.hid (Below.alloc (Below.refl w.heap.size w) (Nat.le_refl _) (.cells #[.string nmB, .int .i64 1, .int .i64 200, .int .i64 2, .int .i64 6, .int .i64 0, .int .i64 0, .int .i64 0, .int .i64 4, .int .i64 4, .int .i64 32, .int .i64 1230, .int .i64 30, .int .i64 15, .int .i64 90, .int .i64 5000, .int .i64 0, .int .i64 1, .int .i64 0, .int .i64 0, .slice none 0 0, v] 27))
  have HT := Lib.hid (ht.below HX.out (Nat.le_refl _))
  have HG := Lib.hid (Cel.new w #[.string nmB, .int .i64 1, .int .i64 200, .int .i64 2, .int .i64 6, .int .i64 0, .int .i64 0, .int .i64 0, .int .i64 4, .int .i64 4, .int .i64 32, .int .i64 1230, .int .i64 30, .int .i64 15, .int .i64 90, .int .i64 5000, .int .i64 0, .int .i64 1, .int .i64 0, .int .i64 0, .slice none 0 0, v] 27)
  have HS := Lib.hid fun W (h : IsTier W v) => draw_any v n W h h1 h2
  clear ht
  unfold gameV at *
  go_enter Tryz.func24, Tryz.ntmps24
  go_wp2_with (first
    | (refine wpList_load_row rfl 27 _ rfl w.heap.size rfl _ _ _ _ HG.out Tryz.underlying27 rfl (by kernel_rfl) ?_)
    | (go_at_call 50; (with_reducible refine (HS.out _ HT.out).mono ?_)
       rintro e w1 ⟨rfl, hb1⟩
       replace HX := Lib.hid (HX.out.trans (hb1.mono HX.out.size))
       replace HG := Lib.hid (HG.out.below hb1 HG.out.lt)
       have g12 := HG.out.cell 12
       have gl := HG.out.lt
       simp at g12
       clear hb1))
  go_ret2
  exact ⟨ret_two (by omega) rfl, HX.out⟩
set_option maxHeartbeats 2000000 in
set_option maxRecDepth 100000 in
theorem until_any (v : Value) (t : Int) (w : World) (h1 : 0 ≤ t) (h2 : t ≤ 1000000) : Calls Tryz.prog 66 #[gameV v, .int .i64 t] w (RetB (.int .i64 (t / 10080 + (if 1230 ≤ t % 10080 then 1 else 0))) w) := by
  have HX := Lib.hid (Below.alloc (Below.refl w.heap.size w) (Nat.le_refl _) (.cells #[.string nmB, .int .i64 1, .int .i64 200, .int .i64 2, .int .i64 6, .int .i64 0, .int .i64 0, .int .i64 0, .int .i64 4, .int .i64 4, .int .i64 32, .int .i64 1230, .int .i64 30, .int .i64 15, .int .i64 90, .int .i64 5000, .int .i64 0, .int .i64 1, .int .i64 0, .int .i64 0, .slice none 0 0, v] 27))
  have HG := Lib.hid (Cel.new w #[.string nmB, .int .i64 1, .int .i64 200, .int .i64 2, .int .i64 6, .int .i64 0, .int .i64 0, .int .i64 0, .int .i64 4, .int .i64 4, .int .i64 32, .int .i64 1230, .int .i64 30, .int .i64 15, .int .i64 90, .int .i64 5000, .int .i64 0, .int .i64 1, .int .i64 0, .int .i64 0, .slice none 0 0, v] 27)
  have g10 := HG.out.cell 10
  have g11 := HG.out.cell 11
  have gl := HG.out.lt
  simp at g10 g11
  have hm : 0 ≤ t % 10080 ∧ t % 10080 < 10080 := by omega
  have hq : 0 ≤ t / 10080 ∧ t / 10080 ≤ 100 := by omega
  unfold gameV at *
  by_cases h : 1230 ≤ t % 10080
  all_goals
    go_enter Tryz.func66, Tryz.ntmps66
    go_wp2_with (go_at_call 74; (with_reducible refine (ones32 _).mono ?_); rintro e w' ⟨rfl, rfl⟩)
    refine wp_loop_rounds 8 ?_
    rw [rounds_succ]
    go_wp2
    rw [rounds_succ]
    go_wp2
    rw [rounds_succ]
    go_wp2
    rw [rounds_succ]
    go_wp2
    rw [rounds_succ]
    go_wp2
    rw [rounds_succ]
    go_wp2
    rw [rounds_succ]
    go_wp2
    rw [rounds_succ]
    go_wp2
    go_ret
    refine ⟨ret_int ?_, HX.out⟩
    rfl
theorem fst_int (t : Nat) : ((t : Int) + 30) / 10080 + (if 1230 ≤ ((t : Int) + 30) % 10080 then 1 else 0) + 1 = (Tp.fst t : Int) := by
  unfold Tp.fst
  split <;> split <;> omega
set_option maxHeartbeats 2000000 in
set_option maxRecDepth 100000 in
theorem open_any (v : Value) (t : Nat) (w : World) (ht : IsTier w v) (h2 : t ≤ 160000) : Calls Tryz.prog 42 #[gameV v, .int .i64 t] w (RetB (.tuple #[.int .i64 (Tp.fst t), .int .i64 0]) w) := by
  have HX := Lib.hid (Below.alloc (Below.refl w.heap.size w) (Nat.le_refl _) (.cells #[.string nmB, .int .i64 1, .int .i64 200, .int .i64 2, .int .i64 6, .int .i64 0, .int .i64 0, .int .i64 0, .int .i64 4, .int .i64 4, .int .i64 32, .int .i64 1230, .int .i64 30, .int .i64 15, .int .i64 90, .int .i64 5000, .int .i64 0, .int .i64 1, .int .i64 0, .int .i64 0, .slice none 0 0, v] 27))
  have HT := Lib.hid (ht.below HX.out (Nat.le_refl _))
  have HG := Lib.hid (Cel.new w #[.string nmB, .int .i64 1, .int .i64 200, .int .i64 2, .int .i64 6, .int .i64 0, .int .i64 0, .int .i64 0, .int .i64 4, .int .i64 4, .int .i64 32, .int .i64 1230, .int .i64 30, .int .i64 15, .int .i64 90, .int .i64 5000, .int .i64 0, .int .i64 1, .int .i64 0, .int .i64 0, .slice none 0 0, v] 27)
  have hf1 := Tp.fst_pos t
  have hf2 := Tp.fst_le h2
  have HF := Lib.hid (fst_int t)
  have HS := Lib.hid fun W (h : IsTier W v) => check_any v W h
  have HD := Lib.hid fun W (h : IsTier W v) => draw_any v (Tp.fst t : Int) W h (by omega) (by omega)
  have HU := Lib.hid fun W => until_any v ((t : Int) + 30) W (by omega) (by omega)
  clear ht
  unfold gameV at *
  go_enter Tryz.func42, Tryz.ntmps42
  go_wp2_with (first
    | (refine wpList_load_row rfl 27 _ rfl w.heap.size rfl _ _ _ _ HG.out Tryz.underlying27 rfl (by kernel_rfl) ?_)
    | (go_at_call 17; (with_reducible refine (HS.out _ HT.out).mono ?_)
       rintro e w1 ⟨rfl, hb1⟩
       replace HX := Lib.hid (HX.out.trans (hb1.mono HX.out.size))
       replace HG := Lib.hid (HG.out.below hb1 HG.out.lt)
       replace HT := Lib.hid (HT.out.below hb1 (Nat.le_refl _))
       have g12 := HG.out.cell 12
       have gl := HG.out.lt
       simp at g12
       clear hb1)
    | (go_at_call 66; (with_reducible refine (HU.out _).mono ?_)
       rw [show ((t : Int) + 30) / 10080 + (if 1230 ≤ ((t : Int) + 30) % 10080 then 1 else 0) = (Tp.fst t : Int) - 1 by have := HF.out; omega]
       rintro e w2 ⟨rfl, hb1⟩
       replace HX := Lib.hid (HX.out.trans (hb1.mono HX.out.size))
       replace HG := Lib.hid (HG.out.below hb1 HG.out.lt)
       replace HT := Lib.hid (HT.out.below hb1 (Nat.le_refl _))
       clear hb1)
    | (go_at_call 50; (with_reducible refine (HD.out _ HT.out).mono ?_)
       rintro e w3 ⟨rfl, hb1⟩
       replace HX := Lib.hid (HX.out.trans (hb1.mono HX.out.size))
       clear hb1))
  go_ret2
  exact ⟨rfl, HX.out⟩
end Go.Proofs.YtnnocbelgfhecaaGreatDoor
