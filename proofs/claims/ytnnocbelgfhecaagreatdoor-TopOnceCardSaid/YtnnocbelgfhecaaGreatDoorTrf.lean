/- The rules of the game Lotto: its tier, its add-ons, Check. -/
import Derived.Test.YtnnocbelgfhecaaGreatDoorTra
import Derived.Maps.OwnSet
namespace Go.Proofs.YtnnocbelgfhecaaGreatDoor
open Go.ChangeShapes Go.WideShapes Go.ChangeAt Go.RowKit Go.Lott
/-- The tier of the game. -/
def tierV : Value := .agg #[.int .i64 2, .int .i64 0, .int .i64 0, .int .i64 0, .int .i64 3, .int .i64 1]
/-- A slice with that tier. -/
def IsTier (w : World) (v : Value) : Prop := ∃ b o c, v = .slice (some ⟨b, o, none⟩) 1 c ∧ 1 ≤ c ∧ b < w.heap.size ∧ w.cell? ⟨b, o, none⟩ = some (.int .i64 2) ∧ w.cell? ⟨b, o + 1, none⟩ = some (.int .i64 0) ∧ w.cell? ⟨b, o + 2, none⟩ = some (.int .i64 0) ∧
  w.cell? ⟨b, o + 3, none⟩ = some (.int .i64 0) ∧ w.cell? ⟨b, o + 4, none⟩ = some (.int .i64 3) ∧ w.cell? ⟨b, o + 5, none⟩ = some (.int .i64 1)
theorem IsTier.below {w w1 : World} {v : Value} {B : Nat} (h : IsTier w v) (hb : Below B w w1) (hB : w.heap.size ≤ B) : IsTier w1 v := by
  obtain ⟨b, o, c, h1, h2, h3, h4, h5, h6, h7, h8, h9⟩ := h
  have k : ∀ i x, w.cell? ⟨b, i, none⟩ = some x → w1.cell? ⟨b, i, none⟩ = some x := fun i x hx => (hb.cell (p := ⟨b, i, none⟩) (Nat.lt_of_lt_of_le h3 hB)).trans hx
  exact ⟨b, o, c, h1, h2, Nat.lt_of_lt_of_le h3 hb.size, k _ _ h4, k _ _ h5, k _ _ h6, k _ _ h7, k _ _ h8, k _ _ h9⟩
set_option maxHeartbeats 2000000 in
set_option maxRecDepth 100000 in
theorem checkChoose_any (v : Value) (w : World) : Calls Tryz.prog 89 #[gameV v, tierV] w (RetB (.int .i64 0) w) := by
  unfold gameV tierV
  go_enter Tryz.func89, Tryz.ntmps89
  go_wp2_with (go_at_call 59; (with_reducible refine (within_any _ _ _ _).mono ?_); rintro e w' ⟨rfl, rfl⟩)
  all_goals
    go_ret
    exact ⟨rfl, ((Below.refl _ _).alloc (Nat.le_refl _) _).alloc (by simp) _⟩
set_option maxHeartbeats 2000000 in
set_option maxRecDepth 100000 in
theorem checkTier_any (v : Value) (w : World) : Calls Tryz.prog 61 #[gameV v, tierV] w (RetB (.int .i64 0) w) := by
  have HC := Lib.hid fun W => checkChoose_any v W
  unfold gameV tierV at *
  have HG := Lib.hid ((Cel.new w _ _ : Cel (w.alloc (.cells #[.string nmB, .int .i64 1, .int .i64 200, .int .i64 2, .int .i64 6, .int .i64 0, .int .i64 0, .int .i64 0, .int .i64 4, .int .i64 4, .int .i64 32, .int .i64 1230, .int .i64 30, .int .i64 15, .int .i64 90, .int .i64 5000, .int .i64 0, .int .i64 1, .int .i64 0, .int .i64 0, .slice none 0 0, v] 27)) w.heap.size _ _).alloc (.cells #[.int .i64 2, .int .i64 0, .int .i64 0, .int .i64 0, .int .i64 3, .int .i64 1] 55))
  go_enter Tryz.func61, Tryz.ntmps61
  go_wp2_with (first
    | (refine wpList_load_row rfl 27 _ rfl w.heap.size rfl _ _ _ _ HG.out Tryz.underlying27 rfl (by kernel_rfl) ?_)
    | (go_at_call 59; (with_reducible refine (within_any _ _ _ _).mono ?_); rintro e w' ⟨rfl, rfl⟩)
    | (go_at_call 89
       refine (HC.out _).mono ?_
       rintro e w1 ⟨rfl, hb1⟩
       have HB := Lib.hid (((((Below.refl w.heap.size w).alloc (Nat.le_refl _) (.cells #[.string nmB, .int .i64 1, .int .i64 200, .int .i64 2, .int .i64 6, .int .i64 0, .int .i64 0, .int .i64 0, .int .i64 4, .int .i64 4, .int .i64 32, .int .i64 1230, .int .i64 30, .int .i64 15, .int .i64 90, .int .i64 5000, .int .i64 0, .int .i64 1, .int .i64 0, .int .i64 0, .slice none 0 0, v] 27)).alloc (by simp) (.cells #[.int .i64 2, .int .i64 0, .int .i64 0, .int .i64 0, .int .i64 3, .int .i64 1] 55))).trans (hb1.mono (by simp; omega)))
       have C1 := ((Cel.new (w.alloc (.cells #[.string nmB, .int .i64 1, .int .i64 200, .int .i64 2, .int .i64 6, .int .i64 0, .int .i64 0, .int .i64 0, .int .i64 4, .int .i64 4, .int .i64 32, .int .i64 1230, .int .i64 30, .int .i64 15, .int .i64 90, .int .i64 5000, .int .i64 0, .int .i64 1, .int .i64 0, .int .i64 0, .slice none 0 0, v] 27)) #[.int .i64 2, .int .i64 0, .int .i64 0, .int .i64 0, .int .i64 3, .int .i64 1] 55)).below hb1 (by simp)
       have d4 := C1.cell 4
       have d5 := C1.cell 5
       simp at d4 d5
       clear C1 hb1))
  all_goals
    go_ret
    exact ⟨rfl, HB.out⟩
set_option maxHeartbeats 2000000 in
set_option maxRecDepth 100000 in
theorem checkAddons_any (w : World) : Calls Tryz.prog 33 #[.slice none 0 0] w (RetB (.int .i64 0) w) := by
  have hmm := @run_makeMap Tryz.prog
  go_enter Tryz.func33, Tryz.ntmps33
  go_wp2
  refine wp_loop_rounds 1 ?_
  rw [rounds_succ]
  go_wp2
  go_ret
  exact ⟨rfl, ((Below.refl _ _).alloc (Nat.le_refl _) _).alloc (by simp) _⟩
set_option maxHeartbeats 2000000 in
set_option maxRecDepth 100000 in
theorem checkTiers_any (v : Value) (w : World) (ht : IsTier w v) : Calls Tryz.prog 34 #[gameV v] w (RetB (.int .i64 0) w) := by
  have HC := Lib.hid fun W => checkTier_any v W
  obtain ⟨b, o, c, rfl, hc, hbl, t0, t1, t2, t3, t4, t5⟩ := ht
  unfold gameV tierV at *
  go_enter Tryz.func34, Tryz.ntmps34
  have HB0 := Lib.hid (((Below.refl w.heap.size w).alloc (Nat.le_refl _) (.cells #[.string nmB, .int .i64 1, .int .i64 200, .int .i64 2, .int .i64 6, .int .i64 0, .int .i64 0, .int .i64 0, .int .i64 4, .int .i64 4, .int .i64 32, .int .i64 1230, .int .i64 30, .int .i64 15, .int .i64 90, .int .i64 5000, .int .i64 0, .int .i64 1, .int .i64 0, .int .i64 0, .slice none 0 0, .slice (some ⟨b, o, none⟩) 1 c] 27)).alloc (by simp) (.cells #[.int .i64 2, .int .i64 0, .int .i64 0, .int .i64 0, .int .i64 3, .int .i64 1] 55))
  have HG := Lib.hid ((Cel.new w _ _ : Cel (w.alloc (.cells #[.string nmB, .int .i64 1, .int .i64 200, .int .i64 2, .int .i64 6, .int .i64 0, .int .i64 0, .int .i64 0, .int .i64 4, .int .i64 4, .int .i64 32, .int .i64 1230, .int .i64 30, .int .i64 15, .int .i64 90, .int .i64 5000, .int .i64 0, .int .i64 1, .int .i64 0, .int .i64 0, .slice none 0 0, .slice (some ⟨b, o, none⟩) 1 c] 27)) w.heap.size _ _).alloc (.cells #[.int .i64 2, .int .i64 0, .int .i64 0, .int .i64 0, .int .i64 3, .int .i64 1] 55))
  go_wp2
  go_step3
  go_wp2_with (go_at_call 59; (with_reducible refine (within_any _ _ _ _).mono ?_); rintro e w' ⟨rfl, rfl⟩)
  go_step3
  go_wp2
  refine wp_loop_rounds 2 ?_
  rw [rounds_succ]
  go_wp2_with (first
    | (refine wpList_load_row rfl 27 _ rfl w.heap.size rfl _ _ _ _ HG.out Tryz.underlying27 rfl (by kernel_rfl) ?_)
    | (go_at_call 61
       refine (HC.out _).mono ?_
       rintro e w1 ⟨rfl, hb1⟩
       have HB := Lib.hid (HB0.out.trans (hb1.mono HB0.out.size))
       have hg1 := (HG.out.below hb1 HG.out.lt)
       have g21 := hg1.cell 21
       have hgl := hg1.lt
       simp at g21
       clear hb1 hg1))
  refine wp_loop_rounds 1 ?_
  rw [rounds_succ]
  go_wp2
  rw [rounds_succ]
  go_wp2
  first
  | (go_ret; exact ⟨rfl, HB.out⟩)
  | (rw [Exit.noGoto_ret]; go_ret; exact ⟨rfl, HB.out⟩)
end Go.Proofs.YtnnocbelgfhecaaGreatDoor
/- The rules of the game Lotto: Check. -/
namespace Go.Proofs.YtnnocbelgfhecaaGreatDoor
open Go.ChangeShapes Go.WideShapes Go.ChangeAt Go.RowKit Go.Lott
set_option maxHeartbeats 2000000 in
set_option maxRecDepth 100000 in
theorem check_any (v : Value) (w : World) (ht : IsTier w v) : Calls Tryz.prog 17 #[gameV v] w (RetB (.tuple #[.int .i64 0, .string ⟨#[]⟩]) w) := by
  have HT := Lib.hid (ht.below (Below.alloc (Below.refl w.heap.size w) (Nat.le_refl _) (.cells #[.string nmB, .int .i64 1, .int .i64 200, .int .i64 2, .int .i64 6, .int .i64 0, .int .i64 0, .int .i64 0, .int .i64 4, .int .i64 4, .int .i64 32, .int .i64 1230, .int .i64 30, .int .i64 15, .int .i64 90, .int .i64 5000, .int .i64 0, .int .i64 1, .int .i64 0, .int .i64 0, .slice none 0 0, v] 27)) (Nat.le_refl _))
  have HX := Lib.hid (Below.alloc (Below.refl w.heap.size w) (Nat.le_refl _) (.cells #[.string nmB, .int .i64 1, .int .i64 200, .int .i64 2, .int .i64 6, .int .i64 0, .int .i64 0, .int .i64 0, .int .i64 4, .int .i64 4, .int .i64 32, .int .i64 1230, .int .i64 30, .int .i64 15, .int .i64 90, .int .i64 5000, .int .i64 0, .int .i64 1, .int .i64 0, .int .i64 0, .slice none 0 0, v] 27))
  have HG := Lib.hid (Cel.new w #[.string nmB, .int .i64 1, .int .i64 200, .int .i64 2, .int .i64 6, .int .i64 0, .int .i64 0, .int .i64 0, .int .i64 4, .int .i64 4, .int .i64 32, .int .i64 1230, .int .i64 30, .int .i64 15, .int .i64 90, .int .i64 5000, .int .i64 0, .int .i64 1, .int .i64 0, .int .i64 0, .slice none 0 0, v] 27)
  have HM := Lib.hid fun W => badMatrix_any v W
  have HN := Lib.hid fun W => badTerms_any v W
  have HS := Lib.hid fun W (h : IsTier W v) => checkTiers_any v W h
  clear ht
  unfold gameV at *
  go_enter Tryz.func17, Tryz.ntmps17
  go_wp2_with (first
    | (refine wpList_load_row rfl 27 _ rfl w.heap.size rfl _ _ _ _ HG.out Tryz.underlying27 rfl (by kernel_rfl) ?_)
    | (go_at_call 30; (with_reducible refine (name_any _).mono ?_); rintro e w1 ⟨rfl, hb1⟩; replace HX := Lib.hid (HX.out.trans (hb1.mono HX.out.size)); replace HG := Lib.hid (HG.out.below hb1 HG.out.lt); replace HT := Lib.hid (HT.out.below hb1 (Nat.le_refl _)); have hgl := HG.out.lt; have g0 := HG.out.cell 0; have g1 := HG.out.cell 1; have g20 := HG.out.cell 20; simp at g0 g1 g20; clear hb1)
    | (go_at_call 31; (with_reducible refine (HM.out _).mono ?_); rintro e w1 ⟨rfl, hb1⟩; replace HX := Lib.hid (HX.out.trans (hb1.mono HX.out.size)); replace HG := Lib.hid (HG.out.below hb1 HG.out.lt); replace HT := Lib.hid (HT.out.below hb1 (Nat.le_refl _)); have hgl := HG.out.lt; have g0 := HG.out.cell 0; have g1 := HG.out.cell 1; have g20 := HG.out.cell 20; simp at g0 g1 g20; clear hb1)
    | (go_at_call 32; (with_reducible refine (HN.out _).mono ?_); rintro e w1 ⟨rfl, hb1⟩; replace HX := Lib.hid (HX.out.trans (hb1.mono HX.out.size)); replace HG := Lib.hid (HG.out.below hb1 HG.out.lt); replace HT := Lib.hid (HT.out.below hb1 (Nat.le_refl _)); have hgl := HG.out.lt; have g0 := HG.out.cell 0; have g1 := HG.out.cell 1; have g20 := HG.out.cell 20; simp at g0 g1 g20; clear hb1)
    | (go_at_call 33; (with_reducible refine (checkAddons_any _).mono ?_); rintro e w1 ⟨rfl, hb1⟩; replace HX := Lib.hid (HX.out.trans (hb1.mono HX.out.size)); replace HG := Lib.hid (HG.out.below hb1 HG.out.lt); replace HT := Lib.hid (HT.out.below hb1 (Nat.le_refl _)); have hgl := HG.out.lt; have g0 := HG.out.cell 0; have g1 := HG.out.cell 1; have g20 := HG.out.cell 20; simp at g0 g1 g20; clear hb1)
    | (go_at_call 34; (with_reducible refine (HS.out _ HT.out).mono ?_); rintro e w1 ⟨rfl, hb1⟩; replace HX := Lib.hid (HX.out.trans (hb1.mono HX.out.size)); replace HG := Lib.hid (HG.out.below hb1 HG.out.lt); replace HT := Lib.hid (HT.out.below hb1 (Nat.le_refl _)); have hgl := HG.out.lt; have g0 := HG.out.cell 0; have g1 := HG.out.cell 1; have g20 := HG.out.cell 20; simp at g0 g1 g20; clear hb1))
  go_ret2
  exact ⟨rfl, HX.out⟩
end Go.Proofs.YtnnocbelgfhecaaGreatDoor
/- Natural numbers of one limb. -/
namespace Go.Proofs.YtnnocbelgfhecaaGreatDoor
open Go.ChangeShapes Go.WideShapes Go.ChangeAt Go.RowKit Go.Lott
/-- A number of one limb, above 0. -/
def Nat1 (w : World) (v : Value) (x : Int) : Prop := 0 < x ∧ x < 4294967296 ∧ ∃ b o c, v = .slice (some ⟨b, o, none⟩) 1 c ∧ 1 ≤ c ∧ b < w.heap.size ∧ w.cell? ⟨b, o, none⟩ = some (.int .u32 x)
theorem Nat1.below {w w1 : World} {v : Value} {x : Int} {B : Nat} (h : Nat1 w v x) (hb : Below B w w1) (hB : w.heap.size ≤ B) : Nat1 w1 v x := by
  obtain ⟨h0, h1, b, o, c, h2, h3, h4, h5⟩ := h
  exact ⟨h0, h1, b, o, c, h2, h3, Nat.lt_of_lt_of_le h4 hb.size, (hb.cell (p := ⟨b, o, none⟩) (Nat.lt_of_lt_of_le h4 hB)).trans h5⟩
theorem known_any (n : Int) (h0 : 0 ≤ n) (h1 : n ≤ 80) (w : World) : Calls Tryz.prog 144 #[.int .i64 n] w (RetS (.bool true) w) := by
  go_enter Tryz.func144, Tryz.ntmps144
  go_wp2
  go_ret
  exact ⟨rfl, rfl⟩
theorem valid_any (v : Value) (x : Int) (w : World) (h : Nat1 w v x) : Calls Tryz.prog 164 #[.agg #[v]] w (RetB (.bool true) w) := by
  obtain ⟨h0, h1, b, o, c, rfl, h3, h4, h5⟩ := h
  have hx : (x != 0) = true := by simp; omega
  go_enter Tryz.func164, Tryz.ntmps164
  go_wp2
  go_ret
  exact ⟨rfl, (Below.refl _ _).alloc (Nat.le_refl _) _⟩
theorem trim_two (b o c : Nat) (x : Int) (w : World) (h0 : 0 < x) (hc : 2 ≤ c) (hb : b < w.heap.size) (c0 : w.cell? ⟨b, o, none⟩ = some (.int .u32 x)) (c1 : w.cell? ⟨b, o + 1, none⟩ = some (.int .u32 0)) :
    Calls Tryz.prog 163 #[.slice (some ⟨b, o, none⟩) 2 c] w (RetB (.agg #[.slice (some ⟨b, o, none⟩) 1 1]) w) := by
  have hx : (x == 0) = false := by simp; omega
  go_enter Tryz.func163, Tryz.ntmps163
  go_wp2
  refine wp_loop_rounds 2 ?_
  rw [rounds_succ]
  go_wp2
  rw [rounds_succ]
  go_wp2
  refine bodyPost_ret (v := .agg #[.slice (some ⟨b, o, none⟩) 1 1]) (by simp [results, Tryz.results163, go_sem]) rfl ⟨rfl, (Below.refl _ _).alloc (Nat.le_refl _) _⟩
/-- The block of a value was made behind a world. -/
def Fresh (w : World) (v : Value) : Prop := ∀ b, v.ownBlock = some b → w.heap.size ≤ b
theorem of_any (x : Int) (w : World) (h0 : 0 < x) (h1 : x < 4294967296) : Calls Tryz.prog 145 #[.int .u64 x] w fun e w' => ∃ v, e = .returned (.agg #[v]) ∧ Nat1 w' v x ∧ Fresh w v ∧ Below w.heap.size w w' := by
  have hz : x / 4294967296 = 0 := by omega
  go_enter Tryz.func145, Tryz.ntmps145
  go_wp2_with fail
  obtain ⟨W1, hW1⟩ : ∃ W1, W1 = (w.alloc (.cells #[.slice none 0 0] 205)).alloc (.cells #[.int .u32 x, .int .u32 0] 179) := ⟨_, rfl⟩
  have hs : W1.heap.size = w.heap.size + 2 := by rw [hW1]; simp
  have hA : Cel W1 w.heap.size #[.slice none 0 0] 205 := by rw [hW1]; exact (Cel.new _ _ _).alloc _
  have hB : Cel W1 (w.heap.size + 1) #[.int .u32 x, .int .u32 0] 179 := by
    rw [hW1]
    have := Cel.new (w.alloc (.cells #[.slice none 0 0] 205)) #[.int .u32 x, .int .u32 0] 179
    simpa using this
  have hX : Below w.heap.size w W1 := by rw [hW1]; exact ((Below.refl _ _).alloc (Nat.le_refl _) _).alloc (by simp) _
  (try simp only [hz])
  rw [← hW1]
  refine (trim_two _ _ _ x _ h0 (by omega) hB.lt (hB.cell 0) (hB.cell 1)).mono ?_
  rintro e w2 ⟨rfl, hb⟩
  have HA := hA.below hb hA.lt
  have l0 := HA.cell 0
  have f0 := HA.free 0
  simp at l0
  have HB := Lib.hid (hB.below hb hB.lt)
  have HX := Lib.hid (hX.trans (hb.mono hX.size))
  clear hA hB hX hb HA hW1
  go_wp2
  refine bodyPost_ret (v := .agg #[.slice (some ⟨w.heap.size + 1, 0, none⟩) 1 1]) (by simp [results, Tryz.results145, go_sem, l0]) rfl ⟨_, rfl, ⟨h0, h1, _, _, _, rfl, Nat.le_refl _, ?_, ?_⟩, fun b hb => (by cases hb; exact Nat.le_succ _), HX.out.setCell (Nat.le_refl _) _⟩
  · have := HB.out.lt; simpa [World.setCell] using this
  · have := (HB.out.other (a := ⟨w.heap.size, 0, none⟩) (by simp) (.slice (some ⟨w.heap.size + 1, 0, none⟩) 1 1)).cell 0
    simpa using this
theorem bounded_two (b o c : Nat) (x : Int) (w : World) (h0 : 0 < x) (hc : 2 ≤ c) (hb : b < w.heap.size) (c0 : w.cell? ⟨b, o, none⟩ = some (.int .u32 x)) (c1 : w.cell? ⟨b, o + 1, none⟩ = some (.int .u32 0)) :
    Calls Tryz.prog 165 #[.slice (some ⟨b, o, none⟩) 2 c] w (RetB (.tuple #[.agg #[.slice (some ⟨b, o, none⟩) 1 1], .int .i64 0]) w) := by
  obtain ⟨W1, hW1⟩ : ∃ W1, W1 = w.alloc (.cells #[.slice none 0 0] 205) := ⟨_, rfl⟩
  have hX : Below w.heap.size w W1 := by rw [hW1]; exact (Below.refl _ _).alloc (Nat.le_refl _) _
  have hA : Cel W1 w.heap.size #[.slice none 0 0] 205 := by rw [hW1]; exact Cel.new _ _ _
  have HC := Lib.hid (trim_two b o c x W1 h0 hc (Nat.lt_of_lt_of_le hb hX.size) ((hX.cell (p := ⟨b, o, none⟩) hb).trans c0) ((hX.cell (p := ⟨b, o + 1, none⟩) hb).trans c1))
  have HW := Lib.hid hW1
  have HA := Lib.hid hA
  have HX := Lib.hid hX
  clear hW1 hX hA c0 c1 hb
  go_enter Tryz.func165, Tryz.ntmps165
  go_wp2_with fail
  rw [← HW.out]
  refine HC.out.mono ?_
  rintro e w2 ⟨rfl, hb2⟩
  have hA2 := HA.out.below hb2 HA.out.lt
  have l0 := hA2.cell 0
  have f0 := hA2.free 0
  have hal := hA2.lt
  simp at l0
  have HX2 := Lib.hid (HX.out.trans (hb2.mono HX.out.size))
  clear hb2 hA2 HC HA HX
  go_wp2
  refine bodyPost_ret (v := .tuple #[.agg #[.slice (some ⟨b, o, none⟩) 1 1], .int .i64 0]) (by simp [results, Tryz.results165, go_sem, l0, hal]) rfl ⟨rfl, ?_⟩
  refine Below.alloc (Below.setCell HX2.out ?_ _) ?_ _
  · exact Nat.le_refl _
  · have := HX2.out.size; simpa [World.setCell] using this
end Go.Proofs.YtnnocbelgfhecaaGreatDoor
/- Natural numbers of one limb: the product. -/
namespace Go.Proofs.YtnnocbelgfhecaaGreatDoor
open Go.ChangeShapes Go.WideShapes Go.ChangeAt Go.RowKit Go.Lott
theorem infoU : (Tryz.prog.info? 179).map (fun i => (i.zero, i.size, i.bytes)) = some (some (.int .u32 0), 1, 4) := by kernel_rfl
theorem make_U2 (w : World) : (Instr.makeSlice 203 (.int .i64 2) (.int .i64 2)).run Tryz.prog w = .ok (.slice (some ⟨w.heap.size, 0, none⟩) 2 2) (w.alloc (.cells #[.int .u32 0, .int .u32 0] 179)) := by
  obtain ⟨e0, he0, hz0, hz1, hz2⟩ := info_parts infoU
  have h := run_make (P := Tryz.prog) w 203 179 e0 (.int .u32 0) Tryz.underlying203 he0 hz0 .i64 .i64 2 2 (by decide) (by decide) (by rw [hz2]; decide) (by decide)
  rw [h, hz1]
  have e : madeCells (Value.int .u32 0).cells 2 = #[.int .u32 0, .int .u32 0] := by kernel_rfl
  rw [← e]
  rfl
set_option maxHeartbeats 2000000 in
theorem mul_one (v1 v2 : Value) (x y : Int) (w : World) (h1 : Nat1 w v1 x) (h2 : Nat1 w v2 y) (hxy : x * y < 4294967296) :
    Calls Tryz.prog 146 #[.agg #[v1], .agg #[v2]] w fun e w' => ∃ v, e = .returned (.tuple #[.agg #[v], .int .i64 0]) ∧ Nat1 w' v (x * y) ∧ Fresh w v ∧ Below w.heap.size w w' := by
  have HN1 := Lib.hid h1
  have HN2 := Lib.hid h2
  have hm := make_U2
  obtain ⟨W1, hW1⟩ : ∃ W1, W1 = ((w.alloc (.cells #[v1] 205)).alloc (.cells #[v2] 205)).alloc (.cells #[.slice none 0 0] 205) := ⟨_, rfl⟩
  have HX := Lib.hid (show Below w.heap.size w W1 by rw [hW1]; exact (((Below.refl _ _).alloc (Nat.le_refl _) _).alloc (by simp) _).alloc (by simp; omega) _)
  have HA := Lib.hid (show Cel W1 w.heap.size #[v1] 205 by rw [hW1]; exact ((Cel.new _ _ _).alloc _).alloc _)
  have HB := Lib.hid (show Cel W1 (w.heap.size + 1) #[v2] 205 by
    rw [hW1]
    have := (Cel.new (w.alloc (.cells #[v1] 205)) #[v2] 205).alloc (.cells #[.slice none 0 0] 205)
    simpa using this)
  have HC := Lib.hid (show Cel W1 (w.heap.size + 2) #[.slice none 0 0] 205 by
    rw [hW1]
    have := Cel.new ((w.alloc (.cells #[v1] 205)).alloc (.cells #[v2] 205)) #[.slice none 0 0] 205
    simpa using this)
  have HW := Lib.hid hW1
  clear hW1
  go_enter Tryz.func146, Tryz.ntmps146
  go_wp2_with fail
  rw [← HW.out]
  refine (valid_any _ x _ (HN1.out.below HX.out (Nat.le_refl _))).mono ?_
  rintro e w1 ⟨rfl, hb1⟩
  replace HX := Lib.hid (HX.out.trans (hb1.mono HX.out.size))
  replace HA := Lib.hid (HA.out.below hb1 HA.out.lt)
  replace HB := Lib.hid (HB.out.below hb1 HB.out.lt)
  replace HC := Lib.hid (HC.out.below hb1 HC.out.lt)
  have a0 := HA.out.cell 0
  have b0 := HB.out.cell 0
  simp at a0 b0
  have al := HA.out.lt
  have bl := HB.out.lt
  clear hb1 HW
  go_wp2_with fail
  refine (valid_any _ y _ (HN2.out.below HX.out (Nat.le_refl _))).mono ?_
  rintro e w2 ⟨rfl, hb1⟩
  replace HX := Lib.hid (HX.out.trans (hb1.mono HX.out.size))
  replace HA := Lib.hid (HA.out.below hb1 HA.out.lt)
  replace HB := Lib.hid (HB.out.below hb1 HB.out.lt)
  replace HC := Lib.hid (HC.out.below hb1 HC.out.lt)
  clear a0 b0 al bl
  have a0 := HA.out.cell 0
  have b0 := HB.out.cell 0
  simp at a0 b0
  have al := HA.out.lt
  have bl := HB.out.lt
  obtain ⟨x0, x1, bx, ox, cx, rfl, hcx, hbx, hx⟩ := HN1.out.below HX.out (Nat.le_refl _)
  obtain ⟨y0, y1, by', oy, cy, rfl, hcy, hby, hy⟩ := HN2.out.below HX.out (Nat.le_refl _)
  clear hb1
  have hp0 : 0 < x * y := Int.mul_pos x0 y0
  have hq : x * y / 4294967296 = 0 := by omega
  go_wp2
  refine wp_loop_rounds 2 ?_
  rw [rounds_succ]
  go_wp2
  refine wp_loop_rounds 2 ?_
  rw [rounds_succ]
  go_wp2
  rw [rounds_succ]
  go_wp2
  rw [rounds_succ]
  go_wp2_with fail
  obtain ⟨W3, hW3⟩ : ∃ W3, W3 = w2.alloc (.cells #[.int .u32 (x * y), .int .u32 0] 179) := ⟨_, rfl⟩
  have hP : Cel W3 w2.heap.size #[.int .u32 (x * y), .int .u32 0] 179 := by rw [hW3]; exact Cel.new _ _ _
  have hal : Below w2.heap.size w2 W3 := by rw [hW3]; exact (Below.refl _ _).alloc (Nat.le_refl _) _
  rw [← hW3]
  refine (bounded_two _ _ _ (x * y) _ hp0 (by omega) hP.lt (hP.cell 0) (hP.cell 1)).mono ?_
  rintro e w4 ⟨rfl, hb4⟩
  have hC4 : Cel w4 (w.heap.size + 1 + 1) #[.slice none 0 0] 205 := (HC.out.below hal HC.out.lt).below hb4 (Nat.lt_of_lt_of_le HC.out.lt hal.size)
  have l0 := hC4.cell 0
  have f0 := hC4.free 0
  have cl := hC4.lt
  simp at l0
  have HP := Lib.hid (hP.below hb4 hP.lt)
  have HX4 := Lib.hid (HX.out.trans ((hal.trans (hb4.mono hal.size)).mono HX.out.size))
  have hne : w2.heap.size ≠ w.heap.size + 1 + 1 := by have := HC.out.lt; omega
  clear hP hal hb4 hW3
  go_wp2
  refine bodyPost_ret (v := .tuple #[.agg #[.slice (some ⟨w2.heap.size, 0, none⟩) 1 1], .int .i64 0]) (by simp [results, Tryz.results146, go_sem, l0]) rfl ⟨_, rfl, ⟨hp0, hxy, _, _, _, rfl, Nat.le_refl _, ?_, ?_⟩, ?_, ?_⟩
  · have := HP.out.lt; simpa [World.setCell] using this
  · have := (HP.out.other (a := ⟨w.heap.size + 1 + 1, 0, none⟩) hne (.slice (some ⟨w2.heap.size, 0, none⟩) 1 1)).cell 0
    simpa using this
  · intro b hb
    cases hb
    have := HC.out.lt
    show w.heap.size ≤ w2.heap.size
    omega
  · refine Below.setCell HX4.out ?_ _
    show w.heap.size ≤ w.heap.size + 1 + 1
    omega
end Go.Proofs.YtnnocbelgfhecaaGreatDoor
/- Natural numbers of one limb: as an uint64; narrow. -/
namespace Go.Proofs.YtnnocbelgfhecaaGreatDoor
open Go.ChangeShapes Go.WideShapes Go.ChangeAt Go.RowKit Go.Lott
theorem or_zero (x : Int) (h0 : 0 ≤ x) (h1 : x < 4294967296) : bits BinOp.or IntKind.u64 0 x = x := by
  simp only [bits]
  have e : ((BitVec.ofInt IntKind.u64.bits 0 ||| BitVec.ofInt IntKind.u64.bits x).toNat : Int) = x := by
    have e2 : IntKind.u64.bits = 64 := rfl
    rw [e2]
    simp
    omega
  rw [e]
  show x % 18446744073709551616 = x
  omega
theorem uint_one (v : Value) (x : Int) (w : World) (h : Nat1 w v x) : Calls Tryz.prog 148 #[.agg #[v]] w (RetB (.tuple #[.int .u64 x, .bool true]) w) := by
  have HN := Lib.hid h
  obtain ⟨W1, hW1⟩ : ∃ W1, W1 = w.alloc (.cells #[v] 205) := ⟨_, rfl⟩
  have hX : Below w.heap.size w W1 := by rw [hW1]; exact (Below.refl _ _).alloc (Nat.le_refl _) _
  have hA : Cel W1 w.heap.size #[v] 205 := by rw [hW1]; exact Cel.new _ _ _
  have HW := Lib.hid hW1
  clear hW1
  go_enter Tryz.func148, Tryz.ntmps148
  go_wp2_with fail
  rw [← HW.out]
  refine (valid_any _ x _ (h.below hX (Nat.le_refl _))).mono ?_
  rintro e w1 ⟨rfl, hb1⟩
  have hA1 := hA.below hb1 hA.lt
  have a0 := hA1.cell 0
  have al := hA1.lt
  have HX := Lib.hid (hX.trans (hb1.mono hX.size))
  obtain ⟨x0, x1, bx, ox, cx, rfl, hcx, hbx, hx⟩ := HN.out.below HX.out (Nat.le_refl _)
  simp at a0
  clear hA hX hb1 hA1 HW
  go_wp2
  refine wp_loop_rounds 2 ?_
  rw [rounds_succ]
  go_wp2
  rw [rounds_succ]
  go_wp2
  rw [or_zero x (by omega) (by omega)]
  go_ret2
  exact ⟨rfl, HX.out⟩
theorem narrow_one (v : Value) (x : Int) (w : World) (h : Nat1 w v x) : Calls Tryz.prog 124 #[.agg #[v]] w (RetB (.tuple #[.int .i64 x, .int .i64 0]) w) := by
  obtain ⟨x0, x1, _⟩ := id h
  have hx : (9223372036854775807 < x) = False := by simp; omega
  have HN := Lib.hid (h.below ((Below.refl w.heap.size w).alloc (Nat.le_refl _) (.cells #[v] 205)) (Nat.le_refl _))
  clear h
  go_enter Tryz.func124, Tryz.ntmps124
  go_wp2_with (go_at_call 148; refine (uint_one _ x _ HN.out).mono ?_; rintro e w1 ⟨rfl, hb1⟩; have HB := Lib.hid (((Below.refl w.heap.size w).alloc (Nat.le_refl _) (.cells #[v] 205)).trans (hb1.mono (by simp))); clear hb1)
  go_ret2
  exact ⟨rfl, HB.out⟩
theorem trim_zero (b o c : Nat) (w : World) (_hc : 2 ≤ c) (hb : b < w.heap.size) (c0 : w.cell? ⟨b, o, none⟩ = some (.int .u32 0)) (c1 : w.cell? ⟨b, o + 1, none⟩ = some (.int .u32 0)) :
    Calls Tryz.prog 163 #[.slice (some ⟨b, o, none⟩) 2 c] w (RetB (.agg #[.slice none 0 0]) w) := by
  go_enter Tryz.func163, Tryz.ntmps163
  go_wp2
  refine wp_loop_rounds 3 ?_
  rw [rounds_succ]
  go_wp2
  rw [rounds_succ]
  go_wp2
  rw [rounds_succ]
  go_wp2
  refine bodyPost_ret (v := .agg #[.slice none 0 0]) (by simp [results, Tryz.results163, go_sem]) rfl ⟨rfl, (Below.refl _ _).alloc (Nat.le_refl _) _⟩
theorem trim_one (b o c : Nat) (x : Int) (w : World) (h0 : 0 < x) (_hc : 1 ≤ c) (hb : b < w.heap.size) (c0 : w.cell? ⟨b, o, none⟩ = some (.int .u32 x)) :
    Calls Tryz.prog 163 #[.slice (some ⟨b, o, none⟩) 1 c] w (RetB (.agg #[.slice (some ⟨b, o, none⟩) 1 1]) w) := by
  have hx : (x == 0) = false := by simp; omega
  go_enter Tryz.func163, Tryz.ntmps163
  go_wp2
  refine wp_loop_rounds 1 ?_
  rw [rounds_succ]
  go_wp2
  refine bodyPost_ret (v := .agg #[.slice (some ⟨b, o, none⟩) 1 1]) (by simp [results, Tryz.results163, go_sem]) rfl ⟨rfl, (Below.refl _ _).alloc (Nat.le_refl _) _⟩
theorem of_zero (w : World) : Calls Tryz.prog 145 #[.int .u64 0] w (RetB (.agg #[.slice none 0 0]) w) := by
  obtain ⟨W1, hW1⟩ : ∃ W1, W1 = (w.alloc (.cells #[.slice none 0 0] 205)).alloc (.cells #[.int .u32 0, .int .u32 0] 179) := ⟨_, rfl⟩
  have hs : W1.heap.size = w.heap.size + 2 := by rw [hW1]; simp
  have hA : Cel W1 w.heap.size #[.slice none 0 0] 205 := by rw [hW1]; exact (Cel.new _ _ _).alloc _
  have hB : Cel W1 (w.heap.size + 1) #[.int .u32 0, .int .u32 0] 179 := by
    rw [hW1]
    have := Cel.new (w.alloc (.cells #[.slice none 0 0] 205)) #[.int .u32 0, .int .u32 0] 179
    simpa using this
  have hX : Below w.heap.size w W1 := by rw [hW1]; exact ((Below.refl _ _).alloc (Nat.le_refl _) _).alloc (by simp) _
  have HW := Lib.hid hW1
  clear hW1
  go_enter Tryz.func145, Tryz.ntmps145
  go_wp2_with fail
  rw [← HW.out]
  refine (trim_zero _ _ _ _ (by omega) hB.lt (hB.cell 0) (hB.cell 1)).mono ?_
  rintro e w2 ⟨rfl, hb⟩
  have HA := hA.below hb hA.lt
  have l0 := HA.cell 0
  have f0 := HA.free 0
  simp at l0
  have HX := Lib.hid (hX.trans (hb.mono hX.size))
  clear hA hB hX hb HA HW
  go_wp2
  refine bodyPost_ret (v := .agg #[.slice none 0 0]) (by simp [results, Tryz.results145, go_sem, l0]) rfl ⟨rfl, HX.out.setCell (Nat.le_refl _) _⟩
end Go.Proofs.YtnnocbelgfhecaaGreatDoor
