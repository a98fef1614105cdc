/- The scanner of slips at a text of two digits: load, advance, is, number. -/
import Derived.Test.YtnnocbelgfhecaaGreatDoorTrn
import Derived.Test.YtnnocbelgfhecaaGreatDoorNuml
set_option linter.unusedSimpArgs false
namespace Go.Proofs.YtnnocbelgfhecaaGreatDoor
open Go.ChangeShapes Go.WideShapes Go.ChangeAt Go.RowKit Go.Lott
/-- The text of a digit; of two digits with a blank between them. -/
def dg (x : Nat) : ByteArray := ⟨#[(48 + x).toUInt8]⟩
def tx (x y : Nat) : ByteArray := ⟨#[(48 + x).toUInt8, 32, (48 + y).toUInt8]⟩
theorem tx_size (x y : Nat) : (tx x y).size = 3 := rfl
theorem six {x : Nat} (h1 : 1 ≤ x) (h2 : x ≤ 6) : x = 1 ∨ x = 2 ∨ x = 3 ∨ x = 4 ∨ x = 5 ∨ x = 6 := by omega
theorem tx_0 (x y : Nat) : (tx x y).extract 0 3 = tx x y := rfl
theorem tx_1 (x y : Nat) : (tx x y).extract 0 1 = dg x := rfl
theorem tx_2 (x y : Nat) : (tx x y).extract 2 3 = dg y := rfl
theorem ix_0 {x : Nat} (y : Nat) (h1 : 1 ≤ x) (h2 : x ≤ 6) : (Lib.indexByte (tx x y).data.toList (32 : Int).toNat.toUInt8 : Int) = 1 := by
  rcases six h1 h2 with rfl | rfl | rfl | rfl | rfl | rfl <;> rfl
theorem ix_2 {y : Nat} (h1 : 1 ≤ y) (h2 : y ≤ 6) : (Lib.indexByte (dg y).data.toList (32 : Int).toNat.toUInt8 : Int) = -1 := by
  rcases six h1 h2 with rfl | rfl | rfl | rfl | rfl | rfl <;> rfl
/-- A scanner that stands somewhere. -/
def Scn (w : World) (sb : Nat) (x y : Nat) (at_ : Int) (word : ByteArray) (next : Int) (fin : Bool) : Prop := Cel w sb #[.string (tx x y), .int .i64 at_, .string word, .int .i64 next, .bool fin] 134
section
variable {w w1 : World} {b : Nat}
theorem gb_refl (w : World) (b : Nat) : w.grownBy w (some b) := ⟨rfl, rfl, rfl, Nat.le_refl _, fun _ _ _ => rfl⟩
theorem gb_set (h : w.grownBy w1 (some b)) (i : Nat) (u : Value) : w.grownBy (w1.setCell ⟨b, i, none⟩ u) (some b) :=
  ⟨h.os, h.tape, h.output, by simpa [World.setCell] using h.size, fun k hk hne => (Below.heap_setCell _ _ _ _ (fun e => hne (by rw [e]))).trans (h.block k hk hne)⟩
theorem gb_drew (h : w.grownBy w1 (some b)) : w.grownBy w1.drew (some b) := ⟨h.os, h.tape, h.output, h.size, h.block⟩
theorem gb_drewN (h : w.grownBy w1 (some b)) (n : Nat) : w.grownBy (w1.drewN n) (some b) := ⟨h.os, h.tape, h.output, h.size, h.block⟩
theorem gb_trans {w2 : World} (h : w.grownBy w1 (some b)) (h2 : w1.grownBy w2 (some b)) : w.grownBy w2 (some b) :=
  ⟨h2.os.trans h.os, h2.tape.trans h.tape, h2.output.trans h.output, Nat.le_trans h.size h2.size, fun k hk hne => (h2.block k (Nat.lt_of_lt_of_le hk h.size) hne).trans (h.block k hk hne)⟩
theorem gb_below {B : Nat} {w0 : World} (h : Below B w0 w) (hg : w.grownBy w1 (some b)) (hw : B ≤ w.heap.size) (hb : B ≤ b) : Below B w0 w1 := h.grown hg hw (fun k hk => by cases hk; exact hb)
theorem gb_of_below (h : w.grownBy w1 (some b)) {w2 : World} (hb : Below w1.heap.size w1 w2) : w.grownBy w2 (some b) :=
  ⟨hb.os.trans h.os, hb.tape.trans h.tape, hb.output.trans h.output, Nat.le_trans h.size hb.size, fun k hk hne => (hb.block k (Nat.lt_of_lt_of_le hk h.size)).trans (h.block k hk hne)⟩
theorem cel_gb {d : Nat} {cs : Array Value} {t : TypeId} (h : Cel w d cs t) (hg : w.grownBy w1 (some b)) (hd : d ≠ b) : Cel w1 d cs t := (hg.block d h.lt (fun e => hd (by cases e; rfl))).trans h
end
theorem Scn.lt {w : World} {sb x y : Nat} {a n : Int} {wd : ByteArray} {f : Bool} (h : Scn w sb x y a wd n f) : sb < w.heap.size := Cel.lt h
set_option maxRecDepth 100000 in
theorem load_0 (sb x y : Nat) (a0 n0 : Int) (w0 : ByteArray) (w : World) (hx1 : 1 ≤ x) (hx2 : x ≤ 6) (h : Scn w sb x y a0 w0 n0 false) :
    Calls Tryz.prog 64 #[.pointer (some ⟨sb, 0, none⟩), .int .i64 0] w fun e w' => e = .returned (.tuple #[]) ∧ Scn w' sb x y 0 (dg x) 1 false ∧ w.grownBy w' (some sb) := by
  have c0 := h.cell 0
  have c1 := h.cell 1
  have c2 := h.cell 2
  have c3 := h.cell 3
  have c4 := h.cell 4
  have f1 := h.free 1
  have f2 := h.free 2
  have f3 := h.free 3
  have f4 := h.free 4
  have sl : sb < w.heap.size := h.lt
  have hts : (tx x y).size = 3 := rfl
  simp at c0 c1 c2 c3 c4
  go_enter Tryz.func64, Tryz.ntmps64
  go_wp2_with fail
  rw [tx_0]
  refine (Tryz.strings_IndexByte _ _ _).mono ?_
  rw [ix_0 y hx1 hx2]
  rintro e w' ⟨rfl, rfl⟩
  go_wp2
  refine wp_region_tail 13 (by kernel_rfl) (by kernel_rfl) ?_
  simp only [List.take_succ_cons, List.take_zero, List.drop_succ_cons, List.drop_zero]
  repeat (go_big_quiet_step (fail))
  refine wpQuiet_nil ?_
  go_wp2
  refine bodyPost_end (v := .tuple #[]) (by simp [results, Tryz.results64, go_sem]) rfl ⟨rfl, ?_, ?_⟩
  · have := ((((show Cel w sb _ _ from h).set 1 (.int .i64 0)).set 3 (.int .i64 1)).set 2 (.string (dg x))).drew
    simp at this
    exact this
  · exact gb_drew (gb_set (gb_set (gb_set (gb_refl _ _) _ _) _ _) _ _)
set_option maxRecDepth 100000 in
theorem load_2 (sb x y : Nat) (a0 n0 : Int) (w0 : ByteArray) (w : World) (hy1 : 1 ≤ y) (hy2 : y ≤ 6) (h : Scn w sb x y a0 w0 n0 false) :
    Calls Tryz.prog 64 #[.pointer (some ⟨sb, 0, none⟩), .int .i64 2] w fun e w' => e = .returned (.tuple #[]) ∧ Scn w' sb x y 2 (dg y) 3 false ∧ w.grownBy w' (some sb) := by
  have c0 := h.cell 0
  have c1 := h.cell 1
  have c2 := h.cell 2
  have c3 := h.cell 3
  have c4 := h.cell 4
  have f1 := h.free 1
  have f2 := h.free 2
  have f3 := h.free 3
  have f4 := h.free 4
  have sl : sb < w.heap.size := h.lt
  have hts : (tx x y).size = 3 := rfl
  simp at c0 c1 c2 c3 c4
  go_enter Tryz.func64, Tryz.ntmps64
  go_wp2_with fail
  rw [tx_2]
  refine (Tryz.strings_IndexByte _ _ _).mono ?_
  rw [ix_2 hy1 hy2]
  rintro e w' ⟨rfl, rfl⟩
  go_wp2
  refine wp_region_tail 13 (by kernel_rfl) (by kernel_rfl) ?_
  simp only [List.take_succ_cons, List.take_zero, List.drop_succ_cons, List.drop_zero]
  repeat (go_big_quiet_step (fail))
  refine wpQuiet_nil ?_
  go_wp2
  refine bodyPost_end (v := .tuple #[]) (by simp [results, Tryz.results64, go_sem]) rfl ⟨rfl, ?_, ?_⟩
  · have := ((((show Cel w sb _ _ from h).set 1 (.int .i64 2)).set 3 (.int .i64 3)).set 2 (.string (dg y))).drew
    simp at this
    exact this
  · exact gb_drew (gb_set (gb_set (gb_set (gb_refl _ _) _ _) _ _) _ _)
set_option maxRecDepth 100000 in
theorem advance_1 (sb x y : Nat) (w : World) (hy1 : 1 ≤ y) (hy2 : y ≤ 6) (h : Scn w sb x y 0 (dg x) 1 false) :
    Calls Tryz.prog 98 #[.pointer (some ⟨sb, 0, none⟩)] w fun e w' => e = .returned (.tuple #[]) ∧ Scn w' sb x y 2 (dg y) 3 false ∧ w.grownBy w' (some sb) := by
  have c0 := h.cell 0
  have c1 := h.cell 1
  have c2 := h.cell 2
  have c3 := h.cell 3
  have c4 := h.cell 4
  have f1 := h.free 1
  have f2 := h.free 2
  have f3 := h.free 3
  have f4 := h.free 4
  have sl : sb < w.heap.size := h.lt
  have hts : (tx x y).size = 3 := rfl
  simp at c0 c1 c2 c3 c4
  go_enter Tryz.func98, Tryz.ntmps98
  go_wp2
  go_quiet (fail)
  go_wp2_with fail
  refine (load_2 sb x y 0 1 (dg x) _ hy1 hy2 (show Scn (w.drewN _) _ _ _ _ _ _ _ from h)).mono ?_
  rintro e w1 ⟨rfl, h1, hg⟩
  have H1 := Lib.hid h1
  have HG := Lib.hid hg
  clear h1 hg
  go_wp2
  refine bodyPost_end (v := .tuple #[]) (by simp [results, Tryz.results98, go_sem]) rfl ⟨rfl, H1.out, gb_trans (gb_drewN (gb_refl _ _) _) HG.out⟩
set_option maxRecDepth 100000 in
theorem advance_2 (sb x y : Nat) (w : World) (h : Scn w sb x y 2 (dg y) 3 false) :
    Calls Tryz.prog 98 #[.pointer (some ⟨sb, 0, none⟩)] w fun e w' => e = .returned (.tuple #[]) ∧ Scn w' sb x y 3 ⟨#[]⟩ 3 true ∧ w.grownBy w' (some sb) := by
  have c0 := h.cell 0
  have c1 := h.cell 1
  have c2 := h.cell 2
  have c3 := h.cell 3
  have c4 := h.cell 4
  have f1 := h.free 1
  have f2 := h.free 2
  have f3 := h.free 3
  have f4 := h.free 4
  have sl : sb < w.heap.size := h.lt
  have hts : (tx x y).size = 3 := rfl
  simp at c0 c1 c2 c3 c4
  go_enter Tryz.func98, Tryz.ntmps98
  go_wp2
  go_quiet (fail)
  go_wp2
  refine bodyPost_ret (v := .tuple #[]) (by simp [results, Tryz.results98, go_sem]) rfl ⟨rfl, ?_, ?_⟩
  · have := ((((show Cel w sb _ _ from h).set 1 (.int .i64 3)).set 2 (.string ⟨#[]⟩)).set 4 (.bool true))
    simp at this
    exact this
  · exact gb_set (gb_set (gb_set (gb_drewN (gb_refl _ _) _) _ _) _ _) _ _
theorem is_end (sb x y : Nat) (s : ByteArray) (a n : Int) (wd : ByteArray) (w : World) (h : Scn w sb x y a wd n true) : Calls Tryz.prog 97 #[.pointer (some ⟨sb, 0, none⟩), .string s] w (RetS (.bool false) w) := by
  have c0 := h.cell 0
  have c1 := h.cell 1
  have c2 := h.cell 2
  have c3 := h.cell 3
  have c4 := h.cell 4
  have f1 := h.free 1
  have f2 := h.free 2
  have f3 := h.free 3
  have f4 := h.free 4
  have sl : sb < w.heap.size := h.lt
  have hts : (tx x y).size = 3 := rfl
  simp at c0 c1 c2 c3 c4
  go_enter Tryz.func97, Tryz.ntmps97
  go_wp2
  go_ret
  exact ⟨rfl, rfl⟩
theorem par_dg {x : Nat} (h1 : 1 ≤ x) (h2 : x ≤ 6) : Num.parN (dg x).data.toList = x ∧ Num.parE (dg x).data.toList = 0 := by
  rcases six h1 h2 with rfl | rfl | rfl | rfl | rfl | rfl <;> decide
theorem parse_dg {x : Nat} (h1 : 1 ≤ x) (h2 : x ≤ 6) (w : World) : Calls Tryz.prog 150 #[.string (dg x)] w (RetS (.tuple #[.int .i64 x, .int .i64 0]) w) := by
  have := Parse_any (dg x) w (by show (1 : Nat) ≤ _; decide)
  unfold parV at this
  rw [(par_dg h1 h2).1, (par_dg h1 h2).2] at this
  exact this
theorem dg_ne {x : Nat} (h1 : 1 ≤ x) (h2 : x ≤ 6) : (dg x).toList.isEmpty = false ∧ (((dg x)[0]'(show 0 < _ from Nat.one_pos)).toNat : Int) ≠ 45 := by
  rcases six h1 h2 with rfl | rfl | rfl | rfl | rfl | rfl <;> exact ⟨by kernel_rfl, by decide⟩
set_option maxRecDepth 100000 in
theorem num_1 (sb x y : Nat) (w : World) (h1 : 1 ≤ x) (h2 : x ≤ 6) (h : Scn w sb x y 0 (dg x) 1 false) : Calls Tryz.prog 127 #[.pointer (some ⟨sb, 0, none⟩)] w (RetS (.tuple #[.int .i64 x, .bool true]) w) := by
  have c0 := h.cell 0
  have c1 := h.cell 1
  have c2 := h.cell 2
  have c3 := h.cell 3
  have c4 := h.cell 4
  have f1 := h.free 1
  have f2 := h.free 2
  have f3 := h.free 3
  have f4 := h.free 4
  have sl : sb < w.heap.size := h.lt
  have hts : (tx x y).size = 3 := rfl
  simp at c0 c1 c2 c3 c4
  have hz : (dg x).size = 1 := rfl
  obtain ⟨he, hb⟩ := dg_ne h1 h2
  have hb2 : ((((dg x)[0]'(show 0 < _ from Nat.one_pos)).toNat : Int) == 45) = false := by simpa using hb
  clear hb
  go_enter Tryz.func127, Tryz.ntmps127
  go_wp2_with (go_at_call 150; (with_reducible refine (parse_dg h1 h2 _).mono ?_); rintro e w' ⟨rfl, rfl⟩)
  go_ret2
  exact ⟨rfl, rfl⟩
set_option maxRecDepth 100000 in
theorem num_2 (sb x y : Nat) (w : World) (h1 : 1 ≤ y) (h2 : y ≤ 6) (h : Scn w sb x y 2 (dg y) 3 false) : Calls Tryz.prog 127 #[.pointer (some ⟨sb, 0, none⟩)] w (RetS (.tuple #[.int .i64 y, .bool true]) w) := by
  have c0 := h.cell 0
  have c1 := h.cell 1
  have c2 := h.cell 2
  have c3 := h.cell 3
  have c4 := h.cell 4
  have f1 := h.free 1
  have f2 := h.free 2
  have f3 := h.free 3
  have f4 := h.free 4
  have sl : sb < w.heap.size := h.lt
  have hts : (tx x y).size = 3 := rfl
  simp at c0 c1 c2 c3 c4
  have hz : (dg y).size = 1 := rfl
  obtain ⟨he, hb⟩ := dg_ne h1 h2
  have hb2 : ((((dg y)[0]'(show 0 < _ from Nat.one_pos)).toNat : Int) == 45) = false := by simpa using hb
  clear hb
  go_enter Tryz.func127, Tryz.ntmps127
  go_wp2_with (go_at_call 150; (with_reducible refine (parse_dg h1 h2 _).mono ?_); rintro e w' ⟨rfl, rfl⟩)
  go_ret2
  exact ⟨rfl, rfl⟩
theorem num_end (sb x y : Nat) (a n : Int) (wd : ByteArray) (w : World) (h : Scn w sb x y a wd n true) : Calls Tryz.prog 127 #[.pointer (some ⟨sb, 0, none⟩)] w (RetS (.tuple #[.int .i64 0, .bool false]) w) := by
  have c0 := h.cell 0
  have c1 := h.cell 1
  have c2 := h.cell 2
  have c3 := h.cell 3
  have c4 := h.cell 4
  have f1 := h.free 1
  have f2 := h.free 2
  have f3 := h.free 3
  have f4 := h.free 4
  have sl : sb < w.heap.size := h.lt
  have hts : (tx x y).size = 3 := rfl
  simp at c0 c1 c2 c3 c4
  go_enter Tryz.func127, Tryz.ntmps127
  go_wp2
  go_ret2
  exact ⟨rfl, rfl⟩
end Go.Proofs.YtnnocbelgfhecaaGreatDoor
