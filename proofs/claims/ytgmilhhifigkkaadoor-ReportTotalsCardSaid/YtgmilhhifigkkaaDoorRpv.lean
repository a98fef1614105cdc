/- The report of totals: the program's. -/
import Derived.Test.YtgmilhhifigkkaaDoorRph
import Derived.Laws.Rows
import Derived.Lib.SmallJoins
namespace Go.Lott.Rp
def tnL : List (List UInt8) := [[115, 97, 108, 101, 115], [99, 97, 110, 99, 101, 108, 115], [97, 100, 100, 111, 110, 115], [105, 110, 115, 116, 97, 110, 116, 115], [114, 101, 116, 117, 114, 110, 115], [102, 117, 110, 100, 115], [114, 101, 115, 101, 114, 118, 101], [112, 114, 105, 122, 101, 115], [99, 97, 114, 114, 105, 101, 100], [98, 114, 101, 97, 107, 97, 103, 101], [99, 108, 97, 105, 109, 101, 100], [101, 120, 112, 105, 114, 101, 100], [116, 97, 120], [111, 102, 102, 115, 101, 116], [110, 101, 116], [99, 111, 109, 109, 105, 115, 115, 105, 111, 110], [100, 117, 101]]
def tnW (k : Nat) : List UInt8 := tnL.getD k []
/-- The first k lines of the report of totals. -/
def totT (z : Nat → Int) : Nat → List UInt8
  | 0 => []
  | k + 1 => totT z k ++ ln (tnW k) [amT (z k)]
theorem tnW_len (k : Nat) : (tnW k).length ≤ 10 := by
  rcases Nat.lt_or_ge k 17 with h | h
  · have : ∀ k, k < 17 → (tnW k).length ≤ 10 := by decide
    exact this k h
  · unfold tnW; rw [List.getD_eq_getElem?_getD, List.getElem?_eq_none (by simpa [tnL] using h)]; simp
end Go.Lott.Rp
namespace Go.Proofs.YtgmilhhifigkkaaDoor
open Go.ChangeShapes Go.WideShapes Go.ChangeAt Go.RowKit Go.Lott
open Go.Lott.Mny Go.Lott.Rp
def tnB (k : Nat) : ByteArray := ⟨(tnW k).toArray⟩
theorem tnB_list (k : Nat) : (tnB k).data.toList = tnW k := by simp [tnB]
theorem tnB_size (k : Nat) : (tnB k).size ≤ 10 := by
  have := tnW_len k
  rw [← tnB_list] at this
  simpa using this
def tnA : Array Value := (tnL.map fun l => Value.string ⟨l.toArray⟩).toArray
theorem tnA_size : tnA.size = 17 := rfl
theorem tnA_get (k : Nat) (h : k < 17) : tnA[k]? = some (.string (tnB k)) := by
  have : ∀ k, k < 17 → tnL[k]? = some (tnW k) := by decide
  unfold tnA tnB
  rw [List.getElem?_toArray, List.getElem?_map, this k h]; rfl
/-- The names of the totals stand. -/
def TNs (w : World) : Prop := w.var? Tryd.prog "lottery/report.totalNames" = some tnA
theorem gTN : Tryd.prog.globalNamed "lottery/report.totalNames" = some 0 := by kernel_rfl
theorem TNs.grow {w w' : World} (h : TNs w) (hb : Below w.heap.size w w') : TNs w' := Go.Joins.var_stays gTN h hb (Nat.le_refl _)
theorem TNs.heap {w : World} (h : TNs w) : ∃ t fr, w.heap[0]? = some (.cells tnA t fr) := by
  unfold TNs World.var? at h
  rw [gTN] at h
  simp only [Option.bind_some] at h
  split at h
  · rename_i cs t fr hb
    cases h
    exact ⟨t, fr, hb⟩
  · cases h
theorem tn_index (k : Nat) (h : k < 17) (w : World) : (Instr.index 67 (.agg tnA) (.int .i64 k)).run Tryd.prog w = .ok (.string (tnB k)) w := by
  rcases (show k = 0 ∨ k = 1 ∨ k = 2 ∨ k = 3 ∨ k = 4 ∨ k = 5 ∨ k = 6 ∨ k = 7 ∨ k = 8 ∨ k = 9 ∨ k = 10 ∨ k = 11 ∨ k = 12 ∨ k = 13 ∨ k = 14 ∨ k = 15 ∨ k = 16 by omega) with rfl | rfl | rfl | rfl | rfl | rfl | rfl | rfl | rfl | rfl | rfl | rfl | rfl | rfl | rfl | rfl | rfl <;> kernel_rfl
theorem tot_cell (w : World) (z : Nat → Int) (o1 o3 : Obj) (t : TypeId) (k : Nat) (hk : k < 17) : (((w.alloc o1).alloc (.cells #[.int .i64 (z 0), .int .i64 (z 1), .int .i64 (z 2), .int .i64 (z 3), .int .i64 (z 4), .int .i64 (z 5), .int .i64 (z 6), .int .i64 (z 7), .int .i64 (z 8), .int .i64 (z 9), .int .i64 (z 10), .int .i64 (z 11), .int .i64 (z 12), .int .i64 (z 13), .int .i64 (z 14), .int .i64 (z 15), .int .i64 (z 16)] t)).alloc o3).cell? ⟨w.heap.size + 1, k, none⟩ = some (.int .i64 (z k)) := by
  have h := (Cel.new (w.alloc o1) (fv 17 z) t).alloc o3
  have e : (w.alloc o1).heap.size = w.heap.size + 1 := by simp
  rw [e] at h
  have h2 := h.cell k
  rw [fv_get hk] at h2
  exact h2
theorem tot_start (w : World) (o1 o2 : Obj) (hp : P10 w) : St (w.heap.size + 1 + 1) (w.heap.size + 1 + 1) w (((w.alloc o1).alloc o2).alloc (.cells #[.pointer none, .slice none 0 0] 59)) 0 [] (((w.alloc o1).alloc o2).alloc (.cells #[.pointer none, .slice none 0 0] 59)) := by
  have hf := Pg.fresh ((w.alloc o1).alloc o2)
  exact ⟨by simpa using hf, Below.refl _ _, by simp, by omega, (((Below.refl _ _).alloc (Nat.le_refl _) _).alloc (by simp) _).alloc (by simp; omega) _, hp, by simp⟩
set_option maxHeartbeats 4000000 in
set_option maxRecDepth 100000 in
theorem totals_any (z : Nat → Int) (w : World) (hz : ∀ j, j < 17 → I64 (z j)) (hp : P10 w) (hn : TNs w) :
    Calls Tryd.prog 16 #[.agg #[.int .i64 (z 0), .int .i64 (z 1), .int .i64 (z 2), .int .i64 (z 3), .int .i64 (z 4), .int .i64 (z 5), .int .i64 (z 6), .int .i64 (z 7), .int .i64 (z 8), .int .i64 (z 9), .int .i64 (z 10), .int .i64 (z 11), .int .i64 (z 12), .int .i64 (z 13), .int .i64 (z 14), .int .i64 (z 15), .int .i64 (z 16)]] w (RetB (.string ⟨(totT z 17).toArray⟩) w) := by
  have HZ := Lib.hid hz
  have HS0 := Lib.hid (tot_start w (.cells #[.int .i64 (z 0), .int .i64 (z 1), .int .i64 (z 2), .int .i64 (z 3), .int .i64 (z 4), .int .i64 (z 5), .int .i64 (z 6), .int .i64 (z 7), .int .i64 (z 8), .int .i64 (z 9), .int .i64 (z 10), .int .i64 (z 11), .int .i64 (z 12), .int .i64 (z 13), .int .i64 (z 14), .int .i64 (z 15), .int .i64 (z 16)] 35) (.cells #[.int .i64 (z 0), .int .i64 (z 1), .int .i64 (z 2), .int .i64 (z 3), .int .i64 (z 4), .int .i64 (z 5), .int .i64 (z 6), .int .i64 (z 7), .int .i64 (z 8), .int .i64 (z 9), .int .i64 (z 10), .int .i64 (z 11), .int .i64 (z 12), .int .i64 (z 13), .int .i64 (z 14), .int .i64 (z 15), .int .i64 (z 16)] 66) hp)
  have HC := Lib.hid (tot_cell w z (.cells #[.int .i64 (z 0), .int .i64 (z 1), .int .i64 (z 2), .int .i64 (z 3), .int .i64 (z 4), .int .i64 (z 5), .int .i64 (z 6), .int .i64 (z 7), .int .i64 (z 8), .int .i64 (z 9), .int .i64 (z 10), .int .i64 (z 11), .int .i64 (z 12), .int .i64 (z 13), .int .i64 (z 14), .int .i64 (z 15), .int .i64 (z 16)] 35) (.cells #[.pointer none, .slice none 0 0] 59) 66)
  obtain ⟨tt, fr, hg⟩ := (hn.grow HS0.out.bel).heap
  have HG := Lib.hid hg
  clear hz hp hn hg
  go_enter Tryd.func16, Tryd.ntmps16
  go_wp2_with (with_reducible refine wpList_load_row rfl 67 _ rfl 0 rfl _ _ _ _ HG.out Tryd.underlying67 rfl (by kernel_rfl) ?_)
  go_loopw [45] (fun vi wr => ∃ k : Nat, vi = .int .i64 k ∧ k ≤ 17 ∧ St (w.heap.size + 1 + 1) (w.heap.size + 1 + 1) w (((w.alloc (.cells #[.int .i64 (z 0), .int .i64 (z 1), .int .i64 (z 2), .int .i64 (z 3), .int .i64 (z 4), .int .i64 (z 5), .int .i64 (z 6), .int .i64 (z 7), .int .i64 (z 8), .int .i64 (z 9), .int .i64 (z 10), .int .i64 (z 11), .int .i64 (z 12), .int .i64 (z 13), .int .i64 (z 14), .int .i64 (z 15), .int .i64 (z 16)] 35)).alloc (.cells #[.int .i64 (z 0), .int .i64 (z 1), .int .i64 (z 2), .int .i64 (z 3), .int .i64 (z 4), .int .i64 (z 5), .int .i64 (z 6), .int .i64 (z 7), .int .i64 (z 8), .int .i64 (z 9), .int .i64 (z 10), .int .i64 (z 11), .int .i64 (z 12), .int .i64 (z 13), .int .i64 (z 14), .int .i64 (z 15), .int .i64 (z 16)] 66)).alloc (.cells #[.pointer none, .slice none 0 0] 59)) (40 * k) (totT z k) wr) (fun vi _ => 17 - (intOf vi).toNat)
  case atStart => exact ⟨0, rfl, by omega, HS0.out⟩
  case round =>
    obtain ⟨k, rfl, hk, hs⟩ := hrel
    have HS := Lib.hid hs
    clear hs
    by_cases hlt : k < 17
    · have c0 := HS.out.cell (by omega) (HC.out k hlt)
      obtain ⟨z0, z1⟩ := HZ.out k hlt
      have hix := tn_index k hlt
      have hkI : (k : Int) < 17 := by omega
      go_wp2_with (first
        | (go_at_call 27; refine (amountS (z k) HS.out z0 z1).mono ?_; rintro e w1 ⟨rfl, hs⟩; have HS1 := Lib.hid hs; clear hs)
        | (go_at_call 25; refine (lineA (tnB k) (z k) HS1.out (by have := tnB_size k; omega) (by omega)).mono ?_; rintro e w1 ⟨rfl, hs⟩; have HS2 := Lib.hid hs; clear hs))
      go_roundw
      case rel => exact ⟨k + 1, by go_num, by omega, by have := HS2.out; rw [tnB_list] at this; exact this⟩
      case measure => simp [intOf]; omega
    · obtain rfl : k = 17 := by omega
      have H1 := Lib.hid (st_any _ _ _ _ HS.out.1 (by simp [totT, ln_ne]))
      go_wp2_with (go_at_call 28; refine H1.out.mono ?_; rintro e w1 ⟨rfl, hb⟩; have HZ := Lib.hid (HS.out.bel.trans (hb.mono HS.out.2.2.2.1)); clear hb)
      go_ret
      exact ⟨rfl, HZ.out⟩
end Go.Proofs.YtgmilhhifigkkaaDoor
