/- Format of package num and of its reference. -/
import Derived.Test.YtnnocbelgfhecaaGreatDoorNumo
import Derived.Laws.BytesArg
import Derived.Lib.SmallJoins
import Derived.Lib.AppendIntMem
namespace Go.Proofs.YtnnocbelgfhecaaGreatDoor
open Go.ChangeShapes Go.WideShapes Go.ChangeAt Go.RowKit Go.Lott

/-- The library's table of powers of ten is laid. -/
def P10 (w : World) : Prop := Lib.TabIs Tryz.prog w "internal/strconv.uint64pow10" .u64 Lib.pow10Tab
theorem gP10 : Tryz.prog.globalNamed "internal/strconv.uint64pow10" = some 2 := by kernel_rfl
theorem P10.grow {w w' : World} (h : P10 w) (hb : Below w.heap.size w w') : P10 w' := Go.Joins.tab_stays gP10 h hb (Nat.le_refl _)
/-- The decimal number of n. -/
def itB (n : Int) : ByteArray := ⟨(Lib.itoa n).toArray⟩
theorem Itoa_any (n : Int) (w : World) (h0 : -9223372036854775808 ≤ n) (h1 : n ≤ 9223372036854775807) (hp : P10 w) : Calls Tryz.prog 78 #[.int .i64 n] w (RetB (.string (itB n)) w) :=
  (Tryz.strconv_Itoa n h0 h1 w hp).mono fun _ _ ⟨he, k, os, hw⟩ => ⟨he, by rw [hw]; exact Go.Lib.below_grow _ _ (Nat.le_refl _) k os⟩
theorem Format_any (n : Int) (w : World) (h0 : -9223372036854775808 ≤ n) (h1 : n ≤ 9223372036854775807) (hp : P10 w) : Calls Tryz.prog 52 #[.int .i64 n] w (RetB (.string (itB n)) w) := by
  have hbel := Below.refl w.heap.size w
  have HT := Lib.hid hp
  clear hp
  go_enter Tryz.func52, Tryz.ntmps52
  go_wp2_with (go_at_call 78; refine (Itoa_any _ _ h0 h1 (HT.out.grow hbel)).mono ?_; rintro e w1 ⟨rfl, hb1⟩; replace hbel := hbel.trans (hb1.mono hbel.size); clear hb1)
  go_ret
  exact ⟨rfl, hbel⟩
theorem conv1 (a : Int) (w : World) : (convert 75 9 (.slice (some ⟨w.heap.size, 0, none⟩) 1 1)).run Tryz.prog (w.alloc (.cells #[.int .u8 a] 5)) = .ok (.string (strOfNums [a])) (w.alloc (.cells #[.int .u8 a] 5)) :=
  run_convert_bytes_arg _ 75 5 Tryz.underlying75 Tryz.underlying5 _ 0 1 1 [a] rfl (fun i hi => by
    obtain rfl : i = 0 := by simpa using hi
    simp) 9 Tryz.underlying9
theorem strOne_size (a : Int) : (strOfNums [a]).size = 1 := rfl
theorem ret_str {a b : ByteArray} (h : a = b) : Ending.returned (.string a) = .returned (.string b) := by rw [h]
/-- What stands ahead of the digits that are laid. -/
def preD (Z : Nat) : List UInt8 := if Z < 10 then [] else Lib.decDigits (Z / 10)
def FI (N Z : Nat) (b : ByteArray) : Prop := preD Z ++ b.data.toList = Lib.decDigits N
theorem one_list (Z : Nat) : (strOfNums [48 + (Z : Int) % 10]).data.toList = [UInt8.ofNat (48 + Z % 10)] := by
  have e : ((48 : Int) + (Z : Int) % 10).toNat = 48 + Z % 10 := by omega
  simp only [strOfNums, List.map_cons, List.map_nil, e]
theorem FI.start (N : Nat) : FI N N (strOfNums [48 + (N : Int) % 10]) := by
  unfold FI preD
  rw [one_list]
  by_cases h : N < 10
  · rw [if_pos h, Lib.decDigits_one h, Nat.mod_eq_of_lt h]; rfl
  · rw [if_neg h]; conv => rhs; rw [Lib.decDigits, dif_neg h]
theorem FI.next {N Z : Nat} {b : ByteArray} (h : FI N Z b) (hz : 10 ≤ Z) : FI N (Z / 10) (strOfNums [48 + ((Z / 10 : Nat) : Int) % 10] ++ b) := by
  unfold FI at *
  rw [← h, ByteArray.data_append, Array.toList_append, one_list, ← List.append_assoc]
  congr 1
  have e : preD Z = Lib.decDigits (Z / 10) := by unfold preD; rw [if_neg (by omega)]
  rw [e]
  unfold preD
  by_cases h : Z / 10 < 10
  · rw [if_pos h, Lib.decDigits_one h, Nat.mod_eq_of_lt h]; rfl
  · rw [if_neg h]; conv => rhs; rw [Lib.decDigits, dif_neg h]
theorem FI.done {N Z : Nat} {b : ByteArray} (h : FI N Z b) (hz : Z < 10) : b.data.toList = Lib.decDigits N := by
  unfold FI preD at h; rw [if_pos hz] at h; exact h
theorem bytes_of {a b : ByteArray} (h : a.data.toList = b.data.toList) : a = b := by
  cases a; cases b; simp only [Array.toList_inj] at h; rw [h]
theorem it_pos {n : Int} {N : Nat} {b : ByteArray} (hn : ¬ n < 0) (h : Num.ab n = (N : Int)) (hb : b.data.toList = Lib.decDigits N) : b = itB n := by
  refine bytes_of ?_
  unfold itB Lib.itoa
  rw [if_neg hn, hb]
  unfold Num.ab at h; rw [if_neg hn] at h; subst h; rfl
theorem it_neg {n : Int} {N : Nat} {b : ByteArray} (hn : n < 0) (h : Num.ab n = (N : Int)) (hb : b.data.toList = Lib.decDigits N) : (⟨#[45]⟩ : ByteArray) ++ b = itB n := by
  refine bytes_of ?_
  unfold itB Lib.itoa
  rw [if_pos hn, ByteArray.data_append, Array.toList_append, hb]
  unfold Num.ab at h; rw [if_pos hn] at h
  rw [show n.natAbs = N by omega]; rfl
def Lt20 (Z k : Nat) : Prop := Z < 10 ^ (20 - k)
theorem Lt20.next {Z k : Nat} (h : Lt20 Z k) (hk : k < 20) : Lt20 (Z / 10) (k + 1) := by
  unfold Lt20 at *
  rw [show 20 - k = (20 - (k + 1)) + 1 by omega, Nat.pow_succ] at h
  omega
theorem Lt20.small {Z k : Nat} (h : Lt20 Z k) (hz : 10 ≤ Z) (hk : k ≤ 20) : k < 20 := by
  rcases Nat.lt_or_ge k 20 with c | c
  · exact c
  · obtain rfl : k = 20 := by omega
    unfold Lt20 at h; simp at h; omega
end Go.Proofs.YtnnocbelgfhecaaGreatDoor
