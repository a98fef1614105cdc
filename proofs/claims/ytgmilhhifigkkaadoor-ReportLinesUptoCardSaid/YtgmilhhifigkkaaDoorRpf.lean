/- The report of a settlement: the program's. -/
import Derived.Test.YtgmilhhifigkkaaDoorRpe
namespace Go.Lott.Rp
def stT (t a b c d e : Int) : List UInt8 := [] ++ ln wSet [Lib.itoa t] ++ ln wSales [amT a] ++ ln wRef [amT b] ++ ln wCash [amT c] ++ ln wCom [amT d] ++ ln wDue [amT e]
theorem stT_eq (t a b c d e : Int) : stT t a b c d e = setT t a b c d e := by unfold stT setT; simp only [List.nil_append, List.append_assoc]
theorem ln_ne (w : List UInt8) (V : List (List UInt8)) : ln w V ≠ [] := by unfold ln; simp
end Go.Lott.Rp
namespace Go.Proofs.YtgmilhhifigkkaaDoor
open Go.ChangeShapes Go.WideShapes Go.ChangeAt Go.RowKit Go.Lott
open Go.Lott.Mny Go.Lott.Rp
def setB (t a b c d e : Int) : ByteArray := ⟨(setT t a b c d e).toArray⟩
theorem setB_list (t a b c d e : Int) : (setB t a b c d e).data.toList = setT t a b c d e := by simp [setB]
set_option maxHeartbeats 4000000 in
set_option maxRecDepth 100000 in
theorem settl_any (t a b c d e : Int) (w : World) (ht : I64 t) (ha : I64 a) (hb : I64 b) (hc : I64 c) (hd : I64 d) (he : I64 e) (hp : P10 w) :
    Calls Tryd.prog 9 #[.int .i64 t, .agg #[.int .i64 a, .int .i64 b, .int .i64 c, .int .i64 d, .int .i64 e]] w (RetB (.string (setB t a b c d e)) w) := by
  obtain ⟨t0, t1⟩ := ht
  obtain ⟨a0, a1⟩ := ha
  obtain ⟨b0, b1⟩ := hb
  obtain ⟨c0, c1⟩ := hc
  obtain ⟨d0, d1⟩ := hd
  obtain ⟨e0, e1⟩ := he
  have HS : Hid (St (w.heap.size + 1) (w.heap.size + 1) w ((w.alloc (.cells #[.int .i64 a, .int .i64 b, .int .i64 c, .int .i64 d, .int .i64 e] 23)).alloc (.cells #[.pointer none, .slice none 0 0] 59)) 0 [] ((w.alloc (.cells #[.int .i64 a, .int .i64 b, .int .i64 c, .int .i64 d, .int .i64 e] 23)).alloc (.cells #[.pointer none, .slice none 0 0] 59))) := by
    have hf := Pg.fresh (w.alloc (.cells #[.int .i64 a, .int .i64 b, .int .i64 c, .int .i64 d, .int .i64 e] 23))
    exact ⟨by simpa using hf, Below.refl _ _, by simp, by simp, ((Below.refl _ _).alloc (Nat.le_refl _) _).alloc (by simp) _, hp, by simp⟩
  have HC := Lib.hid (fun k l w1 (h : St (w.heap.size + 1) (w.heap.size + 1) w ((w.alloc (.cells #[.int .i64 a, .int .i64 b, .int .i64 c, .int .i64 d, .int .i64 e] 23)).alloc (.cells #[.pointer none, .slice none 0 0] 59)) k l w1) =>
    (⟨h.cell (g := w.heap.size) (o := 0) (v := .int .i64 a) (by omega) (by simp), h.cell (g := w.heap.size) (o := 1) (v := .int .i64 b) (by omega) (by simp), h.cell (g := w.heap.size) (o := 2) (v := .int .i64 c) (by omega) (by simp), h.cell (g := w.heap.size) (o := 3) (v := .int .i64 d) (by omega) (by simp), h.cell (g := w.heap.size) (o := 4) (v := .int .i64 e) (by omega) (by simp)⟩ :
      w1.cell? ⟨w.heap.size, 0, none⟩ = some (.int .i64 a) ∧ w1.cell? ⟨w.heap.size, 1, none⟩ = some (.int .i64 b) ∧ w1.cell? ⟨w.heap.size, 2, none⟩ = some (.int .i64 c) ∧ w1.cell? ⟨w.heap.size, 3, none⟩ = some (.int .i64 d) ∧ w1.cell? ⟨w.heap.size, 4, none⟩ = some (.int .i64 e)))
  clear hp
  go_enter Tryd.func9, Tryd.ntmps9
  go_wp2_with (first | (go_at_call 26; refine (formatS _ HS.out (by omega) (by omega)).mono ?_; rintro e w1 ⟨rfl, hs⟩; replace HS := Lib.hid hs; clear hs) | (go_at_call 27; refine (amountS _ HS.out (by omega) (by omega)).mono ?_; rintro e w1 ⟨rfl, hs⟩; replace HS := Lib.hid hs; clear hs) | (go_at_call 25; refine (lineF _ _ HS.out (by omega) (by omega) (by decide) (by omega)).mono ?_; rintro e w1 ⟨rfl, hs⟩; replace HS := Lib.hid hs; clear hs; obtain ⟨d0, d1, d2, d3, d4⟩ := HC.out _ _ _ HS.out) | (go_at_call 25; refine (lineA _ _ HS.out (by decide) (by omega)).mono ?_; rintro e w1 ⟨rfl, hs⟩; replace HS := Lib.hid hs; clear hs; obtain ⟨d0, d1, d2, d3, d4⟩ := HC.out _ _ _ HS.out) | (go_at_call 28; refine (st_any _ _ _ _ HS.out.1 (by simp [ln_ne])).mono ?_; rintro e w1 ⟨rfl, hs⟩; have HZ := Lib.hid (HS.out.bel.trans (hs.mono HS.out.2.2.2.1)); clear hs))
  go_ret
  exact ⟨ret_str rfl, HZ.out⟩
theorem setB_eq (t a b c d e : Int) : (((((⟨(ln wSet [Lib.itoa t]).toArray⟩ : ByteArray) ++ sumB ⟨#[115, 97, 108, 101, 115]⟩ a) ++ sumB ⟨#[114, 101, 102, 117, 110, 100, 115]⟩ b) ++ sumB ⟨#[99, 97, 115, 104, 101, 100]⟩ c) ++ sumB ⟨#[99, 111, 109, 109, 105, 115, 115, 105, 111, 110]⟩ d) ++ sumB ⟨#[100, 117, 101]⟩ e = setB t a b c d e := bytes_of (by
  rw [setB_list, ← stT_eq]
  simp only [ByteArray.data_append, Array.toList_append, sumB_list]
  rfl)
/-- The reference's line of a word and numbers. -/
def nums (n : Nat) (z : Nat → Int) : List (List UInt8) := (List.range n).map fun i => Lib.itoa (z i)
theorem nums_zero (z : Nat → Int) : nums 0 z = [] := rfl
theorem nums_succ (n : Nat) (z : Nat → Int) : nums (n + 1) z = nums n z ++ [Lib.itoa (z n)] := by simp [nums, List.range_succ]
theorem nums_vals_len (z : Nat → Int) (n : Nat) (hz : ∀ i, i < n → I64 (z i)) : (vals (nums n z)).length ≤ 21 * n := by
  induction n with
  | zero => simp [nums, vals]
  | succ n ih =>
    rw [nums_succ, vals_snoc, List.length_append, List.length_cons]
    have h1 := ih fun i hi => hz i (by omega)
    have h2 := itoa_len (hz n (by omega)).1 (hz n (by omega)).2
    omega
def preB (s : ByteArray) (n : Nat) (z : Nat → Int) : ByteArray := ⟨(s.data.toList ++ vals (nums n z)).toArray⟩
theorem preB_list (s : ByteArray) (n : Nat) (z : Nat → Int) : (preB s n z).data.toList = s.data.toList ++ vals (nums n z) := by simp [preB]
theorem preB_zero (s : ByteArray) (z : Nat → Int) : s = preB s 0 z := bytes_of (by rw [preB_list, nums_zero]; simp [vals])
theorem preB_succ (s : ByteArray) (n : Nat) (z : Nat → Int) : (preB s n z ++ (⟨#[32]⟩ : ByteArray)) ++ itB (z n) = preB s (n + 1) z := bytes_of (by
  simp only [ByteArray.data_append, Array.toList_append, preB_list, itB_list, nums_succ, vals_snoc, List.append_assoc]
  rfl)
def listB (s : ByteArray) (n : Nat) (z : Nat → Int) : ByteArray := ⟨(ln s.data.toList (nums n z)).toArray⟩
theorem listB_list (s : ByteArray) (n : Nat) (z : Nat → Int) : (listB s n z).data.toList = ln s.data.toList (nums n z) := by simp [listB]
theorem listB_eq (s : ByteArray) (n : Nat) (z : Nat → Int) : preB s n z ++ (⟨#[10]⟩ : ByteArray) = listB s n z := bytes_of (by
  rw [listB_list, ByteArray.data_append, Array.toList_append, preB_list]; rfl)
theorem preB_size (s : ByteArray) (n : Nat) (z : Nat → Int) (hz : ∀ i, i < n → I64 (z i)) : (preB s n z).size ≤ s.size + 21 * n := by
  have h := nums_vals_len z n hz
  have e : (preB s n z).data.toList.length = s.data.toList.length + (vals (nums n z)).length := by rw [preB_list, List.length_append]
  simp at e
  omega
theorem listB_size (s : ByteArray) (n : Nat) (z : Nat → Int) (hz : ∀ i, i < n → I64 (z i)) : (listB s n z).size ≤ s.size + 21 * n + 1 := by
  rw [← listB_eq]
  have := preB_size s n z hz
  rw [ByteArray.size_append]
  show _ + 1 ≤ _
  omega
set_option maxHeartbeats 1000000 in
theorem rList_any (s : ByteArray) (a : Option Addr) (n cap : Nat) (z : Nat → Int) (w : World) (hs : s.size ≤ 1000000000) (hn : n ≤ 1000000000) (hr : IsRow w a n z) (hz : ∀ i, i < n → I64 (z i)) :
    Calls Tryd.prog 29 #[.string s, .slice a n cap] w (RetB (.string (listB s n z)) w) := by
  have HR := Lib.hid hr
  have HZ := Lib.hid hz
  have H0 := Lib.hid (preB_zero s z)
  clear hr hz
  go_enter Tryd.func29, Tryd.ntmps29
  go_wp2
  go_loopw [0, 5] (fun vs vi wr => ∃ k : Nat, vs = .string (preB s k z) ∧ vi = .int .i64 k ∧ k ≤ n ∧ Below w.heap.size w wr) (fun _ vi _ => n - (intOf vi).toNat)
  case atStart => exact ⟨0, by rw [← H0.out], rfl, by omega, Below.refl _ _⟩
  case round =>
    obtain ⟨k, rfl, rfl, hk, hb⟩ := hrel
    have HB := Lib.hid hb
    have z1 := preB_size s k z (fun i hi => HZ.out i (by omega))
    clear hb
    by_cases hlt : k < n
    · obtain ⟨i0, i1⟩ := HZ.out k hlt
      rcases HR.out.below HB.out (Nat.le_refl _) with h0 | ⟨g, o, ha, hg, hm, hc⟩
      · omega
      · subst ha
        have c0 := hc k hlt
        have z2 := itB_size i0 i1
        have HF := Lib.hid (rFormat_any (z k) wr i0 i1)
        have HE := Lib.hid (preB_succ s k z)
        clear hc
        go_wp2_with (go_at_call 32; refine HF.out.mono ?_; rintro e w1 ⟨rfl, hb1⟩; have HB1 := Lib.hid (HB.out.trans (hb1.mono HB.out.size)); clear hb1)
        go_roundw
        case rel => exact ⟨k + 1, by rw [HE.out], by go_num, hlt, HB1.out⟩
        case measure => simp [intOf]; omega
    · obtain rfl : k = n := by omega
      have HE := Lib.hid (listB_eq s k z)
      go_wp2
      go_ret
      exact ⟨ret_str HE.out, HB.out⟩
end Go.Proofs.YtgmilhhifigkkaaDoor
