/- The report of a draw: the reference's, its pieces. -/
import Derived.Test.YtgmilhhifigkkaaDoorRoh
import Derived.Deep.CutRange
namespace Go.Proofs.YtgmilhhifigkkaaDoor
open Go.ChangeShapes Go.WideShapes Go.ChangeAt Go.RowKit Go.Lott
open Go.Lott.Mny Go.Lott.Rp
theorem nums_numsT (n : Nat) (z : Nat → Int) : nums n z = numsT n z := rfl
def someB (s : ByteArray) (n : Nat) (z : Nat → Int) : ByteArray := ⟨(someT s.data.toList n z).toArray⟩
theorem someB_list (s : ByteArray) (n : Nat) (z : Nat → Int) : (someB s n z).data.toList = someT s.data.toList n z := by simp [someB]
theorem someB_zero (s : ByteArray) (z : Nat → Int) : ByteArray.empty = someB s 0 z := bytes_of (by rw [someB_list]; rfl)
theorem someB_pos (s : ByteArray) {n : Nat} (z : Nat → Int) (h : 0 < n) : listB s n z = someB s n z := bytes_of (by
  rw [someB_list, listB_list, nums_numsT]; unfold someT; rw [if_neg (by omega)])
theorem someB_size (s : ByteArray) (n : Nat) (z : Nat → Int) (hz : ∀ i, i < n → I64 (z i)) : (someB s n z).size ≤ s.size + 21 * n + 1 := by
  rcases Nat.eq_zero_or_pos n with h | h
  · subst h; rw [← someB_zero]; show 0 ≤ _; omega
  · rw [← someB_pos s z h]; exact listB_size s n z hz
set_option maxHeartbeats 1000000 in
theorem rSome_any (s : ByteArray) (a : Option Addr) (n cap : Nat) (z : Nat → Int) (w : World) (hs : s.size ≤ 1000000000) (hn : n ≤ 1000000000) (hr : NRow w a n z) :
    Calls Tryd.prog 36 #[.string s, .slice a n cap] w (RetB (.string (someB s n z)) w) := by
  rcases Nat.eq_zero_or_pos n with h | h
  · subst h
    have HE := Lib.hid (someB_zero s z)
    clear hr
    go_enter Tryd.func36, Tryd.ntmps36
    go_wp2
    go_ret
    exact ⟨ret_str HE.out, Below.refl _ _⟩
  · have HE := Lib.hid (someB_pos s z h)
    have HL := Lib.hid (rList_any s a n cap z w hs hn hr.1 hr.2)
    have hI : ((n : Int) == 0) = false := by rw [beq_eq_false_iff_ne]; omega
    clear hr
    go_enter Tryd.func36, Tryd.ntmps36
    go_wp2_with (go_at_call 29; (with_reducible refine HL.out.mono ?_); rintro e w1 ⟨rfl, hb1⟩; have HB := Lib.hid hb1; clear hb1)
    go_ret
    exact ⟨ret_str HE.out, HB.out⟩
/-- A text that is known by its bytes. -/
def Tx (x : ByteArray) (l : List UInt8) (m : Nat) : Prop := x.data.toList = l ∧ x.size ≤ m
theorem Tx.size {x : ByteArray} {l : List UInt8} {m : Nat} (h : Tx x l m) : x.size ≤ m := h.2
theorem Tx.list {x : ByteArray} {l : List UInt8} {m : Nat} (h : Tx x l m) : x.data.toList = l := h.1
theorem Tx.app {x y : ByteArray} {l r : List UInt8} {m k : Nat} (h : Tx x l m) (h' : Tx y r k) : Tx (x ++ y) (l ++ r) (m + k) :=
  ⟨by rw [ByteArray.data_append, Array.toList_append, h.1, h'.1], by rw [ByteArray.size_append]; have := h.2; have := h'.2; omega⟩
theorem Tx.cast {x : ByteArray} {l r : List UInt8} {m k : Nat} (h : Tx x l m) (e : l = r) (hk : m ≤ k) : Tx x r k := ⟨h.1.trans e, Nat.le_trans h.2 hk⟩
theorem Tx.lit (l : List UInt8) : Tx ⟨l.toArray⟩ l l.length := ⟨by simp, by show l.toArray.size ≤ _; simp⟩
theorem Tx.self (s : ByteArray) : Tx s s.data.toList s.size := ⟨rfl, Nat.le_refl _⟩
theorem Tx.itB {n : Int} (h : I64 n) : Tx (itB n) (Lib.itoa n) 20 := ⟨itB_list n, itB_size h.1 h.2⟩
theorem Tx.amB (n : Int) : Tx (amB8 n) (amT n) 15 := ⟨amB8_list n, amB8_size15 n⟩
theorem Tx.sum (w : List UInt8) (n : Int) (hw : w.length ≤ 20) : Tx (sumB ⟨w.toArray⟩ n) (ln w [amT n]) 60 :=
  ⟨by rw [sumB_list], Nat.le_trans (sumB_size _ _) (by show w.toArray.size + 27 ≤ 60; simp; omega)⟩
theorem Tx.nlist (w : List UInt8) (n : Nat) (z : Nat → Int) (hw : w.length ≤ 20) (hn : n ≤ 50) (hz : ∀ i, i < n → I64 (z i)) : Tx (listB ⟨w.toArray⟩ n z) (ln w (numsT n z)) 1100 :=
  ⟨by rw [listB_list, nums_numsT], Nat.le_trans (listB_size _ _ _ hz) (by show w.toArray.size + 21 * n + 1 ≤ 1100; simp; omega)⟩
theorem Tx.some (w : List UInt8) (n : Nat) (z : Nat → Int) (hw : w.length ≤ 20) (hn : n ≤ 50) (hz : ∀ i, i < n → I64 (z i)) : Tx (someB ⟨w.toArray⟩ n z) (someT w n z) 1100 :=
  ⟨by rw [someB_list], Nat.le_trans (someB_size _ _ _ hz) (by show w.toArray.size + 21 * n + 1 ≤ 1100; simp; omega)⟩
end Go.Proofs.YtgmilhhifigkkaaDoor
