/- Lines of one text; what stands between lines; the reference's lines. -/
import Derived.Test.YtgmilhhifigkkaaDoorRpd
import Derived.Test.YtgmilhhifigkkaaDoorAgg
import Derived.Deep.RegionHeld3
import Derived.Deep.DrawnRows
namespace Go.Lott.Rp
open Go.Lib
theorem dec_len : ∀ (k N : Nat), N < 10 ^ (k + 1) → (decDigits N).length ≤ k + 1
  | 0, N, h => by rw [decDigits_one (by simpa using h)]; simp
  | k + 1, N, h => by
    by_cases c : N < 10
    · rw [decDigits_one c]; simp
    · rw [decDigits, dif_neg c, List.length_append]
      have := dec_len k (N / 10) (by rw [Nat.pow_succ] at h; omega)
      simp; omega
theorem itoa_len {n : Int} (h0 : -9223372036854775808 ≤ n) (h1 : n ≤ 9223372036854775807) : (itoa n).length ≤ 20 := by
  have e : (10 : Nat) ^ 19 = 10000000000000000000 := rfl
  unfold itoa
  split
  · have := dec_len 18 n.natAbs (by show _ < 10 ^ 19; omega)
    simp only [List.length_cons]; omega
  · have := dec_len 18 n.toNat (by show _ < 10 ^ 19; omega)
    omega
end Go.Lott.Rp
namespace Go.Proofs.YtgmilhhifigkkaaDoor
open Go.ChangeShapes Go.WideShapes Go.ChangeAt Go.RowKit Go.Lott
open Go.Lott.Mny Go.Lott.Rp
theorem itB_list (n : Int) : (itB n).data.toList = Lib.itoa n := by simp [itB]
theorem itB_size {n : Int} (h0 : -9223372036854775808 ≤ n) (h1 : n ≤ 9223372036854775807) : (itB n).size ≤ 20 := by
  have := itoa_len h0 h1
  rw [← itB_list] at this
  simpa using this
/-- Between two lines: the page in block b holds l, which is no longer than k; below B all stands as in W, where the page was laid; V is the world of the call. -/
def St (B b : Nat) (V W : World) (k : Nat) (l : List UInt8) (w : World) : Prop := Pg B b l w ∧ Below B W w ∧ B ≤ W.heap.size ∧ V.heap.size ≤ B ∧ Below V.heap.size V W ∧ P10 V ∧ l.length ≤ k
section
variable {B b k : Nat} {V W w w1 : World} {l : List UInt8}
theorem St.size (h : St B b V W k l w) : B ≤ w.heap.size := Nat.le_trans h.2.2.1 h.2.1.size
theorem St.bel (h : St B b V W k l w) : Below V.heap.size V w := h.2.2.2.2.1.trans (h.2.1.mono h.2.2.2.1)
theorem St.tab (h : St B b V W k l w) : P10 w := h.2.2.2.2.2.1.grow h.bel
theorem St.len (h : St B b V W k l w) : l.length ≤ k := h.2.2.2.2.2.2
theorem St.call (h : St B b V W k l w) (hb : Below w.heap.size w w1) : St B b V W k l w1 :=
  ⟨h.1.below hb, h.2.1.trans (hb.mono h.size), h.2.2⟩
theorem St.alloc (h : St B b V W k l w) (o : Obj) : St B b V W k l (w.alloc o) := h.call ((Below.refl _ _).alloc (Nat.le_refl _) _)
theorem St.cell (h : St B b V W k l w) {g o : Nat} {v : Value} (hg : g < B) (hc : W.cell? ⟨g, o, none⟩ = some v) : w.cell? ⟨g, o, none⟩ = some v := by
  rw [h.2.1.cell (p := ⟨g, o, none⟩) hg]; exact hc
end
theorem amountS {B b k : Nat} {V W w : World} {l : List UInt8} (n : Int) (h : St B b V W k l w) (h0 : -9223372036854775808 ≤ n) (h1 : n ≤ 9223372036854775807) :
    Calls Tryd.prog 27 #[.int .i64 n] w fun e w' => e = .returned (.string (amB8 n)) ∧ St B b V W k l w' :=
  (amount_any n w h0 h1 h.tab).mono fun _ _ ⟨he, hb⟩ => ⟨he, h.call hb⟩
theorem formatS {B b k : Nat} {V W w : World} {l : List UInt8} (n : Int) (h : St B b V W k l w) (h0 : -9223372036854775808 ≤ n) (h1 : n ≤ 9223372036854775807) :
    Calls Tryd.prog 26 #[.int .i64 n] w fun e w' => e = .returned (.string (itB n)) ∧ St B b V W k l w' :=
  (Format_any n w h0 h1 h.tab).mono fun _ _ ⟨he, hb⟩ => ⟨he, h.call hb⟩
/-- A line of some texts. -/
theorem lineS {B b k : Nat} {V W w : World} {l : List UInt8} (m : Nat) (s : ByteArray) (a : Option Addr) (n cap : Nat) (vs : List ByteArray) (h : St B b V W k l w) (hr : SRow w a vs) (hn : vs.length = n)
    (hm : (ln s.data.toList (bts vs)).length ≤ m) (hk : k + m ≤ 140737488355328) :
    Calls Tryd.prog 25 #[.pointer (some ⟨b, 0, none⟩), .string s, .slice a n cap] w fun e w' => e = .returned (.tuple #[]) ∧ St B b V W (k + m) (l ++ ln s.data.toList (bts vs)) w' :=
  (line_any B b l s a n cap vs w h.1 h.size hr hn (by have := h.len; omega)).mono fun _ _ ⟨he, hpg, hb, hkk⟩ =>
    ⟨he, hpg, h.2.1.trans hb, h.2.2.1, h.2.2.2.1, h.2.2.2.2.1, h.2.2.2.2.2.1, by rw [List.length_append]; have := h.len; omega⟩
/-- A line of one text, out of a row that was just laid. -/
theorem line1 {B b k : Nat} {V W w : World} {l : List UInt8} (m : Nat) (s v : ByteArray) (h : St B b V W k l w) (hm : s.size + v.size + 2 ≤ m) (hk : k + m ≤ 140737488355328) :
    Calls Tryd.prog 25 #[.pointer (some ⟨b, 0, none⟩), .string s, .slice (some ⟨w.heap.size, 0, none⟩) 1 1] (w.alloc (.cells #[.string v] 9)) fun e w' => e = .returned (.tuple #[]) ∧ St B b V W (k + m) (l ++ ln s.data.toList [v.data.toList]) w' :=
  lineS m s _ 1 1 [v] (h.alloc _) (.inr ⟨_, _, rfl, heap_alloc_new w _, fun i u hu => by
    match i, hu with
    | 0, hu => simp at hu; subst hu; rfl⟩) rfl (by
      have e1 : s.data.toList.length = s.size := by simp
      have e2 : v.data.toList.length = v.size := by simp
      rw [ln_len, e1]
      show s.size + (vals [v.data.toList]).length + 1 ≤ m
      unfold vals
      simp [e2]; omega) hk
theorem lineA {B b k : Nat} {V W w : World} {l : List UInt8} (s : ByteArray) (n : Int) (h : St B b V W k l w) (hm : s.size ≤ 13) (hk : k + 40 ≤ 140737488355328) :
    Calls Tryd.prog 25 #[.pointer (some ⟨b, 0, none⟩), .string s, .slice (some ⟨w.heap.size, 0, none⟩) 1 1] (w.alloc (.cells #[.string (amB8 n)] 9)) fun e w' => e = .returned (.tuple #[]) ∧ St B b V W (k + 40) (l ++ ln s.data.toList [amT n]) w' := by
  have h1 := line1 40 s (amB8 n) h (by have := amB8_size n; omega) hk
  rwa [amB8_list] at h1
theorem lineF {B b k : Nat} {V W w : World} {l : List UInt8} (s : ByteArray) (n : Int) (h : St B b V W k l w) (h0 : -9223372036854775808 ≤ n) (h1 : n ≤ 9223372036854775807) (hm : s.size ≤ 13) (hk : k + 40 ≤ 140737488355328) :
    Calls Tryd.prog 25 #[.pointer (some ⟨b, 0, none⟩), .string s, .slice (some ⟨w.heap.size, 0, none⟩) 1 1] (w.alloc (.cells #[.string (itB n)] 9)) fun e w' => e = .returned (.tuple #[]) ∧ St B b V W (k + 40) (l ++ ln s.data.toList [Lib.itoa n]) w' := by
  have h2 := line1 40 s (itB n) h (by have := itB_size h0 h1; omega) hk
  rwa [itB_list] at h2
/-- The reference's line of a word and an amount. -/
def sumB (s : ByteArray) (n : Int) : ByteArray := ⟨(ln s.data.toList [amT n]).toArray⟩
theorem sumB_list (s : ByteArray) (n : Int) : (sumB s n).data.toList = ln s.data.toList [amT n] := by simp [sumB]
theorem sumB_eq (s : ByteArray) (n : Int) : ((s ++ (⟨#[32]⟩ : ByteArray)) ++ amB8 n) ++ (⟨#[10]⟩ : ByteArray) = sumB s n := bytes_of (by
  rw [sumB_list, ln_one]
  simp only [ByteArray.data_append, Array.toList_append, amB8_list, List.append_assoc]
  rfl)
theorem sumB_size (s : ByteArray) (n : Int) : (sumB s n).size ≤ s.size + 27 := by
  rw [← sumB_eq]
  have := amB8_size n
  simp only [ByteArray.size_append]
  show s.size + 1 + (amB8 n).size + 1 ≤ _
  omega
set_option maxHeartbeats 1000000 in
theorem rSum_any (s : ByteArray) (n : Int) (w : World) (hs : s.size ≤ 1000000000) (h0 : -9223372036854775808 ≤ n) (h1 : n ≤ 9223372036854775807) : Calls Tryd.prog 30 #[.string s, .int .i64 n] w (RetB (.string (sumB s n)) w) := by
  have HE := Lib.hid (sumB_eq s n)
  have HA := Lib.hid (rAmount_any n w h0 h1)
  have z1 := amB8_size n
  go_enter Tryd.func30, Tryd.ntmps30
  go_wp2_with (go_at_call 33; refine HA.out.mono ?_; rintro e w1 ⟨rfl, hb1⟩; have HB := Lib.hid hb1; clear hb1)
  go_ret
  exact ⟨ret_str HE.out, HB.out⟩
end Go.Proofs.YtgmilhhifigkkaaDoor
