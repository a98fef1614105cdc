/- The lines of a result. -/
import Derived.Test.YtgmilhhifigkkaaDoorRoe
namespace Go.Lott.Rp
def wMain : List UInt8 := [109, 97, 105, 110]
def wBonus : List UInt8 := [98, 111, 110, 117, 115]
def wExtra : List UInt8 := [101, 120, 116, 114, 97]
def wFactor : List UInt8 := [102, 97, 99, 116, 111, 114]
def wSerial : List UInt8 := [115, 101, 114, 105, 97, 108]
def numsT (n : Nat) (z : Nat → Int) : List (List UInt8) := (List.range n).map fun i => Lib.itoa (z i)
def someT (w : List UInt8) (n : Nat) (z : Nat → Int) : List UInt8 := if n = 0 then [] else ln w (numsT n z)
def facT (f : Int) : List UInt8 := if f = 0 then [] else ln wFactor [Lib.itoa f]
def serT (s : List UInt8) : List UInt8 := if s = [] then [] else ln wSerial [s]
def resT (n1 : Nat) (z1 : Nat → Int) (n2 : Nat) (z2 : Nat → Int) (n3 : Nat) (z3 : Nat → Int) (f : Int) (s : List UInt8) : List UInt8 :=
  ln wMain (numsT n1 z1) ++ someT wBonus n2 z2 ++ someT wExtra n3 z3 ++ facT f ++ serT s
theorem vals_sum {L : List (List UInt8)} {m : Nat} (h : ∀ x ∈ L, x.length ≤ m) : (vals L).length ≤ L.length * (m + 1) := by
  induction L with
  | nil => simp [vals]
  | cons x L ih =>
    have e : vals (x :: L) = 32 :: x ++ vals L := by unfold vals; rw [List.flatMap_cons]
    have h1 := ih fun y hy => h y (List.mem_cons_of_mem _ hy)
    have h2 := h x (List.mem_cons_self ..)
    rw [e]
    simp only [List.cons_append, List.length_cons, List.length_append, Nat.succ_mul]
    omega
end Go.Lott.Rp
namespace Go.Proofs.YtgmilhhifigkkaaDoor
open Go.ChangeShapes Go.WideShapes Go.ChangeAt Go.RowKit Go.Lott
open Go.Lott.Mny Go.Lott.Rp
theorem bts_tx (f : Int → ByteArray) (z : Nat → Int) (n : Nat) : bts (tx f z n) = (List.range n).map fun i => (f (z i)).data.toList := by simp [bts, tx]
theorem bts_itB (z : Nat → Int) (n : Nat) : bts (tx itB z n) = numsT n z := by rw [bts_tx]; simp [numsT, itB_list]
theorem bts_amB (z : Nat → Int) (n : Nat) : bts (tx amB8 z n) = (List.range n).map fun i => amT (z i) := by rw [bts_tx]; simp [amB8_list]
theorem numsT_len {n : Nat} {z : Nat → Int} (hn : n ≤ 50) (hz : ∀ i, i < n → I64 (z i)) (w : List UInt8) (hw : w.length ≤ 20) : (ln w (numsT n z)).length ≤ 1100 := by
  have h := vals_sum (L := numsT n z) (m := 20) (fun x hx => by
    unfold numsT at hx
    obtain ⟨i, hi, rfl⟩ := List.mem_map.1 hx
    have := hz i (List.mem_range.1 hi)
    exact itoa_len this.1 this.2)
  have e : (numsT n z).length = n := by simp [numsT]
  rw [ln_len]
  rw [e] at h
  omega
theorem amsT_len {n : Nat} {z : Nat → Int} (hn : n ≤ 50) (w : List UInt8) (hw : w.length ≤ 20) : (ln w ((List.range n).map fun i => amT (z i))).length ≤ 1100 := by
  have h := vals_sum (L := (List.range n).map fun i => amT (z i)) (m := 20) (fun x hx => by
    obtain ⟨i, hi, rfl⟩ := List.mem_map.1 hx
    have := amT_size15 (z i)
    omega)
  have e : ((List.range n).map fun i => amT (z i)).length = n := by simp
  rw [ln_len]
  rw [e] at h
  omega
/-- A page between two lines, and a box of another type beside it. -/
def St2 (B b : Nat) (V W : World) (k : Nat) (l : List UInt8) (b0 : Nat) (cs : Array Value) (T : TypeId) (w : World) : Prop := St B b V W k l w ∧ Cel w b0 cs T ∧ T ≠ 59 ∧ T ≠ 5
section
variable {B b k : Nat} {V W w w1 : World} {l : List UInt8} {b0 : Nat} {cs : Array Value} {T : TypeId}
theorem St2.call (h : St2 B b V W k l b0 cs T w) (hb : Below w.heap.size w w1) : St2 B b V W k l b0 cs T w1 := ⟨h.1.call hb, h.2.1.below hb h.2.1.lt, h.2.2⟩
theorem St2.alloc (h : St2 B b V W k l b0 cs T w) (o : Obj) : St2 B b V W k l b0 cs T (w.alloc o) := h.call ((Below.refl _ _).alloc (Nat.le_refl _) _)
theorem format2 (n : Int) (h : St2 B b V W k l b0 cs T w) (h0 : -9223372036854775808 ≤ n) (h1 : n ≤ 9223372036854775807) :
    Calls Tryd.prog 26 #[.int .i64 n] w fun e w' => e = .returned (.string (itB n)) ∧ St2 B b V W k l b0 cs T w' :=
  (Format_any n w h0 h1 h.1.tab).mono fun _ _ ⟨he, hb⟩ => ⟨he, h.call hb⟩
theorem each2 (a : Option Addr) (n cap : Nat) (z : Nat → Int) (h : St2 B b V W k l b0 cs T w) (hn : n ≤ 50) (hr : NRow w a n z) :
    Calls Tryd.prog 35 #[.slice a n cap, .func (.func 26) #[] #[]] w fun e w' => ∃ a' cap', e = .returned (.slice a' n cap') ∧ SRow w' a' (tx itB z n) ∧ St2 B b V W k l b0 cs T w' :=
  (eachF_any a n cap z w hn hr h.1.tab).mono fun _ _ ⟨a', c', he, hs, hb⟩ => ⟨a', c', he, hs, h.call hb⟩
theorem lineK (m : Nat) (s : ByteArray) (a : Option Addr) (n cap : Nat) (vs : List ByteArray) (h : St2 B b V W k l b0 cs T w) (hr : SRow w a vs) (hn : vs.length = n)
    (hm : (ln s.data.toList (bts vs)).length ≤ m) (hk : k + m ≤ 140737488355328) :
    Calls Tryd.prog 25 #[.pointer (some ⟨b, 0, none⟩), .string s, .slice a n cap] w fun e w' => e = .returned (.tuple #[]) ∧ St2 B b V W (k + m) (l ++ ln s.data.toList (bts vs)) b0 cs T w' := by
  refine (line_any B b l s a n cap vs w h.1.1 h.1.size hr hn (by have := h.1.len; omega)).mono fun _ _ ⟨he, hpg, hb, hkk⟩ => ⟨he, ⟨hpg, h.1.2.1.trans hb, h.1.2.2.1, h.1.2.2.2.1, h.1.2.2.2.2.1, h.1.2.2.2.2.2.1, by rw [List.length_append]; have := h.1.len; omega⟩, ?_, h.2.2⟩
  exact hkk _ _ _ _ h.2.1 h.2.2.1 h.2.2.2
theorem lineK1 (m : Nat) (s v : ByteArray) (h : St2 B b V W k l b0 cs T w) (hm : s.size + v.size + 2 ≤ m) (hk : k + m ≤ 140737488355328) :
    Calls Tryd.prog 25 #[.pointer (some ⟨b, 0, none⟩), .string s, .slice (some ⟨w.heap.size, 0, none⟩) 1 1] (w.alloc (.cells #[.string v] 9)) fun e w' => e = .returned (.tuple #[]) ∧ St2 B b V W (k + m) (l ++ ln s.data.toList [v.data.toList]) b0 cs T w' :=
  lineK m s _ 1 1 [v] (h.alloc _) (.inr ⟨_, _, rfl, heap_alloc_new w _, fun i u hu => by
    match i, hu with
    | 0, hu => simp at hu; subst hu; rfl⟩) rfl (by
      have e1 : s.data.toList.length = s.size := by simp
      have e2 : v.data.toList.length = v.size := by simp
      rw [ln_len, e1]
      show s.size + (vals [v.data.toList]).length + 1 ≤ m
      unfold vals
      simp [e2]; omega) hk
theorem lineKn (s : ByteArray) (a : Option Addr) (n cap : Nat) (z : Nat → Int) (h : St2 B b V W k l b0 cs T w) (hr : SRow w a (tx itB z n)) (hn : n ≤ 50) (hz : ∀ i, i < n → I64 (z i)) (hs : s.size ≤ 20) (hk : k + 1100 ≤ 140737488355328) :
    Calls Tryd.prog 25 #[.pointer (some ⟨b, 0, none⟩), .string s, .slice a n cap] w fun e w' => e = .returned (.tuple #[]) ∧ St2 B b V W (k + 1100) (l ++ ln s.data.toList (numsT n z)) b0 cs T w' := by
  have h1 := lineK 1100 s a n cap (tx itB z n) h hr (tx_len itB z n) (by rw [bts_itB]; exact numsT_len hn hz _ (by simpa using hs)) hk
  rwa [bts_itB] at h1
theorem lineKf (s : ByteArray) (n : Int) (h : St2 B b V W k l b0 cs T w) (h0 : -9223372036854775808 ≤ n) (h1 : n ≤ 9223372036854775807) (hm : s.size ≤ 20) (hk : k + 1100 ≤ 140737488355328) :
    Calls Tryd.prog 25 #[.pointer (some ⟨b, 0, none⟩), .string s, .slice (some ⟨w.heap.size, 0, none⟩) 1 1] (w.alloc (.cells #[.string (itB n)] 9)) fun e w' => e = .returned (.tuple #[]) ∧ St2 B b V W (k + 1100) (l ++ ln s.data.toList [Lib.itoa n]) b0 cs T w' := by
  have h2 := lineK1 1100 s (itB n) h (by have := itB_size h0 h1; omega) hk
  rwa [itB_list] at h2
end
end Go.Proofs.YtgmilhhifigkkaaDoor
