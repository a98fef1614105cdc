/- The lines of a result: the walk. -/
import Derived.Test.YtgmilhhifigkkaaDoorRof
namespace Go.Proofs.YtgmilhhifigkkaaDoor
open Go.ChangeShapes Go.WideShapes Go.ChangeAt Go.RowKit Go.Lott
open Go.Lott.Mny Go.Lott.Rp
theorem St2.st {B b k : Nat} {V W w : World} {l : List UInt8} {b0 : Nat} {cs : Array Value} {T : TypeId} (h : St2 B b V W k l b0 cs T w) : St B b V W k l w := h.1
theorem NRow.bds {w : World} {a : Option Addr} {n : Nat} {z : Nat → Int} (h : NRow w a n z) : ∀ i, i < n → I64 (z i) := h.2
theorem NRow.below {w w1 : World} {a : Option Addr} {n : Nat} {z : Nat → Int} (h : NRow w a n z) (hb : Below w.heap.size w w1) : NRow w1 a n z := ⟨h.1.below hb (Nat.le_refl _), h.2⟩
theorem st2_cells {B b k : Nat} {V W w : World} {l : List UInt8} {b0 : Nat} {v0 v1 v2 v3 v4 : Value} {T : TypeId} (h : St2 B b V W k l b0 #[v0, v1, v2, v3, v4] T w) :
    w.cell? ⟨b0, 0, none⟩ = some v0 ∧ w.cell? ⟨b0, 1, none⟩ = some v1 ∧ w.cell? ⟨b0, 2, none⟩ = some v2 ∧ w.cell? ⟨b0, 3, none⟩ = some v3 ∧ w.cell? ⟨b0, 4, none⟩ = some v4 :=
  ⟨h.2.1.cell 0, h.2.1.cell 1, h.2.1.cell 2, h.2.1.cell 3, h.2.1.cell 4⟩
theorem resT_ne_nil {s : ByteArray} (h : 0 < s.size) : s.data.toList ≠ [] := fun c => by
  have e : s.data.toList.length = s.size := by simp
  rw [c] at e
  exact absurd e (by show ¬ (0 = s.size); omega)
theorem wSer_size : (⟨#[115, 101, 114, 105, 97, 108]⟩ : ByteArray).size = 6 := rfl

set_option maxHeartbeats 4000000 in
set_option maxRecDepth 100000 in
theorem res0000 (B b k : Nat) (l : List UInt8) (V W w : World) (a1 : Option Addr) (n1 c1 : Nat) (z1 : Nat → Int) (a2 : Option Addr) (n2 c2 : Nat) (z2 : Nat → Int) (a3 : Option Addr) (n3 c3 : Nat) (z3 : Nat → Int) (f : Int) (s : ByteArray) (h : St B b V W k l w) (hk : k + s.size + 10000 ≤ 140737488355328) (hn1 : n1 ≤ 50) (hn2 : n2 ≤ 50) (hn3 : n3 ≤ 50) (hr1 : NRow V a1 n1 z1) (hr2 : NRow V a2 n2 z2) (hr3 : NRow V a3 n3 z3) (hf : I64 f) (k2 : n2 = 0) (k3 : n3 = 0) (kf : f = 0) (ks : s.size = 0) :
    Calls Tryd.prog 34 #[.pointer (some ⟨b, 0, none⟩), .agg #[.slice a1 n1 c1, .slice a2 n2 c2, .slice a3 n3 c3, .int .i64 f, .string s]] w fun e w' => e = .returned (.tuple #[]) ∧ St B b V W (k + s.size + 10000) (l ++ resT n1 z1 n2 z2 n3 z3 f s.data.toList) w' := by
  obtain ⟨f0, f1⟩ := hf
  have HR1 := Lib.hid hr1
  have HR2 := Lib.hid hr2
  have HR3 := Lib.hid hr3
  have HS : Hid (St2 B b V W k l w.heap.size #[.slice a1 n1 c1, .slice a2 n2 c2, .slice a3 n3 c3, .int .i64 f, .string s] 43 (w.alloc (.cells #[.slice a1 n1 c1, .slice a2 n2 c2, .slice a3 n3 c3, .int .i64 f, .string s] 43))) := Lib.hid ⟨h.alloc _, Cel.new _ _ _, by decide, by decide⟩
  have HE : Hid (l ++ ln wMain (numsT n1 z1) = l ++ resT n1 z1 n2 z2 n3 z3 f s.data.toList) := Lib.hid (by
    unfold resT someT facT serT
    rw [if_pos k2]
    rw [if_pos k3]
    rw [if_pos kf]
    rw [empty_of ks]; rw [if_pos (by rfl)]
    simp)
  clear h hr1 hr2 hr3
  subst k2
  subst k3
  subst kf
  obtain rfl := empty_of ks
  clear ks
  go_enter Tryd.func34, Tryd.ntmps34
  have hd := st2_cells HS.out
  obtain ⟨d0, d1, d2, d3, d4⟩ := hd
  go_wp2_with (first | (go_at_call 35; (with_reducible refine (each2 _ _ _ z1 HS.out hn1 (HR1.out.below HS.out.st.bel)).mono ?_); rintro e w1 ⟨a', c', rfl, hsr, hs⟩; replace HS := Lib.hid hs; have HSR := Lib.hid hsr; clear hs hsr) | (go_at_call 25; (with_reducible refine (lineKn _ _ _ _ z1 HS.out HSR.out hn1 HR1.out.bds (by decide) (by omega)).mono ?_); rintro e w1 ⟨rfl, hs⟩; replace HS := Lib.hid hs; clear hs HSR; obtain ⟨d0, d1, d2, d3, d4⟩ := st2_cells HS.out))
  go_end0
  refine ⟨rfl, ?_⟩
  have hh : St B b V W (k + ByteArray.empty.size + 10000) (l ++ ln wMain (numsT n1 z1)) _ := HS.out.1.mono (by omega)
  rw [HE.out] at hh
  exact hh
set_option maxHeartbeats 4000000 in
set_option maxRecDepth 100000 in
theorem res0001 (B b k : Nat) (l : List UInt8) (V W w : World) (a1 : Option Addr) (n1 c1 : Nat) (z1 : Nat → Int) (a2 : Option Addr) (n2 c2 : Nat) (z2 : Nat → Int) (a3 : Option Addr) (n3 c3 : Nat) (z3 : Nat → Int) (f : Int) (s : ByteArray) (h : St B b V W k l w) (hk : k + s.size + 10000 ≤ 140737488355328) (hn1 : n1 ≤ 50) (hn2 : n2 ≤ 50) (hn3 : n3 ≤ 50) (hr1 : NRow V a1 n1 z1) (hr2 : NRow V a2 n2 z2) (hr3 : NRow V a3 n3 z3) (hf : I64 f) (k2 : n2 = 0) (k3 : n3 = 0) (kf : f = 0) (ks : 0 < s.size) :
    Calls Tryd.prog 34 #[.pointer (some ⟨b, 0, none⟩), .agg #[.slice a1 n1 c1, .slice a2 n2 c2, .slice a3 n3 c3, .int .i64 f, .string s]] w fun e w' => e = .returned (.tuple #[]) ∧ St B b V W (k + s.size + 10000) (l ++ resT n1 z1 n2 z2 n3 z3 f s.data.toList) w' := by
  obtain ⟨f0, f1⟩ := hf
  have HR1 := Lib.hid hr1
  have HR2 := Lib.hid hr2
  have HR3 := Lib.hid hr3
  have HS : Hid (St2 B b V W k l w.heap.size #[.slice a1 n1 c1, .slice a2 n2 c2, .slice a3 n3 c3, .int .i64 f, .string s] 43 (w.alloc (.cells #[.slice a1 n1 c1, .slice a2 n2 c2, .slice a3 n3 c3, .int .i64 f, .string s] 43))) := Lib.hid ⟨h.alloc _, Cel.new _ _ _, by decide, by decide⟩
  have ks' := resT_ne_nil ks
  have HE : Hid (l ++ ln wMain (numsT n1 z1) ++ ln wSerial [s.data.toList] = l ++ resT n1 z1 n2 z2 n3 z3 f s.data.toList) := Lib.hid (by
    unfold resT someT facT serT
    rw [if_pos k2]
    rw [if_pos k3]
    rw [if_pos kf]
    rw [if_neg ks']
    simp)
  clear h hr1 hr2 hr3 ks'
  subst k2
  subst k3
  subst kf
  have kse := isE_no ks
  have ksb : (s.toList == []) = false := by cases hh : s.toList with | nil => (rw [hh] at kse; cases kse) | cons x y => rfl
  go_enter Tryd.func34, Tryd.ntmps34
  have hd := st2_cells HS.out
  obtain ⟨d0, d1, d2, d3, d4⟩ := hd
  go_wp2_with (first | (go_at_call 35; (with_reducible refine (each2 _ _ _ z1 HS.out hn1 (HR1.out.below HS.out.st.bel)).mono ?_); rintro e w1 ⟨a', c', rfl, hsr, hs⟩; replace HS := Lib.hid hs; have HSR := Lib.hid hsr; clear hs hsr) | (go_at_call 25; (with_reducible refine (lineKn _ _ _ _ z1 HS.out HSR.out hn1 HR1.out.bds (by decide) (by omega)).mono ?_); rintro e w1 ⟨rfl, hs⟩; replace HS := Lib.hid hs; clear hs HSR; obtain ⟨d0, d1, d2, d3, d4⟩ := st2_cells HS.out) | (go_at_call 25; (with_reducible refine (lineK1 (s.size + 8) _ s HS.out (by rw [wSer_size]; omega) (by omega)).mono ?_); rintro e w1 ⟨rfl, hs⟩; replace HS := Lib.hid hs; clear hs; obtain ⟨d0, d1, d2, d3, d4⟩ := st2_cells HS.out))
  go_end0
  refine ⟨rfl, ?_⟩
  have hh : St B b V W (k + s.size + 10000) (l ++ ln wMain (numsT n1 z1) ++ ln wSerial [s.data.toList]) _ := HS.out.1.mono (by omega)
  rw [HE.out] at hh
  exact hh
set_option maxHeartbeats 4000000 in
set_option maxRecDepth 100000 in
theorem res0010 (B b k : Nat) (l : List UInt8) (V W w : World) (a1 : Option Addr) (n1 c1 : Nat) (z1 : Nat → Int) (a2 : Option Addr) (n2 c2 : Nat) (z2 : Nat → Int) (a3 : Option Addr) (n3 c3 : Nat) (z3 : Nat → Int) (f : Int) (s : ByteArray) (h : St B b V W k l w) (hk : k + s.size + 10000 ≤ 140737488355328) (hn1 : n1 ≤ 50) (hn2 : n2 ≤ 50) (hn3 : n3 ≤ 50) (hr1 : NRow V a1 n1 z1) (hr2 : NRow V a2 n2 z2) (hr3 : NRow V a3 n3 z3) (hf : I64 f) (k2 : n2 = 0) (k3 : n3 = 0) (kf : ¬ f = 0) (ks : s.size = 0) :
    Calls Tryd.prog 34 #[.pointer (some ⟨b, 0, none⟩), .agg #[.slice a1 n1 c1, .slice a2 n2 c2, .slice a3 n3 c3, .int .i64 f, .string s]] w fun e w' => e = .returned (.tuple #[]) ∧ St B b V W (k + s.size + 10000) (l ++ resT n1 z1 n2 z2 n3 z3 f s.data.toList) w' := by
  obtain ⟨f0, f1⟩ := hf
  have HR1 := Lib.hid hr1
  have HR2 := Lib.hid hr2
  have HR3 := Lib.hid hr3
  have HS : Hid (St2 B b V W k l w.heap.size #[.slice a1 n1 c1, .slice a2 n2 c2, .slice a3 n3 c3, .int .i64 f, .string s] 43 (w.alloc (.cells #[.slice a1 n1 c1, .slice a2 n2 c2, .slice a3 n3 c3, .int .i64 f, .string s] 43))) := Lib.hid ⟨h.alloc _, Cel.new _ _ _, by decide, by decide⟩
  have HE : Hid (l ++ ln wMain (numsT n1 z1) ++ ln wFactor [Lib.itoa f] = l ++ resT n1 z1 n2 z2 n3 z3 f s.data.toList) := Lib.hid (by
    unfold resT someT facT serT
    rw [if_pos k2]
    rw [if_pos k3]
    rw [if_neg kf]
    rw [empty_of ks]; rw [if_pos (by rfl)]
    simp)
  clear h hr1 hr2 hr3
  subst k2
  subst k3
  have kfb : (f == 0) = false := by rw [beq_eq_false_iff_ne]; exact kf
  obtain rfl := empty_of ks
  clear ks
  go_enter Tryd.func34, Tryd.ntmps34
  have hd := st2_cells HS.out
  obtain ⟨d0, d1, d2, d3, d4⟩ := hd
  go_wp2_with (first | (go_at_call 35; (with_reducible refine (each2 _ _ _ z1 HS.out hn1 (HR1.out.below HS.out.st.bel)).mono ?_); rintro e w1 ⟨a', c', rfl, hsr, hs⟩; replace HS := Lib.hid hs; have HSR := Lib.hid hsr; clear hs hsr) | (go_at_call 25; (with_reducible refine (lineKn _ _ _ _ z1 HS.out HSR.out hn1 HR1.out.bds (by decide) (by omega)).mono ?_); rintro e w1 ⟨rfl, hs⟩; replace HS := Lib.hid hs; clear hs HSR; obtain ⟨d0, d1, d2, d3, d4⟩ := st2_cells HS.out) | (go_at_call 26; (with_reducible refine (format2 f HS.out f0 f1).mono ?_); rintro e w1 ⟨rfl, hs⟩; replace HS := Lib.hid hs; clear hs) | (go_at_call 25; (with_reducible refine (lineKf _ f HS.out f0 f1 (by decide) (by omega)).mono ?_); rintro e w1 ⟨rfl, hs⟩; replace HS := Lib.hid hs; clear hs; obtain ⟨d0, d1, d2, d3, d4⟩ := st2_cells HS.out))
  go_end0
  refine ⟨rfl, ?_⟩
  have hh : St B b V W (k + ByteArray.empty.size + 10000) (l ++ ln wMain (numsT n1 z1) ++ ln wFactor [Lib.itoa f]) _ := HS.out.1.mono (by omega)
  rw [HE.out] at hh
  exact hh
set_option maxHeartbeats 4000000 in
set_option maxRecDepth 100000 in
theorem res0011 (B b k : Nat) (l : List UInt8) (V W w : World) (a1 : Option Addr) (n1 c1 : Nat) (z1 : Nat → Int) (a2 : Option Addr) (n2 c2 : Nat) (z2 : Nat → Int) (a3 : Option Addr) (n3 c3 : Nat) (z3 : Nat → Int) (f : Int) (s : ByteArray) (h : St B b V W k l w) (hk : k + s.size + 10000 ≤ 140737488355328) (hn1 : n1 ≤ 50) (hn2 : n2 ≤ 50) (hn3 : n3 ≤ 50) (hr1 : NRow V a1 n1 z1) (hr2 : NRow V a2 n2 z2) (hr3 : NRow V a3 n3 z3) (hf : I64 f) (k2 : n2 = 0) (k3 : n3 = 0) (kf : ¬ f = 0) (ks : 0 < s.size) :
    Calls Tryd.prog 34 #[.pointer (some ⟨b, 0, none⟩), .agg #[.slice a1 n1 c1, .slice a2 n2 c2, .slice a3 n3 c3, .int .i64 f, .string s]] w fun e w' => e = .returned (.tuple #[]) ∧ St B b V W (k + s.size + 10000) (l ++ resT n1 z1 n2 z2 n3 z3 f s.data.toList) w' := by
  obtain ⟨f0, f1⟩ := hf
  have HR1 := Lib.hid hr1
  have HR2 := Lib.hid hr2
  have HR3 := Lib.hid hr3
  have HS : Hid (St2 B b V W k l w.heap.size #[.slice a1 n1 c1, .slice a2 n2 c2, .slice a3 n3 c3, .int .i64 f, .string s] 43 (w.alloc (.cells #[.slice a1 n1 c1, .slice a2 n2 c2, .slice a3 n3 c3, .int .i64 f, .string s] 43))) := Lib.hid ⟨h.alloc _, Cel.new _ _ _, by decide, by decide⟩
  have ks' := resT_ne_nil ks
  have HE : Hid (l ++ ln wMain (numsT n1 z1) ++ ln wFactor [Lib.itoa f] ++ ln wSerial [s.data.toList] = l ++ resT n1 z1 n2 z2 n3 z3 f s.data.toList) := Lib.hid (by
    unfold resT someT facT serT
    rw [if_pos k2]
    rw [if_pos k3]
    rw [if_neg kf]
    rw [if_neg ks']
    simp)
  clear h hr1 hr2 hr3 ks'
  subst k2
  subst k3
  have kfb : (f == 0) = false := by rw [beq_eq_false_iff_ne]; exact kf
  have kse := isE_no ks
  have ksb : (s.toList == []) = false := by cases hh : s.toList with | nil => (rw [hh] at kse; cases kse) | cons x y => rfl
  go_enter Tryd.func34, Tryd.ntmps34
  have hd := st2_cells HS.out
  obtain ⟨d0, d1, d2, d3, d4⟩ := hd
  go_wp2_with (first | (go_at_call 35; (with_reducible refine (each2 _ _ _ z1 HS.out hn1 (HR1.out.below HS.out.st.bel)).mono ?_); rintro e w1 ⟨a', c', rfl, hsr, hs⟩; replace HS := Lib.hid hs; have HSR := Lib.hid hsr; clear hs hsr) | (go_at_call 25; (with_reducible refine (lineKn _ _ _ _ z1 HS.out HSR.out hn1 HR1.out.bds (by decide) (by omega)).mono ?_); rintro e w1 ⟨rfl, hs⟩; replace HS := Lib.hid hs; clear hs HSR; obtain ⟨d0, d1, d2, d3, d4⟩ := st2_cells HS.out) | (go_at_call 26; (with_reducible refine (format2 f HS.out f0 f1).mono ?_); rintro e w1 ⟨rfl, hs⟩; replace HS := Lib.hid hs; clear hs) | (go_at_call 25; (with_reducible refine (lineKf _ f HS.out f0 f1 (by decide) (by omega)).mono ?_); rintro e w1 ⟨rfl, hs⟩; replace HS := Lib.hid hs; clear hs; obtain ⟨d0, d1, d2, d3, d4⟩ := st2_cells HS.out) | (go_at_call 25; (with_reducible refine (lineK1 (s.size + 8) _ s HS.out (by rw [wSer_size]; omega) (by omega)).mono ?_); rintro e w1 ⟨rfl, hs⟩; replace HS := Lib.hid hs; clear hs; obtain ⟨d0, d1, d2, d3, d4⟩ := st2_cells HS.out))
  go_end0
  refine ⟨rfl, ?_⟩
  have hh : St B b V W (k + s.size + 10000) (l ++ ln wMain (numsT n1 z1) ++ ln wFactor [Lib.itoa f] ++ ln wSerial [s.data.toList]) _ := HS.out.1.mono (by omega)
  rw [HE.out] at hh
  exact hh
set_option maxHeartbeats 4000000 in
set_option maxRecDepth 100000 in
theorem res0100 (B b k : Nat) (l : List UInt8) (V W w : World) (a1 : Option Addr) (n1 c1 : Nat) (z1 : Nat → Int) (a2 : Option Addr) (n2 c2 : Nat) (z2 : Nat → Int) (a3 : Option Addr) (n3 c3 : Nat) (z3 : Nat → Int) (f : Int) (s : ByteArray) (h : St B b V W k l w) (hk : k + s.size + 10000 ≤ 140737488355328) (hn1 : n1 ≤ 50) (hn2 : n2 ≤ 50) (hn3 : n3 ≤ 50) (hr1 : NRow V a1 n1 z1) (hr2 : NRow V a2 n2 z2) (hr3 : NRow V a3 n3 z3) (hf : I64 f) (k2 : n2 = 0) (k3 : 0 < n3) (kf : f = 0) (ks : s.size = 0) :
    Calls Tryd.prog 34 #[.pointer (some ⟨b, 0, none⟩), .agg #[.slice a1 n1 c1, .slice a2 n2 c2, .slice a3 n3 c3, .int .i64 f, .string s]] w fun e w' => e = .returned (.tuple #[]) ∧ St B b V W (k + s.size + 10000) (l ++ resT n1 z1 n2 z2 n3 z3 f s.data.toList) w' := by
  obtain ⟨f0, f1⟩ := hf
  have HR1 := Lib.hid hr1
  have HR2 := Lib.hid hr2
  have HR3 := Lib.hid hr3
  have HS : Hid (St2 B b V W k l w.heap.size #[.slice a1 n1 c1, .slice a2 n2 c2, .slice a3 n3 c3, .int .i64 f, .string s] 43 (w.alloc (.cells #[.slice a1 n1 c1, .slice a2 n2 c2, .slice a3 n3 c3, .int .i64 f, .string s] 43))) := Lib.hid ⟨h.alloc _, Cel.new _ _ _, by decide, by decide⟩
  have HE : Hid (l ++ ln wMain (numsT n1 z1) ++ ln wExtra (numsT n3 z3) = l ++ resT n1 z1 n2 z2 n3 z3 f s.data.toList) := Lib.hid (by
    unfold resT someT facT serT
    rw [if_pos k2]
    rw [if_neg (show ¬ n3 = 0 by omega)]
    rw [if_pos kf]
    rw [empty_of ks]; rw [if_pos (by rfl)]
    simp)
  clear h hr1 hr2 hr3
  subst k2
  have k3I : (0 : Int) < (n3 : Int) := by omega
  subst kf
  obtain rfl := empty_of ks
  clear ks
  go_enter Tryd.func34, Tryd.ntmps34
  have hd := st2_cells HS.out
  obtain ⟨d0, d1, d2, d3, d4⟩ := hd
  go_wp2_with (first | (go_at_call 35; (with_reducible refine (each2 _ _ _ z1 HS.out hn1 (HR1.out.below HS.out.st.bel)).mono ?_); rintro e w1 ⟨a', c', rfl, hsr, hs⟩; replace HS := Lib.hid hs; have HSR := Lib.hid hsr; clear hs hsr) | (go_at_call 25; (with_reducible refine (lineKn _ _ _ _ z1 HS.out HSR.out hn1 HR1.out.bds (by decide) (by omega)).mono ?_); rintro e w1 ⟨rfl, hs⟩; replace HS := Lib.hid hs; clear hs HSR; obtain ⟨d0, d1, d2, d3, d4⟩ := st2_cells HS.out) | (go_at_call 35; (with_reducible refine (each2 _ _ _ z3 HS.out hn3 (HR3.out.below HS.out.st.bel)).mono ?_); rintro e w1 ⟨a', c', rfl, hsr, hs⟩; replace HS := Lib.hid hs; have HSR := Lib.hid hsr; clear hs hsr) | (go_at_call 25; (with_reducible refine (lineKn _ _ _ _ z3 HS.out HSR.out hn3 HR3.out.bds (by decide) (by omega)).mono ?_); rintro e w1 ⟨rfl, hs⟩; replace HS := Lib.hid hs; clear hs HSR; obtain ⟨d0, d1, d2, d3, d4⟩ := st2_cells HS.out))
  go_end0
  refine ⟨rfl, ?_⟩
  have hh : St B b V W (k + ByteArray.empty.size + 10000) (l ++ ln wMain (numsT n1 z1) ++ ln wExtra (numsT n3 z3)) _ := HS.out.1.mono (by omega)
  rw [HE.out] at hh
  exact hh
set_option maxHeartbeats 4000000 in
set_option maxRecDepth 100000 in
theorem res0101 (B b k : Nat) (l : List UInt8) (V W w : World) (a1 : Option Addr) (n1 c1 : Nat) (z1 : Nat → Int) (a2 : Option Addr) (n2 c2 : Nat) (z2 : Nat → Int) (a3 : Option Addr) (n3 c3 : Nat) (z3 : Nat → Int) (f : Int) (s : ByteArray) (h : St B b V W k l w) (hk : k + s.size + 10000 ≤ 140737488355328) (hn1 : n1 ≤ 50) (hn2 : n2 ≤ 50) (hn3 : n3 ≤ 50) (hr1 : NRow V a1 n1 z1) (hr2 : NRow V a2 n2 z2) (hr3 : NRow V a3 n3 z3) (hf : I64 f) (k2 : n2 = 0) (k3 : 0 < n3) (kf : f = 0) (ks : 0 < s.size) :
    Calls Tryd.prog 34 #[.pointer (some ⟨b, 0, none⟩), .agg #[.slice a1 n1 c1, .slice a2 n2 c2, .slice a3 n3 c3, .int .i64 f, .string s]] w fun e w' => e = .returned (.tuple #[]) ∧ St B b V W (k + s.size + 10000) (l ++ resT n1 z1 n2 z2 n3 z3 f s.data.toList) w' := by
  obtain ⟨f0, f1⟩ := hf
  have HR1 := Lib.hid hr1
  have HR2 := Lib.hid hr2
  have HR3 := Lib.hid hr3
  have HS : Hid (St2 B b V W k l w.heap.size #[.slice a1 n1 c1, .slice a2 n2 c2, .slice a3 n3 c3, .int .i64 f, .string s] 43 (w.alloc (.cells #[.slice a1 n1 c1, .slice a2 n2 c2, .slice a3 n3 c3, .int .i64 f, .string s] 43))) := Lib.hid ⟨h.alloc _, Cel.new _ _ _, by decide, by decide⟩
  have ks' := resT_ne_nil ks
  have HE : Hid (l ++ ln wMain (numsT n1 z1) ++ ln wExtra (numsT n3 z3) ++ ln wSerial [s.data.toList] = l ++ resT n1 z1 n2 z2 n3 z3 f s.data.toList) := Lib.hid (by
    unfold resT someT facT serT
    rw [if_pos k2]
    rw [if_neg (show ¬ n3 = 0 by omega)]
    rw [if_pos kf]
    rw [if_neg ks']
    simp)
  clear h hr1 hr2 hr3 ks'
  subst k2
  have k3I : (0 : Int) < (n3 : Int) := by omega
  subst kf
  have kse := isE_no ks
  have ksb : (s.toList == []) = false := by cases hh : s.toList with | nil => (rw [hh] at kse; cases kse) | cons x y => rfl
  go_enter Tryd.func34, Tryd.ntmps34
  have hd := st2_cells HS.out
  obtain ⟨d0, d1, d2, d3, d4⟩ := hd
  go_wp2_with (first | (go_at_call 35; (with_reducible refine (each2 _ _ _ z1 HS.out hn1 (HR1.out.below HS.out.st.bel)).mono ?_); rintro e w1 ⟨a', c', rfl, hsr, hs⟩; replace HS := Lib.hid hs; have HSR := Lib.hid hsr; clear hs hsr) | (go_at_call 25; (with_reducible refine (lineKn _ _ _ _ z1 HS.out HSR.out hn1 HR1.out.bds (by decide) (by omega)).mono ?_); rintro e w1 ⟨rfl, hs⟩; replace HS := Lib.hid hs; clear hs HSR; obtain ⟨d0, d1, d2, d3, d4⟩ := st2_cells HS.out) | (go_at_call 35; (with_reducible refine (each2 _ _ _ z3 HS.out hn3 (HR3.out.below HS.out.st.bel)).mono ?_); rintro e w1 ⟨a', c', rfl, hsr, hs⟩; replace HS := Lib.hid hs; have HSR := Lib.hid hsr; clear hs hsr) | (go_at_call 25; (with_reducible refine (lineKn _ _ _ _ z3 HS.out HSR.out hn3 HR3.out.bds (by decide) (by omega)).mono ?_); rintro e w1 ⟨rfl, hs⟩; replace HS := Lib.hid hs; clear hs HSR; obtain ⟨d0, d1, d2, d3, d4⟩ := st2_cells HS.out) | (go_at_call 25; (with_reducible refine (lineK1 (s.size + 8) _ s HS.out (by rw [wSer_size]; omega) (by omega)).mono ?_); rintro e w1 ⟨rfl, hs⟩; replace HS := Lib.hid hs; clear hs; obtain ⟨d0, d1, d2, d3, d4⟩ := st2_cells HS.out))
  go_end0
  refine ⟨rfl, ?_⟩
  have hh : St B b V W (k + s.size + 10000) (l ++ ln wMain (numsT n1 z1) ++ ln wExtra (numsT n3 z3) ++ ln wSerial [s.data.toList]) _ := HS.out.1.mono (by omega)
  rw [HE.out] at hh
  exact hh
set_option maxHeartbeats 4000000 in
set_option maxRecDepth 100000 in
theorem res0110 (B b k : Nat) (l : List UInt8) (V W w : World) (a1 : Option Addr) (n1 c1 : Nat) (z1 : Nat → Int) (a2 : Option Addr) (n2 c2 : Nat) (z2 : Nat → Int) (a3 : Option Addr) (n3 c3 : Nat) (z3 : Nat → Int) (f : Int) (s : ByteArray) (h : St B b V W k l w) (hk : k + s.size + 10000 ≤ 140737488355328) (hn1 : n1 ≤ 50) (hn2 : n2 ≤ 50) (hn3 : n3 ≤ 50) (hr1 : NRow V a1 n1 z1) (hr2 : NRow V a2 n2 z2) (hr3 : NRow V a3 n3 z3) (hf : I64 f) (k2 : n2 = 0) (k3 : 0 < n3) (kf : ¬ f = 0) (ks : s.size = 0) :
    Calls Tryd.prog 34 #[.pointer (some ⟨b, 0, none⟩), .agg #[.slice a1 n1 c1, .slice a2 n2 c2, .slice a3 n3 c3, .int .i64 f, .string s]] w fun e w' => e = .returned (.tuple #[]) ∧ St B b V W (k + s.size + 10000) (l ++ resT n1 z1 n2 z2 n3 z3 f s.data.toList) w' := by
  obtain ⟨f0, f1⟩ := hf
  have HR1 := Lib.hid hr1
  have HR2 := Lib.hid hr2
  have HR3 := Lib.hid hr3
  have HS : Hid (St2 B b V W k l w.heap.size #[.slice a1 n1 c1, .slice a2 n2 c2, .slice a3 n3 c3, .int .i64 f, .string s] 43 (w.alloc (.cells #[.slice a1 n1 c1, .slice a2 n2 c2, .slice a3 n3 c3, .int .i64 f, .string s] 43))) := Lib.hid ⟨h.alloc _, Cel.new _ _ _, by decide, by decide⟩
  have HE : Hid (l ++ ln wMain (numsT n1 z1) ++ ln wExtra (numsT n3 z3) ++ ln wFactor [Lib.itoa f] = l ++ resT n1 z1 n2 z2 n3 z3 f s.data.toList) := Lib.hid (by
    unfold resT someT facT serT
    rw [if_pos k2]
    rw [if_neg (show ¬ n3 = 0 by omega)]
    rw [if_neg kf]
    rw [empty_of ks]; rw [if_pos (by rfl)]
    simp)
  clear h hr1 hr2 hr3
  subst k2
  have k3I : (0 : Int) < (n3 : Int) := by omega
  have kfb : (f == 0) = false := by rw [beq_eq_false_iff_ne]; exact kf
  obtain rfl := empty_of ks
  clear ks
  go_enter Tryd.func34, Tryd.ntmps34
  have hd := st2_cells HS.out
  obtain ⟨d0, d1, d2, d3, d4⟩ := hd
  go_wp2_with (first | (go_at_call 35; (with_reducible refine (each2 _ _ _ z1 HS.out hn1 (HR1.out.below HS.out.st.bel)).mono ?_); rintro e w1 ⟨a', c', rfl, hsr, hs⟩; replace HS := Lib.hid hs; have HSR := Lib.hid hsr; clear hs hsr) | (go_at_call 25; (with_reducible refine (lineKn _ _ _ _ z1 HS.out HSR.out hn1 HR1.out.bds (by decide) (by omega)).mono ?_); rintro e w1 ⟨rfl, hs⟩; replace HS := Lib.hid hs; clear hs HSR; obtain ⟨d0, d1, d2, d3, d4⟩ := st2_cells HS.out) | (go_at_call 35; (with_reducible refine (each2 _ _ _ z3 HS.out hn3 (HR3.out.below HS.out.st.bel)).mono ?_); rintro e w1 ⟨a', c', rfl, hsr, hs⟩; replace HS := Lib.hid hs; have HSR := Lib.hid hsr; clear hs hsr) | (go_at_call 25; (with_reducible refine (lineKn _ _ _ _ z3 HS.out HSR.out hn3 HR3.out.bds (by decide) (by omega)).mono ?_); rintro e w1 ⟨rfl, hs⟩; replace HS := Lib.hid hs; clear hs HSR; obtain ⟨d0, d1, d2, d3, d4⟩ := st2_cells HS.out) | (go_at_call 26; (with_reducible refine (format2 f HS.out f0 f1).mono ?_); rintro e w1 ⟨rfl, hs⟩; replace HS := Lib.hid hs; clear hs) | (go_at_call 25; (with_reducible refine (lineKf _ f HS.out f0 f1 (by decide) (by omega)).mono ?_); rintro e w1 ⟨rfl, hs⟩; replace HS := Lib.hid hs; clear hs; obtain ⟨d0, d1, d2, d3, d4⟩ := st2_cells HS.out))
  go_end0
  refine ⟨rfl, ?_⟩
  have hh : St B b V W (k + ByteArray.empty.size + 10000) (l ++ ln wMain (numsT n1 z1) ++ ln wExtra (numsT n3 z3) ++ ln wFactor [Lib.itoa f]) _ := HS.out.1.mono (by omega)
  rw [HE.out] at hh
  exact hh
set_option maxHeartbeats 4000000 in
set_option maxRecDepth 100000 in
theorem res0111 (B b k : Nat) (l : List UInt8) (V W w : World) (a1 : Option Addr) (n1 c1 : Nat) (z1 : Nat → Int) (a2 : Option Addr) (n2 c2 : Nat) (z2 : Nat → Int) (a3 : Option Addr) (n3 c3 : Nat) (z3 : Nat → Int) (f : Int) (s : ByteArray) (h : St B b V W k l w) (hk : k + s.size + 10000 ≤ 140737488355328) (hn1 : n1 ≤ 50) (hn2 : n2 ≤ 50) (hn3 : n3 ≤ 50) (hr1 : NRow V a1 n1 z1) (hr2 : NRow V a2 n2 z2) (hr3 : NRow V a3 n3 z3) (hf : I64 f) (k2 : n2 = 0) (k3 : 0 < n3) (kf : ¬ f = 0) (ks : 0 < s.size) :
    Calls Tryd.prog 34 #[.pointer (some ⟨b, 0, none⟩), .agg #[.slice a1 n1 c1, .slice a2 n2 c2, .slice a3 n3 c3, .int .i64 f, .string s]] w fun e w' => e = .returned (.tuple #[]) ∧ St B b V W (k + s.size + 10000) (l ++ resT n1 z1 n2 z2 n3 z3 f s.data.toList) w' := by
  obtain ⟨f0, f1⟩ := hf
  have HR1 := Lib.hid hr1
  have HR2 := Lib.hid hr2
  have HR3 := Lib.hid hr3
  have HS : Hid (St2 B b V W k l w.heap.size #[.slice a1 n1 c1, .slice a2 n2 c2, .slice a3 n3 c3, .int .i64 f, .string s] 43 (w.alloc (.cells #[.slice a1 n1 c1, .slice a2 n2 c2, .slice a3 n3 c3, .int .i64 f, .string s] 43))) := Lib.hid ⟨h.alloc _, Cel.new _ _ _, by decide, by decide⟩
  have ks' := resT_ne_nil ks
  have HE : Hid (l ++ ln wMain (numsT n1 z1) ++ ln wExtra (numsT n3 z3) ++ ln wFactor [Lib.itoa f] ++ ln wSerial [s.data.toList] = l ++ resT n1 z1 n2 z2 n3 z3 f s.data.toList) := Lib.hid (by
    unfold resT someT facT serT
    rw [if_pos k2]
    rw [if_neg (show ¬ n3 = 0 by omega)]
    rw [if_neg kf]
    rw [if_neg ks']
    simp)
  clear h hr1 hr2 hr3 ks'
  subst k2
  have k3I : (0 : Int) < (n3 : Int) := by omega
  have kfb : (f == 0) = false := by rw [beq_eq_false_iff_ne]; exact kf
  have kse := isE_no ks
  have ksb : (s.toList == []) = false := by cases hh : s.toList with | nil => (rw [hh] at kse; cases kse) | cons x y => rfl
  go_enter Tryd.func34, Tryd.ntmps34
  have hd := st2_cells HS.out
  obtain ⟨d0, d1, d2, d3, d4⟩ := hd
  go_wp2_with (first | (go_at_call 35; (with_reducible refine (each2 _ _ _ z1 HS.out hn1 (HR1.out.below HS.out.st.bel)).mono ?_); rintro e w1 ⟨a', c', rfl, hsr, hs⟩; replace HS := Lib.hid hs; have HSR := Lib.hid hsr; clear hs hsr) | (go_at_call 25; (with_reducible refine (lineKn _ _ _ _ z1 HS.out HSR.out hn1 HR1.out.bds (by decide) (by omega)).mono ?_); rintro e w1 ⟨rfl, hs⟩; replace HS := Lib.hid hs; clear hs HSR; obtain ⟨d0, d1, d2, d3, d4⟩ := st2_cells HS.out) | (go_at_call 35; (with_reducible refine (each2 _ _ _ z3 HS.out hn3 (HR3.out.below HS.out.st.bel)).mono ?_); rintro e w1 ⟨a', c', rfl, hsr, hs⟩; replace HS := Lib.hid hs; have HSR := Lib.hid hsr; clear hs hsr) | (go_at_call 25; (with_reducible refine (lineKn _ _ _ _ z3 HS.out HSR.out hn3 HR3.out.bds (by decide) (by omega)).mono ?_); rintro e w1 ⟨rfl, hs⟩; replace HS := Lib.hid hs; clear hs HSR; obtain ⟨d0, d1, d2, d3, d4⟩ := st2_cells HS.out) | (go_at_call 26; (with_reducible refine (format2 f HS.out f0 f1).mono ?_); rintro e w1 ⟨rfl, hs⟩; replace HS := Lib.hid hs; clear hs) | (go_at_call 25; (with_reducible refine (lineKf _ f HS.out f0 f1 (by decide) (by omega)).mono ?_); rintro e w1 ⟨rfl, hs⟩; replace HS := Lib.hid hs; clear hs; obtain ⟨d0, d1, d2, d3, d4⟩ := st2_cells HS.out) | (go_at_call 25; (with_reducible refine (lineK1 (s.size + 8) _ s HS.out (by rw [wSer_size]; omega) (by omega)).mono ?_); rintro e w1 ⟨rfl, hs⟩; replace HS := Lib.hid hs; clear hs; obtain ⟨d0, d1, d2, d3, d4⟩ := st2_cells HS.out))
  go_end0
  refine ⟨rfl, ?_⟩
  have hh : St B b V W (k + s.size + 10000) (l ++ ln wMain (numsT n1 z1) ++ ln wExtra (numsT n3 z3) ++ ln wFactor [Lib.itoa f] ++ ln wSerial [s.data.toList]) _ := HS.out.1.mono (by omega)
  rw [HE.out] at hh
  exact hh
set_option maxHeartbeats 4000000 in
set_option maxRecDepth 100000 in
theorem res1000 (B b k : Nat) (l : List UInt8) (V W w : World) (a1 : Option Addr) (n1 c1 : Nat) (z1 : Nat → Int) (a2 : Option Addr) (n2 c2 : Nat) (z2 : Nat → Int) (a3 : Option Addr) (n3 c3 : Nat) (z3 : Nat → Int) (f : Int) (s : ByteArray) (h : St B b V W k l w) (hk : k + s.size + 10000 ≤ 140737488355328) (hn1 : n1 ≤ 50) (hn2 : n2 ≤ 50) (hn3 : n3 ≤ 50) (hr1 : NRow V a1 n1 z1) (hr2 : NRow V a2 n2 z2) (hr3 : NRow V a3 n3 z3) (hf : I64 f) (k2 : 0 < n2) (k3 : n3 = 0) (kf : f = 0) (ks : s.size = 0) :
    Calls Tryd.prog 34 #[.pointer (some ⟨b, 0, none⟩), .agg #[.slice a1 n1 c1, .slice a2 n2 c2, .slice a3 n3 c3, .int .i64 f, .string s]] w fun e w' => e = .returned (.tuple #[]) ∧ St B b V W (k + s.size + 10000) (l ++ resT n1 z1 n2 z2 n3 z3 f s.data.toList) w' := by
  obtain ⟨f0, f1⟩ := hf
  have HR1 := Lib.hid hr1
  have HR2 := Lib.hid hr2
  have HR3 := Lib.hid hr3
  have HS : Hid (St2 B b V W k l w.heap.size #[.slice a1 n1 c1, .slice a2 n2 c2, .slice a3 n3 c3, .int .i64 f, .string s] 43 (w.alloc (.cells #[.slice a1 n1 c1, .slice a2 n2 c2, .slice a3 n3 c3, .int .i64 f, .string s] 43))) := Lib.hid ⟨h.alloc _, Cel.new _ _ _, by decide, by decide⟩
  have HE : Hid (l ++ ln wMain (numsT n1 z1) ++ ln wBonus (numsT n2 z2) = l ++ resT n1 z1 n2 z2 n3 z3 f s.data.toList) := Lib.hid (by
    unfold resT someT facT serT
    rw [if_neg (show ¬ n2 = 0 by omega)]
    rw [if_pos k3]
    rw [if_pos kf]
    rw [empty_of ks]; rw [if_pos (by rfl)]
    simp)
  clear h hr1 hr2 hr3
  have k2I : (0 : Int) < (n2 : Int) := by omega
  subst k3
  subst kf
  obtain rfl := empty_of ks
  clear ks
  go_enter Tryd.func34, Tryd.ntmps34
  have hd := st2_cells HS.out
  obtain ⟨d0, d1, d2, d3, d4⟩ := hd
  go_wp2_with (first | (go_at_call 35; (with_reducible refine (each2 _ _ _ z1 HS.out hn1 (HR1.out.below HS.out.st.bel)).mono ?_); rintro e w1 ⟨a', c', rfl, hsr, hs⟩; replace HS := Lib.hid hs; have HSR := Lib.hid hsr; clear hs hsr) | (go_at_call 25; (with_reducible refine (lineKn _ _ _ _ z1 HS.out HSR.out hn1 HR1.out.bds (by decide) (by omega)).mono ?_); rintro e w1 ⟨rfl, hs⟩; replace HS := Lib.hid hs; clear hs HSR; obtain ⟨d0, d1, d2, d3, d4⟩ := st2_cells HS.out) | (go_at_call 35; (with_reducible refine (each2 _ _ _ z2 HS.out hn2 (HR2.out.below HS.out.st.bel)).mono ?_); rintro e w1 ⟨a', c', rfl, hsr, hs⟩; replace HS := Lib.hid hs; have HSR := Lib.hid hsr; clear hs hsr) | (go_at_call 25; (with_reducible refine (lineKn _ _ _ _ z2 HS.out HSR.out hn2 HR2.out.bds (by decide) (by omega)).mono ?_); rintro e w1 ⟨rfl, hs⟩; replace HS := Lib.hid hs; clear hs HSR; obtain ⟨d0, d1, d2, d3, d4⟩ := st2_cells HS.out))
  go_end0
  refine ⟨rfl, ?_⟩
  have hh : St B b V W (k + ByteArray.empty.size + 10000) (l ++ ln wMain (numsT n1 z1) ++ ln wBonus (numsT n2 z2)) _ := HS.out.1.mono (by omega)
  rw [HE.out] at hh
  exact hh
set_option maxHeartbeats 4000000 in
set_option maxRecDepth 100000 in
theorem res1001 (B b k : Nat) (l : List UInt8) (V W w : World) (a1 : Option Addr) (n1 c1 : Nat) (z1 : Nat → Int) (a2 : Option Addr) (n2 c2 : Nat) (z2 : Nat → Int) (a3 : Option Addr) (n3 c3 : Nat) (z3 : Nat → Int) (f : Int) (s : ByteArray) (h : St B b V W k l w) (hk : k + s.size + 10000 ≤ 140737488355328) (hn1 : n1 ≤ 50) (hn2 : n2 ≤ 50) (hn3 : n3 ≤ 50) (hr1 : NRow V a1 n1 z1) (hr2 : NRow V a2 n2 z2) (hr3 : NRow V a3 n3 z3) (hf : I64 f) (k2 : 0 < n2) (k3 : n3 = 0) (kf : f = 0) (ks : 0 < s.size) :
    Calls Tryd.prog 34 #[.pointer (some ⟨b, 0, none⟩), .agg #[.slice a1 n1 c1, .slice a2 n2 c2, .slice a3 n3 c3, .int .i64 f, .string s]] w fun e w' => e = .returned (.tuple #[]) ∧ St B b V W (k + s.size + 10000) (l ++ resT n1 z1 n2 z2 n3 z3 f s.data.toList) w' := by
  obtain ⟨f0, f1⟩ := hf
  have HR1 := Lib.hid hr1
  have HR2 := Lib.hid hr2
  have HR3 := Lib.hid hr3
  have HS : Hid (St2 B b V W k l w.heap.size #[.slice a1 n1 c1, .slice a2 n2 c2, .slice a3 n3 c3, .int .i64 f, .string s] 43 (w.alloc (.cells #[.slice a1 n1 c1, .slice a2 n2 c2, .slice a3 n3 c3, .int .i64 f, .string s] 43))) := Lib.hid ⟨h.alloc _, Cel.new _ _ _, by decide, by decide⟩
  have ks' := resT_ne_nil ks
  have HE : Hid (l ++ ln wMain (numsT n1 z1) ++ ln wBonus (numsT n2 z2) ++ ln wSerial [s.data.toList] = l ++ resT n1 z1 n2 z2 n3 z3 f s.data.toList) := Lib.hid (by
    unfold resT someT facT serT
    rw [if_neg (show ¬ n2 = 0 by omega)]
    rw [if_pos k3]
    rw [if_pos kf]
    rw [if_neg ks']
    simp)
  clear h hr1 hr2 hr3 ks'
  have k2I : (0 : Int) < (n2 : Int) := by omega
  subst k3
  subst kf
  have kse := isE_no ks
  have ksb : (s.toList == []) = false := by cases hh : s.toList with | nil => (rw [hh] at kse; cases kse) | cons x y => rfl
  go_enter Tryd.func34, Tryd.ntmps34
  have hd := st2_cells HS.out
  obtain ⟨d0, d1, d2, d3, d4⟩ := hd
  go_wp2_with (first | (go_at_call 35; (with_reducible refine (each2 _ _ _ z1 HS.out hn1 (HR1.out.below HS.out.st.bel)).mono ?_); rintro e w1 ⟨a', c', rfl, hsr, hs⟩; replace HS := Lib.hid hs; have HSR := Lib.hid hsr; clear hs hsr) | (go_at_call 25; (with_reducible refine (lineKn _ _ _ _ z1 HS.out HSR.out hn1 HR1.out.bds (by decide) (by omega)).mono ?_); rintro e w1 ⟨rfl, hs⟩; replace HS := Lib.hid hs; clear hs HSR; obtain ⟨d0, d1, d2, d3, d4⟩ := st2_cells HS.out) | (go_at_call 35; (with_reducible refine (each2 _ _ _ z2 HS.out hn2 (HR2.out.below HS.out.st.bel)).mono ?_); rintro e w1 ⟨a', c', rfl, hsr, hs⟩; replace HS := Lib.hid hs; have HSR := Lib.hid hsr; clear hs hsr) | (go_at_call 25; (with_reducible refine (lineKn _ _ _ _ z2 HS.out HSR.out hn2 HR2.out.bds (by decide) (by omega)).mono ?_); rintro e w1 ⟨rfl, hs⟩; replace HS := Lib.hid hs; clear hs HSR; obtain ⟨d0, d1, d2, d3, d4⟩ := st2_cells HS.out) | (go_at_call 25; (with_reducible refine (lineK1 (s.size + 8) _ s HS.out (by rw [wSer_size]; omega) (by omega)).mono ?_); rintro e w1 ⟨rfl, hs⟩; replace HS := Lib.hid hs; clear hs; obtain ⟨d0, d1, d2, d3, d4⟩ := st2_cells HS.out))
  go_end0
  refine ⟨rfl, ?_⟩
  have hh : St B b V W (k + s.size + 10000) (l ++ ln wMain (numsT n1 z1) ++ ln wBonus (numsT n2 z2) ++ ln wSerial [s.data.toList]) _ := HS.out.1.mono (by omega)
  rw [HE.out] at hh
  exact hh
set_option maxHeartbeats 4000000 in
set_option maxRecDepth 100000 in
theorem res1010 (B b k : Nat) (l : List UInt8) (V W w : World) (a1 : Option Addr) (n1 c1 : Nat) (z1 : Nat → Int) (a2 : Option Addr) (n2 c2 : Nat) (z2 : Nat → Int) (a3 : Option Addr) (n3 c3 : Nat) (z3 : Nat → Int) (f : Int) (s : ByteArray) (h : St B b V W k l w) (hk : k + s.size + 10000 ≤ 140737488355328) (hn1 : n1 ≤ 50) (hn2 : n2 ≤ 50) (hn3 : n3 ≤ 50) (hr1 : NRow V a1 n1 z1) (hr2 : NRow V a2 n2 z2) (hr3 : NRow V a3 n3 z3) (hf : I64 f) (k2 : 0 < n2) (k3 : n3 = 0) (kf : ¬ f = 0) (ks : s.size = 0) :
    Calls Tryd.prog 34 #[.pointer (some ⟨b, 0, none⟩), .agg #[.slice a1 n1 c1, .slice a2 n2 c2, .slice a3 n3 c3, .int .i64 f, .string s]] w fun e w' => e = .returned (.tuple #[]) ∧ St B b V W (k + s.size + 10000) (l ++ resT n1 z1 n2 z2 n3 z3 f s.data.toList) w' := by
  obtain ⟨f0, f1⟩ := hf
  have HR1 := Lib.hid hr1
  have HR2 := Lib.hid hr2
  have HR3 := Lib.hid hr3
  have HS : Hid (St2 B b V W k l w.heap.size #[.slice a1 n1 c1, .slice a2 n2 c2, .slice a3 n3 c3, .int .i64 f, .string s] 43 (w.alloc (.cells #[.slice a1 n1 c1, .slice a2 n2 c2, .slice a3 n3 c3, .int .i64 f, .string s] 43))) := Lib.hid ⟨h.alloc _, Cel.new _ _ _, by decide, by decide⟩
  have HE : Hid (l ++ ln wMain (numsT n1 z1) ++ ln wBonus (numsT n2 z2) ++ ln wFactor [Lib.itoa f] = l ++ resT n1 z1 n2 z2 n3 z3 f s.data.toList) := Lib.hid (by
    unfold resT someT facT serT
    rw [if_neg (show ¬ n2 = 0 by omega)]
    rw [if_pos k3]
    rw [if_neg kf]
    rw [empty_of ks]; rw [if_pos (by rfl)]
    simp)
  clear h hr1 hr2 hr3
  have k2I : (0 : Int) < (n2 : Int) := by omega
  subst k3
  have kfb : (f == 0) = false := by rw [beq_eq_false_iff_ne]; exact kf
  obtain rfl := empty_of ks
  clear ks
  go_enter Tryd.func34, Tryd.ntmps34
  have hd := st2_cells HS.out
  obtain ⟨d0, d1, d2, d3, d4⟩ := hd
  go_wp2_with (first | (go_at_call 35; (with_reducible refine (each2 _ _ _ z1 HS.out hn1 (HR1.out.below HS.out.st.bel)).mono ?_); rintro e w1 ⟨a', c', rfl, hsr, hs⟩; replace HS := Lib.hid hs; have HSR := Lib.hid hsr; clear hs hsr) | (go_at_call 25; (with_reducible refine (lineKn _ _ _ _ z1 HS.out HSR.out hn1 HR1.out.bds (by decide) (by omega)).mono ?_); rintro e w1 ⟨rfl, hs⟩; replace HS := Lib.hid hs; clear hs HSR; obtain ⟨d0, d1, d2, d3, d4⟩ := st2_cells HS.out) | (go_at_call 35; (with_reducible refine (each2 _ _ _ z2 HS.out hn2 (HR2.out.below HS.out.st.bel)).mono ?_); rintro e w1 ⟨a', c', rfl, hsr, hs⟩; replace HS := Lib.hid hs; have HSR := Lib.hid hsr; clear hs hsr) | (go_at_call 25; (with_reducible refine (lineKn _ _ _ _ z2 HS.out HSR.out hn2 HR2.out.bds (by decide) (by omega)).mono ?_); rintro e w1 ⟨rfl, hs⟩; replace HS := Lib.hid hs; clear hs HSR; obtain ⟨d0, d1, d2, d3, d4⟩ := st2_cells HS.out) | (go_at_call 26; (with_reducible refine (format2 f HS.out f0 f1).mono ?_); rintro e w1 ⟨rfl, hs⟩; replace HS := Lib.hid hs; clear hs) | (go_at_call 25; (with_reducible refine (lineKf _ f HS.out f0 f1 (by decide) (by omega)).mono ?_); rintro e w1 ⟨rfl, hs⟩; replace HS := Lib.hid hs; clear hs; obtain ⟨d0, d1, d2, d3, d4⟩ := st2_cells HS.out))
  go_end0
  refine ⟨rfl, ?_⟩
  have hh : St B b V W (k + ByteArray.empty.size + 10000) (l ++ ln wMain (numsT n1 z1) ++ ln wBonus (numsT n2 z2) ++ ln wFactor [Lib.itoa f]) _ := HS.out.1.mono (by omega)
  rw [HE.out] at hh
  exact hh
set_option maxHeartbeats 4000000 in
set_option maxRecDepth 100000 in
theorem res1011 (B b k : Nat) (l : List UInt8) (V W w : World) (a1 : Option Addr) (n1 c1 : Nat) (z1 : Nat → Int) (a2 : Option Addr) (n2 c2 : Nat) (z2 : Nat → Int) (a3 : Option Addr) (n3 c3 : Nat) (z3 : Nat → Int) (f : Int) (s : ByteArray) (h : St B b V W k l w) (hk : k + s.size + 10000 ≤ 140737488355328) (hn1 : n1 ≤ 50) (hn2 : n2 ≤ 50) (hn3 : n3 ≤ 50) (hr1 : NRow V a1 n1 z1) (hr2 : NRow V a2 n2 z2) (hr3 : NRow V a3 n3 z3) (hf : I64 f) (k2 : 0 < n2) (k3 : n3 = 0) (kf : ¬ f = 0) (ks : 0 < s.size) :
    Calls Tryd.prog 34 #[.pointer (some ⟨b, 0, none⟩), .agg #[.slice a1 n1 c1, .slice a2 n2 c2, .slice a3 n3 c3, .int .i64 f, .string s]] w fun e w' => e = .returned (.tuple #[]) ∧ St B b V W (k + s.size + 10000) (l ++ resT n1 z1 n2 z2 n3 z3 f s.data.toList) w' := by
  obtain ⟨f0, f1⟩ := hf
  have HR1 := Lib.hid hr1
  have HR2 := Lib.hid hr2
  have HR3 := Lib.hid hr3
  have HS : Hid (St2 B b V W k l w.heap.size #[.slice a1 n1 c1, .slice a2 n2 c2, .slice a3 n3 c3, .int .i64 f, .string s] 43 (w.alloc (.cells #[.slice a1 n1 c1, .slice a2 n2 c2, .slice a3 n3 c3, .int .i64 f, .string s] 43))) := Lib.hid ⟨h.alloc _, Cel.new _ _ _, by decide, by decide⟩
  have ks' := resT_ne_nil ks
  have HE : Hid (l ++ ln wMain (numsT n1 z1) ++ ln wBonus (numsT n2 z2) ++ ln wFactor [Lib.itoa f] ++ ln wSerial [s.data.toList] = l ++ resT n1 z1 n2 z2 n3 z3 f s.data.toList) := Lib.hid (by
    unfold resT someT facT serT
    rw [if_neg (show ¬ n2 = 0 by omega)]
    rw [if_pos k3]
    rw [if_neg kf]
    rw [if_neg ks']
    simp)
  clear h hr1 hr2 hr3 ks'
  have k2I : (0 : Int) < (n2 : Int) := by omega
  subst k3
  have kfb : (f == 0) = false := by rw [beq_eq_false_iff_ne]; exact kf
  have kse := isE_no ks
  have ksb : (s.toList == []) = false := by cases hh : s.toList with | nil => (rw [hh] at kse; cases kse) | cons x y => rfl
  go_enter Tryd.func34, Tryd.ntmps34
  have hd := st2_cells HS.out
  obtain ⟨d0, d1, d2, d3, d4⟩ := hd
  go_wp2_with (first | (go_at_call 35; (with_reducible refine (each2 _ _ _ z1 HS.out hn1 (HR1.out.below HS.out.st.bel)).mono ?_); rintro e w1 ⟨a', c', rfl, hsr, hs⟩; replace HS := Lib.hid hs; have HSR := Lib.hid hsr; clear hs hsr) | (go_at_call 25; (with_reducible refine (lineKn _ _ _ _ z1 HS.out HSR.out hn1 HR1.out.bds (by decide) (by omega)).mono ?_); rintro e w1 ⟨rfl, hs⟩; replace HS := Lib.hid hs; clear hs HSR; obtain ⟨d0, d1, d2, d3, d4⟩ := st2_cells HS.out) | (go_at_call 35; (with_reducible refine (each2 _ _ _ z2 HS.out hn2 (HR2.out.below HS.out.st.bel)).mono ?_); rintro e w1 ⟨a', c', rfl, hsr, hs⟩; replace HS := Lib.hid hs; have HSR := Lib.hid hsr; clear hs hsr) | (go_at_call 25; (with_reducible refine (lineKn _ _ _ _ z2 HS.out HSR.out hn2 HR2.out.bds (by decide) (by omega)).mono ?_); rintro e w1 ⟨rfl, hs⟩; replace HS := Lib.hid hs; clear hs HSR; obtain ⟨d0, d1, d2, d3, d4⟩ := st2_cells HS.out) | (go_at_call 26; (with_reducible refine (format2 f HS.out f0 f1).mono ?_); rintro e w1 ⟨rfl, hs⟩; replace HS := Lib.hid hs; clear hs) | (go_at_call 25; (with_reducible refine (lineKf _ f HS.out f0 f1 (by decide) (by omega)).mono ?_); rintro e w1 ⟨rfl, hs⟩; replace HS := Lib.hid hs; clear hs; obtain ⟨d0, d1, d2, d3, d4⟩ := st2_cells HS.out) | (go_at_call 25; (with_reducible refine (lineK1 (s.size + 8) _ s HS.out (by rw [wSer_size]; omega) (by omega)).mono ?_); rintro e w1 ⟨rfl, hs⟩; replace HS := Lib.hid hs; clear hs; obtain ⟨d0, d1, d2, d3, d4⟩ := st2_cells HS.out))
  go_end0
  refine ⟨rfl, ?_⟩
  have hh : St B b V W (k + s.size + 10000) (l ++ ln wMain (numsT n1 z1) ++ ln wBonus (numsT n2 z2) ++ ln wFactor [Lib.itoa f] ++ ln wSerial [s.data.toList]) _ := HS.out.1.mono (by omega)
  rw [HE.out] at hh
  exact hh
set_option maxHeartbeats 4000000 in
set_option maxRecDepth 100000 in
theorem res1100 (B b k : Nat) (l : List UInt8) (V W w : World) (a1 : Option Addr) (n1 c1 : Nat) (z1 : Nat → Int) (a2 : Option Addr) (n2 c2 : Nat) (z2 : Nat → Int) (a3 : Option Addr) (n3 c3 : Nat) (z3 : Nat → Int) (f : Int) (s : ByteArray) (h : St B b V W k l w) (hk : k + s.size + 10000 ≤ 140737488355328) (hn1 : n1 ≤ 50) (hn2 : n2 ≤ 50) (hn3 : n3 ≤ 50) (hr1 : NRow V a1 n1 z1) (hr2 : NRow V a2 n2 z2) (hr3 : NRow V a3 n3 z3) (hf : I64 f) (k2 : 0 < n2) (k3 : 0 < n3) (kf : f = 0) (ks : s.size = 0) :
    Calls Tryd.prog 34 #[.pointer (some ⟨b, 0, none⟩), .agg #[.slice a1 n1 c1, .slice a2 n2 c2, .slice a3 n3 c3, .int .i64 f, .string s]] w fun e w' => e = .returned (.tuple #[]) ∧ St B b V W (k + s.size + 10000) (l ++ resT n1 z1 n2 z2 n3 z3 f s.data.toList) w' := by
  obtain ⟨f0, f1⟩ := hf
  have HR1 := Lib.hid hr1
  have HR2 := Lib.hid hr2
  have HR3 := Lib.hid hr3
  have HS : Hid (St2 B b V W k l w.heap.size #[.slice a1 n1 c1, .slice a2 n2 c2, .slice a3 n3 c3, .int .i64 f, .string s] 43 (w.alloc (.cells #[.slice a1 n1 c1, .slice a2 n2 c2, .slice a3 n3 c3, .int .i64 f, .string s] 43))) := Lib.hid ⟨h.alloc _, Cel.new _ _ _, by decide, by decide⟩
  have HE : Hid (l ++ ln wMain (numsT n1 z1) ++ ln wBonus (numsT n2 z2) ++ ln wExtra (numsT n3 z3) = l ++ resT n1 z1 n2 z2 n3 z3 f s.data.toList) := Lib.hid (by
    unfold resT someT facT serT
    rw [if_neg (show ¬ n2 = 0 by omega)]
    rw [if_neg (show ¬ n3 = 0 by omega)]
    rw [if_pos kf]
    rw [empty_of ks]; rw [if_pos (by rfl)]
    simp)
  clear h hr1 hr2 hr3
  have k2I : (0 : Int) < (n2 : Int) := by omega
  have k3I : (0 : Int) < (n3 : Int) := by omega
  subst kf
  obtain rfl := empty_of ks
  clear ks
  go_enter Tryd.func34, Tryd.ntmps34
  have hd := st2_cells HS.out
  obtain ⟨d0, d1, d2, d3, d4⟩ := hd
  go_wp2_with (first | (go_at_call 35; (with_reducible refine (each2 _ _ _ z1 HS.out hn1 (HR1.out.below HS.out.st.bel)).mono ?_); rintro e w1 ⟨a', c', rfl, hsr, hs⟩; replace HS := Lib.hid hs; have HSR := Lib.hid hsr; clear hs hsr) | (go_at_call 25; (with_reducible refine (lineKn _ _ _ _ z1 HS.out HSR.out hn1 HR1.out.bds (by decide) (by omega)).mono ?_); rintro e w1 ⟨rfl, hs⟩; replace HS := Lib.hid hs; clear hs HSR; obtain ⟨d0, d1, d2, d3, d4⟩ := st2_cells HS.out) | (go_at_call 35; (with_reducible refine (each2 _ _ _ z2 HS.out hn2 (HR2.out.below HS.out.st.bel)).mono ?_); rintro e w1 ⟨a', c', rfl, hsr, hs⟩; replace HS := Lib.hid hs; have HSR := Lib.hid hsr; clear hs hsr) | (go_at_call 25; (with_reducible refine (lineKn _ _ _ _ z2 HS.out HSR.out hn2 HR2.out.bds (by decide) (by omega)).mono ?_); rintro e w1 ⟨rfl, hs⟩; replace HS := Lib.hid hs; clear hs HSR; obtain ⟨d0, d1, d2, d3, d4⟩ := st2_cells HS.out) | (go_at_call 35; (with_reducible refine (each2 _ _ _ z3 HS.out hn3 (HR3.out.below HS.out.st.bel)).mono ?_); rintro e w1 ⟨a', c', rfl, hsr, hs⟩; replace HS := Lib.hid hs; have HSR := Lib.hid hsr; clear hs hsr) | (go_at_call 25; (with_reducible refine (lineKn _ _ _ _ z3 HS.out HSR.out hn3 HR3.out.bds (by decide) (by omega)).mono ?_); rintro e w1 ⟨rfl, hs⟩; replace HS := Lib.hid hs; clear hs HSR; obtain ⟨d0, d1, d2, d3, d4⟩ := st2_cells HS.out))
  go_end0
  refine ⟨rfl, ?_⟩
  have hh : St B b V W (k + ByteArray.empty.size + 10000) (l ++ ln wMain (numsT n1 z1) ++ ln wBonus (numsT n2 z2) ++ ln wExtra (numsT n3 z3)) _ := HS.out.1.mono (by omega)
  rw [HE.out] at hh
  exact hh
set_option maxHeartbeats 4000000 in
set_option maxRecDepth 100000 in
theorem res1101 (B b k : Nat) (l : List UInt8) (V W w : World) (a1 : Option Addr) (n1 c1 : Nat) (z1 : Nat → Int) (a2 : Option Addr) (n2 c2 : Nat) (z2 : Nat → Int) (a3 : Option Addr) (n3 c3 : Nat) (z3 : Nat → Int) (f : Int) (s : ByteArray) (h : St B b V W k l w) (hk : k + s.size + 10000 ≤ 140737488355328) (hn1 : n1 ≤ 50) (hn2 : n2 ≤ 50) (hn3 : n3 ≤ 50) (hr1 : NRow V a1 n1 z1) (hr2 : NRow V a2 n2 z2) (hr3 : NRow V a3 n3 z3) (hf : I64 f) (k2 : 0 < n2) (k3 : 0 < n3) (kf : f = 0) (ks : 0 < s.size) :
    Calls Tryd.prog 34 #[.pointer (some ⟨b, 0, none⟩), .agg #[.slice a1 n1 c1, .slice a2 n2 c2, .slice a3 n3 c3, .int .i64 f, .string s]] w fun e w' => e = .returned (.tuple #[]) ∧ St B b V W (k + s.size + 10000) (l ++ resT n1 z1 n2 z2 n3 z3 f s.data.toList) w' := by
  obtain ⟨f0, f1⟩ := hf
  have HR1 := Lib.hid hr1
  have HR2 := Lib.hid hr2
  have HR3 := Lib.hid hr3
  have HS : Hid (St2 B b V W k l w.heap.size #[.slice a1 n1 c1, .slice a2 n2 c2, .slice a3 n3 c3, .int .i64 f, .string s] 43 (w.alloc (.cells #[.slice a1 n1 c1, .slice a2 n2 c2, .slice a3 n3 c3, .int .i64 f, .string s] 43))) := Lib.hid ⟨h.alloc _, Cel.new _ _ _, by decide, by decide⟩
  have ks' := resT_ne_nil ks
  have HE : Hid (l ++ ln wMain (numsT n1 z1) ++ ln wBonus (numsT n2 z2) ++ ln wExtra (numsT n3 z3) ++ ln wSerial [s.data.toList] = l ++ resT n1 z1 n2 z2 n3 z3 f s.data.toList) := Lib.hid (by
    unfold resT someT facT serT
    rw [if_neg (show ¬ n2 = 0 by omega)]
    rw [if_neg (show ¬ n3 = 0 by omega)]
    rw [if_pos kf]
    rw [if_neg ks']
    simp)
  clear h hr1 hr2 hr3 ks'
  have k2I : (0 : Int) < (n2 : Int) := by omega
  have k3I : (0 : Int) < (n3 : Int) := by omega
  subst kf
  have kse := isE_no ks
  have ksb : (s.toList == []) = false := by cases hh : s.toList with | nil => (rw [hh] at kse; cases kse) | cons x y => rfl
  go_enter Tryd.func34, Tryd.ntmps34
  have hd := st2_cells HS.out
  obtain ⟨d0, d1, d2, d3, d4⟩ := hd
  go_wp2_with (first | (go_at_call 35; (with_reducible refine (each2 _ _ _ z1 HS.out hn1 (HR1.out.below HS.out.st.bel)).mono ?_); rintro e w1 ⟨a', c', rfl, hsr, hs⟩; replace HS := Lib.hid hs; have HSR := Lib.hid hsr; clear hs hsr) | (go_at_call 25; (with_reducible refine (lineKn _ _ _ _ z1 HS.out HSR.out hn1 HR1.out.bds (by decide) (by omega)).mono ?_); rintro e w1 ⟨rfl, hs⟩; replace HS := Lib.hid hs; clear hs HSR; obtain ⟨d0, d1, d2, d3, d4⟩ := st2_cells HS.out) | (go_at_call 35; (with_reducible refine (each2 _ _ _ z2 HS.out hn2 (HR2.out.below HS.out.st.bel)).mono ?_); rintro e w1 ⟨a', c', rfl, hsr, hs⟩; replace HS := Lib.hid hs; have HSR := Lib.hid hsr; clear hs hsr) | (go_at_call 25; (with_reducible refine (lineKn _ _ _ _ z2 HS.out HSR.out hn2 HR2.out.bds (by decide) (by omega)).mono ?_); rintro e w1 ⟨rfl, hs⟩; replace HS := Lib.hid hs; clear hs HSR; obtain ⟨d0, d1, d2, d3, d4⟩ := st2_cells HS.out) | (go_at_call 35; (with_reducible refine (each2 _ _ _ z3 HS.out hn3 (HR3.out.below HS.out.st.bel)).mono ?_); rintro e w1 ⟨a', c', rfl, hsr, hs⟩; replace HS := Lib.hid hs; have HSR := Lib.hid hsr; clear hs hsr) | (go_at_call 25; (with_reducible refine (lineKn _ _ _ _ z3 HS.out HSR.out hn3 HR3.out.bds (by decide) (by omega)).mono ?_); rintro e w1 ⟨rfl, hs⟩; replace HS := Lib.hid hs; clear hs HSR; obtain ⟨d0, d1, d2, d3, d4⟩ := st2_cells HS.out) | (go_at_call 25; (with_reducible refine (lineK1 (s.size + 8) _ s HS.out (by rw [wSer_size]; omega) (by omega)).mono ?_); rintro e w1 ⟨rfl, hs⟩; replace HS := Lib.hid hs; clear hs; obtain ⟨d0, d1, d2, d3, d4⟩ := st2_cells HS.out))
  go_end0
  refine ⟨rfl, ?_⟩
  have hh : St B b V W (k + s.size + 10000) (l ++ ln wMain (numsT n1 z1) ++ ln wBonus (numsT n2 z2) ++ ln wExtra (numsT n3 z3) ++ ln wSerial [s.data.toList]) _ := HS.out.1.mono (by omega)
  rw [HE.out] at hh
  exact hh
set_option maxHeartbeats 4000000 in
set_option maxRecDepth 100000 in
theorem res1110 (B b k : Nat) (l : List UInt8) (V W w : World) (a1 : Option Addr) (n1 c1 : Nat) (z1 : Nat → Int) (a2 : Option Addr) (n2 c2 : Nat) (z2 : Nat → Int) (a3 : Option Addr) (n3 c3 : Nat) (z3 : Nat → Int) (f : Int) (s : ByteArray) (h : St B b V W k l w) (hk : k + s.size + 10000 ≤ 140737488355328) (hn1 : n1 ≤ 50) (hn2 : n2 ≤ 50) (hn3 : n3 ≤ 50) (hr1 : NRow V a1 n1 z1) (hr2 : NRow V a2 n2 z2) (hr3 : NRow V a3 n3 z3) (hf : I64 f) (k2 : 0 < n2) (k3 : 0 < n3) (kf : ¬ f = 0) (ks : s.size = 0) :
    Calls Tryd.prog 34 #[.pointer (some ⟨b, 0, none⟩), .agg #[.slice a1 n1 c1, .slice a2 n2 c2, .slice a3 n3 c3, .int .i64 f, .string s]] w fun e w' => e = .returned (.tuple #[]) ∧ St B b V W (k + s.size + 10000) (l ++ resT n1 z1 n2 z2 n3 z3 f s.data.toList) w' := by
  obtain ⟨f0, f1⟩ := hf
  have HR1 := Lib.hid hr1
  have HR2 := Lib.hid hr2
  have HR3 := Lib.hid hr3
  have HS : Hid (St2 B b V W k l w.heap.size #[.slice a1 n1 c1, .slice a2 n2 c2, .slice a3 n3 c3, .int .i64 f, .string s] 43 (w.alloc (.cells #[.slice a1 n1 c1, .slice a2 n2 c2, .slice a3 n3 c3, .int .i64 f, .string s] 43))) := Lib.hid ⟨h.alloc _, Cel.new _ _ _, by decide, by decide⟩
  have HE : Hid (l ++ ln wMain (numsT n1 z1) ++ ln wBonus (numsT n2 z2) ++ ln wExtra (numsT n3 z3) ++ ln wFactor [Lib.itoa f] = l ++ resT n1 z1 n2 z2 n3 z3 f s.data.toList) := Lib.hid (by
    unfold resT someT facT serT
    rw [if_neg (show ¬ n2 = 0 by omega)]
    rw [if_neg (show ¬ n3 = 0 by omega)]
    rw [if_neg kf]
    rw [empty_of ks]; rw [if_pos (by rfl)]
    simp)
  clear h hr1 hr2 hr3
  have k2I : (0 : Int) < (n2 : Int) := by omega
  have k3I : (0 : Int) < (n3 : Int) := by omega
  have kfb : (f == 0) = false := by rw [beq_eq_false_iff_ne]; exact kf
  obtain rfl := empty_of ks
  clear ks
  go_enter Tryd.func34, Tryd.ntmps34
  have hd := st2_cells HS.out
  obtain ⟨d0, d1, d2, d3, d4⟩ := hd
  go_wp2_with (first | (go_at_call 35; (with_reducible refine (each2 _ _ _ z1 HS.out hn1 (HR1.out.below HS.out.st.bel)).mono ?_); rintro e w1 ⟨a', c', rfl, hsr, hs⟩; replace HS := Lib.hid hs; have HSR := Lib.hid hsr; clear hs hsr) | (go_at_call 25; (with_reducible refine (lineKn _ _ _ _ z1 HS.out HSR.out hn1 HR1.out.bds (by decide) (by omega)).mono ?_); rintro e w1 ⟨rfl, hs⟩; replace HS := Lib.hid hs; clear hs HSR; obtain ⟨d0, d1, d2, d3, d4⟩ := st2_cells HS.out) | (go_at_call 35; (with_reducible refine (each2 _ _ _ z2 HS.out hn2 (HR2.out.below HS.out.st.bel)).mono ?_); rintro e w1 ⟨a', c', rfl, hsr, hs⟩; replace HS := Lib.hid hs; have HSR := Lib.hid hsr; clear hs hsr) | (go_at_call 25; (with_reducible refine (lineKn _ _ _ _ z2 HS.out HSR.out hn2 HR2.out.bds (by decide) (by omega)).mono ?_); rintro e w1 ⟨rfl, hs⟩; replace HS := Lib.hid hs; clear hs HSR; obtain ⟨d0, d1, d2, d3, d4⟩ := st2_cells HS.out) | (go_at_call 35; (with_reducible refine (each2 _ _ _ z3 HS.out hn3 (HR3.out.below HS.out.st.bel)).mono ?_); rintro e w1 ⟨a', c', rfl, hsr, hs⟩; replace HS := Lib.hid hs; have HSR := Lib.hid hsr; clear hs hsr) | (go_at_call 25; (with_reducible refine (lineKn _ _ _ _ z3 HS.out HSR.out hn3 HR3.out.bds (by decide) (by omega)).mono ?_); rintro e w1 ⟨rfl, hs⟩; replace HS := Lib.hid hs; clear hs HSR; obtain ⟨d0, d1, d2, d3, d4⟩ := st2_cells HS.out) | (go_at_call 26; (with_reducible refine (format2 f HS.out f0 f1).mono ?_); rintro e w1 ⟨rfl, hs⟩; replace HS := Lib.hid hs; clear hs) | (go_at_call 25; (with_reducible refine (lineKf _ f HS.out f0 f1 (by decide) (by omega)).mono ?_); rintro e w1 ⟨rfl, hs⟩; replace HS := Lib.hid hs; clear hs; obtain ⟨d0, d1, d2, d3, d4⟩ := st2_cells HS.out))
  go_end0
  refine ⟨rfl, ?_⟩
  have hh : St B b V W (k + ByteArray.empty.size + 10000) (l ++ ln wMain (numsT n1 z1) ++ ln wBonus (numsT n2 z2) ++ ln wExtra (numsT n3 z3) ++ ln wFactor [Lib.itoa f]) _ := HS.out.1.mono (by omega)
  rw [HE.out] at hh
  exact hh
set_option maxHeartbeats 4000000 in
set_option maxRecDepth 100000 in
theorem res1111 (B b k : Nat) (l : List UInt8) (V W w : World) (a1 : Option Addr) (n1 c1 : Nat) (z1 : Nat → Int) (a2 : Option Addr) (n2 c2 : Nat) (z2 : Nat → Int) (a3 : Option Addr) (n3 c3 : Nat) (z3 : Nat → Int) (f : Int) (s : ByteArray) (h : St B b V W k l w) (hk : k + s.size + 10000 ≤ 140737488355328) (hn1 : n1 ≤ 50) (hn2 : n2 ≤ 50) (hn3 : n3 ≤ 50) (hr1 : NRow V a1 n1 z1) (hr2 : NRow V a2 n2 z2) (hr3 : NRow V a3 n3 z3) (hf : I64 f) (k2 : 0 < n2) (k3 : 0 < n3) (kf : ¬ f = 0) (ks : 0 < s.size) :
    Calls Tryd.prog 34 #[.pointer (some ⟨b, 0, none⟩), .agg #[.slice a1 n1 c1, .slice a2 n2 c2, .slice a3 n3 c3, .int .i64 f, .string s]] w fun e w' => e = .returned (.tuple #[]) ∧ St B b V W (k + s.size + 10000) (l ++ resT n1 z1 n2 z2 n3 z3 f s.data.toList) w' := by
  obtain ⟨f0, f1⟩ := hf
  have HR1 := Lib.hid hr1
  have HR2 := Lib.hid hr2
  have HR3 := Lib.hid hr3
  have HS : Hid (St2 B b V W k l w.heap.size #[.slice a1 n1 c1, .slice a2 n2 c2, .slice a3 n3 c3, .int .i64 f, .string s] 43 (w.alloc (.cells #[.slice a1 n1 c1, .slice a2 n2 c2, .slice a3 n3 c3, .int .i64 f, .string s] 43))) := Lib.hid ⟨h.alloc _, Cel.new _ _ _, by decide, by decide⟩
  have ks' := resT_ne_nil ks
  have HE : Hid (l ++ ln wMain (numsT n1 z1) ++ ln wBonus (numsT n2 z2) ++ ln wExtra (numsT n3 z3) ++ ln wFactor [Lib.itoa f] ++ ln wSerial [s.data.toList] = l ++ resT n1 z1 n2 z2 n3 z3 f s.data.toList) := Lib.hid (by
    unfold resT someT facT serT
    rw [if_neg (show ¬ n2 = 0 by omega)]
    rw [if_neg (show ¬ n3 = 0 by omega)]
    rw [if_neg kf]
    rw [if_neg ks']
    simp)
  clear h hr1 hr2 hr3 ks'
  have k2I : (0 : Int) < (n2 : Int) := by omega
  have k3I : (0 : Int) < (n3 : Int) := by omega
  have kfb : (f == 0) = false := by rw [beq_eq_false_iff_ne]; exact kf
  have kse := isE_no ks
  have ksb : (s.toList == []) = false := by cases hh : s.toList with | nil => (rw [hh] at kse; cases kse) | cons x y => rfl
  go_enter Tryd.func34, Tryd.ntmps34
  have hd := st2_cells HS.out
  obtain ⟨d0, d1, d2, d3, d4⟩ := hd
  go_wp2_with (first | (go_at_call 35; (with_reducible refine (each2 _ _ _ z1 HS.out hn1 (HR1.out.below HS.out.st.bel)).mono ?_); rintro e w1 ⟨a', c', rfl, hsr, hs⟩; replace HS := Lib.hid hs; have HSR := Lib.hid hsr; clear hs hsr) | (go_at_call 25; (with_reducible refine (lineKn _ _ _ _ z1 HS.out HSR.out hn1 HR1.out.bds (by decide) (by omega)).mono ?_); rintro e w1 ⟨rfl, hs⟩; replace HS := Lib.hid hs; clear hs HSR; obtain ⟨d0, d1, d2, d3, d4⟩ := st2_cells HS.out) | (go_at_call 35; (with_reducible refine (each2 _ _ _ z2 HS.out hn2 (HR2.out.below HS.out.st.bel)).mono ?_); rintro e w1 ⟨a', c', rfl, hsr, hs⟩; replace HS := Lib.hid hs; have HSR := Lib.hid hsr; clear hs hsr) | (go_at_call 25; (with_reducible refine (lineKn _ _ _ _ z2 HS.out HSR.out hn2 HR2.out.bds (by decide) (by omega)).mono ?_); rintro e w1 ⟨rfl, hs⟩; replace HS := Lib.hid hs; clear hs HSR; obtain ⟨d0, d1, d2, d3, d4⟩ := st2_cells HS.out) | (go_at_call 35; (with_reducible refine (each2 _ _ _ z3 HS.out hn3 (HR3.out.below HS.out.st.bel)).mono ?_); rintro e w1 ⟨a', c', rfl, hsr, hs⟩; replace HS := Lib.hid hs; have HSR := Lib.hid hsr; clear hs hsr) | (go_at_call 25; (with_reducible refine (lineKn _ _ _ _ z3 HS.out HSR.out hn3 HR3.out.bds (by decide) (by omega)).mono ?_); rintro e w1 ⟨rfl, hs⟩; replace HS := Lib.hid hs; clear hs HSR; obtain ⟨d0, d1, d2, d3, d4⟩ := st2_cells HS.out) | (go_at_call 26; (with_reducible refine (format2 f HS.out f0 f1).mono ?_); rintro e w1 ⟨rfl, hs⟩; replace HS := Lib.hid hs; clear hs) | (go_at_call 25; (with_reducible refine (lineKf _ f HS.out f0 f1 (by decide) (by omega)).mono ?_); rintro e w1 ⟨rfl, hs⟩; replace HS := Lib.hid hs; clear hs; obtain ⟨d0, d1, d2, d3, d4⟩ := st2_cells HS.out) | (go_at_call 25; (with_reducible refine (lineK1 (s.size + 8) _ s HS.out (by rw [wSer_size]; omega) (by omega)).mono ?_); rintro e w1 ⟨rfl, hs⟩; replace HS := Lib.hid hs; clear hs; obtain ⟨d0, d1, d2, d3, d4⟩ := st2_cells HS.out))
  go_end0
  refine ⟨rfl, ?_⟩
  have hh : St B b V W (k + s.size + 10000) (l ++ ln wMain (numsT n1 z1) ++ ln wBonus (numsT n2 z2) ++ ln wExtra (numsT n3 z3) ++ ln wFactor [Lib.itoa f] ++ ln wSerial [s.data.toList]) _ := HS.out.1.mono (by omega)
  rw [HE.out] at hh
  exact hh
theorem result_any (B b k : Nat) (l : List UInt8) (V W w : World) (a1 : Option Addr) (n1 c1 : Nat) (z1 : Nat → Int) (a2 : Option Addr) (n2 c2 : Nat) (z2 : Nat → Int) (a3 : Option Addr) (n3 c3 : Nat) (z3 : Nat → Int) (f : Int) (s : ByteArray) (h : St B b V W k l w) (hk : k + s.size + 10000 ≤ 140737488355328) (hn1 : n1 ≤ 50) (hn2 : n2 ≤ 50) (hn3 : n3 ≤ 50) (hr1 : NRow V a1 n1 z1) (hr2 : NRow V a2 n2 z2) (hr3 : NRow V a3 n3 z3) (hf : I64 f) :
    Calls Tryd.prog 34 #[.pointer (some ⟨b, 0, none⟩), .agg #[.slice a1 n1 c1, .slice a2 n2 c2, .slice a3 n3 c3, .int .i64 f, .string s]] w fun e w' => e = .returned (.tuple #[]) ∧ St B b V W (k + s.size + 10000) (l ++ resT n1 z1 n2 z2 n3 z3 f s.data.toList) w' := by
  rcases Nat.eq_zero_or_pos n2 with k2 | k2 <;> rcases Nat.eq_zero_or_pos n3 with k3 | k3 <;> by_cases kf : f = 0 <;> rcases Nat.eq_zero_or_pos s.size with ks | ks
  · exact res0000 B b k l V W w a1 n1 c1 z1 a2 n2 c2 z2 a3 n3 c3 z3 f s h hk hn1 hn2 hn3 hr1 hr2 hr3 hf k2 k3 kf ks
  · exact res0001 B b k l V W w a1 n1 c1 z1 a2 n2 c2 z2 a3 n3 c3 z3 f s h hk hn1 hn2 hn3 hr1 hr2 hr3 hf k2 k3 kf ks
  · exact res0010 B b k l V W w a1 n1 c1 z1 a2 n2 c2 z2 a3 n3 c3 z3 f s h hk hn1 hn2 hn3 hr1 hr2 hr3 hf k2 k3 kf ks
  · exact res0011 B b k l V W w a1 n1 c1 z1 a2 n2 c2 z2 a3 n3 c3 z3 f s h hk hn1 hn2 hn3 hr1 hr2 hr3 hf k2 k3 kf ks
  · exact res0100 B b k l V W w a1 n1 c1 z1 a2 n2 c2 z2 a3 n3 c3 z3 f s h hk hn1 hn2 hn3 hr1 hr2 hr3 hf k2 k3 kf ks
  · exact res0101 B b k l V W w a1 n1 c1 z1 a2 n2 c2 z2 a3 n3 c3 z3 f s h hk hn1 hn2 hn3 hr1 hr2 hr3 hf k2 k3 kf ks
  · exact res0110 B b k l V W w a1 n1 c1 z1 a2 n2 c2 z2 a3 n3 c3 z3 f s h hk hn1 hn2 hn3 hr1 hr2 hr3 hf k2 k3 kf ks
  · exact res0111 B b k l V W w a1 n1 c1 z1 a2 n2 c2 z2 a3 n3 c3 z3 f s h hk hn1 hn2 hn3 hr1 hr2 hr3 hf k2 k3 kf ks
  · exact res1000 B b k l V W w a1 n1 c1 z1 a2 n2 c2 z2 a3 n3 c3 z3 f s h hk hn1 hn2 hn3 hr1 hr2 hr3 hf k2 k3 kf ks
  · exact res1001 B b k l V W w a1 n1 c1 z1 a2 n2 c2 z2 a3 n3 c3 z3 f s h hk hn1 hn2 hn3 hr1 hr2 hr3 hf k2 k3 kf ks
  · exact res1010 B b k l V W w a1 n1 c1 z1 a2 n2 c2 z2 a3 n3 c3 z3 f s h hk hn1 hn2 hn3 hr1 hr2 hr3 hf k2 k3 kf ks
  · exact res1011 B b k l V W w a1 n1 c1 z1 a2 n2 c2 z2 a3 n3 c3 z3 f s h hk hn1 hn2 hn3 hr1 hr2 hr3 hf k2 k3 kf ks
  · exact res1100 B b k l V W w a1 n1 c1 z1 a2 n2 c2 z2 a3 n3 c3 z3 f s h hk hn1 hn2 hn3 hr1 hr2 hr3 hf k2 k3 kf ks
  · exact res1101 B b k l V W w a1 n1 c1 z1 a2 n2 c2 z2 a3 n3 c3 z3 f s h hk hn1 hn2 hn3 hr1 hr2 hr3 hf k2 k3 kf ks
  · exact res1110 B b k l V W w a1 n1 c1 z1 a2 n2 c2 z2 a3 n3 c3 z3 f s h hk hn1 hn2 hn3 hr1 hr2 hr3 hf k2 k3 kf ks
  · exact res1111 B b k l V W w a1 n1 c1 z1 a2 n2 c2 z2 a3 n3 c3 z3 f s h hk hn1 hn2 hn3 hr1 hr2 hr3 hf k2 k3 kf ks
end Go.Proofs.YtgmilhhifigkkaaDoor
