/- The library's stable sort over 'less' and 'swap': exchanges of ranges, rotations. -/
import Derived.Test.YtkpmbkkhdhjbnaaKit
import Derived.Test.YtkpmbkkhdhjbnaaStb
import Derived.Test.YtkpmbkkhdhjbnaaShelf
import Derived.Shelf.GgSortFunc.SW
import Derived.Shelf.GgSortMore.Stable
namespace Go.Proofs.Ytkpmbkkhdhjbnaa
open Go.ChangeShapes Go.WideShapes Go.ChangeAt Go.RowKit Go.Lott
open Go.Shelf Go.Lib Go.Sort Go.Lott.Stb
variable {α : Type} [Inhabited α]
set_option linter.unusedSectionVars false

/-- What the sort asks of its caller's world: 'less' reads the row, 'swap' swaps in it. -/
structure SEnv (enc : α → Value) (lt : α → α → Bool) (g : Nat) (lb : Array Value) (sf : Nat) (sb : Array Value) (blk off n : Nat) (w : World) : Prop where
  eg : ∀ args w, (callFunc g args).run Try.prog w = .ok (.enter g args) w
  less : LessReads Try.prog g lb enc lt blk off n w
  swap : SwapSwaps Try.prog sf sb enc blk off n
  hold : ∃ d0 : Array α, d0.size = n ∧ Holds enc w blk off d0
  lt : blk < w.heap.size
  size : n < 1000000000
variable {enc : α → Value} {lt : α → α → Bool} {g : Nat} {lb : Array Value} {sf : Nat} {sb : Array Value} {blk off n : Nat} {w W : World} {d : Array α}
theorem SEnv.on (h : SEnv enc lt g lb sf sb blk off n w) (hs : SW enc w blk off d W) (hd : d.size = n) : SEnv enc lt g lb sf sb blk off n W := by
  obtain ⟨d0, z0, h0⟩ := h.hold
  exact ⟨h.eg, hs.lessReads h.less h.lt hd, h.swap, ⟨d, hd, hs.holds h.lt h0 (hd.trans z0.symm)⟩, hs.lt h.lt, h.size⟩
theorem SEnv.holds (h : SEnv enc lt g lb sf sb blk off n w) (hs : SW enc w blk off d W) (hd : d.size = n) : Holds enc W blk off d := by
  obtain ⟨d0, z0, h0⟩ := h.hold
  exact hs.holds h.lt h0 (hd.trans z0.symm)
/-- A world of a world of the sort is one. -/
theorem SW.trans' {W' : World} {d' : Array α} (h : SW enc w blk off d W) (hlt : blk < w.heap.size) (h' : SW enc W blk off d' W') (hs : d'.size = d.size) : SW enc w blk off d' W' := by
  obtain ⟨m, os, rfl⟩ := h'
  exact h.on hlt m d' os hs
def boxB (g : Nat) (lb : Array Value) (sf : Nat) (sb : Array Value) : Obj := .cells #[.func (.func g) #[] lb, .func (.func sf) #[] sb] 84
/-- The boxed parameter reads as it was boxed, in every world of the sort. -/
theorem SW.box {g : Nat} {lb : Array Value} {sf : Nat} {sb : Array Value} (h : SW enc (w.alloc (.cells #[.func (.func g) #[] lb, .func (.func sf) #[] sb] 84)) blk off d W) (hlt : blk < w.heap.size) :
    W.cell? ⟨w.heap.size, 0, none⟩ = some (.func (.func g) #[] lb) ∧ W.cell? ⟨w.heap.size, 1, none⟩ = some (.func (.func sf) #[] sb) := by
  obtain ⟨m, os, rfl⟩ := h
  have key : ∀ k v, (w.alloc (.cells #[.func (.func g) #[] lb, .func (.func sf) #[] sb] 84)).cell? ⟨w.heap.size, k, none⟩ = some v →
      (sortWorld enc (w.alloc (.cells #[.func (.func g) #[] lb, .func (.func sf) #[] sb] 84)) blk off m d os).cell? ⟨w.heap.size, k, none⟩ = some v := fun k v hv => by
    unfold sortWorld
    rw [cell?_grow _ _ _ (by rw [size_putRow]; show w.heap.size < (w.alloc _).heap.size; simp), cell?_putRow_other enc _ blk off _ _ (Or.inl (by show w.heap.size ≠ blk; omega))]; exact hv
  exact ⟨key 0 _ (by simp), key 1 _ (by simp)⟩
theorem SEnv.box (h : SEnv enc lt g lb sf sb blk off n w) (o : Obj) (hH : Holds enc w blk off d) (hd : d.size = n) : SEnv enc lt g lb sf sb blk off n (w.alloc o) ∧ SW enc (w.alloc o) blk off d (w.alloc o) := by
  have h1 := (SW.start hH).alloc o
  have h2 := h.on h1 hd
  exact ⟨h2, SW.start (h.holds h1 hd)⟩
/-- What a function of the sort leaves: the caller's world, the row laid anew. -/
def SPost (enc : α → Value) (blk off n : Nat) (w : World) (R : Array α → Prop) (e : Ending) (w' : World) : Prop := e = .returned (.tuple #[]) ∧ ∃ d', SW enc w blk off d' w' ∧ d'.size = n ∧ R d'
theorem SW.ofAlloc {o : Obj} (h : SW enc (w.alloc o) blk off d W) (hlt : blk < w.heap.size) : SW enc w blk off d W := by
  obtain ⟨m, os, rfl⟩ := h
  refine ⟨m, #[o] ++ os, ?_⟩
  unfold sortWorld
  rw [alloc_eq_grow, ahead_grow, putRow_grow enc (Sort.ahead w m) _ blk off _ hlt, grow_grow]

set_option maxHeartbeats 2000000 in
set_option maxRecDepth 100000 in
theorem swapR_any (E : SEnv enc lt g lb sf sb blk off n w) (hH : Holds enc w blk off d) (hd : d.size = n) (a b k : Nat) (h1 : a + k ≤ b) (h2 : b + k ≤ n) :
    Calls Try.prog 98 #[.agg #[.func (.func g) #[] lb, .func (.func sf) #[] sb], .int .i64 a, .int .i64 b, .int .i64 k] w (SPost enc blk off n w (fun d' => SwAt a b k d d')) := by
  obtain ⟨E1, S1⟩ := E.box (.cells #[.func (.func g) #[] lb, .func (.func sf) #[] sb] 84) hH hd
  have hn := E.size
  have hlt := E.lt
  have HE := Lib.hid E1
  have HS := Lib.hid S1
  have HL := Lib.hid E.lt
  have hsw := Lib.hid E1.swap
  have HD := Lib.hid hd
  clear E1 S1 hH
  go_enter Try.func98, Try.ntmps98
  go_wp2
  go_loopw [8] (fun vi wr => ∃ (i : Nat) (dk : Array α), vi = .int .i64 i ∧ i ≤ k ∧ SW enc (w.alloc (.cells #[.func (.func g) #[] lb, .func (.func sf) #[] sb] 84)) blk off dk wr ∧ dk.size = n ∧ SwAt a b i d dk) (fun vi _ => k - (intOf vi).toNat)
  case atStart => exact ⟨0, d, rfl, by omega, HS.out, HD.out, SwAt.zero a b d⟩
  case round =>
    obtain ⟨i, dk, rfl, hik, hS, hz, hR⟩ := hrel
    obtain ⟨b0, b1⟩ := SW.box hS HL.out
    have HZ := Lib.hid hz
    have HR := Lib.hid hR
    have HW := Lib.hid hS
    clear hS hz hR
    by_cases hik2 : i < k
    · have hs := hsw.out wr dk (HE.out.holds HW.out HZ.out) HZ.out (a + i) (b + i) (by omega) (by omega)
      rw [show ((a + i : Nat) : Int) = (a : Int) + (i : Int) by omega, show ((b + i : Nat) : Int) = (b : Int) + (i : Int) by omega] at hs
      have HSS := Lib.hid hs
      clear hs
      go_wp2
      rw [HSS.out, Oper.upon_value]
      go_wp2
      go_roundw
      case rel => exact ⟨i + 1, swp dk (a + i) (b + i), by go_num, by omega, HW.out.swap HE.out.lt (a + i) (b + i) (by rw [HZ.out]; omega) (by rw [HZ.out]; omega), by rw [size_swp]; exact HZ.out, HR.out.next (by omega) (by rw [HD.out]; omega)⟩
      case measure => simp [intOf]; omega
    · obtain rfl : i = k := by omega
      go_wp2
      go_end0
      exact ⟨rfl, dk, SW.ofAlloc HW.out HL.out, HZ.out, HR.out⟩
/-- .. from a world of the sort on. -/
theorem swapR_sw (E : SEnv enc lt g lb sf sb blk off n w) (hS : SW enc w blk off d W) (hd : d.size = n) (a b k : Nat) (h1 : a + k ≤ b) (h2 : b + k ≤ n) :
    Calls Try.prog 98 #[.agg #[.func (.func g) #[] lb, .func (.func sf) #[] sb], .int .i64 a, .int .i64 b, .int .i64 k] W (SPost enc blk off n w (fun d' => SwAt a b k d d')) :=
  (swapR_any (E.on hS hd) (E.holds hS hd) hd a b k h1 h2).mono fun _ _ ⟨he, d', hs, hz, hr⟩ => ⟨he, d', SW.trans' hS E.lt hs (hz.trans hd.symm), hz, hr⟩
set_option maxHeartbeats 2000000 in
set_option maxRecDepth 100000 in
theorem rotF_any (E : SEnv enc lt g lb sf sb blk off n w) (hH : Holds enc w blk off d) (hd : d.size = n) (a m b : Nat) (h1 : a < m) (h2 : m < b) (h3 : b ≤ n) :
    Calls Try.prog 96 #[.agg #[.func (.func g) #[] lb, .func (.func sf) #[] sb], .int .i64 a, .int .i64 m, .int .i64 b] w (SPost enc blk off n w (fun d' => RotAt a m b d d')) := by
  obtain ⟨E1, S1⟩ := E.box (.cells #[.func (.func g) #[] lb, .func (.func sf) #[] sb] 84) hH hd
  have hn := E.size
  have hlt := E.lt
  have HE := Lib.hid E1
  have HS := Lib.hid S1
  have HL := Lib.hid E.lt
  have HD := Lib.hid hd
  clear E1 S1 hH hd
  go_enter Try.func96, Try.ntmps96
  go_wp2
  go_loopw [8, 9] (fun vi vj wr => ∃ (i j : Nat) (dk : Array α), vi = .int .i64 i ∧ vj = .int .i64 j ∧ 1 ≤ i ∧ 1 ≤ j ∧ i ≤ m ∧ m + j ≤ b ∧ SW enc (w.alloc (.cells #[.func (.func g) #[] lb, .func (.func sf) #[] sb] 84)) blk off dk wr ∧ dk.size = n ∧
    (∀ d', RotAt (m - i) m (m + j) dk d' → RotAt a m b d d')) (fun vi vj _ => (intOf vi).toNat + (intOf vj).toNat)
  case atStart => exact ⟨m - a, b - m, d, by go_num, by go_num, by omega, by omega, by omega, by omega, HS.out, HD.out, fun d' h => by rw [show m - (m - a) = a by omega, show m + (b - m) = b by omega] at h; exact h⟩
  case round =>
    obtain ⟨i, j, dk, rfl, rfl, i1, j1, im, jb, hS, hz, hR⟩ := hrel
    obtain ⟨b0, b1⟩ := SW.box hS HL.out
    have HZ := Lib.hid hz
    have HR := Lib.hid hR
    have HW := Lib.hid hS
    clear hS hz hR
    have emi : ((m : Int) - (i : Int)) = ((m - i : Nat) : Int) := by omega
    by_cases hij : i = j
    · subst hij
      have c0 : ((i : Int) != (i : Int)) = false := by simp
      have HC := Lib.hid (swapR_sw HE.out HW.out HZ.out (m - i) m i (by omega) (by omega))
      rw [← emi] at HC
      clear emi
      go_wp2_with (go_at_call 98; refine HC.out.mono ?_; rintro e wa ⟨rfl, d1, hs1, z1, r1⟩)
      go_end0
      exact ⟨rfl, d1, SW.ofAlloc hs1 HL.out, z1, HR.out d1 (rot_even im r1)⟩
    · have c0 : ((i : Int) != (j : Int)) = true := by rw [bne_iff_ne]; omega
      by_cases hgt : j < i
      · have HC := Lib.hid (swapR_sw HE.out HW.out HZ.out (m - i) m j (by omega) (by omega))
        rw [← emi] at HC
        clear emi
        go_wp2_with (go_at_call 98; refine HC.out.mono ?_; rintro e wa ⟨rfl, d1, hs1, z1, r1⟩)
        go_roundw
        case rel => exact ⟨i - j, j, d1, by go_num, rfl, by omega, by omega, by omega, by omega, hs1, z1, fun d' h => HR.out d' (rot_left hgt im r1 h)⟩
        case measure => simp [intOf]; omega
      · have HC := Lib.hid (swapR_sw HE.out HW.out HZ.out (m - i) (m + j - i) i (by omega) (by omega))
        rw [← emi, show ((m + j - i : Nat) : Int) = (m : Int) + (j : Int) - (i : Int) by omega] at HC
        clear emi
        go_wp2_with (go_at_call 98; refine HC.out.mono ?_; rintro e wa ⟨rfl, d1, hs1, z1, r1⟩)
        go_roundw
        case rel => exact ⟨i, j - i, d1, rfl, by go_num, by omega, by omega, by omega, by omega, hs1, z1, fun d' h => HR.out d' (rot_right (by omega) im r1 h)⟩
        case measure => simp [intOf]; omega
theorem rotF_sw (E : SEnv enc lt g lb sf sb blk off n w) (hS : SW enc w blk off d W) (hd : d.size = n) (a m b : Nat) (h1 : a < m) (h2 : m < b) (h3 : b ≤ n) :
    Calls Try.prog 96 #[.agg #[.func (.func g) #[] lb, .func (.func sf) #[] sb], .int .i64 a, .int .i64 m, .int .i64 b] W (SPost enc blk off n w (fun d' => RotAt a m b d d')) :=
  (rotF_any (E.on hS hd) (E.holds hS hd) hd a m b h1 h2 h3).mono fun _ _ ⟨he, d', hs, hz, hr⟩ => ⟨he, d', SW.trans' hS E.lt hs (hz.trans hd.symm), hz, hr⟩
end Go.Proofs.Ytkpmbkkhdhjbnaa
