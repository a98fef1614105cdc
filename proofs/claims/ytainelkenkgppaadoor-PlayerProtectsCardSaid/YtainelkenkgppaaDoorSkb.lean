/- The library's stable sort over a slice of changes: exchanges of ranges, rotations. -/
import Derived.Test.YtainelkenkgppaaDoorRows
import Derived.Test.YtainelkenkgppaaDoorShelf
import Derived.Test.YtainelkenkgppaaDoorSka
import Derived.Test.YtainelkenkgppaaDoorStp
import Derived.Test.YtainelkenkgppaaDoorLmp
import Derived.BigRegion
import Derived.Deep.QuietTactic
namespace Go.Proofs.YtainelkenkgppaaDoor
open Go.ChangeShapes Go.WideShapes Go.ChangeAt Go.RowKit Go.Lott
open Go.Sort Go.Lott.Stb Go.Lott.Srt Go.Lott.Lm
def encC (x : Cg) : List Value := [.int .i64 x.1, .int .i64 x.2.1, .int .i64 x.2.2.1, .int .i64 x.2.2.2]
theorem encC_len (x : Cg) : (encC x).length = 4 := rfl
theorem encC_one (x : Cg) : ∀ v ∈ encC x, v.oneCell' = true := by
  intro v hv
  simp only [encC, List.mem_cons, List.not_mem_nil, or_false] at hv
  rcases hv with rfl | rfl | rfl | rfl <;> rfl
/-- The four cells of an element. -/
structure Cel4 (W : World) (blk i : Nat) (x : Cg) : Prop where
  c0 : W.cell? ⟨blk, i * 4, none⟩ = some (.int .i64 x.1)
  c1 : W.cell? ⟨blk, i * 4 + 1, none⟩ = some (.int .i64 x.2.1)
  c2 : W.cell? ⟨blk, i * 4 + 2, none⟩ = some (.int .i64 x.2.2.1)
  c3 : W.cell? ⟨blk, i * 4 + 3, none⟩ = some (.int .i64 x.2.2.2)
  f0 : W.frozen? ⟨blk, i * 4, none⟩ = false
  f1 : W.frozen? ⟨blk, i * 4 + 1, none⟩ = false
  f2 : W.frozen? ⟨blk, i * 4 + 2, none⟩ = false
  f3 : W.frozen? ⟨blk, i * 4 + 3, none⟩ = false
section
variable {w0 W w : World} {blk n cap : Nat} {d : Array Cg}
theorem cel4 (h : SWR encC 4 w0 blk d W) {i : Nat} (hi : i < d.size) : Cel4 W blk i d[i]! := by
  have k0 := h.cell hi (show 0 < 4 by decide)
  have k1 := h.cell hi (show 1 < 4 by decide)
  have k2 := h.cell hi (show 2 < 4 by decide)
  have k3 := h.cell hi (show 3 < 4 by decide)
  exact ⟨k0.1, k1.1, k2.1, k3.1, k0.2, k1.2, k2.2, k3.2⟩
theorem swap0 (h : SWR encC 4 w0 blk d W) (i j : Nat) (hi : i < d.size) (hj : j < d.size) :
    SWR encC 4 w0 blk (swp d i j) ((W.setCells blk (i * 4) (encC d[j]!)).setCells blk (j * 4) (encC d[i]!)) := by
  have := h.swap encC_len i j hi hj
  rwa [Nat.zero_add, Nat.zero_add] at this
/-- What a function of the sort leaves. -/
def KPost (w0 : World) (blk n : Nat) (R : Array Cg → Prop) (e : Ending) (w' : World) : Prop := e = .returned (.tuple #[]) ∧ ∃ d', SWR encC 4 w0 blk d' w' ∧ d'.size = n ∧ R d'
theorem byAt_any (x y : Cg) (w : World) : Calls Tryd.prog 36 #[.agg #[.int .i64 x.1, .int .i64 x.2.1, .int .i64 x.2.2.1, .int .i64 x.2.2.2], .agg #[.int .i64 y.1, .int .i64 y.2.1, .int .i64 y.2.2.1, .int .i64 y.2.2.2]] w (fun e w' => e = .returned (.int .i64 (Lib.compareInt x.1 y.1)) ∧ ∃ q os', w' = grow (w.drewN q) os') := by
  have hcon := fun W' => Tryd.cmp_Compare_int x.1 y.1 W'
  generalize Lib.compareInt x.1 y.1 = r at hcon ⊢
  go_enter Tryd.func36, Tryd.ntmps36
  go_wp2_with (go_at_call 37; refine (hcon _).mono ?_; rintro e w' ⟨rfl, rfl⟩)
  go_ret
  exact ⟨rfl, 0, _, by rw [alloc_eq_grow, alloc_eq_grow, grow_grow]; rfl⟩
theorem below_gr (w : World) (q : Nat) (os : Array Obj) : Below w.heap.size w (grow (w.drewN q) os) :=
  ⟨rfl, rfl, rfl, by rw [size_grow]; exact Nat.le_add_right _ _, fun b hb => heap_grow_old _ os hb⟩
theorem byAt_B (x y : Cg) (w : World) : Calls Tryd.prog 36 #[.agg #[.int .i64 x.1, .int .i64 x.2.1, .int .i64 x.2.2.1, .int .i64 x.2.2.2], .agg #[.int .i64 y.1, .int .i64 y.2.1, .int .i64 y.2.2.1, .int .i64 y.2.2.2]] w (RetB (.int .i64 (Lib.compareInt x.1 y.1)) w) :=
  (byAt_any x y w).mono fun _ _ ⟨he, q, os, hw⟩ => ⟨he, by rw [hw]; exact below_gr w q os⟩
theorem cmp_lt (x y : Cg) : decide (Lib.compareInt x.1 y.1 < 0) = ltC x y := by
  unfold Lib.compareInt ltC
  by_cases h1 : x.1 < y.1
  · simp [h1]
  · by_cases h2 : y.1 < x.1 <;> simp [h1, h2]
set_option maxHeartbeats 2000000 in
set_option maxRecDepth 100000 in
theorem swapR_any (S : SWR encC 4 w0 blk d w) (hd : d.size = n) (hn : n < 1000000000) (a b k : Nat) (h1 : a + k ≤ b) (h2 : b + k ≤ n) :
    Calls Tryd.prog 91 #[.slice (some ⟨blk, 0, none⟩) n cap, .int .i64 a, .int .i64 b, .int .i64 k, .func (.func 36) #[] #[]] w (KPost w0 blk n (fun d' => SwAt a b k d d')) := by
  have HS := Lib.hid S
  have HD := Lib.hid hd
  clear S hd
  go_enter Tryd.func91, Tryd.ntmps91
  go_wp2
  go_loopw [10] (fun vi wr => ∃ (i : Nat) (dk : Array Cg), vi = .int .i64 i ∧ i ≤ k ∧ SWR encC 4 w0 blk dk wr ∧ dk.size = n ∧ SwAt a b i d dk) (fun vi _ => k - (intOf vi).toNat)
  case atStart => exact ⟨0, d, rfl, by omega, HS.out, HD.out, SwAt.zero a b d⟩
  case round =>
    obtain ⟨i, dk, rfl, hik, hS, hz, hR⟩ := hrel
    have HZ := Lib.hid hz
    have HR := Lib.hid hR
    have HW := Lib.hid hS
    clear hS hz hR
    by_cases hik2 : i < k
    · obtain ⟨p, hp⟩ : ∃ p : Nat, p = a + i := ⟨_, rfl⟩
      obtain ⟨q, hq⟩ : ∃ q : Nat, q = b + i := ⟨_, rfl⟩
      have ep : (a : Int) + (i : Int) = (p : Int) := by omega
      have eq : (b : Int) + (i : Int) = (q : Int) := by omega
      have p1 : (0 : Int) ≤ (p : Int) := by omega
      have p2 : (p : Int) < (n : Int) := by omega
      have q1 : (0 : Int) ≤ (q : Int) := by omega
      have q2 : (q : Int) < (n : Int) := by omega
      have p3 : p < n := by omega
      have q3 : q < n := by omega
      have wp : IntKind.i64.wrap (p : Int) = (p : Int) := IntWalk.i64_in _ (by omega)
      have wq : IntKind.i64.wrap (q : Int) = (q : Int) := IntWalk.i64_in _ (by omega)
      have hpq : p < q := by omega
      have HPE := Lib.hid hp
      have HQE := Lib.hid hq
      clear hp hq
      obtain ⟨pc0, pc1, pc2, pc3, pf0, pf1, pf2, pf3⟩ := cel4 HW.out (i := p) (by have := HZ.out; omega)
      obtain ⟨qc0, qc1, qc2, qc3, qf0, qf1, qf2, qf3⟩ := cel4 HW.out (i := q) (by have := HZ.out; omega)
      have HSW := Lib.hid (swap0 HW.out p q (by have := HZ.out; omega) (by have := HZ.out; omega))
      go_wp2
      go_region
      go_wp2
      go_roundw
      case rel => exact ⟨i + 1, swp dk p q, by go_num, by omega, HSW.out.drew, by rw [size_swp]; exact HZ.out, by rw [HPE.out, HQE.out]; exact HR.out.next (by omega) (by rw [HD.out]; omega)⟩
      case measure => simp [intOf]; omega
    · obtain rfl : i = k := by omega
      go_wp2
      go_end0
      exact ⟨rfl, dk, HW.out, HZ.out, HR.out⟩
set_option maxHeartbeats 2000000 in
set_option maxRecDepth 100000 in
theorem rotF_any (S : SWR encC 4 w0 blk d w) (hd : d.size = n) (hn : n < 1000000000) (a m b : Nat) (h1 : a < m) (h2 : m < b) (h3 : b ≤ n) :
    Calls Tryd.prog 86 #[.slice (some ⟨blk, 0, none⟩) n cap, .int .i64 a, .int .i64 m, .int .i64 b, .func (.func 36) #[] #[]] w (KPost w0 blk n (fun d' => RotAt a m b d d')) := by
  have HS := Lib.hid S
  have HD := Lib.hid hd
  clear S hd
  go_enter Tryd.func86, Tryd.ntmps86
  go_wp2
  go_loopw [10, 11] (fun vi vj wr => ∃ (i j : Nat) (dk : Array Cg), vi = .int .i64 i ∧ vj = .int .i64 j ∧ 1 ≤ i ∧ 1 ≤ j ∧ i ≤ m ∧ m + j ≤ b ∧ SWR encC 4 w0 blk dk wr ∧ dk.size = n ∧
    (∀ d', RotAt (m - i) m (m + j) dk d' → RotAt a m b d d')) (fun vi vj _ => (intOf vi).toNat + (intOf vj).toNat)
  case atStart => exact ⟨m - a, b - m, d, by go_num, by go_num, by omega, by omega, by omega, by omega, HS.out, HD.out, fun d' h => by rw [show m - (m - a) = a by omega, show m + (b - m) = b by omega] at h; exact h⟩
  case round =>
    obtain ⟨i, j, dk, rfl, rfl, i1, j1, im, jb, hS, hz, hR⟩ := hrel
    have HZ := Lib.hid hz
    have HR := Lib.hid hR
    have HW := Lib.hid hS
    clear hS hz hR
    have emi : ((m : Int) - (i : Int)) = ((m - i : Nat) : Int) := by omega
    by_cases hij : i = j
    · subst hij
      have c0 : ((i : Int) != (i : Int)) = false := by simp
      have HC := Lib.hid (swapR_any (cap := cap) HW.out HZ.out hn (m - i) m i (by omega) (by omega))
      rw [← emi] at HC
      clear emi
      go_wp2_with (go_at_call 91; refine HC.out.mono ?_; rintro e wa ⟨rfl, d1, hs1, z1, r1⟩)
      go_end0
      exact ⟨rfl, d1, hs1, z1, HR.out d1 (rot_even im r1)⟩
    · have c0 : ((i : Int) != (j : Int)) = true := by rw [bne_iff_ne]; omega
      by_cases hgt : j < i
      · have HC := Lib.hid (swapR_any (cap := cap) HW.out HZ.out hn (m - i) m j (by omega) (by omega))
        rw [← emi] at HC
        clear emi
        go_wp2_with (go_at_call 91; refine HC.out.mono ?_; rintro e wa ⟨rfl, d1, hs1, z1, r1⟩)
        go_roundw
        case rel => exact ⟨i - j, j, d1, by go_num, rfl, by omega, by omega, by omega, by omega, hs1, z1, fun d' h => HR.out d' (rot_left hgt im r1 h)⟩
        case measure => simp [intOf]; omega
      · have HC := Lib.hid (swapR_any (cap := cap) HW.out HZ.out hn (m - i) (m + j - i) i (by omega) (by omega))
        rw [← emi, show ((m + j - i : Nat) : Int) = (m : Int) + (j : Int) - (i : Int) by omega] at HC
        clear emi
        go_wp2_with (go_at_call 91; refine HC.out.mono ?_; rintro e wa ⟨rfl, d1, hs1, z1, r1⟩)
        go_roundw
        case rel => exact ⟨i, j - i, d1, rfl, by go_num, by omega, by omega, by omega, by omega, hs1, z1, fun d' h => HR.out d' (rot_right (by omega) im r1 h)⟩
        case measure => simp [intOf]; omega
end
end Go.Proofs.YtainelkenkgppaaDoor
