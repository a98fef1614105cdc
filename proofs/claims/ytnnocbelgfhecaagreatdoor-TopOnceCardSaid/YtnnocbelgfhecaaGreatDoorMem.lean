/- Memory: blocks that are known whole; slices of numbers that came in. No program stands in this text. -/
import Derived.Test.YtnnocbelgfhecaaGreatDoorKit
import Derived.Test.YtnnocbelgfhecaaGreatDoorKitb
import Derived.OneCell
import Derived.OwnWalk
import Derived.Laws.OwnMore
import Derived.Laws.MakeOwn
import Derived.Laws.Rows
namespace Go.Lott
open Go.RowKit

/-- A block that is known whole. -/
def Cel (w : World) (b : Nat) (cs : Array Value) (t : TypeId) : Prop := w.heap[b]? = some (.cells cs t (0, 0))
section
variable {w w1 : World} {b : Nat} {cs : Array Value} {t : TypeId}
theorem Cel.lt (h : Cel w b cs t) : b < w.heap.size := lt_of_block h
theorem Cel.cell (h : Cel w b cs t) (i : Nat) : w.cell? ⟨b, i, none⟩ = cs[i]? := by unfold Cel at h; simp [World.cell?, h]
theorem Cel.free (h : Cel w b cs t) (i : Nat) : w.frozen? ⟨b, i, none⟩ = false := by unfold Cel at h; simp [World.frozen?, h]
theorem Cel.drew (h : Cel w b cs t) : Cel w.drew b cs t := h
theorem Cel.below {B : Nat} (h : Cel w b cs t) (hb : Below B w w1) (hB : b < B) : Cel w1 b cs t := by unfold Cel; rw [hb.block b hB]; exact h
theorem Cel.alloc (h : Cel w b cs t) (o : Obj) : Cel (w.alloc o) b cs t := by unfold Cel; rw [Below.heap_alloc _ _ _ h.lt]; exact h
theorem Cel.new (w : World) (cs : Array Value) (t : TypeId) : Cel (w.alloc (.cells cs t)) w.heap.size cs t := heap_alloc_new w _
theorem Cel.other (h : Cel w b cs t) {a : Addr} (ha : b ≠ a.block) (u : Value) : Cel (w.setCell a u) b cs t := by unfold Cel; rw [Below.heap_setCell _ _ _ _ ha]; exact h
theorem Cel.set (h : Cel w b cs t) (i : Nat) (u : Value) : Cel (w.setCell ⟨b, i, none⟩ u) b (cs.setIfInBounds i u) t := by
  have hlt := h.lt
  have h' : w.heap[b] = .cells cs t (0, 0) := by unfold Cel at h; simpa [Array.getElem?_eq_getElem hlt] using h
  unfold Cel
  show (w.heap.modify b _)[b]? = _
  rw [Array.getElem?_eq_getElem (by simpa using hlt), Array.getElem_modify_self, h']
  rfl
end
/-- The cells of n numbers. -/
def fv (n : Nat) (f : Nat → Int) : Array Value := ((List.range n).map fun k => Value.int .i64 (f k)).toArray
theorem fv_size (n : Nat) (f : Nat → Int) : (fv n f).size = n := by simp [fv]
theorem fv_get {n : Nat} {f : Nat → Int} {i : Nat} (h : i < n) : (fv n f)[i]? = some (.int .i64 (f i)) := by simp [fv, h]
theorem fv_congr {n : Nat} {f g : Nat → Int} (h : ∀ k, k < n → f k = g k) : fv n f = fv n g := by
  unfold fv; congr 1; exact List.map_congr_left fun k hk => by rw [h k (List.mem_range.1 hk)]
theorem fv_set {n : Nat} (f : Nat → Int) (i : Nat) (x : Int) : (fv n f).setIfInBounds i (.int .i64 x) = fv n (fun k => if k = i then x else f k) := by
  apply Array.ext_getElem?
  intro j
  rw [Array.getElem?_setIfInBounds, fv_size]
  by_cases hj : j < n
  · by_cases c : i = j
    · subst c; rw [if_pos rfl, if_pos hj, fv_get hj, if_pos rfl]
    · rw [if_neg c, fv_get hj, fv_get hj, if_neg (fun e => c e.symm)]
  · rw [Array.getElem?_eq_none (xs := fv n f) (by rw [fv_size]; omega), Array.getElem?_eq_none (xs := fv n fun k => if k = i then x else f k) (by rw [fv_size]; omega)]
    by_cases c : i = j
    · rw [if_pos c, if_neg (by omega)]
    · rw [if_neg c]
theorem Cel.at {w : World} {b n : Nat} {f : Nat → Int} {t : TypeId} (h : Cel w b (fv n f) t) {i : Nat} (hi : i < n) : w.cell? ⟨b, i, none⟩ = some (.int .i64 (f i)) := by rw [h.cell, fv_get hi]
theorem Cel.put {w : World} {b n : Nat} {f : Nat → Int} {t : TypeId} (h : Cel w b (fv n f) t) (i : Nat) (x : Int) : Cel (w.setCell ⟨b, i, none⟩ (.int .i64 x)) b (fv n (fun k => if k = i then x else f k)) t := by
  have := h.set i (.int .i64 x); rw [fv_set] at this; exact this
/-- What 'make' gives. -/
theorem cel_of_made {w : World} {base : Nat} {e : TypeId} {H n : Nat} (h : w.ownsRow base e 1 (.slice (some ⟨H, 0, none⟩) n n) n (madeCells (Value.int .i64 0).cells (n * 1)).toList) : Cel w H (fv n (fun _ => 0)) e := by
  rcases h.2 with ⟨hc, _⟩ | ⟨g, cap, cur, hv, _, hh, _, _, hs, hl⟩
  · cases hc
  · injection hv with h1 h2 h3
    injection h1 with h1
    injection h1 with h1
    subst h1
    have hcur : cur = fv n (fun _ => 0) := by
      apply Array.toList_inj.1
      rw [Nat.mul_one] at hs hl
      rw [List.take_of_length_le (by simp; omega)] at hl
      rw [hl]
      show (madeCells #[Value.int .i64 0] n).toList = _
      rw [toList_madeCells_one]
      simp [fv, List.map_const']
    unfold Cel; rw [hh, hcur]
theorem cel_grown {w w1 : World} {b : Nat} {cs : Array Value} {t : TypeId} (h : Cel w b cs t) (hg : w.grownBy w1 none) : Cel w1 b cs t := h.below ((Below.refl w.heap.size w).grown hg (Nat.le_refl _) (fun k hk => by cases hk)) h.lt
/-- A slice of numbers: either it has no element, or its cells hold the numbers z. -/
def IsRow (w : World) (a : Option Addr) (len : Nat) (z : Nat → Int) : Prop :=
  len = 0 ∨ ∃ b o, a = some ⟨b, o, none⟩ ∧ b < w.heap.size ∧ len ≤ maxLen ∧ ∀ i, i < len → w.cell? ⟨b, o + i, none⟩ = some (.int .i64 (z i))
theorem IsRow.below {w w1 : World} {a : Option Addr} {len : Nat} {z : Nat → Int} (h : IsRow w a len z) {B : Nat} (hb : Below B w w1) (hB : w.heap.size ≤ B) : IsRow w1 a len z := by
  rcases h with h | ⟨b, o, h1, h2, h3, h4⟩
  · exact .inl h
  · exact .inr ⟨b, o, h1, Nat.lt_of_lt_of_le h2 hb.size, h3, fun i hi => by rw [hb.cell (p := ⟨b, _, none⟩) (Nat.lt_of_lt_of_le h2 hB)]; exact h4 i hi⟩
theorem IsRow.of_cel {w : World} {b n : Nat} {f : Nat → Int} {t : TypeId} (h : Cel w b (fv n f) t) (hn : n ≤ maxLen) : IsRow w (some ⟨b, 0, none⟩) n f :=
  .inr ⟨b, 0, rfl, h.lt, hn, fun i hi => by rw [Nat.zero_add]; exact h.at hi⟩
end Go.Lott
