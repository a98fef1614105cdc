/- The library's stable sort over a slice of structs: the worlds that it passes through. -/
import Derived.Test.YtainelkenkgppaaDoorKit
import Derived.Test.YtainelkenkgppaaDoorStb
import Derived.Shelf.SlSortCmp.InsertionK
import Derived.Shelf.SlSortFuncK.ComposeK
namespace Go.Lott.Srt
open Go.Sort Go.RowKit Go.Proofs Go.Lott.Stb
variable {α : Type} [Inhabited α]
set_option linter.unusedSectionVars false
/-- W is as w0 was, but for the row in block blk, which holds d. -/
structure SWR (enc : α → List Value) (k : Nat) (w0 : World) (blk : Nat) (d : Array α) (W : World) : Prop where
  os : W.os = w0.os
  tape : W.tape = w0.tape
  output : W.output = w0.output
  size : w0.heap.size ≤ W.heap.size
  block : ∀ b, b < w0.heap.size → b ≠ blk → W.heap[b]? = w0.heap[b]?
  row : HoldsK enc k W blk 0 d
  lt : blk < w0.heap.size
section
variable {enc : α → List Value} {k : Nat} {w0 W W1 : World} {blk : Nat} {d d' : Array α}
theorem SWR.start (h : HoldsK enc k W blk 0 d) (hl : blk < W.heap.size) : SWR enc k W blk d W := ⟨rfl, rfl, rfl, Nat.le_refl _, fun _ _ _ => rfl, h, hl⟩
theorem holdsK_of_block (h : HoldsK enc k W blk 0 d) (hb : W1.heap[blk]? = W.heap[blk]?) : HoldsK enc k W1 blk 0 d := fun j hj => by
  obtain ⟨h1, h2⟩ := h j hj
  exact ⟨by rw [World.cell?_of_block (w := W) hb]; exact h1, by rw [World.frozen?_of_block (w := W) hb]; exact h2⟩
theorem SWR.blk_lt (h : SWR enc k w0 blk d W) : blk < W.heap.size := Nat.lt_of_lt_of_le h.lt h.size
theorem SWR.below (h : SWR enc k w0 blk d W) (hb : Below W.heap.size W W1) : SWR enc k w0 blk d W1 :=
  ⟨hb.os.trans h.os, hb.tape.trans h.tape, hb.output.trans h.output, Nat.le_trans h.size hb.size, fun b h1 h2 => (hb.block b (Nat.lt_of_lt_of_le h1 h.size)).trans (h.block b h1 h2),
    holdsK_of_block h.row (hb.block blk h.blk_lt), h.lt⟩
theorem SWR.drew (h : SWR enc k w0 blk d W) : SWR enc k w0 blk d W.drew := ⟨h.os, h.tape, h.output, h.size, h.block, h.row, h.lt⟩
theorem putRowK_block (W : World) (b blk : Nat) (d : Array α) (hb : b ≠ blk) : (putRowK enc k W blk 0 d).heap[b]? = W.heap[b]? := by
  show (W.heap.modify blk _)[b]? = _
  rw [Array.getElem?_modify, if_neg (fun e => hb e.symm)]
theorem SWR.put (h : SWR enc k w0 blk d W) (hs : d'.size = d.size) : SWR enc k w0 blk d' (putRowK enc k W blk 0 d') :=
  ⟨h.os, h.tape, h.output, by rw [size_putRowK]; exact h.size, fun b h1 h2 => (putRowK_block W b blk d' h2).trans (h.block b h1 h2), holdsK_putRowK enc k W blk 0 d d' h.row hs, h.lt⟩
/-- An exchange of two elements: two runs of stores. -/
theorem SWR.swap (hk : ∀ x, (enc x).length = k) (h : SWR enc k w0 blk d W) (i j : Nat) (hi : i < d.size) (hj : j < d.size) :
    SWR enc k w0 blk (swp d i j) ((W.setCells blk (0 + i * k) (enc d[j]!)).setCells blk (0 + j * k) (enc d[i]!)) := by
  have e := putRowK_swp enc k hk W blk 0 d i j hi hj
  rw [putRowK_self enc k W blk 0 d h.row] at e
  rw [e]
  exact h.put (by rw [size_swp])
/-- A world of the library's own sort. -/
theorem SWR.ofK (h : SWR enc k w0 blk d W) {n : Nat} {os : Array Obj} (hw : W1 = sortWorldK enc k W blk 0 n d' os) (hs : d'.size = d.size) : SWR enc k w0 blk d' W1 := by
  subst hw
  have hb : ∀ b, b < W.heap.size → b ≠ blk → (sortWorldK enc k W blk 0 n d' os).heap[b]? = W.heap[b]? := fun b h1 h2 => by
    unfold sortWorldK
    rw [heap_grow_old _ os (by rw [size_putRowK]; exact h1)]
    exact putRowK_block (Sort.ahead W n) b blk d' h2
  exact ⟨h.os, h.tape, h.output, Nat.le_trans h.size (by unfold sortWorldK; rw [size_grow, size_putRowK]; show W.heap.size ≤ W.heap.size + _; omega), fun b h1 h2 => (hb b (Nat.lt_of_lt_of_le h1 h.size) h2).trans (h.block b h1 h2), holdsK_sortWorldK enc k W blk 0 n d d' os h.blk_lt h.row hs, h.lt⟩
/-- Below a block that is not above the row's, nothing has turned. -/
theorem SWR.bel (h : SWR enc k w0 blk d W) {B : Nat} (hB : B ≤ blk) : Below B w0 W := ⟨h.os, h.tape, h.output, h.size, fun b hb => h.block b (by have := h.lt; omega) (by omega)⟩
theorem SWR.cell (h : SWR enc k w0 blk d W) {i c : Nat} (hi : i < d.size) (hc : c < k) : W.cell? ⟨blk, i * k + c, none⟩ = some (enc d[i]!)[c]! ∧ W.frozen? ⟨blk, i * k + c, none⟩ = false := by
  have := h.row.cell hi hc
  rwa [Nat.zero_add] at this
theorem SWR.trans (h : SWR enc k w0 blk d W) (h' : SWR enc k W blk d' W1) : SWR enc k w0 blk d' W1 :=
  ⟨h'.os.trans h.os, h'.tape.trans h.tape, h'.output.trans h.output, Nat.le_trans h.size h'.size, fun b h1 h2 => (h'.block b (Nat.lt_of_lt_of_le h1 h.size) h2).trans (h.block b h1 h2), h'.row, h.lt⟩
end
end Go.Lott.Srt
