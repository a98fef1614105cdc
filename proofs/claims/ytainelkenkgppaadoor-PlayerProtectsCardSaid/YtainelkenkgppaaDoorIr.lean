/- A slice of structs of numbers that came in: its cells hold numbers. -/
import Derived.Test.YtainelkenkgppaaDoorMem
import Derived.Test.YtainelkenkgppaaDoorRows
import Derived.Deep.Slices
import Derived.Deep.Fields
import Derived.ChangeSame
import Derived.OpenShut
namespace Go.Proofs.YtainelkenkgppaaDoor
open Go.ChangeShapes Go.WideShapes Go.ChangeAt Go.RowKit Go.Lott
/-- A slice of structs of n numbers: either it has no element, or its cells hold the numbers z. -/
def IsRows (n : Nat) (w : World) (a : Option Addr) (len : Nat) (z : Nat → Nat → Int) : Prop :=
  len = 0 ∨ ∃ b o, a = some ⟨b, o, none⟩ ∧ b < w.heap.size ∧ len ≤ maxLen ∧ ∀ i j, i < len → j < n → w.cell? ⟨b, o + (i * n + j), none⟩ = some (.int .i64 (z i j))
theorem IsRows.below {n : Nat} {w w1 : World} {a : Option Addr} {len : Nat} {z : Nat → Nat → Int} (h : IsRows n w a len z) {B : Nat} (hb : Below B w w1) (hB : w.heap.size ≤ B) : IsRows n w1 a len z := by
  rcases h with h | ⟨b, o, h1, h2, h3, h4⟩
  · exact .inl h
  · exact .inr ⟨b, o, h1, Nat.lt_of_lt_of_le h2 hb.size, h3, fun i j hi hj => by rw [hb.cell (p := ⟨b, _, none⟩) (Nat.lt_of_lt_of_le h2 hB)]; exact h4 i j hi hj⟩
theorem IsRows.front {n : Nat} {w : World} {a : Option Addr} {len k : Nat} {z : Nat → Nat → Int} (h : IsRows n w a len z) (hk : k ≤ len) : IsRows n w a k z := by
  rcases h with h | ⟨b, o, h1, h2, h3, h4⟩
  · exact .inl (by omega)
  · exact .inr ⟨b, o, h1, h2, by omega, fun i j hi hj => h4 i j (by omega) hj⟩
/-- A type whose values lie in n cells, each of them a number. -/
def FlatInts (P : Program) (e : TypeId) (n : Nat) : Prop :=
  P.cellsOf e = n ∧ ∀ (H : Type) (enc : TypeId × Value → H) (w : World) (base : Nat) (spare : Nat → Bool) (held : Bool) (fuel : Nat) (cs : List Value) (x : DataW H × List MemPlace),
    DataW.trod enc P w base spare held fuel e cs = some x → ∀ j, j < n → ∃ v, cs[j]? = some (.int .i64 v)
/-- A struct whose fields are such. -/
theorem FlatInts.struct {P : Program} {e : TypeId} {fs : Array Field} {n : Nat} (he : P.underlying e = some (.struct fs)) (hC : P.cellsOf e = n)
    (hall : ∀ j, j < n → ∃ (i : Nat) (f : Field) (m : Nat), fs[i]? = some f ∧ FlatInts P f.type m ∧ f.offset ≤ j ∧ j < f.offset + m) : FlatInts P e n := by
  refine ⟨hC, fun H enc w base spare held fuel cs x h j hj => ?_⟩
  obtain ⟨xs, k, _, _, hlen, hxl, hf⟩ := DataW.trod_struct he h
  obtain ⟨i, f, m, hi, hm, h1, h2⟩ := hall j hj
  have ht := hf i f hi
  have hil : i < fs.size := (Array.getElem?_eq_some_iff.1 hi).1
  rw [List.getElem?_eq_getElem (by omega)] at ht
  obtain ⟨v, hv⟩ := hm.2 H enc w base spare held _ _ _ ht (j - f.offset) (by omega)
  rw [hm.1, List.getElem?_take, if_pos (by omega), List.getElem?_drop, show f.offset + (j - f.offset) = j by omega] at hv
  exact ⟨v, hv⟩
theorem FlatInts.int {P : Program} {e : TypeId} (he : P.underlying e = some (.int .i64)) (hC : P.cellsOf e = 1) : FlatInts P e 1 := by
  refine ⟨hC, fun H enc w base spare held fuel cs x h j hj => ?_⟩
  obtain ⟨v, rfl, _⟩ := DataW.trod_int he h
  obtain rfl : j = 0 := by omega
  exact ⟨v, rfl⟩
theorem flatInt : FlatInts Tryd.prog 3 1 := FlatInts.int Tryd.underlying3 (by kernel_rfl)
theorem flatLimits : FlatInts Tryd.prog 28 3 := FlatInts.struct Tryd.underlying28 (by kernel_rfl) (fun j hj => by
  rcases (show j = 0 ∨ j = 1 ∨ j = 2 by omega) with rfl | rfl | rfl
  · exact ⟨0, _, 1, rfl, flatInt, by decide, by decide⟩
  · exact ⟨1, _, 1, rfl, flatInt, by decide, by decide⟩
  · exact ⟨2, _, 1, rfl, flatInt, by decide, by decide⟩)
theorem flatChange : FlatInts Tryd.prog 30 4 := FlatInts.struct Tryd.underlying30 (by kernel_rfl) (fun j hj => by
  rcases (show j = 0 ∨ j = 1 ∨ j = 2 ∨ j = 3 by omega) with rfl | rfl | rfl | rfl
  · exact ⟨0, _, 1, rfl, flatInt, by decide, by decide⟩
  · exact ⟨1, _, 3, rfl, flatLimits, by decide, by decide⟩
  · exact ⟨1, _, 3, rfl, flatLimits, by decide, by decide⟩
  · exact ⟨1, _, 3, rfl, flatLimits, by decide, by decide⟩)
theorem flatSpend : FlatInts Tryd.prog 26 2 := FlatInts.struct Tryd.underlying26 (by kernel_rfl) (fun j hj => by
  rcases (show j = 0 ∨ j = 1 by omega) with rfl | rfl
  · exact ⟨0, _, 1, rfl, flatInt, by decide, by decide⟩
  · exact ⟨1, _, 1, rfl, flatInt, by decide, by decide⟩)
theorem addr_add (b o k : Nat) : Addr.add ⟨b, o, none⟩ k = ⟨b, o + k, none⟩ := by
  unfold Addr.add
  by_cases h : k = 0
  · subst h; simp
  · simp [h]
section
variable {H : Type} {enc : TypeId × Value → H} {P : Program} {w : World} {spare : Nat → Bool} {held : Bool}
/-- Out of the reading of such a slice: the rows. -/
theorem isRows_of_trod {t e : TypeId} {a : Option Addr} {len cap : Nat} {d : DataW H} {p : List MemPlace} {n : Nat} (ht : P.underlying t = some (.slice e)) (hn : 0 < n) (hfl : FlatInts P e n)
    (h : DataW.Trod enc P w 0 spare held t (.slice a len cap) d p) : ∃ z, IsRows n w a len z ∧ len ≤ cap := by
  obtain ⟨fuel, hf⟩ := h
  by_cases h0 : len = 0
  · exact ⟨fun _ _ => 0, .inl h0, by omega⟩
  rcases Go.Deep.open_slice ht hf with ⟨hcs, _⟩ | ⟨ad, len', cap', m, q, D, Pl, hcs, hb, hl, hm, hmm, hx, hi'⟩
  · simp [Value.cells] at hcs; omega
  · simp [Value.cells] at hcs
    obtain ⟨rfl, rfl, rfl⟩ := hcs
    have hlm : len ≤ m := by rw [hmm]; split <;> omega
    have key : ∀ i j, ∃ v, i < len → j < n → w.cell? (ad.add (i * n + j)) = some (.int .i64 v) := by
      intro i j
      by_cases hij : i < len ∧ j < n
      · obtain ⟨cs', hc, ht'⟩ := hi' i (by omega)
        rw [hfl.1] at hc
        obtain ⟨_, hcl, hat⟩ := World.cells?_some hc
        obtain ⟨v, hv⟩ := hfl.2 H enc w 0 spare held _ _ _ ht' j hij.2
        refine ⟨v, fun _ _ => ?_⟩
        rw [← Go.Deep.add_add, hat j hij.2, hv]
      · exact ⟨0, fun h1 h2 => (hij ⟨h1, h2⟩).elim⟩
    obtain ⟨b, o, spot⟩ := ad
    have hc0 := (key 0 0).elim fun v hv => (⟨v, hv (by omega) hn⟩ : ∃ v, w.cell? (Addr.add ⟨b, o, spot⟩ (0 * n + 0)) = some (.int .i64 v))
    obtain ⟨v0, hv0⟩ := hc0
    have hspot : spot = none := by simpa [Addr.add] using World.cell?_spot hv0
    subst hspot
    have hblt : b < w.heap.size := by simpa [Addr.add] using World.block_lt_of_cell? w _ hv0
    refine ⟨fun i j => (key i j).choose, .inr ⟨b, o, rfl, hblt, by omega, fun i j hi hj => ?_⟩, hl⟩
    have := (key i j).choose_spec hi hj
    exact (congrArg w.cell? (addr_add b o (i * n + j))).symm.trans this
end
end Go.Proofs.YtainelkenkgppaaDoor
