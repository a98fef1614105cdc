/- A slice of structs of numbers of several kinds that came in: its cells hold numbers, each in its kind's range. -/
import Derived.Test.YtnnocbelgfhecaaGreatDoorMem
import Derived.Test.YtnnocbelgfhecaaGreatDoorRows
import Derived.Deep.Slices
import Derived.Deep.Fields
import Derived.ChangeSame
import Derived.OpenShut
namespace Go.Proofs.YtnnocbelgfhecaaGreatDoor
open Go.ChangeShapes Go.WideShapes Go.ChangeAt Go.RowKit Go.Lott
/-- A slice of structs of numbers of the kinds ks: either it has no element, or its cells hold the numbers z. -/
def IsRowsK (ks : List IntKind) (w : World) (a : Option Addr) (len : Nat) (z : Nat → Nat → Int) : Prop :=
  len = 0 ∨ ∃ b o, a = some ⟨b, o, none⟩ ∧ b < w.heap.size ∧ len ≤ maxLen ∧ ∀ (i j : Nat) (k : IntKind), i < len → ks[j]? = some k → w.cell? ⟨b, o + (i * ks.length + j), none⟩ = some (.int k (z i j)) ∧ (Lit.int k (z i j)).wf = true
theorem IsRowsK.below {ks : List IntKind} {w w1 : World} {a : Option Addr} {len : Nat} {z : Nat → Nat → Int} (h : IsRowsK ks w a len z) {B : Nat} (hb : Below B w w1) (hB : w.heap.size ≤ B) : IsRowsK ks w1 a len z := by
  rcases h with h | ⟨b, o, h1, h2, h3, h4⟩
  · exact .inl h
  · exact .inr ⟨b, o, h1, Nat.lt_of_lt_of_le h2 hb.size, h3, fun i j k hi hj => by rw [hb.cell (p := ⟨b, _, none⟩) (Nat.lt_of_lt_of_le h2 hB)]; exact h4 i j k hi hj⟩
/-- A type whose values lie in as many cells as ks has kinds, each of them a number of its kind. -/
def FlatK (P : Program) (e : TypeId) (ks : List IntKind) : Prop :=
  P.cellsOf e = ks.length ∧ ∀ (H : Type) (enc : TypeId × Value → H) (w : World) (base : Nat) (spare : Nat → Bool) (held : Bool) (fuel : Nat) (cs : List Value) (x : DataW H × List MemPlace),
    DataW.trod enc P w base spare held fuel e cs = some x → ∀ (j : Nat) (k : IntKind), ks[j]? = some k → ∃ v : Int, cs[j]? = some (Value.int k v) ∧ (Lit.int k v).wf = true
theorem FlatK.struct {P : Program} {e : TypeId} {fs : Array Field} {ks : List IntKind} (he : P.underlying e = some (.struct fs)) (hC : P.cellsOf e = ks.length)
    (hall : ∀ (j : Nat) (k : IntKind), ks[j]? = some k → ∃ (i : Nat) (f : Field) (ks' : List IntKind), fs[i]? = some f ∧ FlatK P f.type ks' ∧ f.offset ≤ j ∧ ks'[j - f.offset]? = some k) : FlatK P e ks := by
  refine ⟨hC, fun H enc w base spare held fuel cs x h j k hj => ?_⟩
  obtain ⟨xs, n, _, _, hlen, hxl, hf⟩ := DataW.trod_struct he h
  obtain ⟨i, f, ks', hi, hm, h1, h2⟩ := hall j k hj
  have ht := hf i f hi
  have hil : i < fs.size := (Array.getElem?_eq_some_iff.1 hi).1
  rw [List.getElem?_eq_getElem (by omega)] at ht
  obtain ⟨v, hv, hwf⟩ := hm.2 H enc w base spare held _ _ _ ht (j - f.offset) k h2
  have hlt : j - f.offset < ks'.length := (List.getElem?_eq_some_iff.1 h2).1
  rw [hm.1, List.getElem?_take, if_pos hlt, List.getElem?_drop, show f.offset + (j - f.offset) = j by omega] at hv
  exact ⟨v, hv, hwf⟩
theorem FlatK.array {P : Program} {t e : TypeId} {n : Nat} {k : IntKind} (ht : P.underlying t = some (.array n e)) (he : FlatK P e [k]) (hC : P.cellsOf t = n) : FlatK P t (List.replicate n k) := by
  refine ⟨by rw [hC, List.length_replicate], fun H enc w base spare held fuel cs x h j k' hj => ?_⟩
  rw [List.getElem?_replicate] at hj
  split at hj
  · rename_i hlt
    cases hj
    obtain ⟨xs, m, _, _, hlen, hxl, hf⟩ := DataW.trod_array ht h
    have h2 := hf j hlt
    rw [List.getElem?_eq_getElem (by omega)] at h2
    obtain ⟨v, hv, hwf⟩ := he.2 H enc w base spare held _ _ _ h2 0 k rfl
    rw [he.1, List.getElem?_take, if_pos (by simp), List.getElem?_drop, show j * [k].length + 0 = j by simp] at hv
    exact ⟨v, hv, hwf⟩
  · cases hj
theorem FlatK.int {P : Program} {e : TypeId} {k : IntKind} (he : P.underlying e = some (.int k)) (hC : P.cellsOf e = 1) : FlatK P e [k] := by
  refine ⟨hC, fun H enc w base spare held fuel cs x h j k' hj => ?_⟩
  obtain ⟨v, rfl, _, hwf⟩ := DataW.trod_int he h
  cases j with
  | zero => cases hj; exact ⟨v, rfl, hwf⟩
  | succ j => simp at hj
theorem flatU8 : FlatK Tryz.prog 5 [.u8] := FlatK.int Tryz.underlying5 (by kernel_rfl)
theorem flatU16 : FlatK Tryz.prog 37 [.u16] := FlatK.int Tryz.underlying37 (by kernel_rfl)
theorem flatTwoB : FlatK Tryz.prog 38 [.u8, .u8] := FlatK.array (n := 2) Tryz.underlying38 flatU8 (by kernel_rfl)
theorem flatSale : FlatK Tryz.prog 40 [.u8, .u8, .u8, .u8, .u16] := FlatK.struct Tryz.underlying40 (by kernel_rfl) (fun j k hj => by
  have hlt : j < 5 := (List.getElem?_eq_some_iff.1 hj).1
  rcases (show j = 0 ∨ j = 1 ∨ j = 2 ∨ j = 3 ∨ j = 4 by omega) with rfl | rfl | rfl | rfl | rfl <;> cases hj
  · exact ⟨0, _, _, rfl, flatU8, by decide, rfl⟩
  · exact ⟨1, _, _, rfl, flatU8, by decide, rfl⟩
  · exact ⟨2, _, _, rfl, flatTwoB, by decide, rfl⟩
  · exact ⟨2, _, _, rfl, flatTwoB, by decide, rfl⟩
  · exact ⟨3, _, _, rfl, flatU16, by decide, rfl⟩)
theorem addr_add (b o k : Nat) : Addr.add ⟨b, o, none⟩ k = ⟨b, o + k, none⟩ := by
  unfold Addr.add
  by_cases h : k = 0
  · subst h; simp
  · simp [h]
section
variable {H : Type} {enc : TypeId × Value → H} {P : Program} {w : World} {spare : Nat → Bool} {held : Bool}
/-- Out of the reading of such a slice: the rows. -/
theorem isRows_of_trod {t e : TypeId} {a : Option Addr} {len cap : Nat} {d : DataW H} {p : List MemPlace} {ks : List IntKind} (ht : P.underlying t = some (.slice e)) (hn : 0 < ks.length) (hfl : FlatK P e ks)
    (h : DataW.Trod enc P w 0 spare held t (.slice a len cap) d p) : ∃ z, IsRowsK ks w a len z ∧ len ≤ cap := by
  obtain ⟨fuel, hf⟩ := h
  by_cases h0 : len = 0
  · exact ⟨fun _ _ => 0, .inl h0, by omega⟩
  rcases Go.Deep.open_slice ht hf with ⟨hcs, _⟩ | ⟨ad, len', cap', m, q, D, Pl, hcs, hb, hl, hm, hmm, hx, hi'⟩
  · simp [Value.cells] at hcs; omega
  · simp [Value.cells] at hcs
    obtain ⟨rfl, rfl, rfl⟩ := hcs
    have hlm : len ≤ m := by rw [hmm]; split <;> omega
    have key : ∀ i j, ∃ v : Int, ∀ k : IntKind, i < len → ks[j]? = some k → w.cell? (ad.add (i * ks.length + j)) = some (.int k v) ∧ (Lit.int k v).wf = true := by
      intro i j
      by_cases hij : i < len ∧ j < ks.length
      · obtain ⟨cs', hc, ht'⟩ := hi' i (by omega)
        rw [hfl.1] at hc
        obtain ⟨_, hcl, hat⟩ := World.cells?_some hc
        obtain ⟨v, hv, hwf⟩ := hfl.2 H enc w 0 spare held _ _ _ ht' j ks[j] (List.getElem?_eq_getElem hij.2)
        refine ⟨v, fun k _ hk => ?_⟩
        rw [List.getElem?_eq_getElem hij.2] at hk
        cases hk
        exact ⟨by rw [← Go.Deep.add_add, hat j hij.2, hv], hwf⟩
      · exact ⟨0, fun k h1 h2 => (hij ⟨h1, (List.getElem?_eq_some_iff.1 h2).1⟩).elim⟩
    obtain ⟨b, o, spot⟩ := ad
    obtain ⟨v0, hv0⟩ := key 0 0
    have hv0 := (hv0 ks[0] (by omega) (List.getElem?_eq_getElem hn)).1
    have hspot : spot = none := by simpa [Addr.add] using World.cell?_spot hv0
    subst hspot
    have hblt : b < w.heap.size := by simpa [Addr.add] using World.block_lt_of_cell? w _ hv0
    refine ⟨fun i j => (key i j).choose, .inr ⟨b, o, rfl, hblt, by omega, fun i j k hi hj => ?_⟩, hl⟩
    have := (key i j).choose_spec k hi hj
    exact ⟨(congrArg w.cell? (addr_add b o (i * ks.length + j))).symm.trans this.1, this.2⟩
end
end Go.Proofs.YtnnocbelgfhecaaGreatDoor
