/- A struct of numbers, handed in by value: its cells hold numbers of 64 bits. -/
import Derived.Test.YtainelkenkgppaaDoorRows
import Derived.Test.YtainelkenkgppaaDoorMem
import Derived.Deep.Slices
import Derived.Deep.Fields
import Derived.ChangeSame
import Derived.OpenShut
import Derived.Lib.SmallJoins
namespace Go.Proofs.YtainelkenkgppaaDoor
open Go.ChangeShapes Go.WideShapes Go.ChangeAt Go.RowKit Go.Lott
/-- A number of 64 bits. -/
def I64 (n : Int) : Prop := -9223372036854775808 ≤ n ∧ n ≤ 9223372036854775807
theorem i64_of {a : Int} (h : (Lit.int .i64 a).wf = true) : I64 a := by
  have h1 : IntKind.i64.min ≤ a ∧ a ≤ 9223372036854775807 := by simpa [Lit.wf] using h
  exact h1
/-- A type whose values lie in n cells, each of them a number. -/
def FlatW (P : Program) (e : TypeId) (n : Nat) : Prop :=
  P.cellsOf e = n ∧ ∀ (H : Type) (enc : TypeId × Value → H) (w : World) (base : Nat) (spare : Nat → Bool) (held : Bool) (fuel : Nat) (cs : List Value) (x : DataW H × List MemPlace),
    DataW.trod enc P w base spare held fuel e cs = some x → ∀ j, j < n → ∃ v, cs[j]? = some (.int .i64 v) ∧ I64 v
theorem FlatW.int {P : Program} {e : TypeId} (he : P.underlying e = some (.int .i64)) (hC : P.cellsOf e = 1) : FlatW P e 1 := by
  refine ⟨hC, fun H enc w base spare held fuel cs x h j hj => ?_⟩
  obtain ⟨v, rfl, _, hw⟩ := DataW.trod_int he h
  obtain rfl : j = 0 := by omega
  exact ⟨v, rfl, i64_of hw⟩
theorem FlatW.ints {P : Program} {e it : TypeId} {fs : Array Field} {n : Nat} (he : P.underlying e = some (.struct fs)) (hC : P.cellsOf e = n) (hi : FlatW P it 1)
    (hall : (List.range n).all (fun j => match fs[j]? with | some f => f.type == it && f.offset == j | none => false) = true) : FlatW P e n := by
  refine ⟨hC, fun H enc w base spare held fuel cs x h j hj => ?_⟩
  obtain ⟨xs, k, _, _, hlen, hxl, hf⟩ := DataW.trod_struct he h
  have hj2 := List.all_eq_true.1 hall j (List.mem_range.2 hj)
  cases hfj : fs[j]? with
  | none => rw [hfj] at hj2; cases hj2
  | some f =>
    rw [hfj] at hj2
    simp only [Bool.and_eq_true, beq_iff_eq] at hj2
    have ht := hf j f hfj
    have hil : j < fs.size := (Array.getElem?_eq_some_iff.1 hfj).1
    rw [List.getElem?_eq_getElem (by omega), hj2.1] at ht
    obtain ⟨v, hv, hw⟩ := hi.2 H enc w base spare held _ _ _ ht 0 (by omega)
    rw [hi.1, List.getElem?_take, if_pos (by omega), List.getElem?_drop, hj2.2, Nat.add_zero] at hv
    exact ⟨v, hv, hw⟩
theorem flatI : FlatW Tryd.prog 3 1 := FlatW.int Tryd.underlying3 (by kernel_rfl)
section
variable {H : Type} {enc : TypeId × Value → H} {P : Program} {w : World} {base : Nat} {spare : Nat → Bool} {held : Bool}
theorem open_flat {r : Reach} {b0 : Nat} {t : TypeId} {fs : Array Field} {v : Value} {d : DataW H} {p : List MemPlace} {n : Nat} (hs : P.underlying t = some (.struct fs)) (hf : FlatW P t n)
    (hv : Value.okWide P w r b0 t v) (h : DataW.Trod enc P w base spare held t v d p) : ∃ z : Nat → Int, v = .agg (fv n z) ∧ ∀ j, j < n → I64 (z j) := by
  obtain ⟨cs, rfl, hsz⟩ := okWide_struct hs hv
  obtain ⟨fuel, h⟩ := h
  have key := fun j hj => hf.2 H enc w base spare held _ _ _ h j hj
  have key2 : ∀ j, ∃ v, j < n → cs[j]? = some (.int .i64 v) ∧ I64 v := fun j => by
    by_cases hj : j < n
    · obtain ⟨v, h1, h2⟩ := key j hj
      exact ⟨v, fun _ => ⟨by simpa [Value.cells] using h1, h2⟩⟩
    · exact ⟨0, fun h => absurd h hj⟩
  refine ⟨fun j => (key2 j).choose, ?_, fun j hj => ((key2 j).choose_spec hj).2⟩
  congr 1
  apply Array.ext_getElem?
  intro j
  by_cases hj : j < n
  · rw [((key2 j).choose_spec hj).1, fv_get hj]
  · rw [Array.getElem?_eq_none (by rw [hsz, hf.1]; omega), Array.getElem?_eq_none (by rw [fv_size]; omega)]
end
end Go.Proofs.YtainelkenkgppaaDoor
