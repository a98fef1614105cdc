/- Out of the reading of a slice of numbers: the row, each of 64 bits. -/
import Derived.Test.YtgmilhhifigkkaaDoorAgg
namespace Go.Proofs.YtgmilhhifigkkaaDoor
open Go.ChangeShapes Go.WideShapes Go.ChangeAt Go.RowKit Go.Lott
/-- A slice of numbers in memory, each of 64 bits. -/
def NRow (w : World) (a : Option Addr) (len : Nat) (z : Nat → Int) : Prop := IsRow w a len z ∧ ∀ i, i < len → I64 (z i)
section
variable {H : Type} {enc : TypeId × Value → H} {P : Program} {w : World} {spare : Nat → Bool} {held : Bool}
theorem nrow_of_trod {t e : TypeId} {c : Value} {y : DataW H × List MemPlace} {fuel : Nat} (ht : P.underlying t = some (.slice e)) (he : P.underlying e = some (.int .i64)) (hC : P.cellsOf e = 1)
    (hf : DataW.trod enc P w 0 spare held fuel t [c] = some y) : ∃ a len cap z, c = .slice a len cap ∧ NRow w a len z ∧ len ≤ cap ∧ cap ≤ maxLen := by
  rcases Go.Deep.open_slice ht hf with ⟨hcs, _⟩ | ⟨ad, len, cap, m, q, D, Pl, hcs, hb, hl, hm, hmm, hx, hi'⟩
  · simp at hcs
    exact ⟨none, 0, 0, fun _ => 0, hcs, ⟨.inl rfl, fun i hi => by omega⟩, by omega, by decide⟩
  · simp at hcs
    by_cases h0 : len = 0
    · exact ⟨some ad, len, cap, fun _ => 0, hcs, ⟨.inl h0, fun i hi => by omega⟩, hl, hm⟩
    · have hlm : len ≤ m := by rw [hmm]; split <;> omega
      have key : ∀ i, ∃ v, i < len → w.cell? (ad.add i) = some (.int .i64 v) ∧ I64 v := by
        intro i
        by_cases hij : i < len
        · obtain ⟨cs', hc, ht'⟩ := hi' i (by omega)
          rw [hC] at hc
          obtain ⟨_, hcl, hat⟩ := World.cells?_some hc
          obtain ⟨v, hv, _, hw⟩ := DataW.trod_int he ht'
          have hv0 : cs'[0]? = some (.int .i64 v) := by rw [hv]; rfl
          refine ⟨v, fun _ => ⟨?_, i64_of hw⟩⟩
          have := hat 0 (by omega)
          rw [hv0] at this
          rw [← this]
          congr 1
          rw [Go.Deep.add_add, Nat.mul_one, Nat.add_zero]
        · exact ⟨0, fun h1 => (hij h1).elim⟩
      obtain ⟨b, o, spot⟩ := ad
      obtain ⟨v0, hv0⟩ := key 0
      have hv0 := (hv0 (by omega)).1
      have hspot : spot = none := by simpa [Addr.add] using World.cell?_spot hv0
      subst hspot
      have hblt : b < w.heap.size := by simpa [Addr.add] using World.block_lt_of_cell? w _ hv0
      refine ⟨some ⟨b, o, none⟩, len, cap, fun i => (key i).choose, hcs, ⟨.inr ⟨b, o, rfl, hblt, by omega, fun i hi => ?_⟩, fun i hi => ((key i).choose_spec hi).2⟩, hl, hm⟩
      have := ((key i).choose_spec hi).1
      have ea : Addr.add ⟨b, o, none⟩ i = ⟨b, o + i, none⟩ := by
        unfold Addr.add
        by_cases h : i = 0
        · subst h; simp
        · simp [h]
      exact (congrArg w.cell? ea).symm.trans this
end
end Go.Proofs.YtgmilhhifigkkaaDoor
