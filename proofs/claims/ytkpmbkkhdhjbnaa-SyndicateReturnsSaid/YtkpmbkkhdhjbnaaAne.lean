/- The examples. -/
import Derived.Test.YtkpmbkkhdhjbnaaAnd
namespace Go.Lott.Spl
def P3 (x y z : Int) : Nat → Int := fun i => if i = 0 then x else if i = 1 then y else z
theorem ord3 : Ord (rv 1000000 (sm (wt 1000) 3) (wt 1000)) 3 [2, 0, 1] := by
  refine ⟨fun x => ?_, ?_⟩
  · simp; omega
  · have h0 : rv 1000000 (sm (wt 1000) 3) (wt 1000) 0 = rv 1000000 3310000 (fun _ => 1000000) 0 := by decide +kernel
    have h : ∀ i j, (if rv 1000000 (sm (wt 1000) 3) (wt 1000) j < rv 1000000 (sm (wt 1000) 3) (wt 1000) i then true else false) = true → bef (rv 1000000 (sm (wt 1000) 3) (wt 1000)) i j := fun i j h => by
      split at h
      · exact .inl (by assumption)
      · cases h
    refine .cons ?_ (.cons ?_ (.cons ?_ .nil))
    · intro a ha
      simp only [List.mem_cons, List.not_mem_nil, or_false] at ha
      rcases ha with rfl | rfl
      · exact h 2 0 (by decide +kernel)
      · exact h 2 1 (by decide +kernel)
    · intro a ha
      simp only [List.mem_cons, List.not_mem_nil, or_false] at ha
      subst ha
      exact h 0 1 (by decide +kernel)
    · intro a ha; cases ha
theorem spl3 : IsSpl 1000000 3 (wt 1000) (P3 302115 332326 365559) := by
  refine ⟨[2, 0, 1], ord3, fun i hi => ?_⟩
  have h0 : P3 302115 332326 365559 0 = qv 1000000 (sm (wt 1000) 3) (wt 1000) 0 + pick [2, 0, 1] (lf 1000000 (wt 1000) 3).toNat 0 := by decide +kernel
  have h1 : P3 302115 332326 365559 1 = qv 1000000 (sm (wt 1000) 3) (wt 1000) 1 + pick [2, 0, 1] (lf 1000000 (wt 1000) 3).toNat 1 := by decide +kernel
  have h2 : P3 302115 332326 365559 2 = qv 1000000 (sm (wt 1000) 3) (wt 1000) 2 + pick [2, 0, 1] (lf 1000000 (wt 1000) 3).toNat 2 := by decide +kernel
  rcases (show i = 0 ∨ i = 1 ∨ i = 2 by omega) with rfl | rfl | rfl
  · exact h0
  · exact h1
  · exact h2
end Go.Lott.Spl
namespace Go.Proofs.Ytkpmbkkhdhjbnaa
open Go.ChangeShapes Go.WideShapes Go.ChangeAt Go.RowKit Go.Lott
open Go.Lott.Spl
theorem isRow3 (w : World) (x y z : Int) (t : TypeId) : IsRow (w.alloc (.cells #[.int .i64 x, .int .i64 y, .int .i64 z] t)) (some ⟨w.heap.size, 0, none⟩) 3 (P3 x y z) := by
  refine .inr ⟨w.heap.size, 0, rfl, by simp, by decide, fun i hi => ?_⟩
  have hc := Cel.new w #[.int .i64 x, .int .i64 y, .int .i64 z] t
  rw [hc.cell]
  rcases (show i = 0 ∨ i = 1 ∨ i = 2 by omega) with rfl | rfl | rfl <;> rfl
theorem pays3 (w : World) : Calls Try.prog 14 #[.int .i64 1000000, .int .i64 3, .int .i64 1000] w fun e w' =>
    Below w.heap.size w w' ∧ ∃ b cap, e = .returned (.tuple #[.slice (some ⟨b, 0, none⟩) 3 cap, .int .i64 0]) ∧ IsRow w' (some ⟨b, 0, none⟩) 3 (P3 302115 332326 365559) := by
  refine (Pays_any 1000000 3 1000 w).mono fun e w' h => ?_
  obtain ⟨hb, ⟨n, hn, _, b, cap, P, he, hr, hs⟩ | ⟨hne, _⟩⟩ := h
  · obtain rfl : n = 3 := by omega
    refine ⟨hb, b, cap, he, ?_⟩
    have hu := IsSpl.unique hs spl3
    rcases hr with hr | ⟨b', o', e1, e2, e3, e4⟩
    · omega
    · exact .inr ⟨b', o', e1, e2, e3, fun i hi => by rw [e4 i hi, hu i hi]⟩
  · exact absurd ⟨⟨by omega, by omega⟩, by omega, by omega, by omega, by omega⟩ hne
theorem cash3 (w : World) : Calls Try.prog 18 #[.slice (some ⟨w.heap.size, 0, none⟩) 3 3, .int .i64 1000] (w.alloc (.cells #[.int .i64 100, .int .i64 100, .int .i64 100] 3)) (RetB (.tuple #[.int .i64 272, .int .i64 0]) (w.alloc (.cells #[.int .i64 100, .int .i64 100, .int .i64 100] 3))) := by
  have := Cash_any (some ⟨w.heap.size, 0, none⟩) 3 3 (P3 100 100 100) 1000 _ (isRow3 w 100 100 100 3) (by decide)
  rw [show caV 3 (P3 100 100 100) 1000 = 272 from by decide +kernel, show caE 3 (P3 100 100 100) 1000 = 0 from by decide +kernel] at this
  exact this
theorem left3 (w : World) : Calls Try.prog 20 #[.slice (some ⟨w.heap.size, 0, none⟩) 3 3, .int .i64 2] (w.alloc (.cells #[.int .i64 5, .int .i64 6, .int .i64 7] 3)) (RetS (.tuple #[.int .i64 7, .int .i64 0]) (w.alloc (.cells #[.int .i64 5, .int .i64 6, .int .i64 7] 3))) := by
  have := Left_any (some ⟨w.heap.size, 0, none⟩) 3 3 (P3 5 6 7) 2 _ (isRow3 w 5 6 7 3) (by decide) (by decide)
  rw [show leV 3 (P3 5 6 7) 2 = 7 from by decide +kernel, show leE 3 (P3 5 6 7) 2 = 0 from by decide +kernel] at this
  exact this
end Go.Proofs.Ytkpmbkkhdhjbnaa
