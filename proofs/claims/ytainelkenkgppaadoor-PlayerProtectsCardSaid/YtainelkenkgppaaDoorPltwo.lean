/- Twob objects side by side. -/
import Derived.Test.YtainelkenkgppaaDoorPlv
namespace Go.Proofs.YtainelkenkgppaaDoor
open Go.ChangeShapes Go.WideShapes Go.ChangeAt Go.RowKit Go.Lott
open Go.Sort Go.Lott.Stb Go.Lott.Srt Go.Lott.Lm
structure Twob (w : World) (A B : Nat) (τa τb : Rl) (pa pb : Nat) (Sa Sb : PSt) : Prop where
  a : PO w A τa pa Sa
  b : PO w B τb pb Sb
  dj : ∀ x, τa x = none ∨ τb x = none
  ab : A ≤ B
theorem PO.main {w : World} {B p : Nat} {τ : Rl} {S : PSt} (h : PO w B τ p S) : τ p ≠ none := by obtain ⟨m, D, rb, V, h⟩ := h; rw [h.tp]; simp
section
variable {w w1 : World} {A B pa pb : Nat} {τa τb τ' : Rl} {Sa Sb S' : PSt}
theorem Twob.below (h : Twob w A B τa τb pa pb Sa Sb) (hb : Below w.heap.size w w1) : Twob w1 A B τa τb pa pb Sa Sb := ⟨h.a.below hb, h.b.below hb, h.dj, h.ab⟩
theorem Twob.hA (h : Twob w A B τa τb pa pb Sa Sb) : A ≤ w.heap.size := by have := h.a.low pa h.a.main; omega
theorem Twob.hB (h : Twob w A B τa τb pa pb Sa Sb) : B ≤ w.heap.size := by have := h.b.low pb h.b.main; omega
theorem Twob.actA (h : Twob w A B τa τb pa pb Sa Sb) (hO : PO w1 A τ' pa S') (hF : Fr τa w w1) (hG : Gr τa τ' w.heap.size) : Twob w1 A B τ' τb pa pb S' Sb ∧ Below A w w1 :=
  ⟨⟨hO, h.b.fr hF (fun x hx => (h.dj x).resolve_right hx), fun x => by
    by_cases c : τ' x = none
    · exact .inl c
    · right
      rcases hG x c with d | d
      · exact (h.dj x).resolve_left d
      · exact Classical.byContradiction fun e => by have := (h.b.low x e).2; omega, h.ab⟩, hF.below h.hA (fun b hb => (h.a.low b hb).1)⟩
theorem Twob.actB (h : Twob w A B τa τb pa pb Sa Sb) (hO : PO w1 B τ' pb S') (hF : Fr τb w w1) (hG : Gr τb τ' w.heap.size) : Twob w1 A B τa τ' pa pb Sa S' ∧ Below A w w1 :=
  ⟨⟨h.a.fr hF (fun x hx => (h.dj x).resolve_left hx), hO, fun x => by
    by_cases c : τ' x = none
    · exact .inr c
    · left
      rcases hG x c with d | d
      · exact (h.dj x).resolve_right d
      · exact Classical.byContradiction fun e => by have := (h.a.low x e).2; omega, h.ab⟩, hF.below h.hA (fun b hb => Nat.le_trans h.ab (h.b.low b hb).1)⟩
theorem Twob.start {w0 : World} (ha : PO w w0.heap.size τa pa Sa) (hb : PO w1 w.heap.size τb pb Sb) (h1 : Below w.heap.size w w1) (h0 : w0.heap.size ≤ w.heap.size) : Twob w1 w0.heap.size w.heap.size τa τb pa pb Sa Sb :=
  ⟨ha.below h1, hb, fun x => by
    by_cases c : τa x = none
    · exact .inl c
    · right
      exact Classical.byContradiction fun e => by have h2 := (hb.low x e).1; have h3 := (ha.low x c).2; omega, h0⟩
end
end Go.Proofs.YtainelkenkgppaaDoor
