/- The limits that hold: the reference's functions. -/
import Derived.Test.YtainelkenkgppaaDoorLmh
namespace Go.Proofs.YtainelkenkgppaaDoor
open Go.ChangeShapes Go.WideShapes Go.ChangeAt Go.RowKit Go.Lott
open Go.Sort Go.Lott.Stb Go.Lott.Srt Go.Lott.Lm
/-- A block of cells, its element's type and its size. -/
def RowF (W : World) (g cap : Nat) (e : TypeId) : Prop := ∃ cur, Cel W g cur e ∧ cur.size = cap * 4
section
variable {W W1 : World} {g cap n base : Nat} {e : TypeId}
theorem RowF.setCells : ∀ (vs : List Value) (s : Nat) (W : World), RowF W g cap e → RowF (W.setCells g s vs) g cap e
  | [], _, _, h => h
  | v :: r, s, W, ⟨cur, hc, hs⟩ => RowF.setCells r (s + 1) _ ⟨_, hc.set s v, by simpa using hs⟩
theorem RowF.below (h : RowF W g cap e) (hb : Below W.heap.size W W1) : RowF W1 g cap e := by
  obtain ⟨cur, hc, hs⟩ := h
  exact ⟨cur, hc.below hb hc.lt, hs⟩
theorem RowF.drew (h : RowF W g cap e) : RowF W.drew g cap e := h
theorem rowF_of_owns {xs : List Value} (h : W.ownsRow base e 4 (.slice (some ⟨g, 0, none⟩) n cap) n xs) : RowF W g cap e ∧ n ≤ cap ∧ cap ≤ maxLen := by
  rcases h.2 with ⟨h, _⟩ | ⟨g', cap', cur, hv, hg, hh, hc1, hc2, hc3, hc4⟩
  · cases h
  · injection hv with h1 h2 h3
    injection h1 with h1
    injection h1 with h1 _ _
    subst h1
    subst h3
    exact ⟨⟨cur, hh, hc3⟩, hc1, hc2⟩
/-- The way back: an array of changes in such a block: a row that the call owns. -/
theorem owns_of_holds {d : Array Cg} (h : RowF W g cap e) (hH : HoldsK encC 4 W g 0 d) (hb : base ≤ g) (hn : d.size = n) (h1 : n ≤ cap) (h2 : cap ≤ maxLen) :
    W.ownsRow base e 4 (.slice (some ⟨g, 0, none⟩) n cap) n (flC d.toList) := by
  obtain ⟨cur, hc, hs⟩ := h
  refine ⟨by rw [flC_length]; simp [hn], .inr ⟨g, cap, cur, rfl, hb, hc, h1, h2, hs, ?_⟩⟩
  apply List.ext_getElem?
  intro j
  rw [List.getElem?_take]
  by_cases hj : j < n * 4
  · rw [if_pos hj, Array.getElem?_toList, ← hc.cell]
    have := (hH j (by rw [size_flatK, hn]; exact hj)).1
    rw [get_flatK _ _ _ _ (by rw [hn]; exact hj), Nat.zero_add, arr_get, encC_at _ _ _ (by omega)] at this
    rw [this, show (flC d.toList)[j]? = (flC d.toList)[j / 4 * 4 + j % 4]? by congr 1; omega, flC_get _ _ _ (by simp [hn]; omega) (by omega)]; rfl
  · rw [if_neg hj, List.getElem?_eq_none (by rw [flC_length]; simp [hn]; omega)]
end
/-- A change on its way to its place. -/
structure Way (S : List Cg) (x : Cg) (k : Nat) (d : Array Cg) : Prop where
  ex : ∃ P Q, S = P ++ Q ∧ P.length = k ∧ d.toList = P ++ x :: Q ∧ ∀ y ∈ Q, x.1 < y.1
theorem Way.start (S : List Cg) (x : Cg) : Way S x S.length (S ++ [x]).toArray := ⟨⟨S, [], by simp, rfl, by simp, by simp⟩⟩
theorem Way.size {S : List Cg} {x : Cg} {k : Nat} {d : Array Cg} (h : Way S x k d) : d.size = S.length + 1 ∧ k ≤ S.length := by
  obtain ⟨P, Q, rfl, rfl, hd, _⟩ := h.ex
  have := congrArg List.length hd
  simp at this ⊢
  omega
theorem Way.at {S : List Cg} {x : Cg} {k : Nat} {d : Array Cg} (h : Way S x k d) : d[k]! = x := by
  obtain ⟨P, Q, rfl, rfl, hd, _⟩ := h.ex
  rw [arr_get, hd]; simp
theorem Way.stop {S : List Cg} {x : Cg} {k : Nat} {d : Array Cg} (h : Way S x k d) (hu : Up S) (hs : ∀ q, k = q + 1 → (d[q]!).1 ≤ x.1) : d.toList = insS x S := by
  obtain ⟨P, Q, rfl, rfl, hd, hq⟩ := h.ex
  rw [hd, insS_place hu hq]
  intro y hy
  obtain ⟨i, hi, rfl⟩ := List.getElem_of_mem hy
  have hl := hs (P.length - 1) (by omega)
  rw [arr_get, hd] at hl
  rw [List.getElem?_append_left (by omega), List.getElem?_eq_getElem (by omega)] at hl
  have hl' : (P[P.length - 1]'(by omega)).1 ≤ x.1 := by simpa using hl
  by_cases c : i = P.length - 1
  · subst c; exact hl'
  · have hup : Up P := (List.pairwise_append.1 hu).1
    have := ltC_iff.1 (List.pairwise_iff_getElem.1 hup i (P.length - 1) hi (by omega) (by omega))
    omega
theorem Way.next {S : List Cg} {x : Cg} {q : Nat} {d : Array Cg} (h : Way S x (q + 1) d) (hlt : x.1 < (d[q]!).1) : Way S x q (swp d (q + 1) q) := by
  obtain ⟨P, Q, rfl, hk, hd, hq⟩ := h.ex
  have hne : P ≠ [] := by intro c; rw [c] at hk; simp at hk
  obtain ⟨P', y, rfl⟩ : ∃ P' y, P = P' ++ [y] := ⟨P.dropLast, P.getLast hne, (List.dropLast_concat_getLast hne).symm⟩
  have hl : P'.length = q := by simp at hk; omega
  have hdq : d[q]! = y := by rw [arr_get, hd]; subst hl; simp
  have hdk : d[q + 1]! = x := by rw [arr_get, hd]; subst hl; simp
  have hsz : d.size = P'.length + 2 + Q.length := by have := congrArg List.length hd; simp at this; omega
  rw [hdq] at hlt
  refine ⟨⟨P', y :: Q, by simp, hl, ?_, fun u hu => ?_⟩⟩
  · apply List.ext_getElem (by have := size_swp d (q + 1) q; simp [this, hsz]; omega)
    intro i h1 h2
    have e1 : (swp d (q + 1) q)[i]! = (P' ++ x :: y :: Q)[i] := by
      by_cases c1 : i = q
      · subst c1
        rw [swp_right d (i + 1) i (by omega), hdk]
        subst hl; simp
      · by_cases c2 : i = q + 1
        · subst c2
          rw [swp_left d (q + 1) q (by omega) (by omega), hdq]
          subst hl; simp
        · rw [swp_other d (q + 1) q i c2 c1, arr_get, hd]
          by_cases c3 : i < q
          · rw [List.getElem?_append_left (by simp; omega), List.getElem?_append_left (by omega), List.getElem_append_left (by omega)]
            simp [show i < P'.length by omega]
          · obtain ⟨j, rfl⟩ : ∃ j, i = P'.length + 2 + j := ⟨i - (P'.length + 2), by omega⟩
            rw [List.getElem?_append_right (by simp; omega), List.getElem_append_right (by omega)]
            simp [show P'.length + 2 + j - P'.length = j + 1 + 1 by omega, show P'.length + 2 + j - (P'.length + 1) = j + 1 by omega]
            have h5 : j < Q.length := by simp at h2; omega
            simp [h5]
    have h3 : i < (swp d (q + 1) q).size := by simpa using h1
    simpa [h3] using e1
  · rcases List.mem_cons.1 hu with rfl | hu
    · exact hlt
    · exact hq u hu
end Go.Proofs.YtainelkenkgppaaDoor
