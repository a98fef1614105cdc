/- Plain facts on splits: each part is its quotient, or one more where something remains. -/
import Derived.Test.YtkpmbkkhdhjbnaaMoo
namespace Go.Lott.Spl
theorem IsSpl.exact {m : Int} {n : Nat} {ws P : Nat → Int} (h : IsSpl m n ws P) (hk : SOk m ws n) {i : Nat} (hi : i < n) : P i = qv m (sm ws n) ws i ∨ (P i - 1 = qv m (sm ws n) ws i ∧ rv m (sm ws n) ws i ≠ 0) := by
  obtain ⟨o, ho, hp⟩ := h
  rw [hp i hi]
  unfold pick
  by_cases c : i ∈ o.take (lf m ws n).toNat
  · rw [if_pos c]
    obtain ⟨k, hkl, e⟩ := List.getElem_of_mem c
    rw [List.getElem_take] at e
    have h1 : k < (lf m ws n).toNat ∧ k < o.length := by rw [List.length_take] at hkl; omega
    refine .inr ⟨by omega, ?_⟩
    rw [← e]
    exact picked_pos ho hk.t1 (fun j hj => ⟨(hk.q hj).2.2.1, (hk.q hj).2.2.2.1⟩) hk.sum (by omega) h1.2
  · rw [if_neg c]; exact .inl (by omega)
theorem IsSpl.total {m : Int} {n : Nat} {ws P : Nat → Int} (h : IsSpl m n ws P) (hk : SOk m ws n) : sm P n = m := by
  obtain ⟨o, ho, hp⟩ := h
  obtain ⟨l0, l1⟩ := hk.left
  rw [sm_congr hp, sm_add, sm_pick ho _ (by rw [ho.length]; omega)]
  unfold lf at l0 l1 ⊢
  omega
theorem IsSpl.pos {m : Int} {n : Nat} {ws P : Nat → Int} (h : IsSpl m n ws P) (hk : SOk m ws n) {i : Nat} (hi : i < n) : 0 ≤ P i ∧ P i ≤ m := by
  have h1 := hk.q hi
  have ha : ∀ j, j < n → 0 ≤ P j := fun j hj => by
    have := (hk.q hj).1
    rcases h.exact hk hj with e | ⟨e, _⟩ <;> omega
  exact ⟨ha i hi, by have := sm_term ha hi; rw [h.total hk] at this; exact this⟩
/-- Who comes ahead is picked first. -/
theorem pick_bef {R : Nat → Int} {n : Nat} {o : List Nat} (h : Ord R n o) {i j : Nat} (hi : i < n) (hb : bef R i j) (k : Nat) : pick o k j ≤ pick o k i := by
  unfold pick
  by_cases c : i ∈ o.take k
  · rw [if_pos c]; split <;> omega
  · rw [if_neg c]
    by_cases d : j ∈ o.take k
    · exfalso
      obtain ⟨x, hx, hkx, ex⟩ := h.not_mem hi c
      obtain ⟨y, hy, ey⟩ := List.getElem_of_mem d
      rw [List.getElem_take] at ey
      have hy2 : y < k ∧ y < o.length := by rw [List.length_take] at hy; omega
      have := h.after (show y < x by omega) hx
      rw [ex, ey] at this
      exact hb.asym this
    · rw [if_neg d]; exact Int.le_refl _
theorem IsSpl.more {m : Int} {n : Nat} {ws P : Nat → Int} (h : IsSpl m n ws P) (hk : SOk m ws n) {i j : Nat} (hi : i < n) (hj : j < n) (hw : ws j < ws i) : P j ≤ P i := by
  have pi := h.pos hk hi
  have pj := h.pos hk hj
  have xi := h.exact hk hi
  have xj := h.exact hk hj
  have qi := hk.q hi
  have qj := hk.q hj
  have ht := hk.t1
  have hm := hk.m0
  have hle : m * ws j ≤ m * ws i := Int.mul_le_mul_of_nonneg_left (by omega) hm
  have hq : qv m (sm ws n) ws j ≤ qv m (sm ws n) ws i := Int.ediv_le_ediv (by omega) hle
  rcases Int.lt_or_le (qv m (sm ws n) ws j) (qv m (sm ws n) ws i) with c | c
  · rcases xi with e | ⟨e, _⟩ <;> rcases xj with e' | ⟨e', _⟩ <;> omega
  · have he : qv m (sm ws n) ws j = qv m (sm ws n) ws i := by omega
    have h5 := qi.2.2.2.2
    have h6 := qj.2.2.2.2
    rw [he] at h6
    rcases Int.lt_or_le (rv m (sm ws n) ws j) (rv m (sm ws n) ws i) with d | d
    · obtain ⟨o, ho, hp⟩ := h
      have := pick_bef ho (j := j) hi (.inl d) (lf m ws n).toNat
      rw [hp i hi, hp j hj, he]; omega
    · have hmm : m * (ws i - ws j) = 0 := by rw [Int.mul_sub]; omega
      have : m = 0 := by
        rcases Int.mul_eq_zero.1 hmm with e | e
        · exact e
        · omega
      omega
theorem IsSpl.same {m : Int} {n : Nat} {ws P : Nat → Int} (h : IsSpl m n ws P) {i j : Nat} (hi : i < n) (hj : j < n) (hw : ws i = ws j) (hij : i < j) : P j ≤ P i ∧ P i - P j ≤ 1 := by
  obtain ⟨o, ho, hp⟩ := h
  have hq : qv m (sm ws n) ws i = qv m (sm ws n) ws j := by unfold qv; rw [hw]
  have hr : rv m (sm ws n) ws i = rv m (sm ws n) ws j := by unfold rv; rw [hw]
  have h1 := pick_bef ho (j := j) hi (.inr ⟨hr, hij⟩) (lf m ws n).toNat
  have h2 := pick_bd o (lf m ws n).toNat i
  have h3 := pick_bd o (lf m ws n).toNat j
  rw [hp i hi, hp j hj, hq]
  omega
end Go.Lott.Spl
