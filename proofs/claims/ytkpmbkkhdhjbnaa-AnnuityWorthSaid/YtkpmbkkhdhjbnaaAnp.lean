/- Plain facts on the parts of a split: their sum; parts of growing weights lie at most one apart; of like weights the first is greatest. -/
import Derived.Test.YtkpmbkkhdhjbnaaMoo
namespace Go.Lott.Spl
theorem IsSpl.sum {m : Int} {n : Nat} {ws P : Nat → Int} (h : IsSpl m n ws P) (hk : SOk m ws n) : sm P n = m := by
  obtain ⟨o, ho, hp⟩ := h
  obtain ⟨l0, l1⟩ := hk.left
  have hl := ho.length
  rw [sm_congr hp, sm_add, sm_pick ho _ (by omega)]
  have : lf m ws n = m - sm (qv m (sm ws n) ws) n := rfl
  omega
theorem IsSpl.nonneg {m : Int} {n : Nat} {ws P : Nat → Int} (h : IsSpl m n ws P) (hk : SOk m ws n) {i : Nat} (hi : i < n) : 0 ≤ P i := by
  obtain ⟨o, ho, hp⟩ := h
  have := hp i hi
  have := (hk.q hi).1
  have := (pick_bd o (lf m ws n).toNat i).1
  omega
theorem IsSpl.le {m : Int} {n : Nat} {ws P : Nat → Int} (h : IsSpl m n ws P) (hk : SOk m ws n) {i : Nat} (hi : i < n) : P i ≤ m := by
  have := sm_term (f := P) (n := n) (fun k hk' => h.nonneg hk hk') hi
  rw [h.sum hk] at this; exact this
theorem IsSpl.apart {m : Int} {n : Nat} {ws P : Nat → Int} (h : IsSpl m n ws P) (hk : SOk m ws n) {i j : Nat} (hi : i < n) (hj : j < n) (hw : ws i ≤ ws j) : P i ≤ P j + 1 := by
  obtain ⟨o, ho, hp⟩ := h
  have h1 := hp i hi
  have h2 := hp j hj
  have h3 := (pick_bd o (lf m ws n).toNat i).2
  have h4 := (pick_bd o (lf m ws n).toNat j).1
  have h5 : qv m (sm ws n) ws i ≤ qv m (sm ws n) ws j := Int.ediv_le_ediv (by have := hk.t1; omega) (Int.mul_le_mul_of_nonneg_left hw hk.m0)
  omega
theorem IsSpl.first {m : Int} {n : Nat} {ws P : Nat → Int} (h : IsSpl m n ws P) {i : Nat} (hi : i < n) (hw : ws i = ws 0) : P i ≤ P 0 := by
  obtain ⟨o, ho, hp⟩ := h
  have h1 := hp i hi
  have h2 := hp 0 (by omega)
  have h3 : qv m (sm ws n) ws i = qv m (sm ws n) ws 0 := by unfold qv; rw [hw]
  have h4 : rv m (sm ws n) ws i = rv m (sm ws n) ws 0 := by unfold rv; rw [hw]
  by_cases c : i = 0
  · subst c; exact Int.le_refl _
  · have : pick o (lf m ws n).toNat i ≤ pick o (lf m ws n).toNat 0 := by
      unfold pick
      by_cases d : 0 ∈ o.take (lf m ws n).toNat
      · rw [if_pos d]; split <;> omega
      · by_cases e : i ∈ o.take (lf m ws n).toNat
        · exfalso
          obtain ⟨a, ha, hka, ea⟩ := ho.not_mem (show 0 < n by omega) d
          obtain ⟨b, hb, eb⟩ := List.mem_iff_getElem.1 e
          rw [List.length_take] at hb
          rw [List.getElem_take] at eb
          have hbef := ho.after (show b < a by omega) ha
          rw [ea, eb] at hbef
          unfold bef at hbef
          omega
        · rw [if_neg e, if_neg d]; omega
    omega
end Go.Lott.Spl
