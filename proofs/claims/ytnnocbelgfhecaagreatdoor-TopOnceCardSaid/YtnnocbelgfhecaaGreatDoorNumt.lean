/- Plain facts on decimal texts. No program stands in this text. -/
import Derived.Lib.ItoaNum
import Derived.Lib.Hide
namespace Go.Lott.Num
open Go.Lib

/-- Byte k of a text, as a number; the value of the first k bytes. -/
def bl (l : List UInt8) (k : Nat) : Int := ((l.getD k 0).toNat : Int)
def nv (l : List UInt8) : Nat → Int
  | 0 => 0
  | k + 1 => nv l k * 10 + (bl l k - 48)
def dgB (l : List UInt8) (k : Nat) : Bool := decide (48 ≤ bl l k ∧ bl l k ≤ 57)
def digs (l : List UInt8) : Bool := (List.range l.length).all (dgB l)
def lead (l : List UInt8) : Bool := decide (0 < l.length ∧ (bl l 0 = 48 → l.length = 1))
def decB (l : List UInt8) : Bool := lead l && digs l
theorem dgB_iff (l : List UInt8) (k : Nat) : dgB l k = true ↔ 48 ≤ bl l k ∧ bl l k ≤ 57 := by simp [dgB]
theorem digs_iff (l : List UInt8) : digs l = true ↔ ∀ k, k < l.length → 48 ≤ bl l k ∧ bl l k ≤ 57 := by
  unfold digs; rw [List.all_eq_true]
  constructor
  · intro h k hk; exact (dgB_iff l k).1 (h k (by simpa using hk))
  · intro h k hk; exact (dgB_iff l k).2 (h k (by simpa using hk))
theorem lead_iff (l : List UInt8) : lead l = true ↔ 0 < l.length ∧ (bl l 0 = 48 → l.length = 1) := by unfold lead; exact decide_eq_true_iff
theorem decB_iff (l : List UInt8) : decB l = true ↔ (0 < l.length ∧ (bl l 0 = 48 → l.length = 1)) ∧ ∀ k, k < l.length → 48 ≤ bl l k ∧ bl l k ≤ 57 := by
  unfold decB; rw [Bool.and_eq_true, lead_iff, digs_iff]
theorem nv_step {l : List UInt8} (h : ∀ k, k < l.length → 48 ≤ bl l k ∧ bl l k ≤ 57) : ∀ k, k ≤ l.length → 0 ≤ nv l k
  | 0, _ => by simp [nv]
  | k + 1, hk => by
    have h1 := nv_step h k (by omega)
    have h2 := h k (by omega)
    unfold nv; omega
theorem nv_mono {l : List UInt8} (h : ∀ k, k < l.length → 48 ≤ bl l k ∧ bl l k ≤ 57) (j : Nat) : ∀ d, j + d ≤ l.length → nv l j ≤ nv l (j + d)
  | 0, _ => Int.le_refl _
  | d + 1, hk => by
    have h1 := nv_mono h j d (by omega)
    have h2 := h (j + d) (by omega)
    have h3 := nv_step h (j + d) (by omega)
    show nv l j ≤ nv l (j + d) * 10 + (bl l (j + d) - 48)
    omega
theorem nv_le {l : List UInt8} (h : ∀ k, k < l.length → 48 ≤ bl l k ∧ bl l k ≤ 57) {j k : Nat} (hj : j ≤ k) (hk : k ≤ l.length) : nv l j ≤ nv l k := by
  have := nv_mono h j (k - j) (by omega)
  rwa [show j + (k - j) = k by omega] at this
theorem nv_lt {l : List UInt8} (h : ∀ k, k < l.length → 48 ≤ bl l k ∧ bl l k ≤ 57) : ∀ k, k ≤ l.length → nv l k < (10 : Int) ^ k
  | 0, _ => by simp [nv]
  | k + 1, hk => by
    have h1 := nv_lt h k (by omega)
    have h2 := h k (by omega)
    unfold nv; rw [Int.pow_succ]; omega
/-- Twenty digits that do not begin with 0 are too many. -/
theorem nv_big {l : List UInt8} (h : decB l = true) (hl : 20 ≤ l.length) : 10000000000000000000 ≤ nv l l.length := by
  obtain ⟨⟨h0, h1⟩, h2⟩ := (decB_iff l).1 h
  have hb : 49 ≤ bl l 0 := by
    have := h2 0 h0
    by_cases e : bl l 0 = 48
    · have := h1 e; omega
    · omega
  have : ∀ k, k < 20 → (10 : Int) ^ k ≤ nv l (k + 1) := by
    intro k
    induction k with
    | zero => intro _; simp [nv]; omega
    | succ k ih =>
      intro hk
      have h3 := ih (by omega)
      have h4 := h2 (k + 1) (by omega)
      show _ ≤ nv l (k + 1) * 10 + (bl l (k + 1) - 48)
      rw [Int.pow_succ]; omega
  have h5 : (10 : Int) ^ 19 ≤ nv l 20 := this 19 (by omega)
  have h6 := nv_le h2 (j := 20) (k := l.length) hl (Nat.le_refl _)
  have h7 : (10 : Int) ^ 19 = 10000000000000000000 := rfl
  omega
theorem bl_byte {l : List UInt8} {k : Nat} (hk : k < l.length) (h : 48 ≤ bl l k ∧ bl l k ≤ 57) {n : Nat} (hn : (n : Int) = bl l k - 48) : UInt8.ofNat (48 + n) = l[k] := by
  have e : bl l k = (l[k].toNat : Int) := by unfold bl; rw [List.getD_eq_getElem?_getD, List.getElem?_eq_getElem hk]; rfl
  apply UInt8.toNat.inj
  rw [UInt8.toNat_ofNat']
  have := l[k].toNat_lt
  omega
/-- A decimal text is the numeral of its value. -/
theorem dec_nv {l : List UInt8} (h : decB l = true) : decDigits (nv l l.length).toNat = l := by
  obtain ⟨⟨h0, h1⟩, h2⟩ := (decB_iff l).1 h
  have key : ∀ k, k < l.length → (0 < k → 1 ≤ nv l k) ∧ decDigits (nv l (k + 1)).toNat = l.take (k + 1) := by
    intro k
    induction k with
    | zero =>
      intro hk
      have hb := h2 0 h0
      refine ⟨fun c => by omega, ?_⟩
      have e : nv l 1 = bl l 0 - 48 := by simp [nv]
      rw [e, decDigits_one (by omega), bl_byte h0 hb (by omega), List.take_one]
      cases l with
      | nil => simp at h0
      | cons a t => rfl
    | succ k ih =>
      intro hk
      obtain ⟨i1, i2⟩ := ih (by omega)
      have hb := h2 (k + 1) hk
      have hp : 1 ≤ nv l (k + 1) := by
        have h3 := h2 k (by omega)
        rcases Nat.eq_zero_or_pos k with rfl | hk0
        · have e : nv l 1 = bl l 0 - 48 := by simp [nv]
          by_cases c : bl l 0 = 48
          · have := h1 c; omega
          · show 1 ≤ nv l 1; omega
        · have := i1 hk0
          show 1 ≤ nv l k * 10 + (bl l k - 48)
          omega
      refine ⟨fun _ => hp, ?_⟩
      have e : nv l (k + 1 + 1) = nv l (k + 1) * 10 + (bl l (k + 1) - 48) := rfl
      rw [e, decDigits, dif_neg (by omega)]
      have e1 : (nv l (k + 1) * 10 + (bl l (k + 1) - 48)).toNat / 10 = (nv l (k + 1)).toNat := by omega
      have e2 : bl l (k + 1) - 48 = (((nv l (k + 1) * 10 + (bl l (k + 1) - 48)).toNat % 10 : Nat) : Int) := by omega
      rw [e1, i2, bl_byte hk hb e2.symm, List.take_succ_eq_append_getElem hk]
  obtain ⟨n, hn⟩ : ∃ n, l.length = n + 1 := ⟨l.length - 1, by omega⟩
  have := (key n (by omega)).2
  rw [← hn, List.take_length] at this
  exact this
theorem bl_app {l : List UInt8} {k : Nat} (c : UInt8) (hk : k < l.length) : bl (l ++ [c]) k = bl l k := by
  unfold bl; rw [List.getD_eq_getElem?_getD, List.getD_eq_getElem?_getD, List.getElem?_append_left hk]
theorem bl_last (l : List UInt8) (c : UInt8) : bl (l ++ [c]) l.length = (c.toNat : Int) := by
  unfold bl; rw [List.getD_eq_getElem?_getD, List.getElem?_append_right (Nat.le_refl _)]; simp
theorem nv_app {l : List UInt8} (c : UInt8) : ∀ k, k ≤ l.length → nv (l ++ [c]) k = nv l k
  | 0, _ => rfl
  | k + 1, hk => by unfold nv; rw [nv_app c k (by omega), bl_app c (by omega)]
theorem dig_toNat {n : Nat} (h : n < 10) : (UInt8.ofNat (48 + n)).toNat = 48 + n := by
  rw [UInt8.toNat_ofNat']; omega
/-- A numeral is a decimal text, and its value is the number. -/
theorem dec_back (N : Nat) : decB (decDigits N) = true ∧ nv (decDigits N) (decDigits N).length = (N : Int) ∧ (1 ≤ N → bl (decDigits N) 0 ≠ 48) := by
  induction N using Nat.strongRecOn with
  | ind N ih =>
    by_cases hN : N < 10
    · rw [decDigits_one hN]
      have e : bl [UInt8.ofNat (48 + N)] 0 = 48 + (N : Int) := by
        show (((UInt8.ofNat (48 + N)).toNat : Nat) : Int) = _
        rw [dig_toNat hN]; omega
      refine ⟨?_, ?_, ?_⟩
      · rw [decB_iff]
        refine ⟨⟨by simp, fun _ => rfl⟩, ?_⟩
        intro k hk
        have : k = 0 := by simpa using hk
        subst this; rw [e]; omega
      · show 0 * 10 + (bl _ 0 - 48) = _
        rw [e]; omega
      · rw [e]; omega
    · obtain ⟨i1, i2, i3⟩ := ih (N / 10) (by omega)
      obtain ⟨⟨j0, j1⟩, j2⟩ := (decB_iff _).1 i1
      have i4 := i3 (by omega)
      rw [decDigits, dif_neg hN]
      have hd : (UInt8.ofNat (48 + N % 10)).toNat = 48 + N % 10 := dig_toNat (by omega)
      have hlen : (decDigits (N / 10) ++ [UInt8.ofNat (48 + N % 10)]).length = (decDigits (N / 10)).length + 1 := by simp
      have h0 : bl (decDigits (N / 10) ++ [UInt8.ofNat (48 + N % 10)]) 0 ≠ 48 := by rw [bl_app _ j0]; exact i4
      refine ⟨?_, ?_, fun _ => h0⟩
      · rw [decB_iff]
        refine ⟨⟨by omega, fun c => (h0 c).elim⟩, ?_⟩
        intro k hk
        rw [hlen] at hk
        rcases Nat.lt_or_ge k (decDigits (N / 10)).length with h | h
        · rw [bl_app _ h]; exact j2 k h
        · rw [show k = (decDigits (N / 10)).length by omega, bl_last, hd]; omega
      · rw [hlen]
        show nv _ _ * 10 + (bl _ _ - 48) = _
        rw [nv_app _ _ (Nat.le_refl _), bl_last, i2, hd]; omega
end Go.Lott.Num
