/- Decimal texts: package num and its reference. -/
import Derived.Test.YtgmilhhifigkkaaDoorNuma
import Derived.Test.YtgmilhhifigkkaaDoorShelf
import Derived.Test.YtgmilhhifigkkaaDoorNumt
namespace Go.Proofs.YtgmilhhifigkkaaDoor
open Go.ChangeShapes Go.WideShapes Go.ChangeAt Go.RowKit Go.Lott

theorem bl_eq (s : ByteArray) (k : Nat) (h : k < s.size) : Num.bl s.data.toList k = (s[k].toNat : Int) := by
  have h' : k < s.data.toList.length := by simpa using h
  unfold Num.bl
  rw [List.getD_eq_getElem?_getD, List.getElem?_eq_getElem h']
  rfl
theorem len_eq (s : ByteArray) : s.data.toList.length = s.size := by simp
theorem empty_of {s : ByteArray} (h : s.size = 0) : s = ByteArray.empty := by
  cases s with
  | mk d => 
    have : d = #[] := Array.eq_empty_of_size_eq_zero h
    subst this; rfl
theorem isE_no {s : ByteArray} (h : 0 < s.size) : s.toList.isEmpty = false := by
  cases c : s.toList.isEmpty with
  | false => rfl
  | true =>
    exfalso
    have h2 : s.toList = [] := List.isEmpty_iff.1 c
    have h3 : s.toList.length = s.size := by rw [ByteArray.toList_eq]; simp
    rw [h2] at h3; simp at h3; omega
/-- The first k bytes are digits. -/
def Dg (s : ByteArray) (k : Nat) : Prop := ∀ j, j < k → 48 ≤ Num.bl s.data.toList j ∧ Num.bl s.data.toList j ≤ 57
theorem Dg.next {s : ByteArray} {k : Nat} (h : Dg s k) (hk : k < s.size) (h0 : 48 ≤ (s[k].toNat : Int)) (h1 : (s[k].toNat : Int) ≤ 57) : Dg s (k + 1) := fun j hj => by
  rcases Nat.lt_or_ge j k with c | c
  · exact h j c
  · obtain rfl : j = k := by omega
    rw [bl_eq s _ hk]; exact ⟨h0, h1⟩
theorem Dg.yes {s : ByteArray} (h : Dg s s.size) (hl : Num.lead s.data.toList = true) : true = Num.decB s.data.toList := by
  unfold Num.decB; rw [hl, (Num.digs_iff _).2 (by rw [len_eq]; exact h)]; rfl
theorem dec_bad {s : ByteArray} {k : Nat} (hk : k < s.size) (h : ¬ (48 ≤ (s[k].toNat : Int) ∧ (s[k].toNat : Int) ≤ 57)) : false = Num.decB s.data.toList := by
  cases c : Num.decB s.data.toList with
  | false => rfl
  | true =>
    have := ((Num.decB_iff _).1 c).2 k (by rw [len_eq]; exact hk)
    rw [bl_eq s _ hk] at this; exact (h this).elim
theorem dec_lead {s : ByteArray} (h : Num.lead s.data.toList = false) : false = Num.decB s.data.toList := by unfold Num.decB; rw [h]; rfl
theorem lead_no {s : ByteArray} (hi : 0 < s.size) (h : (s[0].toNat : Int) = 48) (h1 : 1 < s.size) : Num.lead s.data.toList = false := by
  cases c : Num.lead s.data.toList with
  | false => rfl
  | true =>
    have := ((Num.lead_iff _).1 c).2
    rw [bl_eq s 0 hi, len_eq] at this
    have := this h; omega
theorem lead_yes {s : ByteArray} (hi : 0 < s.size) (h : (s[0].toNat : Int) ≠ 48 ∨ s.size ≤ 1) : Num.lead s.data.toList = true := by
  rw [Num.lead_iff, bl_eq s 0 hi, len_eq]
  exact ⟨hi, fun e => by omega⟩
end Go.Proofs.YtgmilhhifigkkaaDoor
