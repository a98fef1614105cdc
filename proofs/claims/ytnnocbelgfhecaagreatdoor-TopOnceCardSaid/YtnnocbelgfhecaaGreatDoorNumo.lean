/- Decimal texts and Parse of the reference of package num. -/
import Derived.Test.YtnnocbelgfhecaaGreatDoorNuml
namespace Go.Proofs.YtnnocbelgfhecaaGreatDoor
open Go.ChangeShapes Go.WideShapes Go.ChangeAt Go.RowKit Go.Lott

theorem okL_zero : false = Num.okL ByteArray.empty.data.toList := by rfl
theorem par_ok {l : List UInt8} (h : Num.okL l = true) : Num.okN (Num.svL l) = Num.parN l ∧ Num.okE (Num.svL l) = Num.parE l := by
  unfold Num.parN Num.parE; rw [h]; exact ⟨rfl, rfl⟩
theorem nv_19 {l : List UInt8} (h : ∀ k, k < l.length → 48 ≤ Num.bl l k ∧ Num.bl l k ≤ 57) (hl : l.length ≤ 19) : ∀ k, k ≤ l.length → Num.nv l k ≤ 9999999999999999999 := fun k hk => by
  have h1 := Num.nv_lt h k hk
  have h2 : (10 : Int) ^ k ≤ (10 : Int) ^ 19 := by
    have : (10 : Nat) ^ k ≤ 10 ^ 19 := Nat.pow_le_pow_right (by decide) (by omega)
    exact_mod_cast this
  have h3 : (10 : Int) ^ 19 = 10000000000000000000 := rfl
  omega
end Go.Proofs.YtnnocbelgfhecaaGreatDoor
