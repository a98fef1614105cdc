/- Greatest common divisors of package num and of its reference. -/
import Derived.Test.YtkpmbkkhdhjbnaaNumh
namespace Go.Proofs.Ytkpmbkkhdhjbnaa
open Go.ChangeShapes Go.WideShapes Go.ChangeAt Go.RowKit Go.Lott

def gcdB (g : Nat) : Bool := decide ((g : Int) ≤ 9223372036854775807)
def gcdN (a b : Int) : Int := if gcdB (Nat.gcd (Num.ab a).toNat (Num.ab b).toNat) then (Nat.gcd (Num.ab a).toNat (Num.ab b).toNat : Int) else 0
theorem gcd_yes {a b : Int} {g x y : Nat} (h : Nat.gcd x y = g) (hx : Num.ab a = (x : Int)) (hy : Num.ab b = (y : Int)) (hg : (g : Int) ≤ 9223372036854775807) : (g : Int) = gcdN a b := by
  have hd : gcdB g = true := decide_eq_true hg
  unfold gcdN; rw [hx, hy, Int.toNat_natCast, Int.toNat_natCast, h, hd]; rfl
theorem gcd_no {a b : Int} {g x y : Nat} (h : Nat.gcd x y = g) (hx : Num.ab a = (x : Int)) (hy : Num.ab b = (y : Int)) (hg : 9223372036854775807 < (g : Int)) : (0 : Int) = gcdN a b := by
  have hd : gcdB g = false := decide_eq_false (by omega)
  unfold gcdN; rw [hx, hy, Int.toNat_natCast, Int.toNat_natCast, h, hd]; rfl
theorem eu_200 {x y : Nat} (h : (y : Int) ≤ 9223372036854775808) : (Num.eu 200 x y).2 = 0 := by
  have h1 := Num.eu_ends 64 x y (by have : (2 : Nat) ^ 64 = 18446744073709551616 := rfl; omega)
  have : ∀ j, Num.eu (2 * 64 + 1 + j) x y = Num.eu (2 * 64 + 1) x y := by
    intro j
    induction j with
    | zero => rfl
    | succ j ih => rw [← Nat.add_assoc, Num.eu_succ, ih, if_pos h1]
  have h2 := this 71
  rw [show 2 * 64 + 1 + 71 = 200 from rfl] at h2
  rw [h2]; exact h1
theorem eu_bd {x y : Nat} (M : Nat) (hx : x ≤ M) (hy : y ≤ M) : ∀ k, (Num.eu k x y).1 ≤ M ∧ (Num.eu k x y).2 ≤ M
  | 0 => ⟨hx, hy⟩
  | k + 1 => by
    obtain ⟨h1, h2⟩ := eu_bd M hx hy k
    rw [Num.eu_succ]
    split
    · exact ⟨h1, h2⟩
    · exact ⟨h2, Nat.le_trans (Nat.le_of_lt (Nat.mod_lt _ (by omega))) h2⟩
/-- The pair behind k rounds, hidden. -/
def At (x0 y0 k X Y : Nat) : Prop := Num.eu k x0 y0 = (X, Y)
theorem At.next {x0 y0 k X Y : Nat} (h : At x0 y0 k X Y) (hy : ((Y : Int) == 0) = false) : At x0 y0 (k + 1) Y (X % Y) := by
  have hy' : ¬ Y = 0 := by simpa using hy
  show Num.eu (k + 1) x0 y0 = _
  rw [Num.eu_succ, show Num.eu k x0 y0 = (X, Y) from h, if_neg hy']
theorem At.gcd {x0 y0 k X Y : Nat} (h : At x0 y0 k X Y) (hy : ((Y : Int) == 0) = true) : Nat.gcd x0 y0 = X := by
  have hy' : Y = 0 := by simpa using hy
  rw [← Num.eu_gcd k, show Num.eu k x0 y0 = (X, Y) from h, hy', Nat.gcd_zero_right]
theorem At.end {x0 y0 X Y : Nat} (h : At x0 y0 200 X Y) (hy : (y0 : Int) ≤ 9223372036854775808) : ((Y : Int) == 0) = true := by
  have := eu_200 (x := x0) hy
  rw [show Num.eu 200 x0 y0 = (X, Y) from h] at this
  simpa using this
theorem nat_of_ab {a : Int} (h0 : -9223372036854775808 ≤ a) (h1 : a ≤ 9223372036854775807) : ∃ x : Nat, Num.ab a = (x : Int) ∧ (x : Int) ≤ 9223372036854775808 := by
  obtain ⟨p, q⟩ := Num.ab_bd (a := a) ⟨h0, h1⟩
  obtain ⟨x, hx⟩ := Int.eq_ofNat_of_zero_le p
  exact ⟨x, hx, by omega⟩
end Go.Proofs.Ytkpmbkkhdhjbnaa
