/- Greatest common divisors of package num and of its reference. -/
import Derived.Test.YtgloiddnbppblaaDoorNumh
namespace Go.Proofs.YtgloiddnbppblaaDoor
open Go.ChangeShapes Go.WideShapes Go.ChangeAt Go.RowKit Go.Lott

def gcdB (g : Nat) : Bool := decide ((g : Int) ≤ 9223372036854775807)
def gcdN (a b : Int) : Int := if gcdB (Nat.gcd (Num.ab a).toNat (Num.ab b).toNat) then (Nat.gcd (Num.ab a).toNat (Num.ab b).toNat : Int) else 0
theorem gcd_yes {a b : Int} {g x y : Nat} (h : Nat.gcd x y = g) (hx : Num.ab a = (x : Int)) (hy : Num.ab b = (y : Int)) (hg : (g : Int) ≤ 9223372036854775807) : (g : Int) = gcdN a b := by
  have hd : gcdB g = true := decide_eq_true hg
  unfold gcdN; rw [hx, hy, Int.toNat_natCast, Int.toNat_natCast, h, hd]; rfl
theorem gcd_no {a b : Int} {g x y : Nat} (h : Nat.gcd x y = g) (hx : Num.ab a = (x : Int)) (hy : Num.ab b = (y : Int)) (hg : 9223372036854775807 < (g : Int)) : (0 : Int) = gcdN a b := by
  have hd : gcdB g = false := decide_eq_false (by omega)
  unfold gcdN; rw [hx, hy, Int.toNat_natCast, Int.toNat_natCast, h, hd]; rfl
theorem eu_200 {x y : Nat} (h : (y : Int) ≤ 9223372036854775808) : (Num.eu 200 x y).2 = 0 := by
  have h1 := Num.eu_ends 64 x y (by have : (2 : Nat) ^ 64 = 18446744073709551616 := rfl; omega)
  have : ∀ j, Num.eu (2 * 64 + 1 + j) x y = Num.eu (2 * 64 + 1) x y := by
    intro j
    induction j with
    | zero => rfl
    | succ j ih => rw [← Nat.add_assoc, Num.eu_succ, ih, if_pos h1]
  have h2 := this 71
  rw [show 2 * 64 + 1 + 71 = 200 from rfl] at h2
  rw [h2]; exact h1
theorem eu_bd {x y : Nat} (M : Nat) (hx : x ≤ M) (hy : y ≤ M) : ∀ k, (Num.eu k x y).1 ≤ M ∧ (Num.eu k x y).2 ≤ M
  | 0 => ⟨hx, hy⟩
  | k + 1 => by
    obtain ⟨h1, h2⟩ := eu_bd M hx hy k
    rw [Num.eu_succ]
    split
    · exact ⟨h1, h2⟩
    · exact ⟨h2, Nat.le_trans (Nat.le_of_lt (Nat.mod_lt _ (by omega))) h2⟩
/-- The pair behind k rounds, hidden. -/
def At (x0 y0 k X Y : Nat) : Prop := Num.eu k x0 y0 = (X, Y)
theorem At.next {x0 y0 k X Y : Nat} (h : At x0 y0 k X Y) (hy : ((Y : Int) == 0) = false) : At x0 y0 (k + 1) Y (X % Y) := by
  have hy' : ¬ Y = 0 := by simpa using hy
  show Num.eu (k + 1) x0 y0 = _
  rw [Num.eu_succ, show Num.eu k x0 y0 = (X, Y) from h, if_neg hy']
theorem At.gcd {x0 y0 k X Y : Nat} (h : At x0 y0 k X Y) (hy : ((Y : Int) == 0) = true) : Nat.gcd x0 y0 = X := by
  have hy' : Y = 0 := by simpa using hy
  rw [← Num.eu_gcd k, show Num.eu k x0 y0 = (X, Y) from h, hy', Nat.gcd_zero_right]
theorem At.end {x0 y0 X Y : Nat} (h : At x0 y0 200 X Y) (hy : (y0 : Int) ≤ 9223372036854775808) : ((Y : Int) == 0) = true := by
  have := eu_200 (x := x0) hy
  rw [show Num.eu 200 x0 y0 = (X, Y) from h] at this
  simpa using this
theorem nat_of_ab {a : Int} (h0 : -9223372036854775808 ≤ a) (h1 : a ≤ 9223372036854775807) : ∃ x : Nat, Num.ab a = (x : Int) ∧ (x : Int) ≤ 9223372036854775808 := by
  obtain ⟨p, q⟩ := Num.ab_bd (a := a) ⟨h0, h1⟩
  obtain ⟨x, hx⟩ := Int.eq_ofNat_of_zero_le p
  exact ⟨x, hx, by omega⟩
set_option maxRecDepth 20000 in
set_option maxHeartbeats 1000000 in
theorem rGCD_any (a b : Int) (w : World) (ha0 : -9223372036854775808 ≤ a) (ha1 : a ≤ 9223372036854775807) (hb0 : -9223372036854775808 ≤ b) (hb1 : b ≤ 9223372036854775807) :
    Calls Tryd.prog 34 #[.int .i64 a, .int .i64 b] w (RetS (.int .i64 (gcdN a b)) w) := by
  obtain ⟨x, hx, hx1⟩ := nat_of_ab ha0 ha1
  obtain ⟨y, hy, hy1⟩ := nat_of_ab hb0 hb1
  have HX := Lib.hid hx
  have HY := Lib.hid hy
  clear hx hy
  go_enter Tryd.func34, Tryd.ntmps34
  go_wp2_with (go_at_call 50; refine (rSize_any _ _ (by omega) (by omega)).mono ?_; rintro e w' ⟨rfl, rfl⟩)
  go_loop [5, 6, 7] (fun u v i => ∃ k X Y : Nat, k ≤ 200 ∧ u = .int .u64 X ∧ v = .int .u64 Y ∧ i = .int .i64 k ∧ At x y k X Y ∧ (X : Int) ≤ 9223372036854775808 ∧ (Y : Int) ≤ 9223372036854775808) (fun _ _ i => 200 - (intOf i).toNat)
  case atStart => exact ⟨0, x, y, by omega, by rw [HX.out], by rw [HY.out], rfl, rfl, by omega, by omega⟩
  case round =>
    obtain ⟨k, X, Y, hk, rfl, rfl, rfl, hA, X1, Y1⟩ := hrel
    have out : ((Y : Int) == 0) = true → Hid (Nat.gcd x y = X) := fun h => Lib.hid (hA.gcd h)
    by_cases hz : ((Y : Int) == 0) = true
    · have HG := out hz
      have hz' : Y = 0 := by simpa using hz
      clear out
      by_cases hbig : (X : Int) ≤ 9223372036854775807
      · have HV := Lib.hid (gcd_yes HG.out HX.out HY.out hbig)
        go_wp2
        all_goals (go_ret; exact ⟨ret_int HV.out, rfl⟩)
      · have HV := Lib.hid (gcd_no HG.out HX.out HY.out (by omega))
        go_wp2
        all_goals (go_ret; exact ⟨ret_int HV.out, rfl⟩)
    · replace hz : ((Y : Int) == 0) = false := by simpa using hz
      have hk2 : k < 200 := by
        rcases Nat.lt_or_ge k 200 with h | h
        · exact h
        · obtain rfl : k = 200 := by omega
          rw [hA.end hy1] at hz; cases hz
      have HN := Lib.hid (hA.next hz)
      have hY : 0 < (Y : Int) := by have : ¬ Y = 0 := (by simpa using hz); omega
      have hle : decide ((Y : Int) ≤ 0) = false := decide_eq_false (by omega)
      have m0 : 0 ≤ (X : Int) % (Y : Int) := Int.emod_nonneg _ (by omega)
      have m1 : (X : Int) % (Y : Int) < (Y : Int) := Int.emod_lt_of_pos _ (by omega)
      have d1 : decide ((k : Int) < 200) = true := decide_eq_true (by omega)
      clear out
      go_wp2
      go_round
      case rel => exact ⟨k + 1, Y, X % Y, by omega, rfl, by go_num, by go_num, HN.out, Y1, by omega⟩
      case measure => simp [intOf]; omega
set_option maxHeartbeats 1000000 in
theorem GCD_any (a b : Int) (w : World) (ha0 : -9223372036854775808 ≤ a) (ha1 : a ≤ 9223372036854775807) (hb0 : -9223372036854775808 ≤ b) (hb1 : b ≤ 9223372036854775807) :
    Calls Tryd.prog 33 #[.int .i64 a, .int .i64 b] w (RetB (.int .i64 (gcdN a b)) w) := by
  obtain ⟨x, hx, hx1⟩ := nat_of_ab ha0 ha1
  obtain ⟨y, hy, hy1⟩ := nat_of_ab hb0 hb1
  have HX := Lib.hid hx
  have HY := Lib.hid hy
  clear hx hy
  go_enter Tryd.func33, Tryd.ntmps33
  go_wp2_with (go_at_call 48; refine (mag_any _ _ (by omega) (by omega)).mono ?_; rintro e w' ⟨rfl, rfl⟩)
  go_loopw [5, 6] (fun u v wr => ∃ k X Y : Nat, u = .int .u64 X ∧ v = .int .u64 Y ∧ At x y k X Y ∧ (X : Int) ≤ 9223372036854775808 ∧ (Y : Int) ≤ 9223372036854775808 ∧ Below w.heap.size w wr) (fun _ v _ => (intOf v).toNat)
  case atStart => exact ⟨0, x, y, by rw [HX.out], by rw [HY.out], rfl, by omega, by omega, Below.refl _ _⟩
  case round =>
    obtain ⟨k, X, Y, rfl, rfl, hA, X1, Y1, hbel⟩ := hrel
    by_cases hz : ((Y : Int) == 0) = true
    · have HG := Lib.hid (hA.gcd hz)
      have hz' : Y = 0 := by simpa using hz
      by_cases hbig : (X : Int) ≤ 9223372036854775807
      · have HV := Lib.hid (gcd_yes HG.out HX.out HY.out hbig)
        go_wp2
        go_ret
        exact ⟨ret_int HV.out, hbel⟩
      · have HV := Lib.hid (gcd_no HG.out HX.out HY.out (by omega))
        go_wp2
        go_ret
        exact ⟨ret_int HV.out, hbel⟩
    · replace hz : ((Y : Int) == 0) = false := by simpa using hz
      have HN := Lib.hid (hA.next hz)
      have hY : 0 < (Y : Int) := by have : ¬ Y = 0 := (by simpa using hz); omega
      have hle : decide ((Y : Int) ≤ 0) = false := decide_eq_false (by omega)
      have m0 : 0 ≤ (X : Int) % (Y : Int) := Int.emod_nonneg _ (by omega)
      have m1 : (X : Int) % (Y : Int) < (Y : Int) := Int.emod_lt_of_pos _ (by omega)
      go_wp2
      refine wp_region_below (by kernel_rfl) (by kernel_rfl) ?_
      repeat (go_big_quiet_step (fail))
      refine wpQuiet_nil ?_
      rintro w2 ⟨⟨_, hb2⟩, rfl⟩
      go_roundw
      case rel => exact ⟨_, _, _, _, _, _, _, _, ⟨k + 1, Y, X % Y, rfl, by go_num, HN.out, Y1, by omega, hbel.trans (hb2.mono hbel.size)⟩, rfl⟩
      case measure => simp [intOf]; omega
end Go.Proofs.YtgloiddnbppblaaDoor
