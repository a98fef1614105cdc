/- The reference's products, by four partial products. -/
import Derived.Test.YtkpmbkkhdhjbnaaDoorNumb
namespace Go.Proofs.YtkpmbkkhdhjbnaaDoor
open Go.ChangeShapes Go.WideShapes Go.ChangeAt Go.RowKit Go.Lott

set_option maxHeartbeats 1000000 in
theorem rWide_any (a b : Int) (w : World) (a0 : 0 ≤ a) (a1 : a ≤ 18446744073709551615) (b0 : 0 ≤ b) (b1 : b ≤ 18446744073709551615) :
    Calls Tryd.prog 37 #[.int .u64 a, .int .u64 b] w (RetS (.tuple #[.int .u64 (Num.wHi a b), .int .u64 (Num.wLo a b)]) w) := by
  obtain ⟨p00, p10, p01, p11, e1, e2, e3, e4, e, q1, q2, q3, q4, q5, q6, q7, q8⟩ := Num.parts a b a0 a1 b0 b1
  have d1 : Num.wLow a b = p00 := e1
  have d2 : Num.wMid a b = p10 + p00 / 4294967296 := by unfold Num.wMid; rw [d1, e2]
  have d3 : Num.wOth a b = p01 + (p10 + p00 / 4294967296) % 4294967296 := by unfold Num.wOth; rw [d2, e3]
  have HH := Lib.hid (show Num.wHi a b = p11 + (p10 + p00 / 4294967296) / 4294967296 + (p01 + (p10 + p00 / 4294967296) % 4294967296) / 4294967296 by unfold Num.wHi; rw [d2, d3, e4])
  have HL := Lib.hid (show Num.wLo a b = (p01 + (p10 + p00 / 4294967296) % 4294967296) % 4294967296 * 4294967296 + p00 % 4294967296 by unfold Num.wLo; rw [d3, d1])
  clear d1 d2 d3 e
  go_enter Tryd.func37, Tryd.ntmps37
  go_wp2
  go_ret2
  exact ⟨ret_two HH.out.symm (HL.out.trans (by omega)).symm, rfl⟩
theorem rWide_v (x y hi lo : Int) (w : World) (x0 : 0 ≤ x) (x1 : x ≤ 18446744073709551615) (y0 : 0 ≤ y) (y1 : y ≤ 18446744073709551615) (h : x * y = hi * 18446744073709551616 + lo) (l0 : 0 ≤ lo) (l1 : lo ≤ 18446744073709551615) :
    Calls Tryd.prog 37 #[.int .u64 x, .int .u64 y] w (RetS (.tuple #[.int .u64 hi, .int .u64 lo]) w) := by
  have hc := rWide_any x y w x0 x1 y0 y1
  obtain ⟨_, _, _, e1, e2⟩ := Num.wide_eq x y x0 x1 y0 y1
  rw [e1, e2, h, show (hi * 18446744073709551616 + lo) / 18446744073709551616 = hi by omega, show (hi * 18446744073709551616 + lo) % 18446744073709551616 = lo by omega] at hc
  exact hc
theorem rSigned_pos (n : Int) (w : World) (h0 : 0 ≤ n) (h1 : n ≤ 18446744073709551615) : Calls Tryd.prog 52 #[.int .u64 n, .bool false] w (RetS (.tuple #[.int .i64 (Num.okN n), .int .i64 (Num.okE n)]) w) := by
  by_cases hle : n ≤ 9223372036854775807
  · have HV := Lib.hid (Num.ok_yes (n := n) (by omega))
    go_enter Tryd.func52, Tryd.ntmps52
    go_wp2
    go_ret2
    exact ⟨ret_two HV.out.1.symm HV.out.2.symm, rfl⟩
  · have HV := Lib.hid (Num.ok_no (n := n) (by omega))
    go_enter Tryd.func52, Tryd.ntmps52
    go_wp2
    go_ret2
    exact ⟨ret_two HV.out.1.symm HV.out.2.symm, rfl⟩
theorem rSigned_neg (n x : Int) (w : World) (hx : x = -n) (h0 : 0 ≤ n) (h1 : n ≤ 18446744073709551615) : Calls Tryd.prog 52 #[.int .u64 n, .bool true] w (RetS (.tuple #[.int .i64 (Num.okN x), .int .i64 (Num.okE x)]) w) := by
  by_cases hm : n = 9223372036854775808
  · subst hm
    have HV := Lib.hid (show -9223372036854775808 = Num.okN x ∧ 0 = Num.okE x by have := Num.ok_yes (n := x) (by omega); omega)
    clear hx
    go_enter Tryd.func52, Tryd.ntmps52
    go_wp2
    go_ret2
    exact ⟨ret_two HV.out.1 HV.out.2, rfl⟩
  · have hm1 : (n == 9223372036854775808) = false := by simp [hm]
    by_cases hle : n ≤ 9223372036854775807
    · have HV := Lib.hid (show -n = Num.okN x ∧ 0 = Num.okE x by have := Num.ok_yes (n := x) (by omega); omega)
      clear hx hm
      go_enter Tryd.func52, Tryd.ntmps52
      go_wp2
      go_ret2
      exact ⟨ret_two HV.out.1 HV.out.2, rfl⟩
    · have hgt : 9223372036854775808 < n := by omega
      have HV := Lib.hid (show 0 = Num.okN x ∧ 9 = Num.okE x by have := Num.ok_no (n := x) (by omega); omega)
      clear hx hm hle
      go_enter Tryd.func52, Tryd.ntmps52
      go_wp2
      go_ret2
      exact ⟨ret_two HV.out.1 HV.out.2, rfl⟩
set_option maxHeartbeats 1000000 in
theorem rMul_any (a b : Int) (w : World) (ha0 : -9223372036854775808 ≤ a) (ha1 : a ≤ 9223372036854775807) (hb0 : -9223372036854775808 ≤ b) (hb1 : b ≤ 9223372036854775807) :
    Calls Tryd.prog 41 #[.int .i64 a, .int .i64 b] w (RetS (.tuple #[.int .i64 (Num.okN (a * b)), .int .i64 (Num.okE (a * b))]) w) := by
  obtain ⟨p, hp, p0, hs, hd⟩ := mul_cases a b ⟨ha0, ha1⟩ ⟨hb0, hb1⟩
  have ba := Num.ab_bd ⟨ha0, ha1⟩
  have bb := Num.ab_bd ⟨hb0, hb1⟩
  generalize hx : a * b = x at *
  clear hx
  have HP := Lib.hid hp
  clear hp
  by_cases hbig : 18446744073709551616 ≤ p
  · have HV := Lib.hid (Num.ok_no (n := x) (by by_cases c : ((a < 0) ↔ (b < 0)); have := hs c; omega; have := hd c; omega))
    have h1 : p / 18446744073709551616 * 18446744073709551616 + p % 18446744073709551616 = p := by omega
    have h2 : 0 ≤ p % 18446744073709551616 ∧ p % 18446744073709551616 ≤ 18446744073709551615 := by omega
    have h3 : 1 ≤ p / 18446744073709551616 := by omega
    generalize p / 18446744073709551616 = hi at *
    generalize p % 18446744073709551616 = lo at *
    have HE := Lib.hid (HP.out.trans h1.symm)
    have hn : (hi != 0) = true := by rw [bne_iff_ne]; omega
    clear hs hd hbig h1
    go_enter Tryd.func41, Tryd.ntmps41
    go_wp2_with (first | (go_at_call 51; refine (rSize_any _ _ (by omega) (by omega)).mono ?_; rintro e w' ⟨rfl, rfl⟩) | (go_at_call 37; refine (rWide_v _ _ hi lo _ ba.1 (by omega) bb.1 (by omega) HE.out h2.1 h2.2).mono ?_; rintro e w' ⟨rfl, rfl⟩))
    go_ret2
    exact ⟨ret_two HV.out.1.symm HV.out.2.symm, rfl⟩
  · have HE := Lib.hid (HP.out.trans (show p = 0 * 18446744073709551616 + p by omega))
    by_cases ca : a < 0
    · have da : decide (a < 0) = true := decide_eq_true ca
      by_cases cb : b < 0
      · have db : decide (b < 0) = true := decide_eq_true cb
        have hx := hs ⟨fun _ => cb, fun _ => ca⟩
        subst hx
        clear hs hd
        go_enter Tryd.func41, Tryd.ntmps41
        go_wp2_with (first | (go_at_call 51; refine (rSize_any _ _ (by omega) (by omega)).mono ?_; rintro e w' ⟨rfl, rfl⟩) | (go_at_call 37; refine (rWide_v _ _ 0 _ _ ba.1 (by omega) bb.1 (by omega) HE.out p0 (by omega)).mono ?_; rintro e w' ⟨rfl, rfl⟩) | (go_at_call 52; refine (rSigned_pos _ _ p0 (by omega)).mono ?_; rintro e w' ⟨rfl, rfl⟩))
        go_ret2
        exact ⟨rfl, rfl⟩
      · have db : decide (b < 0) = false := decide_eq_false cb
        have HX := Lib.hid (hd (fun h => cb (h.1 ca)))
        clear hs hd
        go_enter Tryd.func41, Tryd.ntmps41
        go_wp2_with (first | (go_at_call 51; refine (rSize_any _ _ (by omega) (by omega)).mono ?_; rintro e w' ⟨rfl, rfl⟩) | (go_at_call 37; refine (rWide_v _ _ 0 _ _ ba.1 (by omega) bb.1 (by omega) HE.out p0 (by omega)).mono ?_; rintro e w' ⟨rfl, rfl⟩) | (go_at_call 52; refine (rSigned_neg _ x _ HX.out p0 (by omega)).mono ?_; rintro e w' ⟨rfl, rfl⟩))
        go_ret2
        exact ⟨rfl, rfl⟩
    · have da : decide (a < 0) = false := decide_eq_false ca
      by_cases cb : b < 0
      · have db : decide (b < 0) = true := decide_eq_true cb
        have HX := Lib.hid (hd (fun h => ca (h.2 cb)))
        clear hs hd
        go_enter Tryd.func41, Tryd.ntmps41
        go_wp2_with (first | (go_at_call 51; refine (rSize_any _ _ (by omega) (by omega)).mono ?_; rintro e w' ⟨rfl, rfl⟩) | (go_at_call 37; refine (rWide_v _ _ 0 _ _ ba.1 (by omega) bb.1 (by omega) HE.out p0 (by omega)).mono ?_; rintro e w' ⟨rfl, rfl⟩) | (go_at_call 52; refine (rSigned_neg _ x _ HX.out p0 (by omega)).mono ?_; rintro e w' ⟨rfl, rfl⟩))
        go_ret2
        exact ⟨rfl, rfl⟩
      · have db : decide (b < 0) = false := decide_eq_false cb
        have hx := hs ⟨fun c => (ca c).elim, fun c => (cb c).elim⟩
        subst hx
        clear hs hd
        go_enter Tryd.func41, Tryd.ntmps41
        go_wp2_with (first | (go_at_call 51; refine (rSize_any _ _ (by omega) (by omega)).mono ?_; rintro e w' ⟨rfl, rfl⟩) | (go_at_call 37; refine (rWide_v _ _ 0 _ _ ba.1 (by omega) bb.1 (by omega) HE.out p0 (by omega)).mono ?_; rintro e w' ⟨rfl, rfl⟩) | (go_at_call 52; refine (rSigned_pos _ _ p0 (by omega)).mono ?_; rintro e w' ⟨rfl, rfl⟩))
        go_ret2
        exact ⟨rfl, rfl⟩
end Go.Proofs.YtkpmbkkhdhjbnaaDoor
