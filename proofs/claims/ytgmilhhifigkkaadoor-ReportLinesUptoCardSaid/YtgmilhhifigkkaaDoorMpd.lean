/- Format of the reference of package money; parts, multiples, quotients. -/
import Derived.Test.YtgmilhhifigkkaaDoorMpc
namespace Go.Proofs.YtgmilhhifigkkaaDoor
open Go.ChangeShapes Go.WideShapes Go.ChangeAt Go.RowKit Go.Lott
open Go.Lott.Mny
theorem conv3 (a b c : Int) (w : World) : (convert 55 9 (.slice (some ⟨w.heap.size, 0, none⟩) 3 3)).run Tryd.prog (w.alloc (.cells #[.int .u8 a, .int .u8 b, .int .u8 c] 5)) = .ok (.string (strOfNums [a, b, c])) (w.alloc (.cells #[.int .u8 a, .int .u8 b, .int .u8 c] 5)) :=
  run_convert_bytes_arg _ 55 5 Tryd.underlying55 Tryd.underlying5 _ 0 3 3 [a, b, c] rfl (fun i hi => by
    rcases (show i = 0 ∨ i = 1 ∨ i = 2 by have : i < 3 := hi; omega) with rfl | rfl | rfl <;> simp) 9 Tryd.underlying9
theorem conv1h (a : Int) (w : World) (h : Nat) (hh : w.heap.size = h) : (convert 55 9 (.slice (some ⟨h, 0, none⟩) 1 1)).run Tryd.prog (w.alloc (.cells #[.int .u8 a] 5)) = .ok (.string (strOfNums [a])) (w.alloc (.cells #[.int .u8 a] 5)) := by
  subst hh; exact conv1 a w
theorem strThree_size (a b c : Int) : (strOfNums [a, b, c]).size = 3 := rfl
theorem three_list (a b c : Int) : (strOfNums [a, b, c]).data.toList = [UInt8.ofNat a.toNat, UInt8.ofNat b.toNat, UInt8.ofNat c.toNat] := rfl
def tl3 (m : Int) : ByteArray := strOfNums [46, 48 + m / 10 % 10, 48 + m % 10]
theorem tl3_size (m : Int) : (tl3 m).size = 3 := rfl
theorem mTB_ref {m : Int} {d : ByteArray} (h : 0 ≤ m ∧ m ≤ 1000000000000) (hd : d.data.toList = Lib.decDigits (m / 100).toNat) : d ++ tl3 m = mTB m := by
  refine bytes_of ?_
  rw [mTB_list, mT_yes h, ByteArray.data_append, Array.toList_append, hd]
  unfold tl3
  rw [three_list]
  have e2 : (48 + m / 10 % 10).toNat = 48 + m.toNat % 100 / 10 := by omega
  have e3 : (48 + m % 10).toNat = 48 + m.toNat % 10 := by omega
  rw [e2, e3]; rfl
theorem app_size (a b : ByteArray) : (a ++ b).size = a.size + b.size := ByteArray.size_append
theorem app_assoc (a b c : ByteArray) : a ++ (b ++ c) = (a ++ b) ++ c := ByteArray.append_assoc.symm
set_option maxHeartbeats 2000000 in
theorem rmFormat_any (m : Int) (w : World) : Calls Tryd.prog 43 #[.int .i64 m] w (RetB (.string (mTB m)) w) := by
  have hv := fun w => rValid_any m w
  by_cases hm : 0 ≤ m ∧ m ≤ 1000000000000
  · have HV := Lib.hid (fun d => mTB_ref (m := m) (d := d) hm)
    rw [(amB_iff m).2 hm] at hv
    have HM := Lib.hid hv
    obtain ⟨m0, m1⟩ := hm
    clear hv
    have c1 := conv1h
    have c3 := conv3
    have z1 := strOne_size
    have z3 := strThree_size
    obtain ⟨N, hN⟩ : ∃ N : Nat, m / 100 = (N : Int) := ⟨(m / 100).toNat, by omega⟩
    have hN1 : (N : Int) ≤ 10000000000 := by omega
    have HN := Lib.hid (show (m / 100).toNat = N by omega)
    have e10 : m.tmod 10 = m % 10 := Int.tmod_eq_emod_of_nonneg m0
    have d10 : m.tdiv 10 = m / 10 := Int.tdiv_eq_ediv_of_nonneg m0
    have d100 : m.tdiv 100 = (N : Int) := by rw [Int.tdiv_eq_ediv_of_nonneg m0, hN]
    have q0 : 0 ≤ m / 10 := by omega
    have q1 : m / 10 ≤ 100000000000 := by omega
    have e11 : (m / 10).tmod 10 = m / 10 % 10 := Int.tmod_eq_emod_of_nonneg q0
    have r0 : 0 ≤ m / 10 % 10 := by omega
    have r1 : m / 10 % 10 ≤ 9 := by omega
    have r2 : 0 ≤ m % 10 := by omega
    have r3 : m % 10 ≤ 9 := by omega
    have HTL := Lib.hid (show strOfNums [46, 48 + m / 10 % 10, 48 + m % 10] = tl3 m from rfl)
    go_enter Tryd.func43, Tryd.ntmps43
    go_wp2_with (go_at_call 46; refine (HM.out _).mono ?_; rintro e w' ⟨rfl, rfl⟩)
    rw [HTL.out]
    have HT3 := Lib.hid (tl3_size m)
    have HF0 := Lib.hid (FI.start N)
    go_loopw [3, 4] (fun vs vn wr => ∃ (k Z Y : Nat) (d b : ByteArray), vs = .string b ∧ Hid (b = d ++ tl3 m) ∧ vn = .int .i64 (Y : Int) ∧ Hid (Y = Z / 10) ∧ k ≤ 20 ∧ (Z : Int) ≤ 10000000000 ∧ (Y : Int) ≤ 10000000000 ∧ d.size ≤ k + 1 ∧ Lt20 Z k ∧ FI N Z d ∧ Below w.heap.size w wr) (fun _ vn _ => (intOf vn).toNat)
    case atStart => exact ⟨0, N, N / 10, _, _, rfl, rfl, by go_num, rfl, by omega, hN1, by omega, by rw [z1]; omega, by unfold Lt20; omega, HF0.out, ((Below.refl _ _).alloc (Nat.le_refl _) _).alloc (by simp) _⟩
    case round =>
      obtain ⟨k, Z, Y, d, b, rfl, hB, rfl, hY, hk, hZ, hY1, hdz, hL, hF, hb⟩ := hrel
      have HF := Lib.hid hF
      have HL := Lib.hid hL
      have hbs := hb.size
      have hzz : b.size ≤ 25 := by rw [hB.out, app_size, HT3.out]; omega
      clear hF hL
      by_cases hz : 0 < Y
      · have hz' : (0 : Int) < (Y : Int) := by omega
        have hz10 : 10 ≤ Z := by have := hY.out; omega
        have hk2 := HL.out.small hz10 hk
        have HN1 := Lib.hid (HF.out.next hz10)
        rw [← hY.out] at HN1
        have HA := Lib.hid (fun x => app_assoc x d (tl3 m))
        have HL2 := Lib.hid (HL.out.next hk2)
        rw [← hY.out] at HL2
        clear hz10
        go_wp2
        go_roundw
        case rel => exact ⟨k + 1, Y, Y / 10, _, _, rfl, by rw [hB.out]; exact HA.out _, by go_num, rfl, by omega, hY1, by omega, by rw [app_size, z1]; omega, HL2.out, HN1.out, hb.alloc hbs _⟩
        case measure => simp [intOf]; omega
      · obtain rfl : Y = 0 := by omega
        have HD := Lib.hid (HV.out d (by rw [HN.out]; exact HF.out.done (by have := hY.out; omega)))
        go_wp2
        go_ret
        exact ⟨ret_str (by rw [hB.out]; exact HD.out), hb⟩
  · have HV := Lib.hid (mTB_no hm)
    rw [show amB m = false from decide_eq_false hm] at hv
    have HM := Lib.hid hv
    clear hv hm
    go_enter Tryd.func43, Tryd.ntmps43
    go_wp2_with (go_at_call 46; refine (HM.out _).mono ?_; rintro e w' ⟨rfl, rfl⟩)
    go_ret
    exact ⟨ret_str HV.out, Below.refl _ _⟩
end Go.Proofs.YtgmilhhifigkkaaDoor
