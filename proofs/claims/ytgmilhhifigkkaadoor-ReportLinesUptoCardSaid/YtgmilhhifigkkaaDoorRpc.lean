/- A line of a report; amounts; the reference's lines. -/
import Derived.Test.YtgmilhhifigkkaaDoorRpb
import Derived.Test.YtgmilhhifigkkaaDoorRpp
import Derived.Test.YtgmilhhifigkkaaDoorMpd
namespace Go.Proofs.YtgmilhhifigkkaaDoor
open Go.ChangeShapes Go.WideShapes Go.ChangeAt Go.RowKit Go.Lott
open Go.Lott.Mny Go.Lott.Rp
/-- The text of an amount in a report. -/
def amB8 (n : Int) : ByteArray := ⟨(amT n).toArray⟩
theorem amB8_list (n : Int) : (amB8 n).data.toList = amT n := by simp [amB8]
theorem amB8_pos {n : Int} (h : 0 ≤ n ∧ n ≤ 1000000000000) : mTB n = amB8 n := bytes_of (by rw [mTB_list, amB8_list, amT_pos h])
theorem amB8_neg {n : Int} (h : -1000000000000 ≤ n ∧ n < 0) : (⟨#[45]⟩ : ByteArray) ++ mTB (-n) = amB8 n := bytes_of (by
  rw [amB8_list, amT_neg h, ByteArray.data_append, Array.toList_append, mTB_list]; rfl)
theorem amB8_bad {n : Int} (h : ¬ (-1000000000000 ≤ n ∧ n ≤ 1000000000000)) : (⟨#[63]⟩ : ByteArray) = amB8 n := bytes_of (by rw [amB8_list, amT_bad h])
theorem mT_size (m : Int) : (mT m).length ≤ 24 := by
  by_cases h : 0 ≤ m ∧ m ≤ 1000000000000
  · rw [mT_yes h, List.length_append]
    have e : (10 : Nat) ^ 19 = 10000000000000000000 := rfl
    have := mdec_short 18 (m / 100).toNat (by show _ < 10 ^ 19; omega)
    simp; omega
  · rw [mT_no h]; simp
theorem mTB_size (m : Int) : (mTB m).size ≤ 24 := by
  have := mT_size m
  rw [← mTB_list] at this
  simpa using this
theorem amT_size (n : Int) : (amT n).length ≤ 25 := by
  have h1 := mT_size n
  have h2 := mT_size (-n)
  unfold amT
  split
  · omega
  · split
    · simp; omega
    · simp
theorem amB8_size (m : Int) : (amB8 m).size ≤ 25 := by
  have := amT_size m
  rw [← amB8_list] at this
  simpa using this
set_option maxHeartbeats 1000000 in
theorem amount_any (n : Int) (w : World) (h0 : -9223372036854775808 ≤ n) (h9 : n ≤ 9223372036854775807) (hp : P10 w) : Calls Tryd.prog 27 #[.int .i64 n] w (RetB (.string (amB8 n)) w) := by
  have HF := Lib.hid fun n => mFormat_any n w hp
  have z1 := mTB_size (-n)
  clear hp
  by_cases h1 : 0 ≤ n ∧ n ≤ 1000000000000
  · have HA := Lib.hid (amB8_pos h1)
    have HM := Lib.hid (Valid_any n w)
    rw [(amB_iff n).2 h1] at HM
    clear h1
    go_enter Tryd.func27, Tryd.ntmps27
    go_wp2_with (first | (go_at_call 40; refine (HM.out).mono ?_; rintro e w' ⟨rfl, rfl⟩) | (go_at_call 41; refine (HF.out _).mono ?_; rintro e w1 ⟨rfl, hb1⟩; have HB := Lib.hid hb1; clear hb1))
    go_ret
    exact ⟨ret_str HA.out, HB.out⟩
  · have HM := Lib.hid (Valid_any n w)
    rw [show amB n = false from decide_eq_false h1] at HM
    by_cases h3 : n < 0
    · by_cases h2 : -1000000000000 ≤ n
      · have HA := Lib.hid (amB8_neg ⟨h2, h3⟩)
        clear h1
        go_enter Tryd.func27, Tryd.ntmps27
        go_wp2_with (first | (go_at_call 40; refine (HM.out).mono ?_; rintro e w' ⟨rfl, rfl⟩) | (go_at_call 41; refine (HF.out _).mono ?_; rintro e w1 ⟨rfl, hb1⟩; have HB := Lib.hid hb1; clear hb1))
        go_ret
        exact ⟨ret_str HA.out, HB.out⟩
      · have HA := Lib.hid (amB8_bad (n := n) (by omega))
        clear h1
        go_enter Tryd.func27, Tryd.ntmps27
        go_wp2_with (go_at_call 40; refine (HM.out).mono ?_; rintro e w' ⟨rfl, rfl⟩)
        go_ret
        exact ⟨ret_str HA.out, Below.refl _ _⟩
    · have HA := Lib.hid (amB8_bad (n := n) (by omega))
      clear h1
      go_enter Tryd.func27, Tryd.ntmps27
      go_wp2_with (go_at_call 40; refine (HM.out).mono ?_; rintro e w' ⟨rfl, rfl⟩)
      go_ret
      exact ⟨ret_str HA.out, Below.refl _ _⟩
set_option maxHeartbeats 1000000 in
theorem rAmount_any (n : Int) (w : World) (h0 : -9223372036854775808 ≤ n) (h9 : n ≤ 9223372036854775807) : Calls Tryd.prog 33 #[.int .i64 n] w (RetB (.string (amB8 n)) w) := by
  have HF := Lib.hid fun n => rmFormat_any n w
  have z1 := mTB_size (-n)
  by_cases h1 : 0 ≤ n
  · by_cases h2 : n ≤ 1000000000000
    · have HA := Lib.hid (amB8_pos ⟨h1, h2⟩)
      go_enter Tryd.func33, Tryd.ntmps33
      go_wp2_with (go_at_call 43; refine (HF.out _).mono ?_; rintro e w1 ⟨rfl, hb1⟩; have HB := Lib.hid hb1; clear hb1)
      go_ret
      exact ⟨ret_str HA.out, HB.out⟩
    · have HA := Lib.hid (amB8_bad (n := n) (by omega))
      go_enter Tryd.func33, Tryd.ntmps33
      go_wp2
      go_ret
      exact ⟨ret_str HA.out, Below.refl _ _⟩
  · by_cases h2 : -1000000000000 ≤ n
    · have HA := Lib.hid (amB8_neg ⟨h2, by omega⟩)
      go_enter Tryd.func33, Tryd.ntmps33
      go_wp2_with (go_at_call 43; refine (HF.out _).mono ?_; rintro e w1 ⟨rfl, hb1⟩; have HB := Lib.hid hb1; clear hb1)
      go_ret
      exact ⟨ret_str HA.out, HB.out⟩
    · have HA := Lib.hid (amB8_bad (n := n) (by omega))
      go_enter Tryd.func33, Tryd.ntmps33
      go_wp2
      go_ret
      exact ⟨ret_str HA.out, Below.refl _ _⟩
end Go.Proofs.YtgmilhhifigkkaaDoor
