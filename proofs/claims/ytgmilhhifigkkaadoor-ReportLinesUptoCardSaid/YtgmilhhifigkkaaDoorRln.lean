/- Line feeds counted. -/
import Derived.Test.YtgmilhhifigkkaaDoorRpe
namespace Go.Lott.Rp
/-- How many line feeds a text has. -/
def lnc (l : List UInt8) : Nat := (l.filter fun c => c == 10).length
theorem lnc_app (a b : List UInt8) : lnc (a ++ b) = lnc a + lnc b := by unfold lnc; rw [List.filter_append, List.length_append]
theorem lnc_le (l : List UInt8) : lnc l ≤ l.length := List.length_filter_le _ _
theorem lnc_one (c : UInt8) : lnc [c] = if c.toNat = 10 then 1 else 0 := by
  have e : (c == 10) = decide (c.toNat = 10) := by
    rw [Bool.eq_iff_iff]
    simp only [beq_iff_eq, decide_eq_true_eq]
    exact ⟨fun h => by rw [h]; rfl, fun h => UInt8.toNat_inj.1 (by rw [h]; rfl)⟩
  unfold lnc
  rw [List.filter_cons, e]
  by_cases h : c.toNat = 10 <;> simp [h]
theorem lnc_snoc (s : ByteArray) {k : Nat} (h : k < s.size) : lnc (s.data.toList.take (k + 1)) = lnc (s.data.toList.take k) + if s[k].toNat = 10 then 1 else 0 := by
  rw [List.take_succ_eq_append_getElem (by simpa using h), lnc_app]
  have e : [s.data.toList[k]'(by simpa using h)] = [s[k]] := rfl
  rw [e, lnc_one]
theorem lnc_take (l : List UInt8) (k : Nat) : lnc (l.take k) ≤ k := Nat.le_trans (lnc_le _) (by rw [List.length_take]; omega)
end Go.Lott.Rp
namespace Go.Proofs.YtgmilhhifigkkaaDoor
open Go.ChangeShapes Go.WideShapes Go.ChangeAt Go.RowKit Go.Lott
open Go.Lott.Mny Go.Lott.Rp
set_option maxHeartbeats 1000000 in
theorem lines_any (s : ByteArray) (w : World) (hs : s.size ≤ 9223372036854775807) : Calls Tryd.prog 23 #[.string s] w (RetS (.int .i64 (lnc s.data.toList)) w) := by
  go_enter Tryd.func23, Tryd.ntmps23
  go_wp2
  go_loop [3, 4] (fun vn vi => ∃ k n : Nat, k ≤ s.size ∧ vi = .int .i64 k ∧ vn = .int .i64 n ∧ Hid (n = lnc (s.data.toList.take k)) ∧ n ≤ k) (fun _ vi => s.size - (intOf vi).toNat)
  case atStart => exact ⟨0, 0, Nat.zero_le _, rfl, rfl, rfl, Nat.le_refl _⟩
  case round =>
    obtain ⟨k, n, hk, rfl, rfl, hn, hnk⟩ := hrel
    by_cases hlt : k < s.size
    · have HS := Lib.hid (lnc_snoc s hlt)
      by_cases hc : s[k].toNat = 10
      · have hcI : ((s[k].toNat : Int) == 10) = true := by rw [beq_iff_eq]; omega
        have HN : Hid (n + 1 = lnc (s.data.toList.take (k + 1))) := Lib.hid (by rw [HS.out, if_pos hc, ← hn.out])
        clear hc
        go_wp2
        go_round
        case rel => exact ⟨k + 1, n + 1, hlt, by go_num, by go_num, HN, by omega⟩
        case measure => simp [intOf]; omega
      · have hcI : ((s[k].toNat : Int) == 10) = false := by rw [beq_eq_false_iff_ne]; omega
        have HN : Hid (n = lnc (s.data.toList.take (k + 1))) := Lib.hid (by rw [HS.out, if_neg hc, ← hn.out, Nat.add_zero])
        clear hc
        go_wp2
        go_round
        case rel => exact ⟨k + 1, n, hlt, by go_num, rfl, HN, by omega⟩
        case measure => simp [intOf]; omega
    · obtain rfl : k = s.size := by omega
      have HE : Hid (n = lnc s.data.toList) := Lib.hid (by rw [hn.out, List.take_of_length_le (by simp)])
      go_wp2
      go_ret
      exact ⟨ret_int (by rw [HE.out]), rfl⟩
end Go.Proofs.YtgmilhhifigkkaaDoor
