/- The law ReportTotals: line feeds counted; the example; the walk. -/
import Derived.Test.YtgmilhhifigkkaaDoorRpw
namespace Go.Lott.Rp
/-- How many line feeds a text has. -/
def lnc (l : List UInt8) : Nat := (l.filter fun c => c == 10).length
theorem lnc_app (a b : List UInt8) : lnc (a ++ b) = lnc a + lnc b := by unfold lnc; rw [List.filter_append, List.length_append]
theorem lnc_le (l : List UInt8) : lnc l ≤ l.length := List.length_filter_le _ _
theorem lnc_one (c : UInt8) : lnc [c] = if c.toNat = 10 then 1 else 0 := by
  have e : (c == 10) = decide (c.toNat = 10) := by
    rw [Bool.eq_iff_iff]
    simp only [beq_iff_eq, decide_eq_true_eq]
    exact ⟨fun h => by rw [h]; rfl, fun h => UInt8.toNat_inj.1 (by rw [h]; rfl)⟩
  unfold lnc
  rw [List.filter_cons, e]
  by_cases h : c.toNat = 10 <;> simp [h]
theorem lnc_snoc (s : ByteArray) {k : Nat} (h : k < s.size) : lnc (s.data.toList.take (k + 1)) = lnc (s.data.toList.take k) + if s[k].toNat = 10 then 1 else 0 := by
  rw [List.take_succ_eq_append_getElem (by simpa using h), lnc_app]
  have e : [s.data.toList[k]'(by simpa using h)] = [s[k]] := rfl
  rw [e, lnc_one]
theorem lnc_take (l : List UInt8) (k : Nat) : lnc (l.take k) ≤ k := Nat.le_trans (lnc_le _) (by rw [List.length_take]; omega)
end Go.Lott.Rp
namespace Go.Proofs.YtgmilhhifigkkaaDoor
open Go.ChangeShapes Go.WideShapes Go.ChangeAt Go.RowKit Go.Lott
open Go.Lott.Mny Go.Lott.Rp
set_option maxHeartbeats 1000000 in
theorem lines_any (s : ByteArray) (w : World) (hs : s.size ≤ 9223372036854775807) : Calls Tryd.prog 23 #[.string s] w (RetS (.int .i64 (lnc s.data.toList)) w) := by
  go_enter Tryd.func23, Tryd.ntmps23
  go_wp2
  go_loop [3, 4] (fun vn vi => ∃ k n : Nat, k ≤ s.size ∧ vi = .int .i64 k ∧ vn = .int .i64 n ∧ Hid (n = lnc (s.data.toList.take k)) ∧ n ≤ k) (fun _ vi => s.size - (intOf vi).toNat)
  case atStart => exact ⟨0, 0, Nat.zero_le _, rfl, rfl, rfl, Nat.le_refl _⟩
  case round =>
    obtain ⟨k, n, hk, rfl, rfl, hn, hnk⟩ := hrel
    by_cases hlt : k < s.size
    · have HS := Lib.hid (lnc_snoc s hlt)
      by_cases hc : s[k].toNat = 10
      · have hcI : ((s[k].toNat : Int) == 10) = true := by rw [beq_iff_eq]; omega
        have HN : Hid (n + 1 = lnc (s.data.toList.take (k + 1))) := Lib.hid (by rw [HS.out, if_pos hc, ← hn.out])
        clear hc
        go_wp2
        go_round
        case rel => exact ⟨k + 1, n + 1, hlt, by go_num, by go_num, HN, by omega⟩
        case measure => simp [intOf]; omega
      · have hcI : ((s[k].toNat : Int) == 10) = false := by rw [beq_eq_false_iff_ne]; omega
        have HN : Hid (n = lnc (s.data.toList.take (k + 1))) := Lib.hid (by rw [HS.out, if_neg hc, ← hn.out, Nat.add_zero])
        clear hc
        go_wp2
        go_round
        case rel => exact ⟨k + 1, n, hlt, by go_num, rfl, HN, by omega⟩
        case measure => simp [intOf]; omega
    · obtain rfl : k = s.size := by omega
      have HE : Hid (n = lnc s.data.toList) := Lib.hid (by rw [hn.out, List.take_of_length_le (by simp)])
      go_wp2
      go_ret
      exact ⟨ret_int (by rw [HE.out]), rfl⟩
def totX : ByteArray := ⟨#[115, 97, 108, 101, 115, 32, 48, 46, 48, 48, 10, 99, 97, 110, 99, 101, 108, 115, 32, 48, 46, 48, 48, 10, 97, 100, 100, 111, 110, 115, 32, 48, 46, 48, 48, 10, 105, 110, 115, 116, 97, 110, 116, 115, 32, 48, 46, 48, 48, 10, 114, 101, 116, 117, 114, 110, 115, 32, 48, 46, 48, 48, 10, 102, 117, 110, 100, 115, 32, 48, 46, 48, 48, 10, 114, 101, 115, 101, 114, 118, 101, 32, 48, 46, 48, 48, 10, 112, 114, 105, 122, 101, 115, 32, 48, 46, 48, 48, 10, 99, 97, 114, 114, 105, 101, 100, 32, 48, 46, 48, 48, 10, 98, 114, 101, 97, 107, 97, 103, 101, 32, 48, 46, 48, 48, 10, 99, 108, 97, 105, 109, 101, 100, 32, 48, 46, 48, 48, 10, 101, 120, 112, 105, 114, 101, 100, 32, 48, 46, 48, 48, 10, 116, 97, 120, 32, 48, 46, 48, 48, 10, 111, 102, 102, 115, 101, 116, 32, 48, 46, 48, 48, 10, 110, 101, 116, 32, 48, 46, 48, 48, 10, 99, 111, 109, 109, 105, 115, 115, 105, 111, 110, 32, 48, 46, 48, 48, 10, 100, 117, 101, 32, 48, 46, 48, 48, 10]⟩
theorem totX_eq : (⟨(totT (fun _ => 0) 17).toArray⟩ : ByteArray) = totX := by
  simp only [totT, amT_0]; rfl
set_option maxRecDepth 100000 in
theorem totals_ex (w : World) (hp : P10 w) (hn : TNs w) : Calls Tryd.prog 16 #[.agg #[.int .i64 0, .int .i64 0, .int .i64 0, .int .i64 0, .int .i64 0, .int .i64 0, .int .i64 0, .int .i64 0, .int .i64 0, .int .i64 0, .int .i64 0, .int .i64 0, .int .i64 0, .int .i64 0, .int .i64 0, .int .i64 0, .int .i64 0]] w (RetB (.string totX) w) := by
  rw [← totX_eq]
  have h0 : I64 0 := by unfold I64; decide
  exact totals_any (fun _ => 0) w (fun _ _ => h0) hp hn
theorem totX_lnc : lnc totX.data.toList = 17 := by kernel_rfl
theorem totX_size : totX.size = 207 := by kernel_rfl
theorem totX_lines (w : World) : Calls Tryd.prog 23 #[.string totX] w (RetS (.int .i64 17) w) := by
  have h := lines_any totX w (by rw [totX_size]; decide)
  rw [totX_lnc] at h
  exact h
set_option maxHeartbeats 1000000 in
set_option maxRecDepth 100000 in
theorem lives_any (w : World) (hp : P10 w) (hn : TNs w) : Calls Tryd.prog 18 #[] w (RetB (.bool true) w) := by
  have HE := Lib.hid (totals_ex w hp hn)
  have HL := Lib.hid totX_lines
  have hsz := totX_size
  have hx : (totX.extract 0 11).toList = [115, 97, 108, 101, 115, 32, 48, 46, 48, 48, 10] := by rw [ByteArray.toList_eq]; rfl
  clear hp hn
  go_enter Tryd.func18, Tryd.ntmps18
  go_wp2_with (first | (go_at_call 16; refine HE.out.mono ?_; rintro e w1 ⟨rfl, hb1⟩; have HB := Lib.hid hb1; clear hb1) | (go_at_call 23; refine (HL.out _).mono ?_; rintro e w' ⟨rfl, rfl⟩))
  go_ret
  exact ⟨rfl, HB.out⟩
set_option maxHeartbeats 4000000 in
set_option maxRecDepth 100000 in
theorem reportTotals_walki (z : Nat → Int) (W : World) (hz : ∀ j, j < 17 → I64 (z j)) (hp : P10 W) (hn : TNs W) :
    Calls Tryd.prog 6 #[.agg #[.int .i64 (z 0), .int .i64 (z 1), .int .i64 (z 2), .int .i64 (z 3), .int .i64 (z 4), .int .i64 (z 5), .int .i64 (z 6), .int .i64 (z 7), .int .i64 (z 8), .int .i64 (z 9), .int .i64 (z 10), .int .i64 (z 11), .int .i64 (z 12), .int .i64 (z 13), .int .i64 (z 14), .int .i64 (z 15), .int .i64 (z 16)]] W (RetB (.bool true) W) := by
  obtain ⟨V, hV⟩ : ∃ V : World, V = W.alloc (.cells #[.int .i64 (z 0), .int .i64 (z 1), .int .i64 (z 2), .int .i64 (z 3), .int .i64 (z 4), .int .i64 (z 5), .int .i64 (z 6), .int .i64 (z 7), .int .i64 (z 8), .int .i64 (z 9), .int .i64 (z 10), .int .i64 (z 11), .int .i64 (z 12), .int .i64 (z 13), .int .i64 (z 14), .int .i64 (z 15), .int .i64 (z 16)] 35) := ⟨_, rfl⟩
  have HBV : Hid (Below W.heap.size W V) := by rw [hV]; exact (Below.refl _ _).alloc (Nat.le_refl _) _
  have HG := Lib.hid (tt_cell hV)
  have HW := Lib.hid hV
  have hlt : W.heap.size < V.heap.size := by rw [hV]; simp
  have HP : Hid (∀ x : Sub V.heap.size V, P10 x.w ∧ TNs x.w) := Lib.hid fun x => ⟨hp.grow (HBV.out.trans (x.h.mono HBV.out.size)), hn.grow (HBV.out.trans (x.h.mono HBV.out.size))⟩
  have H1 := Lib.hid fun x : Sub V.heap.size V => totals_any z x.w hz (HP.out x).1 (HP.out x).2
  have H2 := Lib.hid fun x : Sub V.heap.size V => rTotals_any z x.w hz
  have H3 := Lib.hid fun x : Sub V.heap.size V => lives_any x.w (HP.out x).1 (HP.out x).2
  clear hz hp hn hV
  go_enter Tryd.func6, Tryd.ntmps6
  go_wp2
  rw [← HW.out]
  have g0 := fun x : Sub V.heap.size V => HG.out 0 (by omega) x.w x.h
  have g1 := fun x : Sub V.heap.size V => HG.out 1 (by omega) x.w x.h
  have g2 := fun x : Sub V.heap.size V => HG.out 2 (by omega) x.w x.h
  have g3 := fun x : Sub V.heap.size V => HG.out 3 (by omega) x.w x.h
  have g4 := fun x : Sub V.heap.size V => HG.out 4 (by omega) x.w x.h
  have g5 := fun x : Sub V.heap.size V => HG.out 5 (by omega) x.w x.h
  have g6 := fun x : Sub V.heap.size V => HG.out 6 (by omega) x.w x.h
  have g7 := fun x : Sub V.heap.size V => HG.out 7 (by omega) x.w x.h
  have g8 := fun x : Sub V.heap.size V => HG.out 8 (by omega) x.w x.h
  have g9 := fun x : Sub V.heap.size V => HG.out 9 (by omega) x.w x.h
  have g10 := fun x : Sub V.heap.size V => HG.out 10 (by omega) x.w x.h
  have g11 := fun x : Sub V.heap.size V => HG.out 11 (by omega) x.w x.h
  have g12 := fun x : Sub V.heap.size V => HG.out 12 (by omega) x.w x.h
  have g13 := fun x : Sub V.heap.size V => HG.out 13 (by omega) x.w x.h
  have g14 := fun x : Sub V.heap.size V => HG.out 14 (by omega) x.w x.h
  have g15 := fun x : Sub V.heap.size V => HG.out 15 (by omega) x.w x.h
  have g16 := fun x : Sub V.heap.size V => HG.out 16 (by omega) x.w x.h
  refine wp_region_below (by kernel_rfl) (by kernel_rfl) ?_
  repeat (go_big_quiet_step (((first | (go_at_call 16; exact Sub.ofB _ (Nat.le_refl _) (H1.out _)) | (go_at_call 17; exact Sub.ofB _ (Nat.le_refl _) (H2.out _)) | (go_at_call 18; exact Sub.ofB _ (Nat.le_refl _) (H3.out _))))))
  refine wpQuiet_nil ?_
  rintro wx ⟨⟨_, hbx⟩, rfl⟩
  go_wp2
  go_ret
  exact ⟨ret_bool (by simp), HBV.out.trans (hbx.mono HBV.out.size)⟩
end Go.Proofs.YtgmilhhifigkkaaDoor
