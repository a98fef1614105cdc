/- Ticket numbers: Parse and Valid of both. -/
import Derived.Test.YtgloiddnbppblaaDoorTkb
namespace Go.Proofs.YtgloiddnbppblaaDoor
open Go.ChangeShapes Go.WideShapes Go.ChangeAt Go.RowKit Go.Lott

theorem part_list (s : ByteArray) (i n : Nat) (h : i + n ≤ s.size) : (s.extract i (i + n)).size = n ∧ ∀ j, j < n → Num.bl (s.extract i (i + n)).data.toList j = Num.bl s.data.toList (i + j) := by
  have hz : (s.extract i (i + n)).size = n := by simp; omega
  refine ⟨hz, fun j hj => ?_⟩
  rw [bl_eq _ j (by omega), bl_eq _ (i + j) (by omega), ByteArray.getElem_extract]
theorem tValue_part (s : ByteArray) (i n : Nat) (w : World) (hd : Num.Digs s.data.toList i n) (h : i + n ≤ s.size) (hn : n ≤ 12) : Calls Tryd.prog 57 #[.string (s.extract i (i + n))] w (RetS (.int .i64 (Num.dv s.data.toList i n)) w) := by
  obtain ⟨hz, hb⟩ := part_list s i n h
  have := tValue_any (s.extract i (i + n)) w (by rw [hz]; exact fun j hj => by rw [Nat.zero_add, hb j hj]; exact hd j hj) (by omega)
  rw [hz, Num.dv_congr (l' := s.data.toList) (i' := i) (fun j hj => by rw [Nat.zero_add]; exact hb j hj)] at this
  exact this
theorem trNumber_part (s : ByteArray) (i n : Nat) (w : World) (hd : Num.Digs s.data.toList i n) (h : i + n ≤ s.size) (hn : n ≤ 12) : Calls Tryd.prog 58 #[.string (s.extract i (i + n))] w (RetS (.int .i64 (Num.dv s.data.toList i n)) w) := by
  obtain ⟨hz, hb⟩ := part_list s i n h
  have := trNumber_any (s.extract i (i + n)) w (by rw [hz]; exact fun j hj => by rw [Nat.zero_add, hb j hj]; exact hd j hj) (by omega)
  rw [hz, Num.dv_congr (l' := s.data.toList) (i' := i) (fun j hj => by rw [Nat.zero_add]; exact hb j hj)] at this
  exact this
theorem ok_no {s : ByteArray} (h : s.size ≠ 14) : Num.tkOk s.data.toList = false := by
  cases c : Num.tkOk s.data.toList with
  | false => rfl
  | true => have := ((Num.tkOk_iff _).1 c).1; rw [len_eq] at this; exact (h this).elim
theorem ok_yes14 {s : ByteArray} (h : s.size = 14) (hd : Dg s 14) : Num.tkOk s.data.toList = true := (Num.tkOk_iff _).2 ⟨by rw [len_eq]; exact h, fun j hj => by rw [Nat.zero_add]; exact hd j hj⟩
def tkVal (s : ByteArray) : Value := .tuple #[.int .i64 (Num.tkT s.data.toList), .int .i64 (Num.tkS s.data.toList), .int .i64 (Num.tkE s.data.toList)]
set_option maxHeartbeats 4000000 in
theorem tParse_any (s : ByteArray) (w : World) (hw : Wts w) : Calls Tryd.prog 39 #[.string s] w (RetB (tkVal s) w) := by
  have hbel := Below.refl w.heap.size w
  unfold tkVal
  by_cases hz : s.size = 14
  · cases hok : Num.tkOk s.data.toList with
    | false =>
      have HV := Lib.hid (Num.tk_syntax hok)
      have HN : Hid (¬ Dg s 14) := Lib.hid (fun c => by rw [ok_yes14 hz c] at hok; cases hok)
      have hsz : ((s.size : Int) != 14) = false := by rw [bne_eq_false_iff_eq]; omega
      have z0 : (14 : Int) ≤ (s.size : Int) := by omega
      have z1 : (s.size : Int) ≤ 14 := by omega
      clear hz hok
      go_enter Tryd.func39, Tryd.ntmps39
      go_wp2
      go_loop [13] (fun i => ∃ k : Nat, k ≤ 14 ∧ i = .int .i64 k ∧ Dg s k) (fun i => 14 - (intOf i).toNat)
      case atStart => exact ⟨0, by omega, rfl, fun j hj => by omega⟩
      case round =>
        obtain ⟨k, hk, rfl, hD⟩ := hrel
        have HD := Lib.hid hD
        clear hD
        by_cases hlt : k < 14
        · have hlt' : (k : Int) < (s.size : Int) := by omega
          have hks : k < s.size := by omega
          go_wp2
          all_goals first
            | (go_ret3; exact ⟨ret_three HV.out.1 HV.out.2.1 HV.out.2.2, hbel⟩)
            | (exact ⟨⟨k + 1, by omega, by go_num, HD.out.next hks (by omega) (by omega)⟩, by simp [intOf]; omega⟩)
        · obtain rfl : k = 14 := by omega
          exact (HN.out HD.out).elim
    | true =>
      have HO := Lib.hid hok
      have HDG := Lib.hid ((Num.tkOk_iff _).1 hok).2
      obtain ⟨d1, d2, d3, d4⟩ := Num.ok_parts hok
      have hV1 := fun w => tValue_part s 12 2 w d3 (by omega) (by omega)
      have hV2 := fun w => tValue_part s 0 2 w d1 (by omega) (by omega)
      have hV3 := fun w => tValue_part s 2 10 w d2 (by omega) (by omega)
      have hK := fun w h => tCheck_any s w d4 (by omega) h
      have hT := fun w => tvalid_any (Num.dv s.data.toList 0 2) (Num.dv s.data.toList 2 10) w
      rw [show 12 + 2 = s.size by omega] at hV1
      rw [show 0 + 2 = 2 from rfl] at hV2
      rw [show 2 + 10 = 12 from rfl] at hV3
      have HS := Lib.hid (@Num.tk_sign s.data.toList hok)
      have HR := Lib.hid (@Num.tk_range s.data.toList hok)
      have HF := Lib.hid (@Num.tk_fine s.data.toList hok)
      have hsz : ((s.size : Int) != 14) = false := by rw [bne_eq_false_iff_eq]; omega
      have z0 : (14 : Int) ≤ (s.size : Int) := by omega
      have z1 : (s.size : Int) ≤ 14 := by omega
      have z0' : 14 ≤ s.size := by omega
      have HW := Lib.hid hw
      clear hok d1 d2 d3 d4 hz hw
      cases hc : Num.tkC s.data.toList with
      | false =>
        have hcn : Num.dv s.data.toList 12 2 ≠ Num.chkI s.data.toList := of_decide_eq_false hc
        have HV := Lib.hid (HS.out hc)
        generalize Num.dv s.data.toList 12 2 = x at *
        generalize Num.chkI s.data.toList = y at *
        have hne : (x != y) = true := by rw [bne_iff_ne]; exact hcn
        have HV1 := Lib.hid hV1
        have HK := Lib.hid hK
        clear hV1 hV2 hV3 hK hT HS HR HF hc hcn
        go_enter Tryd.func39, Tryd.ntmps39
        go_wp2
        go_loopw [13] (fun i wr => ∃ k : Nat, k ≤ 14 ∧ i = .int .i64 k ∧ wr = w) (fun i _ => 14 - (intOf i).toNat)
        case atStart => exact ⟨0, by omega, rfl, rfl⟩
        case round =>
          obtain ⟨k, hk, rfl, hwr⟩ := hrel
          subst hwr
          by_cases hlt : k < 14
          · have hlt' : (k : Int) < (s.size : Int) := by omega
            have hks : k < s.size := by omega
            have hb := HDG.out k hlt
            rw [Nat.zero_add, bl_eq s k hks] at hb
            obtain ⟨b0, b1⟩ := hb
            go_wp2
            go_roundw
            case rel => exact ⟨k + 1, by omega, by go_num, by first | rfl | trivial⟩
            case measure => simp [intOf]; omega
          · obtain rfl : k = 14 := by omega
            go_wp2_with (first | (go_at_call 57; ((with_reducible refine (HV1.out _).mono ?_); rintro e w' ⟨rfl, rfl⟩)) | (go_at_call 44; ((with_reducible refine (HK.out _ HW.out).mono ?_); rintro e w' ⟨rfl, rfl⟩)))
            go_ret3
            exact ⟨ret_three HV.out.1 HV.out.2.1 HV.out.2.2, hbel⟩
      | true =>
        have hcn : Num.dv s.data.toList 12 2 = Num.chkI s.data.toList := of_decide_eq_true hc
        rw [hcn] at hV1
        generalize Num.chkI s.data.toList = y at *
        cases hv : Num.tkV (Num.dv s.data.toList 0 2) (Num.dv s.data.toList 2 10) with
        | false =>
          have HV := Lib.hid (HR.out hc hv)
          rw [hv] at hT
          generalize Num.dv s.data.toList 0 2 = x2 at *
          generalize Num.dv s.data.toList 2 10 = x3 at *
          have HV1 := Lib.hid hV1
          have HV2 := Lib.hid hV2
          have HV3 := Lib.hid hV3
          have HK := Lib.hid hK
          have HT := Lib.hid hT
          clear hV1 hV2 hV3 hK hT HS HR HF hc hcn hv
          go_enter Tryd.func39, Tryd.ntmps39
          go_wp2
          go_loopw [13] (fun i wr => ∃ k : Nat, k ≤ 14 ∧ i = .int .i64 k ∧ wr = w) (fun i _ => 14 - (intOf i).toNat)
          case atStart => exact ⟨0, by omega, rfl, rfl⟩
          case round =>
            obtain ⟨k, hk, rfl, hwr⟩ := hrel
            subst hwr
            by_cases hlt : k < 14
            · have hlt' : (k : Int) < (s.size : Int) := by omega
              have hks : k < s.size := by omega
              have hb := HDG.out k hlt
              rw [Nat.zero_add, bl_eq s k hks] at hb
              obtain ⟨b0, b1⟩ := hb
              go_wp2
              go_roundw
              case rel => exact ⟨k + 1, by omega, by go_num, by first | rfl | trivial⟩
              case measure => simp [intOf]; omega
            · obtain rfl : k = 14 := by omega
              go_wp2_with (first | (go_at_call 57; ((with_reducible refine (HV1.out _).mono ?_); rintro e w' ⟨rfl, rfl⟩)) | (go_at_call 44; ((with_reducible refine (HK.out _ HW.out).mono ?_); rintro e w' ⟨rfl, rfl⟩)))
              refine wp_region_below (by kernel_rfl) (by kernel_rfl) ?_
              have y1 : (12 : Int) ≤ (s.size : Int) := by omega
              have y2 : 12 ≤ s.size := by omega
              have y3 : (2 : Int) ≤ (s.size : Int) := by omega
              have y4 : 2 ≤ s.size := by omega
              repeat (go_big_quiet_step (first | (go_at_call 57; with_reducible exact Sub.ofS _ (HV2.out _)) | (go_at_call 57; with_reducible exact Sub.ofS _ (HV3.out _))))
              refine wpQuiet_nil ?_
              rintro w1 ⟨⟨_, hb1⟩, rfl⟩
              go_wp2_with (first | (go_at_call 42; ((with_reducible refine (HT.out _).mono ?_); rintro e w' ⟨rfl, rfl⟩)))
              go_ret3
              exact ⟨ret_three HV.out.1 HV.out.2.1 HV.out.2.2, hb1⟩
        | true =>
          have HV := Lib.hid (HF.out hc hv)
          rw [hv] at hT
          generalize Num.dv s.data.toList 0 2 = x2 at *
          generalize Num.dv s.data.toList 2 10 = x3 at *
          have HV1 := Lib.hid hV1
          have HV2 := Lib.hid hV2
          have HV3 := Lib.hid hV3
          have HK := Lib.hid hK
          have HT := Lib.hid hT
          clear hV1 hV2 hV3 hK hT HS HR HF hc hcn hv
          go_enter Tryd.func39, Tryd.ntmps39
          go_wp2
          go_loopw [13] (fun i wr => ∃ k : Nat, k ≤ 14 ∧ i = .int .i64 k ∧ wr = w) (fun i _ => 14 - (intOf i).toNat)
          case atStart => exact ⟨0, by omega, rfl, rfl⟩
          case round =>
            obtain ⟨k, hk, rfl, hwr⟩ := hrel
            subst hwr
            by_cases hlt : k < 14
            · have hlt' : (k : Int) < (s.size : Int) := by omega
              have hks : k < s.size := by omega
              have hb := HDG.out k hlt
              rw [Nat.zero_add, bl_eq s k hks] at hb
              obtain ⟨b0, b1⟩ := hb
              go_wp2
              go_roundw
              case rel => exact ⟨k + 1, by omega, by go_num, by first | rfl | trivial⟩
              case measure => simp [intOf]; omega
            · obtain rfl : k = 14 := by omega
              go_wp2_with (first | (go_at_call 57; ((with_reducible refine (HV1.out _).mono ?_); rintro e w' ⟨rfl, rfl⟩)) | (go_at_call 44; ((with_reducible refine (HK.out _ HW.out).mono ?_); rintro e w' ⟨rfl, rfl⟩)))
              refine wp_region_below (by kernel_rfl) (by kernel_rfl) ?_
              have y1 : (12 : Int) ≤ (s.size : Int) := by omega
              have y2 : 12 ≤ s.size := by omega
              have y3 : (2 : Int) ≤ (s.size : Int) := by omega
              have y4 : 2 ≤ s.size := by omega
              repeat (go_big_quiet_step (first | (go_at_call 57; with_reducible exact Sub.ofS _ (HV2.out _)) | (go_at_call 57; with_reducible exact Sub.ofS _ (HV3.out _))))
              refine wpQuiet_nil ?_
              rintro w1 ⟨⟨_, hb1⟩, rfl⟩
              go_wp2_with (first | (go_at_call 42; ((with_reducible refine (HT.out _).mono ?_); rintro e w' ⟨rfl, rfl⟩)))
              go_ret3
              exact ⟨ret_three HV.out.1 HV.out.2.1 HV.out.2.2, hb1⟩
  · have HV := Lib.hid (Num.tk_syntax (ok_no hz))
    have hsz : ((s.size : Int) != 14) = true := by rw [bne_iff_ne]; omega
    clear hz
    go_enter Tryd.func39, Tryd.ntmps39
    go_wp2
    go_ret3
    exact ⟨ret_three HV.out.1 HV.out.2.1 HV.out.2.2, hbel⟩
theorem tValid_any (s : ByteArray) (w : World) (hw : Wts w) : Calls Tryd.prog 41 #[.string s] w (RetB (.bool (decide (Num.tkE s.data.toList = 0))) w) := by
  have hbel := Below.refl w.heap.size w
  have hP := fun w h => tParse_any s w h
  unfold tkVal at hP
  have HW := Lib.hid hw
  by_cases he : Num.tkE s.data.toList = 0
  · rw [decide_eq_true he]
    rw [he] at hP
    have HP := Lib.hid hP
    clear hw hP he
    go_enter Tryd.func41, Tryd.ntmps41
    go_wp2_with (first | (go_at_call 39; refine (HP.out _ (HW.out.grow hbel)).mono ?_; rintro e w1 ⟨rfl, hb1⟩; replace hbel := hbel.trans (hb1.mono hbel.size); clear hb1))
    go_ret
    exact ⟨rfl, hbel⟩
  · rw [decide_eq_false he]
    have he2 : (Num.tkE s.data.toList == 0) = false := by rw [beq_eq_false_iff_ne]; exact he
    generalize Num.tkE s.data.toList = e at *
    have HP := Lib.hid hP
    clear hw hP he
    go_enter Tryd.func41, Tryd.ntmps41
    go_wp2_with (first | (go_at_call 39; refine (HP.out _ (HW.out.grow hbel)).mono ?_; rintro e w1 ⟨rfl, hb1⟩; replace hbel := hbel.trans (hb1.mono hbel.size); clear hb1))
    go_ret
    exact ⟨rfl, hbel⟩
theorem part_eq (s : ByteArray) (_ : s.size = 14) : (s.extract 12 s.size).data.toList = s.data.toList.drop 12 := by
  simp
  rw [List.take_of_length_le (by simp)]
set_option maxHeartbeats 4000000 in
theorem trParse_any (s : ByteArray) (w : World) : Calls Tryd.prog 40 #[.string s] w (RetB (tkVal s) w) := by
  have hbel := Below.refl w.heap.size w
  unfold tkVal
  by_cases hz : s.size = 14
  · cases hok : Num.tkOk s.data.toList with
    | false =>
      have HV := Lib.hid (Num.tk_syntax hok)
      have HN : Hid (¬ Dg s 14) := Lib.hid (fun c => by rw [ok_yes14 hz c] at hok; cases hok)
      have hsz : ((s.size : Int) != 14) = false := by rw [bne_eq_false_iff_eq]; omega
      have z0 : (14 : Int) ≤ (s.size : Int) := by omega
      have z1 : (s.size : Int) ≤ 14 := by omega
      clear hz hok
      go_enter Tryd.func40, Tryd.ntmps40
      go_wp2
      go_loop [5] (fun i => ∃ k : Nat, k ≤ 14 ∧ i = .int .i64 k ∧ Dg s k) (fun i => 14 - (intOf i).toNat)
      case atStart => exact ⟨0, by omega, rfl, fun j hj => by omega⟩
      case round =>
        obtain ⟨k, hk, rfl, hD⟩ := hrel
        have HD := Lib.hid hD
        clear hD
        by_cases hlt : k < 14
        · have hlt' : (k : Int) < (s.size : Int) := by omega
          have hks : k < s.size := by omega
          go_wp2
          all_goals first
            | (go_ret3; exact ⟨ret_three HV.out.1 HV.out.2.1 HV.out.2.2, hbel⟩)
            | (exact ⟨⟨k + 1, by omega, by go_num, HD.out.next hks (by omega) (by omega)⟩, by simp [intOf]; omega⟩)
        · obtain rfl : k = 14 := by omega
          exact (HN.out HD.out).elim
    | true =>
      have HO := Lib.hid hok
      have HDG := Lib.hid ((Num.tkOk_iff _).1 hok).2
      obtain ⟨d1, d2, d3, d4⟩ := Num.ok_parts hok
      obtain ⟨q1, q2⟩ := part_list s 0 12 (by omega)
      rw [show 0 + 12 = 12 from rfl] at q1 q2
      have hK := fun w => trCheck_any (s.extract 0 12) w (fun j hj => by rw [Nat.zero_add, q2 j hj]; exact d4 j hj) q1
      rw [Num.chkI_congr (l' := s.data.toList) (fun j hj => by have := q2 j hj; rwa [Nat.zero_add] at this)] at hK
      have hV2 := fun w => trNumber_part s 0 2 w d1 (by omega) (by omega)
      have hV3 := fun w => trNumber_part s 2 10 w d2 (by omega) (by omega)
      rw [show 0 + 2 = 2 from rfl] at hV2
      rw [show 2 + 10 = 12 from rfl] at hV3
      have HS := Lib.hid (@Num.tk_sign s.data.toList hok)
      have HR := Lib.hid (@Num.tk_range s.data.toList hok)
      have HF := Lib.hid (@Num.tk_fine s.data.toList hok)
      have hsz : ((s.size : Int) != 14) = false := by rw [bne_eq_false_iff_eq]; omega
      have z0 : (14 : Int) ≤ (s.size : Int) := by omega
      have z1 : (s.size : Int) ≤ 14 := by omega
      have z0' : 14 ≤ s.size := by omega
      have hpe := part_eq s hz
      have hct := Num.chk_text hok
      have e1 : (bsL (Num.padR 2 (Num.chkI s.data.toList).toNat)).toList = Num.padR 2 (Num.chkI s.data.toList).toNat := by rw [ByteArray.toList_eq]; exact bsL_list _
      have e2 : (s.extract 12 s.size).toList = s.data.toList.drop 12 := by rw [ByteArray.toList_eq]; exact hpe
      have hW : w = w := rfl
      clear d1 d2 d3 d4 hz hpe q1 q2 hW
      cases hc : Num.tkC s.data.toList with
      | false =>
        have hcn : ¬ Num.dv s.data.toList 12 2 = Num.chkI s.data.toList := of_decide_eq_false hc
        have hne : ¬ (Num.padR 2 (Num.chkI s.data.toList).toNat = s.data.toList.drop 12) := fun c => hcn (hct.1 c)
        rw [← e1, ← e2] at hne
        have HV := Lib.hid (HS.out hc)
        generalize bsL (Num.padR 2 (Num.chkI s.data.toList).toNat) = b1 at *
        have HK := Lib.hid hK
        obtain ⟨t, ht⟩ : ∃ t, s.extract 12 s.size = t := ⟨_, rfl⟩
        rw [ht] at hne
        have n1 : (b1.toList != t.toList) = true := by rw [bne_iff_ne]; exact hne
        have n2 : (b1.toList == t.toList) = false := by rw [beq_eq_false_iff_ne]; exact hne
        clear hV2 hV3 hK HS HR HF hc hcn hct e1 e2 hne hok
        go_enter Tryd.func40, Tryd.ntmps40
        go_wp2
        go_loopw [5] (fun i wr => ∃ k : Nat, k ≤ 14 ∧ i = .int .i64 k ∧ wr = w) (fun i _ => 14 - (intOf i).toNat)
        case atStart => exact ⟨0, by omega, rfl, rfl⟩
        case round =>
          obtain ⟨k, hk, rfl, hwr⟩ := hrel
          subst hwr
          by_cases hlt : k < 14
          · have hlt' : (k : Int) < (s.size : Int) := by omega
            have hks : k < s.size := by omega
            have hb := HDG.out k hlt
            rw [Nat.zero_add, bl_eq s k hks] at hb
            obtain ⟨b0, b1⟩ := hb
            go_wp2
            go_roundw
            case rel => exact ⟨k + 1, by omega, by go_num, by first | rfl | trivial⟩
            case measure => simp [intOf]; omega
          · obtain rfl : k = 14 := by omega
            go_wp2
            refine wp_region_below (by kernel_rfl) (by kernel_rfl) ?_
            have y1 : (12 : Int) ≤ (s.size : Int) := by omega
            have y2 : 12 ≤ s.size := by omega
            repeat (go_big_quiet_step ((go_at_call 46; exact Sub.ofB _ (by simp) (HK.out _))))
            refine wpQuiet_nil ?_
            rintro w1 ⟨⟨_, hb1⟩, rfl⟩
            go_wp2
            go_ret3
            exact ⟨ret_three HV.out.1 HV.out.2.1 HV.out.2.2, hb1⟩
      | true =>
        have hcn : Num.dv s.data.toList 12 2 = Num.chkI s.data.toList := of_decide_eq_true hc
        have hne : Num.padR 2 (Num.chkI s.data.toList).toNat = s.data.toList.drop 12 := hct.2 hcn
        rw [← e1, ← e2] at hne
        have hbt : bsL (Num.padR 2 (Num.chkI s.data.toList).toNat) = s.extract 12 s.size := bytes_of ((ByteArray.toList_eq _).symm.trans (hne.trans (ByteArray.toList_eq _)))
        rw [hbt] at hK
        have HK := Lib.hid hK
        by_cases hv : Num.tkV (Num.dv s.data.toList 0 2) (Num.dv s.data.toList 2 10) = true
        · have HV := Lib.hid (HF.out hc hv)
          obtain ⟨v1, v2, v3, v4⟩ := (Num.tkV_iff _ _).1 hv
          generalize Num.dv s.data.toList 0 2 = x2 at *
          generalize Num.dv s.data.toList 2 10 = x3 at *
          have HV2 := Lib.hid hV2
          have HV3 := Lib.hid hV3
          clear hV2 hV3 hK HS HR HF hc hcn hct e1 e2 hne hok hv hbt
          go_enter Tryd.func40, Tryd.ntmps40
          go_wp2
          go_loopw [5] (fun i wr => ∃ k : Nat, k ≤ 14 ∧ i = .int .i64 k ∧ wr = w) (fun i _ => 14 - (intOf i).toNat)
          case atStart => exact ⟨0, by omega, rfl, rfl⟩
          case round =>
            obtain ⟨k, hk, rfl, hwr⟩ := hrel
            subst hwr
            by_cases hlt : k < 14
            · have hlt' : (k : Int) < (s.size : Int) := by omega
              have hks : k < s.size := by omega
              have hb := HDG.out k hlt
              rw [Nat.zero_add, bl_eq s k hks] at hb
              obtain ⟨b0, b1⟩ := hb
              go_wp2
              go_roundw
              case rel => exact ⟨k + 1, by omega, by go_num, by first | rfl | trivial⟩
              case measure => simp [intOf]; omega
            · obtain rfl : k = 14 := by omega
              go_wp2
              refine wp_region_below (by kernel_rfl) (by kernel_rfl) ?_
              have y1 : (12 : Int) ≤ (s.size : Int) := by omega
              have y2 : 12 ≤ s.size := by omega
              repeat (go_big_quiet_step ((go_at_call 46; exact Sub.ofB _ (by simp) (HK.out _))))
              refine wpQuiet_nil ?_
              rintro w1 ⟨⟨_, hb1⟩, rfl⟩
              go_wp2_with (first | (go_at_call 58; ((with_reducible refine (HV2.out _).mono ?_); rintro e w' ⟨rfl, rfl⟩)) | (go_at_call 58; ((with_reducible refine (HV3.out _).mono ?_); rintro e w' ⟨rfl, rfl⟩)))
              all_goals first
                | (go_ret3; exact ⟨ret_three HV.out.1 HV.out.2.1 HV.out.2.2, hb1⟩)
                | (exfalso; omega)
        · have HV := Lib.hid (HR.out hc (by simpa using hv))
          have hnv : ¬ (1 ≤ Num.dv s.data.toList 0 2 ∧ Num.dv s.data.toList 0 2 ≤ 32 ∧ 1 ≤ Num.dv s.data.toList 2 10 ∧ Num.dv s.data.toList 2 10 ≤ 1048576) := fun c => hv ((Num.tkV_iff _ _).2 c)
          generalize Num.dv s.data.toList 0 2 = x2 at *
          generalize Num.dv s.data.toList 2 10 = x3 at *
          have HV2 := Lib.hid hV2
          have HV3 := Lib.hid hV3
          clear hV2 hV3 hK HS HR HF hc hcn hct e1 e2 hne hok hv hbt
          by_cases a : 1 ≤ x2
          · by_cases b : x2 ≤ 32
            · by_cases c : 1 ≤ x3
              · have d : 1048576 < x3 := by omega
                clear hnv
                go_enter Tryd.func40, Tryd.ntmps40
                go_wp2
                go_loopw [5] (fun i wr => ∃ k : Nat, k ≤ 14 ∧ i = .int .i64 k ∧ wr = w) (fun i _ => 14 - (intOf i).toNat)
                case atStart => exact ⟨0, by omega, rfl, rfl⟩
                case round =>
                  obtain ⟨k, hk, rfl, hwr⟩ := hrel
                  subst hwr
                  by_cases hlt : k < 14
                  · have hlt' : (k : Int) < (s.size : Int) := by omega
                    have hks : k < s.size := by omega
                    have hb := HDG.out k hlt
                    rw [Nat.zero_add, bl_eq s k hks] at hb
                    obtain ⟨b0, b1⟩ := hb
                    go_wp2
                    go_roundw
                    case rel => exact ⟨k + 1, by omega, by go_num, by first | rfl | trivial⟩
                    case measure => simp [intOf]; omega
                  · obtain rfl : k = 14 := by omega
                    go_wp2
                    refine wp_region_below (by kernel_rfl) (by kernel_rfl) ?_
                    have y1 : (12 : Int) ≤ (s.size : Int) := by omega
                    have y2 : 12 ≤ s.size := by omega
                    repeat (go_big_quiet_step ((go_at_call 46; exact Sub.ofB _ (by simp) (HK.out _))))
                    refine wpQuiet_nil ?_
                    rintro w1 ⟨⟨_, hb1⟩, rfl⟩
                    go_wp2_with (first | (go_at_call 58; ((with_reducible refine (HV2.out _).mono ?_); rintro e w' ⟨rfl, rfl⟩)) | (go_at_call 58; ((with_reducible refine (HV3.out _).mono ?_); rintro e w' ⟨rfl, rfl⟩)))
                    all_goals first
                      | (go_ret3; exact ⟨ret_three HV.out.1 HV.out.2.1 HV.out.2.2, hb1⟩)
                      | (exfalso; omega)
              · clear hnv
                go_enter Tryd.func40, Tryd.ntmps40
                go_wp2
                go_loopw [5] (fun i wr => ∃ k : Nat, k ≤ 14 ∧ i = .int .i64 k ∧ wr = w) (fun i _ => 14 - (intOf i).toNat)
                case atStart => exact ⟨0, by omega, rfl, rfl⟩
                case round =>
                  obtain ⟨k, hk, rfl, hwr⟩ := hrel
                  subst hwr
                  by_cases hlt : k < 14
                  · have hlt' : (k : Int) < (s.size : Int) := by omega
                    have hks : k < s.size := by omega
                    have hb := HDG.out k hlt
                    rw [Nat.zero_add, bl_eq s k hks] at hb
                    obtain ⟨b0, b1⟩ := hb
                    go_wp2
                    go_roundw
                    case rel => exact ⟨k + 1, by omega, by go_num, by first | rfl | trivial⟩
                    case measure => simp [intOf]; omega
                  · obtain rfl : k = 14 := by omega
                    go_wp2
                    refine wp_region_below (by kernel_rfl) (by kernel_rfl) ?_
                    have y1 : (12 : Int) ≤ (s.size : Int) := by omega
                    have y2 : 12 ≤ s.size := by omega
                    repeat (go_big_quiet_step ((go_at_call 46; exact Sub.ofB _ (by simp) (HK.out _))))
                    refine wpQuiet_nil ?_
                    rintro w1 ⟨⟨_, hb1⟩, rfl⟩
                    go_wp2_with (first | (go_at_call 58; ((with_reducible refine (HV2.out _).mono ?_); rintro e w' ⟨rfl, rfl⟩)) | (go_at_call 58; ((with_reducible refine (HV3.out _).mono ?_); rintro e w' ⟨rfl, rfl⟩)))
                    all_goals first
                      | (go_ret3; exact ⟨ret_three HV.out.1 HV.out.2.1 HV.out.2.2, hb1⟩)
                      | (exfalso; omega)
            · clear hnv
              go_enter Tryd.func40, Tryd.ntmps40
              go_wp2
              go_loopw [5] (fun i wr => ∃ k : Nat, k ≤ 14 ∧ i = .int .i64 k ∧ wr = w) (fun i _ => 14 - (intOf i).toNat)
              case atStart => exact ⟨0, by omega, rfl, rfl⟩
              case round =>
                obtain ⟨k, hk, rfl, hwr⟩ := hrel
                subst hwr
                by_cases hlt : k < 14
                · have hlt' : (k : Int) < (s.size : Int) := by omega
                  have hks : k < s.size := by omega
                  have hb := HDG.out k hlt
                  rw [Nat.zero_add, bl_eq s k hks] at hb
                  obtain ⟨b0, b1⟩ := hb
                  go_wp2
                  go_roundw
                  case rel => exact ⟨k + 1, by omega, by go_num, by first | rfl | trivial⟩
                  case measure => simp [intOf]; omega
                · obtain rfl : k = 14 := by omega
                  go_wp2
                  refine wp_region_below (by kernel_rfl) (by kernel_rfl) ?_
                  have y1 : (12 : Int) ≤ (s.size : Int) := by omega
                  have y2 : 12 ≤ s.size := by omega
                  repeat (go_big_quiet_step ((go_at_call 46; exact Sub.ofB _ (by simp) (HK.out _))))
                  refine wpQuiet_nil ?_
                  rintro w1 ⟨⟨_, hb1⟩, rfl⟩
                  go_wp2_with (first | (go_at_call 58; ((with_reducible refine (HV2.out _).mono ?_); rintro e w' ⟨rfl, rfl⟩)) | (go_at_call 58; ((with_reducible refine (HV3.out _).mono ?_); rintro e w' ⟨rfl, rfl⟩)))
                  all_goals first
                    | (go_ret3; exact ⟨ret_three HV.out.1 HV.out.2.1 HV.out.2.2, hb1⟩)
                    | (exfalso; omega)
          · clear hnv
            go_enter Tryd.func40, Tryd.ntmps40
            go_wp2
            go_loopw [5] (fun i wr => ∃ k : Nat, k ≤ 14 ∧ i = .int .i64 k ∧ wr = w) (fun i _ => 14 - (intOf i).toNat)
            case atStart => exact ⟨0, by omega, rfl, rfl⟩
            case round =>
              obtain ⟨k, hk, rfl, hwr⟩ := hrel
              subst hwr
              by_cases hlt : k < 14
              · have hlt' : (k : Int) < (s.size : Int) := by omega
                have hks : k < s.size := by omega
                have hb := HDG.out k hlt
                rw [Nat.zero_add, bl_eq s k hks] at hb
                obtain ⟨b0, b1⟩ := hb
                go_wp2
                go_roundw
                case rel => exact ⟨k + 1, by omega, by go_num, by first | rfl | trivial⟩
                case measure => simp [intOf]; omega
              · obtain rfl : k = 14 := by omega
                go_wp2
                refine wp_region_below (by kernel_rfl) (by kernel_rfl) ?_
                have y1 : (12 : Int) ≤ (s.size : Int) := by omega
                have y2 : 12 ≤ s.size := by omega
                repeat (go_big_quiet_step ((go_at_call 46; exact Sub.ofB _ (by simp) (HK.out _))))
                refine wpQuiet_nil ?_
                rintro w1 ⟨⟨_, hb1⟩, rfl⟩
                go_wp2_with (first | (go_at_call 58; ((with_reducible refine (HV2.out _).mono ?_); rintro e w' ⟨rfl, rfl⟩)) | (go_at_call 58; ((with_reducible refine (HV3.out _).mono ?_); rintro e w' ⟨rfl, rfl⟩)))
                all_goals first
                  | (go_ret3; exact ⟨ret_three HV.out.1 HV.out.2.1 HV.out.2.2, hb1⟩)
                  | (exfalso; omega)
  · have HV := Lib.hid (Num.tk_syntax (ok_no hz))
    have hsz : ((s.size : Int) != 14) = true := by rw [bne_iff_ne]; omega
    clear hz
    go_enter Tryd.func40, Tryd.ntmps40
    go_wp2
    go_ret3
    exact ⟨ret_three HV.out.1 HV.out.2.1 HV.out.2.2, hbel⟩
end Go.Proofs.YtgloiddnbppblaaDoor
