/- Decimal texts and Parse of the reference of package num. -/
import Derived.Test.YtgloiddnbppblaaDoorNuml
namespace Go.Proofs.YtgloiddnbppblaaDoor
open Go.ChangeShapes Go.WideShapes Go.ChangeAt Go.RowKit Go.Lott

theorem okL_zero : false = Num.okL ByteArray.empty.data.toList := by rfl
set_option maxHeartbeats 1000000 in
theorem rDec_any (s : ByteArray) (w : World) (hs : s.size ≤ 9223372036854775807) : Calls Tryd.prog 55 #[.string s] w (RetS (.bool (Num.okL s.data.toList)) w) := by
  cases hn : Num.ngB s.data.toList with
  | false =>
    by_cases h0 : s.size = 0
    · obtain rfl := empty_of h0
      clear h0 hs hn
      go_enter Tryd.func55, Tryd.ntmps55
      go_wp2
      go_ret
      exact ⟨ret_bool okL_zero, rfl⟩
    · have hi : 0 < s.size := by omega
      have hv : ((s[0].toNat : Int) == 45) = false := by
        rw [beq_eq_false_iff_ne, ← bl_eq]; exact fun c => by unfold Num.ngB at hn; exact of_decide_eq_false hn ⟨by rw [len_eq]; exact hi, c⟩
      have hI : 0 < (s.size : Int) := by omega
      have hz : ((s.size : Int) == 0) = false := by rw [beq_eq_false_iff_ne]; omega
      have HO := Lib.hid (Num.okL_pos hn)
      clear h0 hn
      by_cases hc : 1 < s.size ∧ (s[0].toNat : Int) = 48
      · obtain ⟨hc1, hc2⟩ := hc
        have d1 : decide ((1 : Int) < (s.size : Int)) = true := decide_eq_true (by omega)
        have d2 : ((s[0].toNat : Int) == 48) = true := by rw [beq_iff_eq]; exact hc2
        have HV := Lib.hid ((dec_lead (lead_no hi hc2 hc1)).trans HO.out.symm)
        clear hc1 hc2
        go_enter Tryd.func55, Tryd.ntmps55
        go_wp2
        go_ret
        exact ⟨ret_bool HV.out, rfl⟩
      · have HL := Lib.hid (lead_yes hi (by omega))
        by_cases hc1 : 1 < s.size
        · have d1 : decide ((1 : Int) < (s.size : Int)) = true := decide_eq_true (by omega)
          have d2 : ((s[0].toNat : Int) == 48) = false := by rw [beq_eq_false_iff_ne]; exact fun c => hc ⟨hc1, c⟩
          clear hc
          go_enter Tryd.func55, Tryd.ntmps55
          go_wp2
          go_loop [3] (fun i => ∃ k : Nat, k ≤ s.size ∧ i = .int .i64 k ∧ Dg s k) (fun i => s.size - (intOf i).toNat)
          case atStart => exact ⟨0, by omega, rfl, fun j hj => by omega⟩
          case round =>
            obtain ⟨k, hk, rfl, hD⟩ := hrel
            have HD := Lib.hid hD
            clear hD
            by_cases hlt : k < s.size
            · have hlt' : (k : Int) < (s.size : Int) := by omega
              go_wp2
              all_goals first
                | (go_ret; exact ⟨ret_bool ((dec_bad hlt (by omega)).trans HO.out.symm), rfl⟩)
                | (exact ⟨⟨k + 1, by omega, by go_num, HD.out.next hlt (by omega) (by omega)⟩, by simp [intOf]; omega⟩)
            · obtain rfl : k = s.size := by omega
              have HV := Lib.hid ((HD.out.yes HL.out).trans HO.out.symm)
              go_wp2
              go_ret
              exact ⟨ret_bool HV.out, rfl⟩
        · have d1 : decide ((1 : Int) < (s.size : Int)) = false := decide_eq_false (by omega)
          clear hc
          go_enter Tryd.func55, Tryd.ntmps55
          go_wp2
          go_loop [3] (fun i => ∃ k : Nat, k ≤ s.size ∧ i = .int .i64 k ∧ Dg s k) (fun i => s.size - (intOf i).toNat)
          case atStart => exact ⟨0, by omega, rfl, fun j hj => by omega⟩
          case round =>
            obtain ⟨k, hk, rfl, hD⟩ := hrel
            have HD := Lib.hid hD
            clear hD
            by_cases hlt : k < s.size
            · have hlt' : (k : Int) < (s.size : Int) := by omega
              go_wp2
              all_goals first
                | (go_ret; exact ⟨ret_bool ((dec_bad hlt (by omega)).trans HO.out.symm), rfl⟩)
                | (exact ⟨⟨k + 1, by omega, by go_num, HD.out.next hlt (by omega) (by omega)⟩, by simp [intOf]; omega⟩)
            · obtain rfl : k = s.size := by omega
              have HV := Lib.hid ((HD.out.yes HL.out).trans HO.out.symm)
              go_wp2
              go_ret
              exact ⟨ret_bool HV.out, rfl⟩
  | true =>
    have h2 : 0 < s.data.toList.length ∧ Num.bl s.data.toList 0 = 45 := of_decide_eq_true hn
    have hi : 0 < s.size := by rw [← len_eq]; exact h2.1
    have hv : ((s[0].toNat : Int) == 45) = true := by
      rw [beq_iff_eq, ← bl_eq]; exact h2.2
    have hI : 0 < (s.size : Int) := by omega
    have hO := Num.okL_neg hn
    obtain ⟨t, ht⟩ : ∃ t, s.extract 1 s.size = t := ⟨_, rfl⟩
    have hl : s.data.toList.drop 1 = t.data.toList := by rw [← ht]; simp; rw [List.take_of_length_le (by simp)]
    have hts : t.size ≤ 9223372036854775807 := by rw [← ht]; simp; omega
    rw [hl] at hO
    clear h2 hn
    have hT : t.toList = t.data.toList := ByteArray.toList_eq t
    by_cases hz0 : (t.toList == [48]) = true
    · have HV := Lib.hid (show false = Num.okL s.data.toList by rw [hO, ← hT, decide_eq_true (eq_of_beq hz0)]; simp)
      clear hO hl hT
      go_enter Tryd.func55, Tryd.ntmps55
      go_wp2
      go_ret
      exact ⟨ret_bool HV.out, rfl⟩
    · replace hz0 : (t.toList == [48]) = false := by simpa using hz0
      have hz' : ¬ t.data.toList = [48] := by rw [← hT]; exact fun c => by rw [c] at hz0; cases hz0
      have HO : Hid (Num.okL s.data.toList = Num.decB t.data.toList) := Lib.hid (by rw [hO, decide_eq_false hz']; simp)
      clear hO hl hT hz'
      by_cases h0 : t.size = 0
      · have HV := Lib.hid (show false = Num.okL s.data.toList by rw [HO.out, empty_of h0]; rfl)
        have hz : ((t.size : Int) == 0) = true := by rw [beq_iff_eq]; omega
        clear h0
        go_enter Tryd.func55, Tryd.ntmps55
        go_wp2
        go_ret
        exact ⟨ret_bool HV.out, rfl⟩
      · have hj : 0 < t.size := by omega
        have hI2 : 0 < (t.size : Int) := by omega
        have hz : ((t.size : Int) == 0) = false := by rw [beq_eq_false_iff_ne]; omega
        clear h0
        by_cases hc : 1 < t.size ∧ (t[0].toNat : Int) = 48
        · obtain ⟨hc1, hc2⟩ := hc
          have d1 : decide ((1 : Int) < (t.size : Int)) = true := decide_eq_true (by omega)
          have d2 : ((t[0].toNat : Int) == 48) = true := by rw [beq_iff_eq]; exact hc2
          have HV := Lib.hid ((dec_lead (lead_no hj hc2 hc1)).trans HO.out.symm)
          clear hc1 hc2
          go_enter Tryd.func55, Tryd.ntmps55
          go_wp2
          go_ret
          exact ⟨ret_bool HV.out, rfl⟩
        · have HL := Lib.hid (lead_yes hj (by omega))
          by_cases hc1 : 1 < t.size
          · have d1 : decide ((1 : Int) < (t.size : Int)) = true := decide_eq_true (by omega)
            have d2 : ((t[0].toNat : Int) == 48) = false := by rw [beq_eq_false_iff_ne]; exact fun c => hc ⟨hc1, c⟩
            clear hc
            go_enter Tryd.func55, Tryd.ntmps55
            go_wp2
            go_loop [3] (fun i => ∃ k : Nat, k ≤ t.size ∧ i = .int .i64 k ∧ Dg t k) (fun i => t.size - (intOf i).toNat)
            case atStart => exact ⟨0, by omega, rfl, fun j hj => by omega⟩
            case round =>
              obtain ⟨k, hk, rfl, hD⟩ := hrel
              have HD := Lib.hid hD
              clear hD
              by_cases hlt : k < t.size
              · have hlt' : (k : Int) < (t.size : Int) := by omega
                go_wp2
                all_goals first
                  | (go_ret; exact ⟨ret_bool ((dec_bad hlt (by omega)).trans HO.out.symm), rfl⟩)
                  | (exact ⟨⟨k + 1, by omega, by go_num, HD.out.next hlt (by omega) (by omega)⟩, by simp [intOf]; omega⟩)
              · obtain rfl : k = t.size := by omega
                have HV := Lib.hid ((HD.out.yes HL.out).trans HO.out.symm)
                go_wp2
                go_ret
                exact ⟨ret_bool HV.out, rfl⟩
          · have d1 : decide ((1 : Int) < (t.size : Int)) = false := decide_eq_false (by omega)
            clear hc
            go_enter Tryd.func55, Tryd.ntmps55
            go_wp2
            go_loop [3] (fun i => ∃ k : Nat, k ≤ t.size ∧ i = .int .i64 k ∧ Dg t k) (fun i => t.size - (intOf i).toNat)
            case atStart => exact ⟨0, by omega, rfl, fun j hj => by omega⟩
            case round =>
              obtain ⟨k, hk, rfl, hD⟩ := hrel
              have HD := Lib.hid hD
              clear hD
              by_cases hlt : k < t.size
              · have hlt' : (k : Int) < (t.size : Int) := by omega
                go_wp2
                all_goals first
                  | (go_ret; exact ⟨ret_bool ((dec_bad hlt (by omega)).trans HO.out.symm), rfl⟩)
                  | (exact ⟨⟨k + 1, by omega, by go_num, HD.out.next hlt (by omega) (by omega)⟩, by simp [intOf]; omega⟩)
              · obtain rfl : k = t.size := by omega
                have HV := Lib.hid ((HD.out.yes HL.out).trans HO.out.symm)
                go_wp2
                go_ret
                exact ⟨ret_bool HV.out, rfl⟩
theorem par_ok {l : List UInt8} (h : Num.okL l = true) : Num.okN (Num.svL l) = Num.parN l ∧ Num.okE (Num.svL l) = Num.parE l := by
  unfold Num.parN Num.parE; rw [h]; exact ⟨rfl, rfl⟩
theorem nv_19 {l : List UInt8} (h : ∀ k, k < l.length → 48 ≤ Num.bl l k ∧ Num.bl l k ≤ 57) (hl : l.length ≤ 19) : ∀ k, k ≤ l.length → Num.nv l k ≤ 9999999999999999999 := fun k hk => by
  have h1 := Num.nv_lt h k hk
  have h2 : (10 : Int) ^ k ≤ (10 : Int) ^ 19 := by
    have : (10 : Nat) ^ k ≤ 10 ^ 19 := Nat.pow_le_pow_right (by decide) (by omega)
    exact_mod_cast this
  have h3 : (10 : Int) ^ 19 = 10000000000000000000 := rfl
  omega
set_option maxHeartbeats 1000000 in
theorem rParse_any (s : ByteArray) (w : World) (hs : s.size ≤ 9223372036854775807) : Calls Tryd.prog 36 #[.string s] w (RetS (parV s) w) := by
  unfold parV
  have hd := rDec_any s
  cases hok : Num.okL s.data.toList with
  | false =>
    rw [hok] at hd
    have HV := Lib.hid (Num.par_bad hok)
    have HD := Lib.hid hd
    clear hok hd
    go_enter Tryd.func36, Tryd.ntmps36
    go_wp2_with (go_at_call 55; refine (HD.out _ hs).mono ?_; rintro e w' ⟨rfl, rfl⟩)
    go_ret2
    exact ⟨ret_two HV.out.1 HV.out.2, rfl⟩
  | true =>
    rw [hok] at hd
    have HD := Lib.hid hd
    have HP := Lib.hid (par_ok hok)
    have HO := Lib.hid hok
    clear hok hd
    cases hn : Num.ngB s.data.toList with
    | false =>
      have hb : Num.decB s.data.toList = true := by rw [← Num.okL_pos hn]; exact HO.out
      have hB := (Num.decB_iff _).1 hb
      have hi : 0 < s.size := by rw [← len_eq]; exact hB.1.1
      have hI : 0 < (s.size : Int) := by omega
      have hv : ((s[0].toNat : Int) == 45) = false := by
        rw [beq_eq_false_iff_ne, ← bl_eq]; exact fun c => by unfold Num.ngB at hn; exact of_decide_eq_false hn ⟨by rw [len_eq]; exact hi, c⟩
      have HDD := Lib.hid hB.2
      have HS := Lib.hid (Num.svL_pos hn)
      clear hn hB
      by_cases hl : 19 < s.size
      · have hL : (19 : Int) < (s.size : Int) := by omega
        have HV := Lib.hid (Num.par_over HO.out (by have := Num.nv_big hb (by rw [len_eq]; omega); rw [HS.out]; omega))
        clear hb
        go_enter Tryd.func36, Tryd.ntmps36
        go_wp2_with (go_at_call 55; refine (HD.out _ hs).mono ?_; rintro e w' ⟨rfl, rfl⟩)
        go_ret2
        exact ⟨ret_two HV.out.1 HV.out.2, rfl⟩
      · have hL : (s.size : Int) ≤ 19 := by omega
        have HM := Lib.hid (nv_19 HDD.out (by rw [len_eq]; omega))
        rw [HS.out, len_eq] at HP
        clear hb
        go_enter Tryd.func36, Tryd.ntmps36
        go_wp2_with (go_at_call 55; refine (HD.out _ hs).mono ?_; rintro e w' ⟨rfl, rfl⟩)
        go_loop [5, 6] (fun v i => ∃ k : Nat, k ≤ s.size ∧ v = .int .u64 (Num.nv s.data.toList k) ∧ i = .int .i64 k ∧ 0 ≤ Num.nv s.data.toList k ∧ Num.nv s.data.toList k ≤ 9999999999999999999) (fun _ i => s.size - (intOf i).toNat)
        case atStart => exact ⟨0, by omega, rfl, rfl, by simp [Num.nv], by simp [Num.nv]⟩
        case round =>
          obtain ⟨k, hk, rfl, rfl, v0, v1⟩ := hrel
          by_cases hlt : k < s.size
          · have hlt' : (k : Int) < (s.size : Int) := by omega
            have hb := HDD.out k (by rw [len_eq]; exact hlt)
            rw [bl_eq s k hlt] at hb
            obtain ⟨b0, b1⟩ := hb
            have hN := nv_next s hlt
            have hM := HM.out (k + 1) (by rw [len_eq]; omega)
            rw [hN] at hM
            have HN := Lib.hid hN
            clear hN
            go_wp2
            go_round
            case rel => exact ⟨k + 1, by omega, by rw [HN.out]; go_num, by go_num, by rw [HN.out]; omega, by rw [HN.out]; omega⟩
            case measure => simp [intOf]; omega
          · obtain rfl : k = s.size := by omega
            go_wp2_with (go_at_call 51; refine (rSigned_pos _ _ v0 (by omega)).mono ?_; rintro e w' ⟨rfl, rfl⟩)
            go_ret2
            exact ⟨ret_two HP.out.1 HP.out.2, rfl⟩
    | true =>
      have h2 : 0 < s.data.toList.length ∧ Num.bl s.data.toList 0 = 45 := of_decide_eq_true hn
      have hi : 0 < s.size := by rw [← len_eq]; exact h2.1
      have hv : ((s[0].toNat : Int) == 45) = true := by
        rw [beq_iff_eq, ← bl_eq]; exact h2.2
      have hI : 0 < (s.size : Int) := by omega
      obtain ⟨t, ht⟩ : ∃ t, s.extract 1 s.size = t := ⟨_, rfl⟩
      have hl0 : s.data.toList.drop 1 = t.data.toList := by rw [← ht]; simp; rw [List.take_of_length_le (by simp)]
      have hts : t.size ≤ 9223372036854775807 := by rw [← ht]; simp; omega
      have hO := Num.okL_neg hn
      have hS := Num.svL_neg hn
      rw [hl0] at hO hS
      have hb : Num.decB t.data.toList = true := by
        have := HO.out; rw [hO, Bool.and_eq_true] at this; exact this.1
      have hB := (Num.decB_iff _).1 hb
      have HDD := Lib.hid hB.2
      have HS := Lib.hid hS
      clear hn hB hO hS hl0 h2
      by_cases hl : 19 < t.size
      · have hL : (19 : Int) < (t.size : Int) := by omega
        have HV := Lib.hid (Num.par_over HO.out (by have := Num.nv_big hb (by rw [len_eq]; omega); rw [HS.out]; omega))
        clear hb
        go_enter Tryd.func36, Tryd.ntmps36
        go_wp2_with (go_at_call 55; refine (HD.out _ hs).mono ?_; rintro e w' ⟨rfl, rfl⟩)
        go_ret2
        exact ⟨ret_two HV.out.1 HV.out.2, rfl⟩
      · have hL : (t.size : Int) ≤ 19 := by omega
        have HM := Lib.hid (nv_19 HDD.out (by rw [len_eq]; omega))
        rw [HS.out, len_eq] at HP
        clear hb
        go_enter Tryd.func36, Tryd.ntmps36
        go_wp2_with (go_at_call 55; refine (HD.out _ hs).mono ?_; rintro e w' ⟨rfl, rfl⟩)
        go_loop [5, 6] (fun v i => ∃ k : Nat, k ≤ t.size ∧ v = .int .u64 (Num.nv t.data.toList k) ∧ i = .int .i64 k ∧ 0 ≤ Num.nv t.data.toList k ∧ Num.nv t.data.toList k ≤ 9999999999999999999) (fun _ i => t.size - (intOf i).toNat)
        case atStart => exact ⟨0, by omega, rfl, rfl, by simp [Num.nv], by simp [Num.nv]⟩
        case round =>
          obtain ⟨k, hk, rfl, rfl, v0, v1⟩ := hrel
          by_cases hlt : k < t.size
          · have hlt' : (k : Int) < (t.size : Int) := by omega
            have hb := HDD.out k (by rw [len_eq]; exact hlt)
            rw [bl_eq t k hlt] at hb
            obtain ⟨b0, b1⟩ := hb
            have hN := nv_next t hlt
            have hM := HM.out (k + 1) (by rw [len_eq]; omega)
            rw [hN] at hM
            have HN := Lib.hid hN
            clear hN
            go_wp2
            go_round
            case rel => exact ⟨k + 1, by omega, by rw [HN.out]; go_num, by go_num, by rw [HN.out]; omega, by rw [HN.out]; omega⟩
            case measure => simp [intOf]; omega
          · obtain rfl : k = t.size := by omega
            go_wp2_with (go_at_call 51; refine (rSigned_neg _ _ _ rfl v0 (by omega)).mono ?_; rintro e w' ⟨rfl, rfl⟩)
            go_ret2
            exact ⟨ret_two HP.out.1 HP.out.2, rfl⟩
end Go.Proofs.YtgloiddnbppblaaDoor
