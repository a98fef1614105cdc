/- Decimal texts: package num and its reference. -/
import Derived.Test.YtnnocbelgfhecaaGreatDoorNuma
import Derived.Test.YtnnocbelgfhecaaGreatDoorShelf
import Derived.Test.YtnnocbelgfhecaaGreatDoorNumt
namespace Go.Proofs.YtnnocbelgfhecaaGreatDoor
open Go.ChangeShapes Go.WideShapes Go.ChangeAt Go.RowKit Go.Lott

theorem bl_eq (s : ByteArray) (k : Nat) (h : k < s.size) : Num.bl s.data.toList k = (s[k].toNat : Int) := by
  have h' : k < s.data.toList.length := by simpa using h
  unfold Num.bl
  rw [List.getD_eq_getElem?_getD, List.getElem?_eq_getElem h']
  rfl
theorem len_eq (s : ByteArray) : s.data.toList.length = s.size := by simp
theorem empty_of {s : ByteArray} (h : s.size = 0) : s = ByteArray.empty := by
  cases s with
  | mk d => 
    have : d = #[] := Array.eq_empty_of_size_eq_zero h
    subst this; rfl
theorem isE_no {s : ByteArray} (h : 0 < s.size) : s.toList.isEmpty = false := by
  cases c : s.toList.isEmpty with
  | false => rfl
  | true =>
    exfalso
    have h2 : s.toList = [] := List.isEmpty_iff.1 c
    have h3 : s.toList.length = s.size := by rw [ByteArray.toList_eq]; simp
    rw [h2] at h3; simp at h3; omega
/-- The first k bytes are digits. -/
def Dg (s : ByteArray) (k : Nat) : Prop := ∀ j, j < k → 48 ≤ Num.bl s.data.toList j ∧ Num.bl s.data.toList j ≤ 57
theorem Dg.next {s : ByteArray} {k : Nat} (h : Dg s k) (hk : k < s.size) (h0 : 48 ≤ (s[k].toNat : Int)) (h1 : (s[k].toNat : Int) ≤ 57) : Dg s (k + 1) := fun j hj => by
  rcases Nat.lt_or_ge j k with c | c
  · exact h j c
  · obtain rfl : j = k := by omega
    rw [bl_eq s _ hk]; exact ⟨h0, h1⟩
theorem Dg.yes {s : ByteArray} (h : Dg s s.size) (hl : Num.lead s.data.toList = true) : true = Num.decB s.data.toList := by
  unfold Num.decB; rw [hl, (Num.digs_iff _).2 (by rw [len_eq]; exact h)]; rfl
theorem dec_bad {s : ByteArray} {k : Nat} (hk : k < s.size) (h : ¬ (48 ≤ (s[k].toNat : Int) ∧ (s[k].toNat : Int) ≤ 57)) : false = Num.decB s.data.toList := by
  cases c : Num.decB s.data.toList with
  | false => rfl
  | true =>
    have := ((Num.decB_iff _).1 c).2 k (by rw [len_eq]; exact hk)
    rw [bl_eq s _ hk] at this; exact (h this).elim
theorem dec_lead {s : ByteArray} (h : Num.lead s.data.toList = false) : false = Num.decB s.data.toList := by unfold Num.decB; rw [h]; rfl
theorem lead_no {s : ByteArray} (hi : 0 < s.size) (h : (s[0].toNat : Int) = 48) (h1 : 1 < s.size) : Num.lead s.data.toList = false := by
  cases c : Num.lead s.data.toList with
  | false => rfl
  | true =>
    have := ((Num.lead_iff _).1 c).2
    rw [bl_eq s 0 hi, len_eq] at this
    have := this h; omega
theorem lead_yes {s : ByteArray} (hi : 0 < s.size) (h : (s[0].toNat : Int) ≠ 48 ∨ s.size ≤ 1) : Num.lead s.data.toList = true := by
  rw [Num.lead_iff, bl_eq s 0 hi, len_eq]
  exact ⟨hi, fun e => by omega⟩
set_option maxHeartbeats 1000000 in
theorem dec_any (s : ByteArray) (w : World) (hs : s.size ≤ 9223372036854775807) : Calls Tryz.prog 170 #[.string s] w (RetS (.bool (Num.decB s.data.toList)) w) := by
  by_cases h0 : s.size = 0
  · obtain rfl := empty_of h0
    clear h0 hs
    go_enter Tryz.func170, Tryz.ntmps170
    go_wp2
    go_ret
    exact ⟨ret_bool (dec_lead (by rfl)), rfl⟩
  · have hi : 0 < s.size := by omega
    have he := isE_no hi
    have hI : 0 < (s.size : Int) := by omega
    clear h0
    go_enter Tryz.func170, Tryz.ntmps170
    go_wp2
    all_goals first
      | (go_ret; exact ⟨ret_bool (dec_lead (lead_no hi (by omega) (by omega))), rfl⟩)
      | skip
    all_goals
      have HL := Lib.hid (lead_yes hi (by omega))
      go_loop [18] (fun i => ∃ k : Nat, k ≤ s.size ∧ i = .int .i64 k ∧ Dg s k) (fun i => s.size - (intOf i).toNat)
      case atStart => exact ⟨0, by omega, rfl, fun j hj => by omega⟩
      case round =>
        obtain ⟨k, hk, rfl, hD⟩ := hrel
        have HD := Lib.hid hD
        clear hD
        by_cases hlt : k < s.size
        · have hlt' : (k : Int) < (s.size : Int) := by omega
          go_wp2
          all_goals first
            | (go_ret; exact ⟨ret_bool (dec_bad hlt (by omega)), rfl⟩)
            | (exact ⟨⟨k + 1, by omega, by go_num, HD.out.next hlt (by omega) (by omega)⟩, by simp [intOf]; omega⟩)
        · obtain rfl : k = s.size := by omega
          have HV := Lib.hid (HD.out.yes HL.out)
          go_wp2
          go_ret
          exact ⟨ret_bool HV.out, rfl⟩
end Go.Proofs.YtnnocbelgfhecaaGreatDoor
/- Parse of package num. -/
namespace Go.Lott.Num
/-- A text that begins with '-'; what stands behind the sign; the number of a text, and its error. -/
def ngB (l : List UInt8) : Bool := decide (0 < l.length ∧ bl l 0 = 45)
def tlL (l : List UInt8) : List UInt8 := if ngB l then l.drop 1 else l
def okL (l : List UInt8) : Bool := decB (tlL l) && !(ngB l && decide (tlL l = [48]))
def svL (l : List UInt8) : Int := if ngB l then -nv (tlL l) (tlL l).length else nv (tlL l) (tlL l).length
def parN (l : List UInt8) : Int := if okL l then okN (svL l) else 0
def parE (l : List UInt8) : Int := if okL l then okE (svL l) else 1
theorem par_bad {l : List UInt8} (h : okL l = false) : 0 = parN l ∧ 1 = parE l := by unfold parN parE; rw [h]; exact ⟨rfl, rfl⟩
theorem par_over {l : List UInt8} (h : okL l = true) (hr : ¬ (-9223372036854775808 ≤ svL l ∧ svL l ≤ 9223372036854775807)) : 0 = parN l ∧ 9 = parE l := by
  unfold parN parE; rw [h]; obtain ⟨h1, h2⟩ := ok_no hr; exact ⟨h1.symm, h2.symm⟩
theorem par_fine {l : List UInt8} (h : okL l = true) (hr : -9223372036854775808 ≤ svL l ∧ svL l ≤ 9223372036854775807) : svL l = parN l ∧ 0 = parE l := by
  unfold parN parE; rw [h]; obtain ⟨h1, h2⟩ := ok_yes hr; exact ⟨h1.symm, h2.symm⟩
theorem okL_pos {l : List UInt8} (h : ngB l = false) : okL l = decB l := by unfold okL tlL; rw [h]; simp
theorem svL_pos {l : List UInt8} (h : ngB l = false) : svL l = nv l l.length := by unfold svL tlL; rw [h]; simp
theorem okL_neg {l : List UInt8} (h : ngB l = true) : okL l = (decB (l.drop 1) && !decide (l.drop 1 = [48])) := by unfold okL tlL; rw [h]; simp
theorem svL_neg {l : List UInt8} (h : ngB l = true) : svL l = -nv (l.drop 1) (l.drop 1).length := by unfold svL tlL; rw [h]; simp
end Go.Lott.Num
namespace Go.Proofs.YtnnocbelgfhecaaGreatDoor
open Go.ChangeShapes Go.WideShapes Go.ChangeAt Go.RowKit Go.Lott

/-- The value of the first k bytes, and the next one. -/
theorem nv_next (s : ByteArray) {k : Nat} (hk : k < s.size) : Num.nv s.data.toList (k + 1) = Num.nv s.data.toList k * 10 + ((s[k].toNat : Int) - 48) := by rw [← bl_eq s k hk]; rfl
set_option maxHeartbeats 1000000 in
theorem Parse_pos (s : ByteArray) (w : World) (hs : s.size ≤ 9223372036854775807) (hn : Num.ngB s.data.toList = false) : Calls Tryz.prog 150 #[.string s] w (RetS (.tuple #[.int .i64 (Num.parN s.data.toList), .int .i64 (Num.parE s.data.toList)]) w) := by
  by_cases h0 : s.size = 0
  · obtain rfl := empty_of h0
    have HV := Lib.hid (Num.par_bad (l := ByteArray.empty.data.toList) (by rfl))
    clear h0 hs
    go_enter Tryz.func150, Tryz.ntmps150
    go_wp2_with (go_at_call 170; refine (dec_any _ _ (by first | omega | simp)).mono ?_; rintro e w' ⟨rfl, rfl⟩)
    go_ret2
    exact ⟨ret_two HV.out.1 HV.out.2, rfl⟩
  · have hi : 0 < s.size := by omega
    have hv : ((s[0].toNat : Int) == 45) = false := by
      rw [beq_eq_false_iff_ne, ← bl_eq]; exact fun c => by unfold Num.ngB at hn; exact of_decide_eq_false hn ⟨by rw [len_eq]; exact hi, c⟩
    have hI : 0 < (s.size : Int) := by omega
    have hO := Num.okL_pos hn
    have hS := Num.svL_pos hn
    clear h0
    by_cases hd : Num.decB s.data.toList = true
    · have HD := Lib.hid ((Num.decB_iff _).1 hd)
      have HO := Lib.hid (hO.trans hd)
      have HS := Lib.hid hS
      have HDD := Lib.hid HD.out.2
      have n0 := Lib.hid (Num.nv_step HDD.out _ (Nat.le_refl _))
      have HOV : Hid (9223372036854775807 < Num.nv s.data.toList s.data.toList.length → 0 = Num.parN s.data.toList ∧ 9 = Num.parE s.data.toList) := Lib.hid fun h => Num.par_over HO.out (by rw [HS.out]; omega)
      have HFI : Hid (Num.nv s.data.toList s.data.toList.length ≤ 9223372036854775807 → Num.nv s.data.toList s.data.toList.length = Num.parN s.data.toList ∧ 0 = Num.parE s.data.toList) := Lib.hid fun h => by
        have := Num.par_fine HO.out (by rw [HS.out]; have := n0.out; omega)
        rw [HS.out] at this; exact this
      clear hO hS
      go_enter Tryz.func150, Tryz.ntmps150
      go_wp2_with (go_at_call 170; refine (dec_any _ _ (by first | omega | simp)).mono ?_; rintro e w' ⟨rfl, rfl⟩)
      go_loop [7, 37] (fun v i => ∃ k : Nat, k ≤ s.size ∧ v = .int .u64 (Num.nv s.data.toList k) ∧ i = .int .i64 k ∧ 0 ≤ Num.nv s.data.toList k ∧ Num.nv s.data.toList k ≤ 9223372036854775807) (fun _ i => s.size - (intOf i).toNat)
      case atStart => exact ⟨0, by omega, rfl, rfl, by simp [Num.nv], by simp [Num.nv]⟩
      case round =>
        obtain ⟨k, hk, rfl, rfl, v0, v1⟩ := hrel
        by_cases hlt : k < s.size
        · have hlt' : (k : Int) < (s.size : Int) := by omega
          have hb := HDD.out k (by rw [len_eq]; exact hlt)
          rw [bl_eq s k hlt] at hb
          obtain ⟨b0, b1⟩ := hb
          have hN := nv_next s hlt
          by_cases hbig : 9223372036854775807 < Num.nv s.data.toList k * 10 + ((s[k].toNat : Int) - 48)
          · have HV := Lib.hid (HOV.out (by
              have h1 := Num.nv_le HDD.out (j := k + 1) (k := s.data.toList.length) (by rw [len_eq]; omega) (Nat.le_refl _)
              rw [hN] at h1; omega))
            clear hN
            go_wp2
            all_goals first
              | (go_ret2; exact ⟨ret_two HV.out.1 HV.out.2, rfl⟩)
              | (exfalso; omega)
          · have HN := Lib.hid hN
            clear hN
            go_wp2
            all_goals first
              | (exfalso; omega)
              | (exact ⟨⟨k + 1, by omega, by rw [HN.out], by go_num, by rw [HN.out]; omega, by rw [HN.out]; omega⟩, by simp [intOf]; omega⟩)
        · obtain rfl : k = s.size := by omega
          have HV := Lib.hid (HFI.out (by rw [len_eq]; exact v1))
          rw [len_eq] at HV
          go_wp2
          go_ret2
          exact ⟨ret_two (by first | exact HV.out.1 | (rw [← HV.out.1]; omega)) HV.out.2, rfl⟩
    · replace hd : Num.decB s.data.toList = false := by simpa using hd
      have HV := Lib.hid (Num.par_bad (hO.trans hd))
      clear hO hS
      go_enter Tryz.func150, Tryz.ntmps150
      go_wp2_with (go_at_call 170; refine (dec_any _ _ (by first | omega | simp)).mono ?_; rintro e w' ⟨rfl, rfl⟩)
      go_ret2
      exact ⟨ret_two HV.out.1 HV.out.2, rfl⟩
set_option maxHeartbeats 1000000 in
theorem Parse_neg (s : ByteArray) (w : World) (hs : s.size ≤ 9223372036854775807) (hn : Num.ngB s.data.toList = true) : Calls Tryz.prog 150 #[.string s] w (RetS (.tuple #[.int .i64 (Num.parN s.data.toList), .int .i64 (Num.parE s.data.toList)]) w) := by
  have h2 : 0 < s.data.toList.length ∧ Num.bl s.data.toList 0 = 45 := of_decide_eq_true hn
  have hi : 0 < s.size := by rw [← len_eq]; exact h2.1
  have hv : ((s[0].toNat : Int) == 45) = true := by
    rw [beq_iff_eq, ← bl_eq]; exact h2.2
  have hI : 0 < (s.size : Int) := by omega
  have hO := Num.okL_neg hn
  have hS := Num.svL_neg hn
  obtain ⟨t, ht⟩ : ∃ t, s.extract 1 s.size = t := ⟨_, rfl⟩
  have hl : s.data.toList.drop 1 = t.data.toList := by rw [← ht]; simp; rw [List.take_of_length_le (by simp)]
  have hts : t.size ≤ 9223372036854775807 := by rw [← ht]; simp; omega
  rw [hl] at hO hS
  clear h2 hn
  by_cases hd : Num.decB t.data.toList = true
  · have hT : t.toList = t.data.toList := ByteArray.toList_eq t
    by_cases hz : (t.toList == [48]) = true
    · have HV := Lib.hid (Num.par_bad (by rw [hO, hd, ← hT, decide_eq_true (eq_of_beq hz)]; rfl))
      clear hO hS hl hT
      go_enter Tryz.func150, Tryz.ntmps150
      go_wp2_with (go_at_call 170; refine (dec_any _ _ (by omega)).mono ?_; rintro e w' ⟨rfl, rfl⟩)
      go_ret2
      exact ⟨ret_two HV.out.1 HV.out.2, rfl⟩
    · replace hz : (t.toList == [48]) = false := by simpa using hz
      have hz' : ¬ t.data.toList = [48] := by rw [← hT]; exact fun c => by rw [c] at hz; cases hz
      have HO : Hid (Num.okL s.data.toList = true) := Lib.hid (by rw [hO, hd, decide_eq_false hz']; rfl)
      have HDD := Lib.hid ((Num.decB_iff _).1 hd).2
      have n0 := Num.nv_step HDD.out _ (Nat.le_refl _)
      have n1 : 1 ≤ Num.nv t.data.toList t.data.toList.length := by
        rcases Int.lt_or_le 0 (Num.nv t.data.toList t.data.toList.length) with c | c
        · exact c
        · exfalso
          have := Num.dec_nv hd
          rw [show (Num.nv t.data.toList t.data.toList.length).toNat = 0 by omega, Go.Lib.decDigits_one (by omega)] at this
          exact hz' this.symm
      have HOV : Hid (9223372036854775808 < Num.nv t.data.toList t.data.toList.length → 0 = Num.parN s.data.toList ∧ 9 = Num.parE s.data.toList) := Lib.hid fun h => Num.par_over HO.out (by rw [hS]; omega)
      have HFI : Hid (Num.nv t.data.toList t.data.toList.length ≤ 9223372036854775808 → -Num.nv t.data.toList t.data.toList.length = Num.parN s.data.toList ∧ 0 = Num.parE s.data.toList) := Lib.hid fun h => by
        have := Num.par_fine HO.out (by rw [hS]; omega)
        rw [hS] at this; exact this
      rw [len_eq] at n1
      clear hO hS hl hT hz' n0
      go_enter Tryz.func150, Tryz.ntmps150
      go_wp2_with (go_at_call 170; refine (dec_any _ _ (by omega)).mono ?_; rintro e w' ⟨rfl, rfl⟩)
      go_loop [7, 37] (fun v i => ∃ k : Nat, k ≤ t.size ∧ v = .int .u64 (Num.nv t.data.toList k) ∧ i = .int .i64 k ∧ 0 ≤ Num.nv t.data.toList k ∧ Num.nv t.data.toList k ≤ 9223372036854775808) (fun _ i => t.size - (intOf i).toNat)
      case atStart => exact ⟨0, by omega, rfl, rfl, by simp [Num.nv], by simp [Num.nv]⟩
      case round =>
        obtain ⟨k, hk, rfl, rfl, v0, v1⟩ := hrel
        by_cases hlt : k < t.size
        · have hlt' : (k : Int) < (t.size : Int) := by omega
          have hb := HDD.out k (by rw [len_eq]; exact hlt)
          rw [bl_eq t k hlt] at hb
          obtain ⟨b0, b1⟩ := hb
          have hN := nv_next t hlt
          by_cases hbig : 9223372036854775808 < Num.nv t.data.toList k * 10 + ((t[k].toNat : Int) - 48)
          · have HV := Lib.hid (HOV.out (by
              have h1 := Num.nv_le HDD.out (j := k + 1) (k := t.data.toList.length) (by rw [len_eq]; omega) (Nat.le_refl _)
              rw [hN] at h1; omega))
            clear hN
            go_wp2
            all_goals first
              | (go_ret2; exact ⟨ret_two HV.out.1 HV.out.2, rfl⟩)
              | (exfalso; omega)
          · have HN := Lib.hid hN
            clear hN
            go_wp2
            all_goals first
              | (exfalso; omega)
              | (exact ⟨⟨k + 1, by omega, by rw [HN.out], by go_num, by rw [HN.out]; omega, by rw [HN.out]; omega⟩, by simp [intOf]; omega⟩)
        · obtain rfl : k = t.size := by omega
          have HV := Lib.hid (HFI.out (by rw [len_eq]; exact v1))
          rw [len_eq] at HV
          go_wp2
          go_ret2
          exact ⟨ret_two (by first | exact HV.out.1 | (rw [← HV.out.1]; omega)) HV.out.2, rfl⟩
  · replace hd : Num.decB t.data.toList = false := by simpa using hd
    have HV := Lib.hid (Num.par_bad (by rw [hO, hd]; rfl))
    clear hO hS hl
    go_enter Tryz.func150, Tryz.ntmps150
    go_wp2_with (go_at_call 170; refine (dec_any _ _ (by omega)).mono ?_; rintro e w' ⟨rfl, rfl⟩)
    go_ret2
    exact ⟨ret_two HV.out.1 HV.out.2, rfl⟩
/-- The number of a text and its error, as a value. -/
def parV (s : ByteArray) : Value := .tuple #[.int .i64 (Num.parN s.data.toList), .int .i64 (Num.parE s.data.toList)]
theorem Parse_any (s : ByteArray) (w : World) (hs : s.size ≤ 9223372036854775807) : Calls Tryz.prog 150 #[.string s] w (RetS (parV s) w) := by
  cases hn : Num.ngB s.data.toList with
  | true => exact Parse_neg s w hs hn
  | false => exact Parse_pos s w hs hn
end Go.Proofs.YtnnocbelgfhecaaGreatDoor
