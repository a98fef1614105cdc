/- The laws MoneyWrites, MoneyReads, MoneyRounds: their walks. -/
import Derived.Test.YtkpmbkkhdhjbnaaDoorMpg
namespace Go.Proofs.YtkpmbkkhdhjbnaaDoor
open Go.ChangeShapes Go.WideShapes Go.ChangeAt Go.RowKit Go.Lott
open Go.Lott.Spl Go.Lott.Mny
theorem mTB_size (m : Int) : (mTB m).size ≤ 100 := by
  have h1 : (mTB m).size = (mT m).length := by rw [← mTB_list]; exact (mlen _).symm
  rw [h1]
  by_cases h : 0 ≤ m ∧ m ≤ 1000000000000
  · rw [mT_yes h]
    have e : (10 : Nat) ^ 19 = 10000000000000000000 := rfl
    have := mdec_short 18 (m / 100).toNat (by show _ < 10 ^ 19; omega)
    simp; omega
  · rw [mT_no h]; simp
set_option maxHeartbeats 2000000 in
theorem moneyWrites_walk (m : Int) (s : ByteArray) (W : World) (_ : (Lit.int .i64 m).wf = true) (_ : s.size ≤ maxLen) (hp : P10 W) :
    Calls Tryd.prog 6 #[.int .i64 m, .string s] W (RetB (.bool true) W) := by
  have HT := Lib.hid hp
  have hbel := Below.refl W.heap.size W
  have HF := Lib.hid (fun w hp => mFormat_any m w hp)
  have HRF := Lib.hid (fun w => rmFormat_any m w)
  clear hp
  by_cases hl : 5000 < s.size
  · have hl' : (5000 : Int) < (s.size : Int) := by omega
    clear hl
    go_enter Tryd.func6, Tryd.ntmps6
    go_wp2_with (go_at_call 14; ((with_reducible refine (mawake_any _ (HT.out.grow hbel)).mono ?_); rintro e w1 ⟨rfl, hb1⟩; replace hbel := hbel.trans (hb1.mono hbel.size); clear hb1))
    go_ret
    exact ⟨rfl, hbel⟩
  · have hl' : (s.size : Int) ≤ 5000 := by omega
    have HP := Lib.hid (fun w => mParse_any s w (by omega))
    have HRP := Lib.hid (fun w => rmParse_any s w (by omega))
    generalize mpN s.data.toList = N at *
    generalize mpE s.data.toList = E at *
    generalize mTB m = T at *
    clear hl
    go_enter Tryd.func6, Tryd.ntmps6
    go_wp2_with (first | (go_at_call 17; ((with_reducible refine (HP.out _).mono ?_); rintro e w' ⟨rfl, rfl⟩)) | (go_at_call 18; ((with_reducible refine (HRP.out _).mono ?_); rintro e w' ⟨rfl, rfl⟩)) | (go_at_call 19; ((with_reducible refine (HF.out _ (HT.out.grow hbel)).mono ?_); rintro e w1 ⟨rfl, hb1⟩; replace hbel := hbel.trans (hb1.mono hbel.size); clear hb1)) | (go_at_call 20; ((with_reducible refine (HRF.out _).mono ?_); rintro e w1 ⟨rfl, hb1⟩; replace hbel := hbel.trans (hb1.mono hbel.size); clear hb1)) | (go_at_call 14; ((with_reducible refine (mawake_any _ (HT.out.grow hbel)).mono ?_); rintro e w1 ⟨rfl, hb1⟩; replace hbel := hbel.trans (hb1.mono hbel.size); clear hb1)))
    go_ret
    exact ⟨rfl, hbel⟩
set_option maxHeartbeats 2000000 in
theorem moneyReads_walk (m : Int) (s : ByteArray) (W : World) (_ : (Lit.int .i64 m).wf = true) (_ : s.size ≤ maxLen) (hp : P10 W) :
    Calls Tryd.prog 7 #[.int .i64 m, .string s] W (RetB (.bool true) W) := by
  have HT := Lib.hid hp
  have hbel := Below.refl W.heap.size W
  have hv := fun w => Valid_any m w
  clear hp
  by_cases hm : 0 ≤ m ∧ m ≤ 1000000000000
  · rw [(amB_iff m).2 hm] at hv
    have HV := Lib.hid hv
    have HF := Lib.hid (fun w hp => mFormat_any m w hp)
    have hz := mTB_size m
    have hp := fun w => mParse_any (mTB m) w (by omega)
    rw [mTB_list, (mT_back hm).1, (mT_back hm).2] at hp
    have HP := Lib.hid hp
    generalize mTB m = T at *
    clear hv hp hm hz
    by_cases hl : 5000 < s.size
    · have hl' : (5000 : Int) < (s.size : Int) := by omega
      clear hl
      go_enter Tryd.func7, Tryd.ntmps7
      go_wp2_with (first | (go_at_call 15; ((with_reducible refine (HV.out _).mono ?_); rintro e w' ⟨rfl, rfl⟩)) | (go_at_call 19; ((with_reducible refine (HF.out _ (HT.out.grow hbel)).mono ?_); rintro e w1 ⟨rfl, hb1⟩; replace hbel := hbel.trans (hb1.mono hbel.size); clear hb1)) | (go_at_call 17; ((with_reducible refine (HP.out _).mono ?_); rintro e w' ⟨rfl, rfl⟩)) | (go_at_call 14; ((with_reducible refine (mawake_any _ (HT.out.grow hbel)).mono ?_); rintro e w1 ⟨rfl, hb1⟩; replace hbel := hbel.trans (hb1.mono hbel.size); clear hb1)))
      go_ret
      exact ⟨rfl, hbel⟩
    · have hl' : (s.size : Int) ≤ 5000 := by omega
      have hpp := fun w => mParse_any s w (by omega)
      by_cases he : mpE s.data.toList = 0
      · have n0 := (mp_of he).2.2.2.1
        have n1 := (mp_of he).2.2.2.2
        have hb := mp_back he
        have hf2 := fun w hp => mFormat_any (mpN s.data.toList) w hp
        have e1 : mTB (mpN s.data.toList) = s := bytes_of (by rw [mTB_list, hb])
        rw [e1] at hf2
        have hv2 := fun w => Valid_any (mpN s.data.toList) w
        rw [(amB_iff _).2 ⟨n0, n1⟩] at hv2
        rw [he] at hpp
        generalize mpN s.data.toList = N at *
        have HF2 := Lib.hid hf2
        have HV2 := Lib.hid hv2
        have HPP := Lib.hid hpp
        clear hf2 hv2 hpp he hb e1 hl
        go_enter Tryd.func7, Tryd.ntmps7
        go_wp2_with (first | (go_at_call 15; ((with_reducible refine (HV.out _).mono ?_); rintro e w' ⟨rfl, rfl⟩)) | (go_at_call 19; ((with_reducible refine (HF.out _ (HT.out.grow hbel)).mono ?_); rintro e w1 ⟨rfl, hb1⟩; replace hbel := hbel.trans (hb1.mono hbel.size); clear hb1)) | (go_at_call 17; ((with_reducible refine (HP.out _).mono ?_); rintro e w' ⟨rfl, rfl⟩)) | (go_at_call 17; ((with_reducible refine (HPP.out _).mono ?_); rintro e w' ⟨rfl, rfl⟩)) | (go_at_call 19; ((with_reducible refine (HF2.out _ (HT.out.grow hbel)).mono ?_); rintro e w1 ⟨rfl, hb1⟩; replace hbel := hbel.trans (hb1.mono hbel.size); clear hb1)) | (go_at_call 15; ((with_reducible refine (HV2.out _).mono ?_); rintro e w' ⟨rfl, rfl⟩)) | (go_at_call 14; ((with_reducible refine (mawake_any _ (HT.out.grow hbel)).mono ?_); rintro e w1 ⟨rfl, hb1⟩; replace hbel := hbel.trans (hb1.mono hbel.size); clear hb1)))
        go_ret
        exact ⟨rfl, hbel⟩
      · have he1 : (mpE s.data.toList == 0) = false := by rw [beq_eq_false_iff_ne]; exact he
        generalize mpN s.data.toList = N at *
        generalize mpE s.data.toList = E at *
        have HPP := Lib.hid hpp
        clear hpp he hl
        go_enter Tryd.func7, Tryd.ntmps7
        go_wp2_with (first | (go_at_call 15; ((with_reducible refine (HV.out _).mono ?_); rintro e w' ⟨rfl, rfl⟩)) | (go_at_call 19; ((with_reducible refine (HF.out _ (HT.out.grow hbel)).mono ?_); rintro e w1 ⟨rfl, hb1⟩; replace hbel := hbel.trans (hb1.mono hbel.size); clear hb1)) | (go_at_call 17; ((with_reducible refine (HP.out _).mono ?_); rintro e w' ⟨rfl, rfl⟩)) | (go_at_call 17; ((with_reducible refine (HPP.out _).mono ?_); rintro e w' ⟨rfl, rfl⟩)) | (go_at_call 14; ((with_reducible refine (mawake_any _ (HT.out.grow hbel)).mono ?_); rintro e w1 ⟨rfl, hb1⟩; replace hbel := hbel.trans (hb1.mono hbel.size); clear hb1)))
        go_ret
        exact ⟨rfl, hbel⟩
  · rw [show amB m = false from decide_eq_false hm] at hv
    have HV := Lib.hid hv
    have HF : Hid (∀ (w : World), P10 w → Calls Tryd.prog 19 #[.int .i64 m] w (RetB (.string (mTB m)) w)) := Lib.hid (fun w hp => mFormat_any m w hp)
    have HP : Hid (∀ w : World, True) := Lib.hid (fun _ => trivial)
    clear hv hm
    by_cases hl : 5000 < s.size
    · have hl' : (5000 : Int) < (s.size : Int) := by omega
      clear hl
      go_enter Tryd.func7, Tryd.ntmps7
      go_wp2_with (first | (go_at_call 15; ((with_reducible refine (HV.out _).mono ?_); rintro e w' ⟨rfl, rfl⟩)) | (go_at_call 19; ((with_reducible refine (HF.out _ (HT.out.grow hbel)).mono ?_); rintro e w1 ⟨rfl, hb1⟩; replace hbel := hbel.trans (hb1.mono hbel.size); clear hb1)) | (go_at_call 17; ((with_reducible refine (HP.out _).mono ?_); rintro e w' ⟨rfl, rfl⟩)) | (go_at_call 14; ((with_reducible refine (mawake_any _ (HT.out.grow hbel)).mono ?_); rintro e w1 ⟨rfl, hb1⟩; replace hbel := hbel.trans (hb1.mono hbel.size); clear hb1)))
      go_ret
      exact ⟨rfl, hbel⟩
    · have hl' : (s.size : Int) ≤ 5000 := by omega
      have hpp := fun w => mParse_any s w (by omega)
      by_cases he : mpE s.data.toList = 0
      · have n0 := (mp_of he).2.2.2.1
        have n1 := (mp_of he).2.2.2.2
        have hb := mp_back he
        have hf2 := fun w hp => mFormat_any (mpN s.data.toList) w hp
        have e1 : mTB (mpN s.data.toList) = s := bytes_of (by rw [mTB_list, hb])
        rw [e1] at hf2
        have hv2 := fun w => Valid_any (mpN s.data.toList) w
        rw [(amB_iff _).2 ⟨n0, n1⟩] at hv2
        rw [he] at hpp
        generalize mpN s.data.toList = N at *
        have HF2 := Lib.hid hf2
        have HV2 := Lib.hid hv2
        have HPP := Lib.hid hpp
        clear hf2 hv2 hpp he hb e1 hl
        go_enter Tryd.func7, Tryd.ntmps7
        go_wp2_with (first | (go_at_call 15; ((with_reducible refine (HV.out _).mono ?_); rintro e w' ⟨rfl, rfl⟩)) | (go_at_call 19; ((with_reducible refine (HF.out _ (HT.out.grow hbel)).mono ?_); rintro e w1 ⟨rfl, hb1⟩; replace hbel := hbel.trans (hb1.mono hbel.size); clear hb1)) | (go_at_call 17; ((with_reducible refine (HP.out _).mono ?_); rintro e w' ⟨rfl, rfl⟩)) | (go_at_call 17; ((with_reducible refine (HPP.out _).mono ?_); rintro e w' ⟨rfl, rfl⟩)) | (go_at_call 19; ((with_reducible refine (HF2.out _ (HT.out.grow hbel)).mono ?_); rintro e w1 ⟨rfl, hb1⟩; replace hbel := hbel.trans (hb1.mono hbel.size); clear hb1)) | (go_at_call 15; ((with_reducible refine (HV2.out _).mono ?_); rintro e w' ⟨rfl, rfl⟩)) | (go_at_call 14; ((with_reducible refine (mawake_any _ (HT.out.grow hbel)).mono ?_); rintro e w1 ⟨rfl, hb1⟩; replace hbel := hbel.trans (hb1.mono hbel.size); clear hb1)))
        go_ret
        exact ⟨rfl, hbel⟩
      · have he1 : (mpE s.data.toList == 0) = false := by rw [beq_eq_false_iff_ne]; exact he
        generalize mpN s.data.toList = N at *
        generalize mpE s.data.toList = E at *
        have HPP := Lib.hid hpp
        clear hpp he hl
        go_enter Tryd.func7, Tryd.ntmps7
        go_wp2_with (first | (go_at_call 15; ((with_reducible refine (HV.out _).mono ?_); rintro e w' ⟨rfl, rfl⟩)) | (go_at_call 19; ((with_reducible refine (HF.out _ (HT.out.grow hbel)).mono ?_); rintro e w1 ⟨rfl, hb1⟩; replace hbel := hbel.trans (hb1.mono hbel.size); clear hb1)) | (go_at_call 17; ((with_reducible refine (HP.out _).mono ?_); rintro e w' ⟨rfl, rfl⟩)) | (go_at_call 17; ((with_reducible refine (HPP.out _).mono ?_); rintro e w' ⟨rfl, rfl⟩)) | (go_at_call 14; ((with_reducible refine (mawake_any _ (HT.out.grow hbel)).mono ?_); rintro e w1 ⟨rfl, hb1⟩; replace hbel := hbel.trans (hb1.mono hbel.size); clear hb1)))
        go_ret
        exact ⟨rfl, hbel⟩
theorem total_yes (q n r m : Int) (w : World) (h : q * n + r = m) (q0 : 0 ≤ q) (q1 : q ≤ 1000000000000) (n0 : 1 ≤ n) (n1 : n ≤ 9223372036854775807) (r0 : 0 ≤ r) (m1 : m ≤ 1000000000000) :
    Calls Tryd.prog 22 #[.int .i64 q, .int .i64 n, .int .i64 r, .int .i64 m] w (RetS (.bool true) w) := by
  have p0 : 0 ≤ q * n := Int.mul_nonneg q0 (by omega)
  have hmul := fun w => rMul_any q n w (by omega) (by omega) (by omega) (by omega)
  rw [(Num.ok_yes (n := q * n) (by omega)).1, (Num.ok_yes (n := q * n) (by omega)).2] at hmul
  have hadd := fun w => rAdd_any (q * n) r w (by omega) (by omega) (by omega) (by omega)
  rw [(Num.ok_yes (n := q * n + r) (by omega)).1, (Num.ok_yes (n := q * n + r) (by omega)).2, h] at hadd
  have HM := Lib.hid hmul
  have HA := Lib.hid hadd
  clear hmul hadd
  generalize q * n = p at *
  clear h
  go_enter Tryd.func22, Tryd.ntmps22
  go_wp2_with (first | (go_at_call 41; ((with_reducible refine (HM.out _).mono ?_); rintro e w' ⟨rfl, rfl⟩)) | (go_at_call 42; ((with_reducible refine (HA.out _).mono ?_); rintro e w' ⟨rfl, rfl⟩)))
  go_ret
  exact ⟨rfl, rfl⟩
set_option maxHeartbeats 2000000 in
set_option maxRecDepth 100000 in
theorem moneyRounds_walk (m u : Int) (W : World) (_ : (Lit.int .i64 m).wf = true) (hu : (Lit.int .i64 u).wf = true) (hp : P10 W) :
    Calls Tryd.prog 8 #[.int .i64 m, .int .i64 u] W (RetB (.bool true) W) := by
  have HT := Lib.hid hp
  have hbel := Below.refl W.heap.size W
  have hu1 := (mwf_int hu).2
  have hr := fun w => Round_any m u w
  have he := fun w => Even_any m u w hu1
  clear hp hu
  by_cases hev : evB m u
  · obtain ⟨⟨m0, m1⟩, u0⟩ := id hev
    obtain ⟨d0, d1, d2, d3, d4, d5⟩ := dm_bd m0 u0
    rw [← (ev_yes hev).1, ← (ev_yes hev).2.1, ← (ev_yes hev).2.2] at he
    have HT2 := Lib.hid (fun w => total_yes (m / u) u (m % u) m w (by omega) d0 (by omega) u0 hu1 d2 m1)
    have HE := Lib.hid he
    have hum : (m - m % u).tmod u = 0 := by rw [← d5]; exact Int.mul_tmod_left _ _
    have hun : u ≠ 0 := by omega
    have hub : (u == 0) = false := by rw [beq_eq_false_iff_ne]; omega
    have d4' : m % u < u := by omega
    by_cases hrd : rdB m u
    · rw [← (rd_yes hrd).1, ← (rd_yes hrd).2.1, ← (rd_yes hrd).2.2] at hr
      have HR := Lib.hid hr
      have HT1 := Lib.hid (fun w => total_yes (m - m % u) 1 (m % u) m w (by omega) (by omega) (by omega) (by decide) (by decide) d2 m1)
      have d6 : 0 ≤ m - m % u := by omega
      clear hr he hev hrd d5
      generalize m - m % u = A at *
      generalize m % u = R at *
      generalize m / u = Q at *
      go_enter Tryd.func8, Tryd.ntmps8
      go_wp2_with (first | (go_at_call 21; ((with_reducible refine (HR.out _).mono ?_); rintro e w1 ⟨rfl, hb1⟩; replace hbel := hbel.trans (hb1.mono hbel.size); clear hb1)) | (go_at_call 23; ((with_reducible refine (HE.out _).mono ?_); rintro e w1 ⟨rfl, hb1⟩; replace hbel := hbel.trans (hb1.mono hbel.size); clear hb1)) | (go_at_call 22; ((with_reducible refine (HT1.out _).mono ?_); rintro e w' ⟨rfl, rfl⟩)) | (go_at_call 22; ((with_reducible refine (HT2.out _).mono ?_); rintro e w' ⟨rfl, rfl⟩)) | (go_at_call 14; ((with_reducible refine (mawake_any _ (HT.out.grow hbel)).mono ?_); rintro e w1 ⟨rfl, hb1⟩; replace hbel := hbel.trans (hb1.mono hbel.size); clear hb1)))
      go_ret
      exact ⟨rfl, hbel⟩
    · rw [← (rd_no hrd).1, ← (rd_no hrd).2.1, ← (rd_no hrd).2.2] at hr
      have HR := Lib.hid hr
      clear hr he hev hrd d5
      generalize m % u = R at *
      generalize m / u = Q at *
      go_enter Tryd.func8, Tryd.ntmps8
      go_wp2_with (first | (go_at_call 21; ((with_reducible refine (HR.out _).mono ?_); rintro e w1 ⟨rfl, hb1⟩; replace hbel := hbel.trans (hb1.mono hbel.size); clear hb1)) | (go_at_call 23; ((with_reducible refine (HE.out _).mono ?_); rintro e w1 ⟨rfl, hb1⟩; replace hbel := hbel.trans (hb1.mono hbel.size); clear hb1)) | (go_at_call 22; ((with_reducible refine (HT2.out _).mono ?_); rintro e w' ⟨rfl, rfl⟩)) | (go_at_call 14; ((with_reducible refine (mawake_any _ (HT.out.grow hbel)).mono ?_); rintro e w1 ⟨rfl, hb1⟩; replace hbel := hbel.trans (hb1.mono hbel.size); clear hb1)))
      go_ret
      exact ⟨rfl, hbel⟩
  · have hrd : ¬ rdB m u := fun h => hev ⟨h.1, h.2.1⟩
    rw [← (ev_no hev).1, ← (ev_no hev).2.1, ← (ev_no hev).2.2] at he
    rw [← (rd_no hrd).1, ← (rd_no hrd).2.1, ← (rd_no hrd).2.2] at hr
    have HR := Lib.hid hr
    have HE := Lib.hid he
    clear hr he hev hrd
    go_enter Tryd.func8, Tryd.ntmps8
    go_wp2_with (first | (go_at_call 21; ((with_reducible refine (HR.out _).mono ?_); rintro e w1 ⟨rfl, hb1⟩; replace hbel := hbel.trans (hb1.mono hbel.size); clear hb1)) | (go_at_call 23; ((with_reducible refine (HE.out _).mono ?_); rintro e w1 ⟨rfl, hb1⟩; replace hbel := hbel.trans (hb1.mono hbel.size); clear hb1)) | fail | (go_at_call 14; ((with_reducible refine (mawake_any _ (HT.out.grow hbel)).mono ?_); rintro e w1 ⟨rfl, hb1⟩; replace hbel := hbel.trans (hb1.mono hbel.size); clear hb1)))
    go_ret
    exact ⟨rfl, hbel⟩
end Go.Proofs.YtkpmbkkhdhjbnaaDoor
