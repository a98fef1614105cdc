/- The laws NumParses and NumFormats: a text that is accepted is the decimal number of its value, and a decimal number, parsed, is the number. -/
import Derived.Test.YtgloiddnbppblaaDoorNumu
namespace Go.Lott.Num
open Go.Lib
theorem neg_list {l : List UInt8} (h : ngB l = true) : l = 45 :: l.drop 1 := by
  have h2 : 0 < l.length ∧ bl l 0 = 45 := of_decide_eq_true h
  cases l with
  | nil => simp at h2
  | cons a t =>
    have h3 : (a.toNat : Int) = 45 := h2.2
    have : a = 45 := by apply UInt8.toNat.inj; show a.toNat = 45; omega
    rw [this]; rfl
theorem nv_one {t : List UInt8} (hd : decB t = true) (hz : t ≠ [48]) : 1 ≤ nv t t.length := by
  have n0 := nv_step ((decB_iff _).1 hd).2 _ (Nat.le_refl _)
  rcases Int.lt_or_le 0 (nv t t.length) with c | c
  · exact c
  · exfalso
    have := dec_nv hd
    rw [show (nv t t.length).toNat = 0 by omega, decDigits_one (by omega)] at this
    exact hz this.symm
/-- A text that is accepted is the decimal number of its value. -/
theorem par_back {l : List UInt8} (h : parE l = 0) : itoa (parN l) = l := by
  cases hok : okL l with
  | false => have := (par_bad hok).2; omega
  | true =>
    by_cases hr : -9223372036854775808 ≤ svL l ∧ svL l ≤ 9223372036854775807
    · rw [← (par_fine hok hr).1]
      cases hn : ngB l with
      | false =>
        rw [okL_pos hn] at hok
        rw [svL_pos hn]
        have n0 := nv_step ((decB_iff _).1 hok).2 _ (Nat.le_refl _)
        unfold itoa
        rw [if_neg (by omega)]; exact dec_nv hok
      | true =>
        rw [okL_neg hn, Bool.and_eq_true, Bool.not_eq_true', decide_eq_false_iff_not] at hok
        have n1 := nv_one hok.1 hok.2
        rw [svL_neg hn]
        unfold itoa
        rw [if_pos (by omega), show (-nv (l.drop 1) (l.drop 1).length).natAbs = (nv (l.drop 1) (l.drop 1).length).toNat by omega, dec_nv hok.1]
        exact (neg_list hn).symm
    · have := (par_over hok hr).2; omega
theorem itoa_par {n : Int} (h0 : -9223372036854775808 ≤ n) (h1 : n ≤ 9223372036854775807) : parN (itoa n) = n ∧ parE (itoa n) = 0 := by
  by_cases hn : n < 0
  · obtain ⟨d1, d2, d3⟩ := dec_back n.natAbs
    have e : itoa n = 45 :: decDigits n.natAbs := by unfold itoa; rw [if_pos hn]
    rw [e]
    have hg : ngB (45 :: decDigits n.natAbs) = true := decide_eq_true ⟨by simp, rfl⟩
    have hz : decDigits n.natAbs ≠ [48] := fun c => d3 (by omega) (by rw [c]; rfl)
    have hok : okL (45 :: decDigits n.natAbs) = true := by rw [okL_neg hg]; simp [d1, hz]
    have hs : svL (45 :: decDigits n.natAbs) = n := by rw [svL_neg hg, List.drop_one, List.tail_cons, d2]; omega
    have := par_fine hok (by rw [hs]; omega)
    rw [hs] at this
    exact ⟨this.1.symm, this.2.symm⟩
  · obtain ⟨d1, d2, d3⟩ := dec_back n.toNat
    have e : itoa n = decDigits n.toNat := by unfold itoa; rw [if_neg hn]
    rw [e]
    have hg : ngB (decDigits n.toNat) = false := by
      refine decide_eq_false fun c => ?_
      have := ((decB_iff _).1 d1).2 0 c.1
      have := c.2
      omega
    have hok : okL (decDigits n.toNat) = true := by rw [okL_pos hg]; exact d1
    have hs : svL (decDigits n.toNat) = n := by rw [svL_pos hg, d2]; omega
    have := par_fine hok (by rw [hs]; omega)
    rw [hs] at this
    exact ⟨this.1.symm, this.2.symm⟩
theorem dec_short : ∀ (k N : Nat), N < 10 ^ (k + 1) → (decDigits N).length ≤ k + 1
  | 0, N, h => by rw [decDigits_one (by simpa using h)]; simp
  | k + 1, N, h => by
    by_cases c : N < 10
    · rw [decDigits_one c]; simp
    · rw [decDigits, dif_neg c, List.length_append]
      have := dec_short k (N / 10) (by rw [Nat.pow_succ] at h; omega)
      simp; omega
theorem itoa_short {n : Int} (h0 : -9223372036854775808 ≤ n) (h1 : n ≤ 9223372036854775807) : (itoa n).length ≤ 20 := by
  have e : (10 : Nat) ^ 19 = 10000000000000000000 := rfl
  unfold itoa
  split
  · have := dec_short 18 n.natAbs (by show _ < 10 ^ 19; omega)
    simp; omega
  · have := dec_short 18 n.toNat (by show _ < 10 ^ 19; omega)
    omega
end Go.Lott.Num
namespace Go.Proofs.YtgloiddnbppblaaDoor
open Go.ChangeShapes Go.WideShapes Go.ChangeAt Go.RowKit Go.Lott

theorem itB_list (n : Int) : (itB n).data.toList = Lib.itoa n := by simp [itB]
theorem itB_size {n : Int} (h0 : -9223372036854775808 ≤ n) (h1 : n ≤ 9223372036854775807) : (itB n).size ≤ 20 := by
  have := Num.itoa_short h0 h1
  rw [← itB_list, len_eq] at this; exact this
theorem itB_back {s : ByteArray} (h : Num.parE s.data.toList = 0) : itB (Num.parN s.data.toList) = s := bytes_of (by rw [itB_list]; exact Num.par_back h)
theorem okN_bd (n : Int) : -9223372036854775808 ≤ Num.okN n ∧ Num.okN n ≤ 9223372036854775807 := by
  rcases @nok n with ⟨_, h2, h3, h4⟩ | ⟨_, h2⟩
  · rw [h2]; exact ⟨h3, h4⟩
  · rw [h2]; omega
theorem parN_bd (l : List UInt8) : -9223372036854775808 ≤ Num.parN l ∧ Num.parN l ≤ 9223372036854775807 := by
  unfold Num.parN
  split
  · exact okN_bd _
  · omega
set_option maxHeartbeats 2000000 in
theorem numParses_walk (s : ByteArray) (W : World) (hs : s.size ≤ maxLen) (hp : P10 W) : Calls Tryd.prog 12 #[.string s] W (RetB (.bool true) W) := by
  unfold maxLen at hs
  have hbel := Below.refl W.heap.size W
  have HT := Lib.hid hp
  clear hp
  have hP := fun w => Parse_u s w hs
  have hR := fun w => rParse_u s w hs
  obtain ⟨n0, n1⟩ := parN_bd s.data.toList
  by_cases he : Num.parE s.data.toList = 0
  · have hF := fun w => Format_any (Num.parN s.data.toList) w n0 n1
    rw [itB_back he] at hF
    rw [he] at hP hR
    generalize Num.parN s.data.toList = n at *
    have HP := Lib.hid hP
    have HR := Lib.hid hR
    have HF := Lib.hid hF
    clear hP hR hF he
    go_enter Tryd.func12, Tryd.ntmps12
    go_wp2_with (first | (go_at_call 35; ((with_reducible refine (HP.out _).mono ?_); rintro e w' ⟨rfl, rfl⟩)) | (go_at_call 36; ((with_reducible refine (HR.out _).mono ?_); rintro e w' ⟨rfl, rfl⟩)) | (go_at_call 37; ((with_reducible refine (HF.out _ (HT.out.grow hbel)).mono ?_); rintro e w1 ⟨rfl, hb1⟩; replace hbel := hbel.trans (hb1.mono hbel.size); clear hb1)) | (go_at_call 27; ((with_reducible refine (awake_any _ (HT.out.grow hbel)).mono ?_); rintro e w1 ⟨rfl, hb1⟩; replace hbel := hbel.trans (hb1.mono hbel.size); clear hb1)))
    go_ret
    exact ⟨rfl, hbel⟩
  · have he1 : (Num.parE s.data.toList != 0) = true := by rw [bne_iff_ne]; exact he
    generalize Num.parE s.data.toList = e at *
    have HP := Lib.hid hP
    have HR := Lib.hid hR
    clear hP hR he
    go_enter Tryd.func12, Tryd.ntmps12
    go_wp2_with (first | (go_at_call 35; ((with_reducible refine (HP.out _).mono ?_); rintro e w' ⟨rfl, rfl⟩)) | (go_at_call 36; ((with_reducible refine (HR.out _).mono ?_); rintro e w' ⟨rfl, rfl⟩)) | (go_at_call 27; ((with_reducible refine (awake_any _ (HT.out.grow hbel)).mono ?_); rintro e w1 ⟨rfl, hb1⟩; replace hbel := hbel.trans (hb1.mono hbel.size); clear hb1)))
    go_ret
    exact ⟨rfl, hbel⟩
set_option maxHeartbeats 2000000 in
theorem numFormats_walk (n : Int) (W : World) (hn : (Lit.int .i64 n).wf = true) (hp : P10 W) : Calls Tryd.prog 13 #[.int .i64 n] W (RetB (.bool true) W) := by
  have hbel := Below.refl W.heap.size W
  have HT := Lib.hid hp
  obtain ⟨n0, n1⟩ := wf_int hn
  have hz := itB_size n0 n1
  have hP := fun w => Parse_u (itB n) w (by omega)
  rw [itB_list, (Num.itoa_par n0 n1).1, (Num.itoa_par n0 n1).2] at hP
  have HF := Lib.hid (fun w => Format_any n w n0 n1)
  have HR := Lib.hid (fun w => rFormat_any n w n0 n1)
  generalize itB n = s at *
  have HP := Lib.hid hP
  clear hp hn hP
  go_enter Tryd.func13, Tryd.ntmps13
  go_wp2_with (first | (go_at_call 35; ((with_reducible refine (HP.out _).mono ?_); rintro e w' ⟨rfl, rfl⟩)) | (go_at_call 38; ((with_reducible refine (HR.out _).mono ?_); rintro e w1 ⟨rfl, hb1⟩; replace hbel := hbel.trans (hb1.mono hbel.size); clear hb1)) | (go_at_call 37; ((with_reducible refine (HF.out _ (HT.out.grow hbel)).mono ?_); rintro e w1 ⟨rfl, hb1⟩; replace hbel := hbel.trans (hb1.mono hbel.size); clear hb1)) | (go_at_call 27; ((with_reducible refine (awake_any _ (HT.out.grow hbel)).mono ?_); rintro e w1 ⟨rfl, hb1⟩; replace hbel := hbel.trans (hb1.mono hbel.size); clear hb1)))
  go_ret
  exact ⟨rfl, hbel⟩
end Go.Proofs.YtgloiddnbppblaaDoor
