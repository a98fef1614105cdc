/- Ticket numbers: digits and check of the reference; Make of both. -/
import Derived.Test.YtgloiddnbppblaaDoorTka
namespace Go.Proofs.YtgloiddnbppblaaDoor
open Go.ChangeShapes Go.WideShapes Go.ChangeAt Go.RowKit Go.Lott

/-- What is left to lay is in front of what is laid. -/
def DI (w N k Z : Nat) (b : ByteArray) : Prop := Num.padR (w - k) Z ++ b.data.toList = Num.padR w N
theorem DI.next {w N k Z : Nat} {b : ByteArray} (h : DI w N k Z b) (hk : k < w) : DI w N (k + 1) (Z / 10) (strOfNums [48 + (Z : Int) % 10] ++ b) := by
  unfold DI at *
  rw [← h, ByteArray.data_append, Array.toList_append, one_list, ← List.append_assoc]
  congr 1
  rw [show w - k = (w - (k + 1)) + 1 by omega]
  rfl
theorem DI.done {w N Z : Nat} {b : ByteArray} (h : DI w N w Z b) : b = bsL (Num.padR w N) := by
  refine bytes_of ?_
  unfold DI at h
  rw [Nat.sub_self] at h
  rw [bsL_list, ← h]; rfl
set_option maxHeartbeats 1000000 in
theorem trDigits_any (n wd : Int) (w : World) (h0 : 0 ≤ n) (h1 : n ≤ 9223372036854775807) (w0 : 0 ≤ wd) (w1 : wd ≤ 10) : Calls Tryd.prog 45 #[.int .i64 n, .int .i64 wd] w (RetB (.string (bsL (Num.padR wd.toNat n.toNat))) w) := by
  obtain ⟨N, rfl⟩ := Int.eq_ofNat_of_zero_le h0
  obtain ⟨D, rfl⟩ := Int.eq_ofNat_of_zero_le w0
  rw [Int.toNat_natCast, Int.toNat_natCast]
  have hcv := conv1
  have hs1 := strOne_size
  go_enter Tryd.func45, Tryd.ntmps45
  go_wp2
  go_loopw [0, 5, 6] (fun u s i wr => ∃ (k Z : Nat) (b : ByteArray), u = .int .i64 (Z : Int) ∧ s = .string b ∧ i = .int .i64 (k : Int) ∧ k ≤ D ∧ (Z : Int) ≤ 9223372036854775807 ∧ b.size ≤ k ∧ DI D N k Z b ∧ Below w.heap.size w wr) (fun _ _ i _ => D - (intOf i).toNat)
  case atStart => exact ⟨0, N, ⟨#[]⟩, rfl, rfl, rfl, by omega, h1, by simp [ByteArray.size], by simp [DI], Below.refl _ _⟩
  case round =>
    obtain ⟨k, Z, b, rfl, rfl, rfl, hk, hZ, hbz, hF, hb⟩ := hrel
    have hbs := hb.size
    by_cases hlt : k < D
    · have HF := Lib.hid hF
      clear hF
      go_wp2
      go_roundw
      case rel => exact ⟨k + 1, Z / 10, _, by go_num, rfl, by go_num, by omega, by omega, by rw [ByteArray.size_append, hs1]; omega, HF.out.next hlt, hb.alloc hbs _⟩
      case measure => simp [intOf]; omega
    · obtain rfl : k = D := by omega
      have HV := Lib.hid hF.done
      clear hF
      go_wp2
      go_ret
      exact ⟨ret_str HV.out, hb⟩
set_option maxHeartbeats 1000000 in
theorem trCheck_any (s : ByteArray) (w : World) (hd : Num.Digs s.data.toList 0 12) (hs : s.size = 12) : Calls Tryd.prog 46 #[.string s] w (RetB (.string (bsL (Num.padR 2 (Num.chkI s.data.toList).toNat))) w) := by
  have hN := fun w => trNumber_any s w (by rw [hs]; exact hd) (by omega)
  rw [hs] at hN
  obtain ⟨d0, d1⟩ := dv_12 hd (by omega) 12 (by omega)
  have hC : ∀ c : Int, 2 ≤ c → c ≤ 98 → ((100 * Num.dv s.data.toList 0 12 + c) % 97 = 1 ↔ c = Num.chkI s.data.toList) := fun c c1 c2 => Num.chk_iff _ c1 c2
  have hb := Num.chkI_bd s.data.toList
  generalize Num.dv s.data.toList 0 12 = D at *
  generalize Num.chkI s.data.toList = C at *
  obtain ⟨C0, C1⟩ := hb
  have HN := Lib.hid hN
  have HC := Lib.hid hC
  clear hN hC hd hs
  go_enter Tryd.func46, Tryd.ntmps46
  go_wp2
  go_loopw [3] (fun i wr => ∃ c : Int, i = .int .i64 c ∧ 2 ≤ c ∧ c ≤ C ∧ Below w.heap.size w wr) (fun i _ => (98 - intOf i).toNat)
  case atStart => exact ⟨2, rfl, by omega, C0, Below.refl _ _⟩
  case round =>
    obtain ⟨c, rfl, c0, c1, hbel⟩ := hrel
    by_cases h : c = C
    · subst h
      have ht : ((100 * D + c) % 97 == 1) = true := by rw [beq_iff_eq]; exact (HC.out c c0 C1).2 rfl
      go_wp2_with (first | (go_at_call 58; refine (HN.out _).mono ?_; rintro e w' ⟨rfl, rfl⟩) | (go_at_call 45; refine (trDigits_any _ 2 _ (by omega) (by omega) (by omega) (by omega)).mono ?_; rintro e w1 ⟨rfl, hb1⟩; replace hbel := hbel.trans (hb1.mono hbel.size); clear hb1))
      go_ret
      exact ⟨rfl, hbel⟩
    · have ht : ((100 * D + c) % 97 == 1) = false := by rw [beq_eq_false_iff_ne]; exact fun e => h ((HC.out c c0 (by omega)).1 e)
      go_wp2_with (first | (go_at_call 58; refine (HN.out _).mono ?_; rintro e w' ⟨rfl, rfl⟩))
      go_roundw
      case rel => exact ⟨c + 1, rfl, by omega, by omega, hbel⟩
      case measure => simp [intOf]; omega
/-- The number of a ticket, and its error. -/
def mkB (t q : Int) : ByteArray := if Num.tkV t q then bsL (Num.mkL t q) else ⟨#[]⟩
def mkE (t q : Int) : Int := if Num.tkV t q then 0 else 2
theorem mk_yes {t q : Int} (h : Num.tkV t q = true) : mkB t q = bsL (Num.mkL t q) ∧ mkE t q = 0 := by unfold mkB mkE; rw [h]; exact ⟨rfl, rfl⟩
theorem mk_no {t q : Int} (h : Num.tkV t q = false) : mkB t q = ⟨#[]⟩ ∧ mkE t q = 2 := by unfold mkB mkE; rw [h]; exact ⟨rfl, rfl⟩
theorem ret_si {k : IntKind} {a a' : ByteArray} {b b' : Int} (h : a = a') (h' : b = b') : Ending.returned (.tuple #[.string a, .int k b]) = .returned (.tuple #[.string a', .int k b']) := by rw [h, h']
theorem bs_app (l m : List UInt8) : bsL l ++ bsL m = bsL (l ++ m) := bytes_of (by rw [ByteArray.data_append, Array.toList_append, bsL_list, bsL_list, bsL_list])
set_option maxHeartbeats 1000000 in
theorem tMake_any (t q : Int) (w : World) (ht : P10W w) : Calls Tryd.prog 18 #[.int .i64 t, .int .i64 q] w (RetB (.tuple #[.string (mkB t q), .int .i64 (mkE t q)]) w) := by
  have hbel := Below.refl w.heap.size w
  have HT := Lib.hid ht
  clear ht
  cases hv : Num.tkV t q with
  | false =>
    have HV := Lib.hid (mk_no hv)
    have hc := tvalid_any t q
    rw [hv] at hc
    have HC := Lib.hid hc
    clear hc hv
    go_enter Tryd.func18, Tryd.ntmps18
    go_wp2_with (first | (go_at_call 42; refine (HC.out _).mono ?_; rintro e w' ⟨rfl, rfl⟩))
    go_ret2
    exact ⟨ret_si HV.out.1.symm HV.out.2.symm, hbel⟩
  | true =>
    have HV := Lib.hid (mk_yes hv)
    have hc := tvalid_any t q
    rw [hv] at hc
    have HC := Lib.hid hc
    obtain ⟨t1, t2, q1, q2⟩ := (Num.tkV_iff t q).1 hv
    have hb := (Num.mk_parts hv).1
    have hp2 := fun w h => pad2_any t w (by omega) (by omega) h
    have hp10 := fun w h => pad10_any q w (by omega) (by omega) h
    have hbe : bsL (Num.padR 2 t.toNat) ++ bsL (Num.padR 10 q.toNat) = bsL (Num.bodyL t q) := bs_app _ _
    have hbz : (bsL (Num.bodyL t q)).size = 12 := by rw [bsL_size, Num.body_len]
    have z2 : (bsL (Num.padR 2 t.toNat)).size = 2 := by rw [bsL_size, Num.padR_len]
    have z10 : (bsL (Num.padR 10 q.toNat)).size = 10 := by rw [bsL_size, Num.padR_len]
    have hk := fun w h => tCheck_any (bsL (Num.bodyL t q)) w (by rw [bsL_list]; exact hb) (by omega) h
    rw [bsL_list] at hk
    have hcb := Num.chkI_bd (Num.bodyL t q)
    have hp3 := fun w h => pad2_any (Num.chkI (Num.bodyL t q)) w (by omega) (by omega) h
    have z3 : (bsL (Num.padR 2 (Num.chkI (Num.bodyL t q)).toNat)).size = 2 := by rw [bsL_size, Num.padR_len]
    have hfin : bsL (Num.bodyL t q) ++ bsL (Num.padR 2 (Num.chkI (Num.bodyL t q)).toNat) = bsL (Num.mkL t q) := bs_app _ _
    generalize Num.chkI (Num.bodyL t q) = C at *
    generalize bsL (Num.padR 2 C.toNat) = b3 at *
    generalize bsL (Num.bodyL t q) = b0 at *
    generalize bsL (Num.padR 2 t.toNat) = b1 at *
    generalize bsL (Num.padR 10 q.toNat) = b2 at *
    have HP2 := Lib.hid hp2
    have HP10 := Lib.hid hp10
    have HP3 := Lib.hid hp3
    have HK := Lib.hid hk
    have HF := Lib.hid (hfin.trans HV.out.1.symm)
    have c1 : b1.size ≤ 2 := by omega
    have c2 : b2.size ≤ 10 := by omega
    have c3 : b3.size ≤ 2 := by omega
    have c0 : b0.size ≤ 12 := by omega
    clear hp2 hp10 hp3 hk hb hc hv hcb hfin hbz z2 z10 z3
    go_enter Tryd.func18, Tryd.ntmps18
    go_wp2_with (first | (go_at_call 42; refine (HC.out _).mono ?_; rintro e w' ⟨rfl, rfl⟩) | (go_at_call 43; ((with_reducible refine (HP2.out _ (HT.out.grow hbel).p).mono ?_); rintro e w1 ⟨rfl, hb1⟩; replace hbel := hbel.trans (hb1.mono hbel.size); clear hb1)) | (go_at_call 43; ((with_reducible refine (HP10.out _ (HT.out.grow hbel).p).mono ?_); rintro e w1 ⟨rfl, hb1⟩; replace hbel := hbel.trans (hb1.mono hbel.size); clear hb1)) | (go_at_call 44; ((with_reducible refine (HK.out _ (HT.out.grow hbel).q).mono ?_); rintro e w' ⟨rfl, rfl⟩)) | (go_at_call 43; ((with_reducible refine (HP3.out _ (HT.out.grow hbel).p).mono ?_); rintro e w1 ⟨rfl, hb1⟩; replace hbel := hbel.trans (hb1.mono hbel.size); clear hb1)))
    go_ret2
    exact ⟨ret_si HF.out HV.out.2.symm, hbel⟩
set_option maxHeartbeats 1000000 in
theorem trMake_any (t q : Int) (w : World) : Calls Tryd.prog 19 #[.int .i64 t, .int .i64 q] w (RetB (.tuple #[.string (mkB t q), .int .i64 (mkE t q)]) w) := by
  have hbel := Below.refl w.heap.size w
  by_cases a : 1 ≤ t
  · by_cases b : t ≤ 32
    · by_cases c : 1 ≤ q
      · by_cases d : q ≤ 1048576
        · have hv := (Num.tkV_iff t q).2 ⟨a, b, c, d⟩
          have HV := Lib.hid (mk_yes hv)
          have hb := (Num.mk_parts hv).1
          have hp2 := fun w => trDigits_any t 2 w (by omega) (by omega) (by omega) (by omega)
          have hp10 := fun w => trDigits_any q 10 w (by omega) (by omega) (by omega) (by omega)
          rw [show (2 : Int).toNat = 2 from rfl] at hp2
          rw [show (10 : Int).toNat = 10 from rfl] at hp10
          have hbe : bsL (Num.padR 2 t.toNat) ++ bsL (Num.padR 10 q.toNat) = bsL (Num.bodyL t q) := bs_app _ _
          have hbz : (bsL (Num.bodyL t q)).size = 12 := by rw [bsL_size, Num.body_len]
          have z2 : (bsL (Num.padR 2 t.toNat)).size = 2 := by rw [bsL_size, Num.padR_len]
          have z10 : (bsL (Num.padR 10 q.toNat)).size = 10 := by rw [bsL_size, Num.padR_len]
          have hk := fun w => trCheck_any (bsL (Num.bodyL t q)) w (by rw [bsL_list]; exact hb) hbz
          rw [bsL_list] at hk
          have z3 : (bsL (Num.padR 2 (Num.chkI (Num.bodyL t q)).toNat)).size = 2 := by rw [bsL_size, Num.padR_len]
          have hfin : bsL (Num.bodyL t q) ++ bsL (Num.padR 2 (Num.chkI (Num.bodyL t q)).toNat) = bsL (Num.mkL t q) := bs_app _ _
          generalize bsL (Num.padR 2 (Num.chkI (Num.bodyL t q)).toNat) = b3 at *
          generalize bsL (Num.bodyL t q) = b0 at *
          generalize bsL (Num.padR 2 t.toNat) = b1 at *
          generalize bsL (Num.padR 10 q.toNat) = b2 at *
          have HP2 := Lib.hid hp2
          have HP10 := Lib.hid hp10
          have HK := Lib.hid hk
          have HF := Lib.hid (hfin.trans HV.out.1.symm)
          have c1 : b1.size ≤ 2 := by omega
          have c2 : b2.size ≤ 10 := by omega
          have c3 : b3.size ≤ 2 := by omega
          have c0 : b0.size ≤ 12 := by omega
          clear hp2 hp10 hk hb hv hfin hbz z2 z10 z3
          go_enter Tryd.func19, Tryd.ntmps19
          go_wp2_with (first | (go_at_call 45; ((with_reducible refine (HP2.out _).mono ?_); rintro e w1 ⟨rfl, hb1⟩; replace hbel := hbel.trans (hb1.mono hbel.size); clear hb1)) | (go_at_call 45; ((with_reducible refine (HP10.out _).mono ?_); rintro e w1 ⟨rfl, hb1⟩; replace hbel := hbel.trans (hb1.mono hbel.size); clear hb1)) | (go_at_call 46; ((with_reducible refine (HK.out _).mono ?_); rintro e w1 ⟨rfl, hb1⟩; replace hbel := hbel.trans (hb1.mono hbel.size); clear hb1)))
          go_ret2
          exact ⟨ret_si HF.out HV.out.2.symm, hbel⟩
        · have HV := Lib.hid (mk_no (show Num.tkV t q = false from decide_eq_false (by omega)))
          go_enter Tryd.func19, Tryd.ntmps19
          go_wp2
          go_ret2
          exact ⟨ret_si HV.out.1.symm HV.out.2.symm, hbel⟩
      · have HV := Lib.hid (mk_no (show Num.tkV t q = false from decide_eq_false (by omega)))
        go_enter Tryd.func19, Tryd.ntmps19
        go_wp2
        go_ret2
        exact ⟨ret_si HV.out.1.symm HV.out.2.symm, hbel⟩
    · have HV := Lib.hid (mk_no (show Num.tkV t q = false from decide_eq_false (by omega)))
      go_enter Tryd.func19, Tryd.ntmps19
      go_wp2
      go_ret2
      exact ⟨ret_si HV.out.1.symm HV.out.2.symm, hbel⟩
  · have HV := Lib.hid (mk_no (show Num.tkV t q = false from decide_eq_false (by omega)))
    go_enter Tryd.func19, Tryd.ntmps19
    go_wp2
    go_ret2
    exact ⟨ret_si HV.out.1.symm HV.out.2.symm, hbel⟩
theorem mkB_11 : mkB 1 1 = ⟨#[48, 49, 48, 48, 48, 48, 48, 48, 48, 48, 48, 49, 52, 53]⟩ := by decide +kernel
theorem tLives_any (w : World) (ht : P10W w) : Calls Tryd.prog 20 #[] w (RetB (.bool true) w) := by
  have hbel := Below.refl w.heap.size w
  have hm := fun w h => tMake_any 1 1 w h
  rw [mkB_11, (show mkE 1 1 = 0 by decide)] at hm
  have HM := Lib.hid hm
  have HT := Lib.hid ht
  clear hm ht
  go_enter Tryd.func20, Tryd.ntmps20
  go_wp2_with (go_at_call 18; refine (HM.out _ (HT.out.grow hbel)).mono ?_; rintro e w1 ⟨rfl, hb1⟩; replace hbel := hbel.trans (hb1.mono hbel.size); clear hb1)
  go_ret
  exact ⟨rfl, hbel⟩
end Go.Proofs.YtgloiddnbppblaaDoor
