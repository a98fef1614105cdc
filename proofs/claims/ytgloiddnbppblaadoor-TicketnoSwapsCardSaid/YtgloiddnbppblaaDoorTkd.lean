/- The laws TicketnoMakes, TicketnoParses, TicketnoInverts, TicketnoDiffers: the walks of their own texts. -/
import Derived.Test.YtgloiddnbppblaaDoorTkc
namespace Go.Proofs.YtgloiddnbppblaaDoor
open Go.ChangeShapes Go.WideShapes Go.ChangeAt Go.RowKit Go.Lott

theorem tParse_u (s : ByteArray) (w : World) (hw : Wts w) : Calls Tryd.prog 39 #[.string s] w (RetB (.tuple #[.int .i64 (Num.tkT s.data.toList), .int .i64 (Num.tkS s.data.toList), .int .i64 (Num.tkE s.data.toList)]) w) := tParse_any s w hw
theorem trParse_u (s : ByteArray) (w : World) : Calls Tryd.prog 40 #[.string s] w (RetB (.tuple #[.int .i64 (Num.tkT s.data.toList), .int .i64 (Num.tkS s.data.toList), .int .i64 (Num.tkE s.data.toList)]) w) := trParse_any s w
set_option maxHeartbeats 2000000 in
theorem ticketnoMakes_walk (t q : Int) (W : World) (_ : (Lit.int .i64 t).wf = true) (_ : (Lit.int .i64 q).wf = true) (hp : P10W W) : Calls Tryd.prog 3 #[.int .i64 t, .int .i64 q] W (RetB (.bool true) W) := by
  have hbel := Below.refl W.heap.size W
  have HT := Lib.hid hp
  clear hp
  have HM := Lib.hid (fun w h => tMake_any t q w h)
  have HR := Lib.hid (fun w => trMake_any t q w)
  generalize mkB t q = b at *
  generalize mkE t q = e at *
  go_enter Tryd.func3, Tryd.ntmps3
  go_wp2_with (first | (go_at_call 18; ((with_reducible refine (HM.out _ (HT.out.grow hbel)).mono ?_); rintro e w1 ⟨rfl, hb1⟩; replace hbel := hbel.trans (hb1.mono hbel.size); clear hb1)) | (go_at_call 19; ((with_reducible refine (HR.out _).mono ?_); rintro e w1 ⟨rfl, hb1⟩; replace hbel := hbel.trans (hb1.mono hbel.size); clear hb1)) | (go_at_call 20; ((with_reducible refine (tLives_any _ (HT.out.grow hbel)).mono ?_); rintro e w1 ⟨rfl, hb1⟩; replace hbel := hbel.trans (hb1.mono hbel.size); clear hb1)))
  go_ret
  exact ⟨rfl, hbel⟩
set_option maxHeartbeats 2000000 in
theorem ticketnoParses_walk (s : ByteArray) (W : World) (_ : s.size ≤ maxLen) (hp : P10W W) : Calls Tryd.prog 15 #[.string s] W (RetB (.bool true) W) := by
  have hbel := Below.refl W.heap.size W
  have HT := Lib.hid hp
  clear hp
  have hP := fun w h => tParse_u s w h
  have hR := fun w => trParse_u s w
  have hV := fun w h => tValid_any s w h
  generalize Num.tkT s.data.toList = x at *
  generalize Num.tkS s.data.toList = y at *
  by_cases he : Num.tkE s.data.toList = 0
  · rw [decide_eq_true he] at hV
    rw [he] at hP hR
    have HP := Lib.hid hP
    have HR := Lib.hid hR
    have HV := Lib.hid hV
    clear hP hR hV he
    go_enter Tryd.func15, Tryd.ntmps15
    go_wp2_with (first | (go_at_call 39; ((with_reducible refine (HP.out _ (HT.out.grow hbel).q).mono ?_); rintro e w1 ⟨rfl, hb1⟩; replace hbel := hbel.trans (hb1.mono hbel.size); clear hb1)) | (go_at_call 40; ((with_reducible refine (HR.out _).mono ?_); rintro e w1 ⟨rfl, hb1⟩; replace hbel := hbel.trans (hb1.mono hbel.size); clear hb1)) | (go_at_call 41; ((with_reducible refine (HV.out _ (HT.out.grow hbel).q).mono ?_); rintro e w1 ⟨rfl, hb1⟩; replace hbel := hbel.trans (hb1.mono hbel.size); clear hb1)) | (go_at_call 20; ((with_reducible refine (tLives_any _ (HT.out.grow hbel)).mono ?_); rintro e w1 ⟨rfl, hb1⟩; replace hbel := hbel.trans (hb1.mono hbel.size); clear hb1)))
    go_ret
    exact ⟨rfl, hbel⟩
  · rw [decide_eq_false he] at hV
    have he2 : (Num.tkE s.data.toList == 0) = false := by rw [beq_eq_false_iff_ne]; exact he
    generalize Num.tkE s.data.toList = e at *
    have HP := Lib.hid hP
    have HR := Lib.hid hR
    have HV := Lib.hid hV
    clear hP hR hV he
    go_enter Tryd.func15, Tryd.ntmps15
    go_wp2_with (first | (go_at_call 39; ((with_reducible refine (HP.out _ (HT.out.grow hbel).q).mono ?_); rintro e w1 ⟨rfl, hb1⟩; replace hbel := hbel.trans (hb1.mono hbel.size); clear hb1)) | (go_at_call 40; ((with_reducible refine (HR.out _).mono ?_); rintro e w1 ⟨rfl, hb1⟩; replace hbel := hbel.trans (hb1.mono hbel.size); clear hb1)) | (go_at_call 41; ((with_reducible refine (HV.out _ (HT.out.grow hbel).q).mono ?_); rintro e w1 ⟨rfl, hb1⟩; replace hbel := hbel.trans (hb1.mono hbel.size); clear hb1)) | (go_at_call 20; ((with_reducible refine (tLives_any _ (HT.out.grow hbel)).mono ?_); rintro e w1 ⟨rfl, hb1⟩; replace hbel := hbel.trans (hb1.mono hbel.size); clear hb1)))
    go_ret
    exact ⟨rfl, hbel⟩
theorem mkB_size (t q : Int) : (mkB t q).size ≤ 14 := by
  unfold mkB
  split
  · rw [bsL_size, Num.mk_len]; exact Nat.le_refl _
  · simp [ByteArray.size]
/-- Make inverts Parse. -/
theorem mk_inv {s : ByteArray} (h : Num.tkE s.data.toList = 0) : mkB (Num.tkT s.data.toList) (Num.tkS s.data.toList) = s ∧ mkE (Num.tkT s.data.toList) (Num.tkS s.data.toList) = 0 := by
  obtain ⟨h1, h2⟩ := Num.mk_back h
  obtain ⟨h3, h4⟩ := mk_yes h2
  rw [h3, h4, h1]
  exact ⟨bytes_of (bsL_list _), rfl⟩
set_option maxHeartbeats 4000000 in
theorem ticketnoInverts_walk (t q : Int) (s : ByteArray) (W : World) (_ : (Lit.int .i64 t).wf = true) (_ : (Lit.int .i64 q).wf = true) (_ : s.size ≤ maxLen) (hp : P10W W) : Calls Tryd.prog 14 #[.int .i64 t, .int .i64 q, .string s] W (RetB (.bool true) W) := by
  have hbel := Below.refl W.heap.size W
  have HT := Lib.hid hp
  clear hp
  have hM := fun w h => tMake_any t q w h
  have hP := fun w h => tParse_u s w h
  have hs0 := mk_inv (s := s)
  cases hv : Num.tkV t q with
  | true =>
    obtain ⟨m1, m2⟩ := mk_yes hv
    have hP2 := fun w h => tParse_u (bsL (Num.mkL t q)) w h
    obtain ⟨f1, f2, f3⟩ := Num.mk_fine hv
    rw [bsL_list, f1, f2, f3] at hP2
    have hz : (bsL (Num.mkL t q)).size = 14 := by rw [bsL_size, Num.mk_len]
    rw [m1, m2] at hM
    generalize bsL (Num.mkL t q) = b at *
    have HM := Lib.hid hM
    have HP2 := Lib.hid hP2
    by_cases he : Num.tkE s.data.toList = 0
    · have hM2 := fun w h => tMake_any (Num.tkT s.data.toList) (Num.tkS s.data.toList) w h
      rw [(hs0 he).1, (hs0 he).2] at hM2
      rw [he] at hP
      generalize Num.tkT s.data.toList = x at *
      generalize Num.tkS s.data.toList = y at *
      have HM2 := Lib.hid hM2
      have HP := Lib.hid hP
      clear hM hP2 hM2 hP hs0 he hv m1 m2 f1 f2 f3
      go_enter Tryd.func14, Tryd.ntmps14
      go_wp2_with (first | (go_at_call 18; ((with_reducible refine (HM.out _ (HT.out.grow hbel)).mono ?_); rintro e w1 ⟨rfl, hb1⟩; replace hbel := hbel.trans (hb1.mono hbel.size); clear hb1)) | (go_at_call 18; ((with_reducible refine (HM2.out _ (HT.out.grow hbel)).mono ?_); rintro e w1 ⟨rfl, hb1⟩; replace hbel := hbel.trans (hb1.mono hbel.size); clear hb1)) | (go_at_call 39; ((with_reducible refine (HP.out _ (HT.out.grow hbel).q).mono ?_); rintro e w1 ⟨rfl, hb1⟩; replace hbel := hbel.trans (hb1.mono hbel.size); clear hb1)) | (go_at_call 39; ((with_reducible refine (HP2.out _ (HT.out.grow hbel).q).mono ?_); rintro e w1 ⟨rfl, hb1⟩; replace hbel := hbel.trans (hb1.mono hbel.size); clear hb1)) | (go_at_call 20; ((with_reducible refine (tLives_any _ (HT.out.grow hbel)).mono ?_); rintro e w1 ⟨rfl, hb1⟩; replace hbel := hbel.trans (hb1.mono hbel.size); clear hb1)))
      go_ret
      exact ⟨rfl, hbel⟩
    · have he2 : (Num.tkE s.data.toList == 0) = false := by rw [beq_eq_false_iff_ne]; exact he
      generalize Num.tkE s.data.toList = e at *
      generalize Num.tkT s.data.toList = x at *
      generalize Num.tkS s.data.toList = y at *
      have HP := Lib.hid hP
      have HM2 := HM
      clear hM hP2 hP hs0 he hv m1 m2 f1 f2 f3
      go_enter Tryd.func14, Tryd.ntmps14
      go_wp2_with (first | (go_at_call 18; ((with_reducible refine (HM.out _ (HT.out.grow hbel)).mono ?_); rintro e w1 ⟨rfl, hb1⟩; replace hbel := hbel.trans (hb1.mono hbel.size); clear hb1)) | (go_at_call 18; ((with_reducible refine (HM2.out _ (HT.out.grow hbel)).mono ?_); rintro e w1 ⟨rfl, hb1⟩; replace hbel := hbel.trans (hb1.mono hbel.size); clear hb1)) | (go_at_call 39; ((with_reducible refine (HP.out _ (HT.out.grow hbel).q).mono ?_); rintro e w1 ⟨rfl, hb1⟩; replace hbel := hbel.trans (hb1.mono hbel.size); clear hb1)) | (go_at_call 39; ((with_reducible refine (HP2.out _ (HT.out.grow hbel).q).mono ?_); rintro e w1 ⟨rfl, hb1⟩; replace hbel := hbel.trans (hb1.mono hbel.size); clear hb1)) | (go_at_call 20; ((with_reducible refine (tLives_any _ (HT.out.grow hbel)).mono ?_); rintro e w1 ⟨rfl, hb1⟩; replace hbel := hbel.trans (hb1.mono hbel.size); clear hb1)))
      go_ret
      exact ⟨rfl, hbel⟩
  | false =>
    obtain ⟨m1, m2⟩ := mk_no hv
    rw [m1, m2] at hM
    have HM := Lib.hid hM
    by_cases he : Num.tkE s.data.toList = 0
    · have hM2 := fun w h => tMake_any (Num.tkT s.data.toList) (Num.tkS s.data.toList) w h
      rw [(hs0 he).1, (hs0 he).2] at hM2
      rw [he] at hP
      generalize Num.tkT s.data.toList = x at *
      generalize Num.tkS s.data.toList = y at *
      have HM2 := Lib.hid hM2
      have HP := Lib.hid hP
      have HP2 := HP
      clear hM hM2 hP hs0 he hv m1 m2
      go_enter Tryd.func14, Tryd.ntmps14
      go_wp2_with (first | (go_at_call 18; ((with_reducible refine (HM.out _ (HT.out.grow hbel)).mono ?_); rintro e w1 ⟨rfl, hb1⟩; replace hbel := hbel.trans (hb1.mono hbel.size); clear hb1)) | (go_at_call 18; ((with_reducible refine (HM2.out _ (HT.out.grow hbel)).mono ?_); rintro e w1 ⟨rfl, hb1⟩; replace hbel := hbel.trans (hb1.mono hbel.size); clear hb1)) | (go_at_call 39; ((with_reducible refine (HP.out _ (HT.out.grow hbel).q).mono ?_); rintro e w1 ⟨rfl, hb1⟩; replace hbel := hbel.trans (hb1.mono hbel.size); clear hb1)) | (go_at_call 39; ((with_reducible refine (HP2.out _ (HT.out.grow hbel).q).mono ?_); rintro e w1 ⟨rfl, hb1⟩; replace hbel := hbel.trans (hb1.mono hbel.size); clear hb1)) | (go_at_call 20; ((with_reducible refine (tLives_any _ (HT.out.grow hbel)).mono ?_); rintro e w1 ⟨rfl, hb1⟩; replace hbel := hbel.trans (hb1.mono hbel.size); clear hb1)))
      go_ret
      exact ⟨rfl, hbel⟩
    · have he2 : (Num.tkE s.data.toList == 0) = false := by rw [beq_eq_false_iff_ne]; exact he
      generalize Num.tkE s.data.toList = e at *
      generalize Num.tkT s.data.toList = x at *
      generalize Num.tkS s.data.toList = y at *
      have HP := Lib.hid hP
      have HM2 := HM
      have HP2 := HP
      clear hM hP hs0 he hv m1 m2
      go_enter Tryd.func14, Tryd.ntmps14
      go_wp2_with (first | (go_at_call 18; ((with_reducible refine (HM.out _ (HT.out.grow hbel)).mono ?_); rintro e w1 ⟨rfl, hb1⟩; replace hbel := hbel.trans (hb1.mono hbel.size); clear hb1)) | (go_at_call 18; ((with_reducible refine (HM2.out _ (HT.out.grow hbel)).mono ?_); rintro e w1 ⟨rfl, hb1⟩; replace hbel := hbel.trans (hb1.mono hbel.size); clear hb1)) | (go_at_call 39; ((with_reducible refine (HP.out _ (HT.out.grow hbel).q).mono ?_); rintro e w1 ⟨rfl, hb1⟩; replace hbel := hbel.trans (hb1.mono hbel.size); clear hb1)) | (go_at_call 39; ((with_reducible refine (HP2.out _ (HT.out.grow hbel).q).mono ?_); rintro e w1 ⟨rfl, hb1⟩; replace hbel := hbel.trans (hb1.mono hbel.size); clear hb1)) | (go_at_call 20; ((with_reducible refine (tLives_any _ (HT.out.grow hbel)).mono ?_); rintro e w1 ⟨rfl, hb1⟩; replace hbel := hbel.trans (hb1.mono hbel.size); clear hb1)))
      go_ret
      exact ⟨rfl, hbel⟩
/-- Different tickets have different numbers. -/
theorem mk_inj {t q t' q' : Int} (h : Num.tkV t q = true) (h' : Num.tkV t' q' = true) (e : bsL (Num.mkL t q) = bsL (Num.mkL t' q')) : t = t' ∧ q = q' := by
  have e2 : Num.mkL t q = Num.mkL t' q' := (bsL_list _).symm.trans ((congrArg (fun b : ByteArray => b.data.toList) e).trans (bsL_list _))
  obtain ⟨a1, a2, _⟩ := Num.mk_fine h
  obtain ⟨b1, b2, _⟩ := Num.mk_fine h'
  exact ⟨a1.symm.trans ((congrArg Num.tkT e2).trans b1), a2.symm.trans ((congrArg Num.tkS e2).trans b2)⟩
set_option maxHeartbeats 4000000 in
theorem ticketnoDiffers_walk (t q t' q' : Int) (W : World) (_ : (Lit.int .i64 t).wf = true) (_ : (Lit.int .i64 q).wf = true) (_ : (Lit.int .i64 t').wf = true) (_ : (Lit.int .i64 q').wf = true) (hp : P10W W) :
    Calls Tryd.prog 4 #[.int .i64 t, .int .i64 q, .int .i64 t', .int .i64 q'] W (RetB (.bool true) W) := by
  have hbel := Below.refl W.heap.size W
  have HT := Lib.hid hp
  clear hp
  have hM := fun w h => tMake_any t q w h
  have hM2 := fun w h => tMake_any t' q' w h
  cases hv : Num.tkV t q with
  | false =>
    obtain ⟨m1, m2⟩ := mk_no hv
    rw [m1, m2] at hM
    have HM := Lib.hid hM
    have HM2 := Lib.hid hM2
    clear hM hM2 hv m1 m2
    go_enter Tryd.func4, Tryd.ntmps4
    go_wp2_with (first | (go_at_call 18; ((with_reducible refine (HM.out _ (HT.out.grow hbel)).mono ?_); rintro e w1 ⟨rfl, hb1⟩; replace hbel := hbel.trans (hb1.mono hbel.size); clear hb1)) | (go_at_call 18; ((with_reducible refine (HM2.out _ (HT.out.grow hbel)).mono ?_); rintro e w1 ⟨rfl, hb1⟩; replace hbel := hbel.trans (hb1.mono hbel.size); clear hb1)) | (go_at_call 20; ((with_reducible refine (tLives_any _ (HT.out.grow hbel)).mono ?_); rintro e w1 ⟨rfl, hb1⟩; replace hbel := hbel.trans (hb1.mono hbel.size); clear hb1)))
    go_ret
    exact ⟨rfl, hbel⟩
  | true =>
    obtain ⟨m1, m2⟩ := mk_yes hv
    rw [m1, m2] at hM
    cases hv2 : Num.tkV t' q' with
    | false =>
      obtain ⟨n1, n2⟩ := mk_no hv2
      rw [n1, n2] at hM2
      have HM := Lib.hid hM
      have HM2 := Lib.hid hM2
      clear hM hM2 hv m1 m2 hv2 n1 n2
      go_enter Tryd.func4, Tryd.ntmps4
      go_wp2_with (first | (go_at_call 18; ((with_reducible refine (HM.out _ (HT.out.grow hbel)).mono ?_); rintro e w1 ⟨rfl, hb1⟩; replace hbel := hbel.trans (hb1.mono hbel.size); clear hb1)) | (go_at_call 18; ((with_reducible refine (HM2.out _ (HT.out.grow hbel)).mono ?_); rintro e w1 ⟨rfl, hb1⟩; replace hbel := hbel.trans (hb1.mono hbel.size); clear hb1)) | (go_at_call 20; ((with_reducible refine (tLives_any _ (HT.out.grow hbel)).mono ?_); rintro e w1 ⟨rfl, hb1⟩; replace hbel := hbel.trans (hb1.mono hbel.size); clear hb1)))
      go_ret
      exact ⟨rfl, hbel⟩
    | true =>
      obtain ⟨n1, n2⟩ := mk_yes hv2
      rw [n1, n2] at hM2
      by_cases he : t = t' ∧ q = q'
      · obtain ⟨rfl, rfl⟩ := he
        have HM := Lib.hid hM
        have HM2 := HM
        clear hM hM2 hv m1 m2 hv2 n1 n2
        go_enter Tryd.func4, Tryd.ntmps4
        go_wp2_with (first | (go_at_call 18; ((with_reducible refine (HM.out _ (HT.out.grow hbel)).mono ?_); rintro e w1 ⟨rfl, hb1⟩; replace hbel := hbel.trans (hb1.mono hbel.size); clear hb1)) | (go_at_call 18; ((with_reducible refine (HM2.out _ (HT.out.grow hbel)).mono ?_); rintro e w1 ⟨rfl, hb1⟩; replace hbel := hbel.trans (hb1.mono hbel.size); clear hb1)) | (go_at_call 20; ((with_reducible refine (tLives_any _ (HT.out.grow hbel)).mono ?_); rintro e w1 ⟨rfl, hb1⟩; replace hbel := hbel.trans (hb1.mono hbel.size); clear hb1)))
        go_ret
        exact ⟨rfl, hbel⟩
      · have hb : bsL (Num.mkL t q) ≠ bsL (Num.mkL t' q') := fun e => he (mk_inj hv hv2 e)
        generalize bsL (Num.mkL t q) = b at *
        generalize bsL (Num.mkL t' q') = b' at *
        have hb2 : ¬ (b.toList = b'.toList) := fun e => hb (bytes_of ((ByteArray.toList_eq _).symm.trans (e.trans (ByteArray.toList_eq _))))
        have n3 : (b.toList == b'.toList) = false := by rw [beq_eq_false_iff_ne]; exact hb2
        have HM := Lib.hid hM
        have HM2 := Lib.hid hM2
        clear hM hM2 hv m1 m2 hv2 n1 n2 hb hb2
        by_cases ht : t = t'
        · have hq : (q == q') = false := by rw [beq_eq_false_iff_ne]; exact fun c => he ⟨ht, c⟩
          subst ht
          clear he
          go_enter Tryd.func4, Tryd.ntmps4
          go_wp2_with (first | (go_at_call 18; ((with_reducible refine (HM.out _ (HT.out.grow hbel)).mono ?_); rintro e w1 ⟨rfl, hb1⟩; replace hbel := hbel.trans (hb1.mono hbel.size); clear hb1)) | (go_at_call 18; ((with_reducible refine (HM2.out _ (HT.out.grow hbel)).mono ?_); rintro e w1 ⟨rfl, hb1⟩; replace hbel := hbel.trans (hb1.mono hbel.size); clear hb1)) | (go_at_call 20; ((with_reducible refine (tLives_any _ (HT.out.grow hbel)).mono ?_); rintro e w1 ⟨rfl, hb1⟩; replace hbel := hbel.trans (hb1.mono hbel.size); clear hb1)))
          go_ret
          exact ⟨rfl, hbel⟩
        · have hq : (t == t') = false := by rw [beq_eq_false_iff_ne]; exact ht
          clear he ht
          go_enter Tryd.func4, Tryd.ntmps4
          go_wp2_with (first | (go_at_call 18; ((with_reducible refine (HM.out _ (HT.out.grow hbel)).mono ?_); rintro e w1 ⟨rfl, hb1⟩; replace hbel := hbel.trans (hb1.mono hbel.size); clear hb1)) | (go_at_call 18; ((with_reducible refine (HM2.out _ (HT.out.grow hbel)).mono ?_); rintro e w1 ⟨rfl, hb1⟩; replace hbel := hbel.trans (hb1.mono hbel.size); clear hb1)) | (go_at_call 20; ((with_reducible refine (tLives_any _ (HT.out.grow hbel)).mono ?_); rintro e w1 ⟨rfl, hb1⟩; replace hbel := hbel.trans (hb1.mono hbel.size); clear hb1)))
          go_ret
          exact ⟨rfl, hbel⟩
end Go.Proofs.YtgloiddnbppblaaDoor
