/- The program's object: Allow, Spent, Count; a nil object. -/
import Derived.Test.YtainelkenkgppaaDoorPlr
namespace Go.Proofs.YtainelkenkgppaaDoor
open Go.ChangeShapes Go.WideShapes Go.ChangeAt Go.RowKit Go.Lott
open Go.Sort Go.Lott.Stb Go.Lott.Srt Go.Lott.Lm
theorem e3_eq {S : PSt} {id t x y z : Int} : errD S ⟨3, id, t, x, y, z⟩ = alE (basE id t S.now) (knw S id) (thr S id) t x := rfl
theorem alE_ok {b t m : Int} {k : Bool} {r : PRec} (h : knE b k = 0) : alE b k r t m = if barred r.ex t then 20 else alN (zP r.hi) r.hi.length (zC r.ch) r.ch.length t m := by unfold alE; rw [if_pos h]
section
variable {w : World} {B p : Nat} {τ : Rl} {S : PSt}
theorem alP_form (r : Nat) (x : PRec) (t m : Int) : ∃ q, alP r x t m = .tuple #[.pointer q, .int .i64 (if barred x.ex t then 20 else alN (zP x.hi) x.hi.length (zC x.ch) x.ch.length t m)] := by
  unfold alP
  split
  · exact ⟨_, rfl⟩
  · exact ⟨_, rfl⟩
theorem pAllow_any (h : PO w B τ p S) (hT : Tab w) (hsz : Sz S 300) (id t x y z : Int) :
    Calls Tryd.prog 47 #[.pointer (some ⟨p, 0, none⟩), .int .i64 id, .int .i64 t, .int .i64 x] w (Lv (fun w τ S => PO w B τ p S) w τ (stpD S ⟨3, id, t, x, y, z⟩) (.int .i64 (errD S ⟨3, id, t, x, y, z⟩))) := by
  have HPO := Lib.hid h
  obtain ⟨m, D, rb, V, h⟩ := h
  have HS1 := Lib.hid (stp_read (S := S) (d := ⟨3, id, t, x, y, z⟩) (show (3 : Int) ≠ 0 by decide) (show (3 : Int) ≠ 1 by decide) (show (3 : Int) ≠ 2 by decide) (show (3 : Int) ≠ 4 by decide) (show (3 : Int) ≠ 5 by decide))
  by_cases hk : knE (basE id t S.now) (knw S id) = 0
  · have hF := pallow_ok h hT hsz (a := x) hk
    obtain ⟨q, hq⟩ := alP_form (rb (fnd S.rs id)) (thr S id) t x
    rw [hq, ← alE_ok (m := x) (t := t) (r := thr S id) hk, ← e3_eq (y := y) (z := z)] at hF
    have HF := Lib.hid hF
    clear h hT hsz hk hF hq
    go_enter Tryd.func47, Tryd.ntmps47
    go_wp2_with (go_at_call 70; (with_reducible refine HF.out.mono ?_); rintro e w2 ⟨rfl, hb2⟩; have HB2 := Lib.hid hb2; clear hb2)
    go_ret
    rw [HS1.out]
    exact Lv.same (HPO.out.below HB2.out) rfl HB2.out
  · obtain ⟨e, he⟩ : ∃ e, knE (basE id t S.now) (knw S id) = e := ⟨_, rfl⟩
    have hne : e ≠ 0 := by rw [← he]; exact hk
    have HE := Lib.hid (show errD S ⟨3, id, t, x, y, z⟩ = e by rw [e3_eq]; unfold alE; rw [if_neg hk, he])
    have HF := Lib.hid (pallow_no h (a := x) he hne)
    clear h hT hsz hk he hne
    go_enter Tryd.func47, Tryd.ntmps47
    go_wp2_with (go_at_call 70; refine HF.out.mono ?_; rintro e' w' ⟨rfl, rfl⟩)
    go_ret
    rw [HS1.out, HE.out]
    exact Lv.same HPO.out rfl (Below.refl _ _)
theorem pCount_any (h : PO w B τ p S) : Calls Tryd.prog 23 #[.pointer (some ⟨p, 0, none⟩)] w (RetS (.int .i64 (S.rs.length : Int)) w) := by
  obtain ⟨m, D, rb, V, h⟩ := h
  have c0 := h.cp.cell 0
  simp at c0
  have HM := Lib.hid h.mp
  have HZ := Lib.hid h.sz
  clear h
  go_enter Tryd.func23, Tryd.ntmps23
  go_wp2_with (at_len; refine wpList_len_own _ rfl _ 77 rfl 3 85 Tryd.underlying77 ptrR m S.rs.length D rfl HM.out ?_)
  go_ret
  exact ⟨by rw [HZ.out]; rfl, rfl⟩
/-- What Spent gives. -/
def spT (b : Int) (k : Bool) (r : PRec) (t : Int) : Value := .tuple #[.agg #[.int .i64 (spL b k r t 1), .int .i64 (spL b k r t 2), .int .i64 (spL b k r t 3)], .int .i64 (knE b k)]
theorem spT_ok {b t : Int} {k : Bool} {r : PRec} (h : knE b k = 0) : Value.tuple #[.agg #[.int .i64 (spN (zP r.hi) r.hi.length t 1), .int .i64 (spN (zP r.hi) r.hi.length t 2), .int .i64 (spN (zP r.hi) r.hi.length t 3)], .int .i64 0] = spT b k r t := by
  unfold spT spL; rw [if_pos h, if_pos h, if_pos h, h]
theorem spT_no {b t e : Int} {k : Bool} {r : PRec} (h : knE b k = e) (he : e ≠ 0) : Value.tuple #[.agg #[.int .i64 0, .int .i64 0, .int .i64 0], .int .i64 e] = spT b k r t := by
  have : ¬ knE b k = 0 := by rw [h]; exact he
  unfold spT spL; rw [if_neg this, if_neg this, if_neg this, h]
set_option maxHeartbeats 4000000 in
set_option maxRecDepth 100000 in
theorem pSpent_any (h : PO w B τ p S) (hT : Tab w) (hsz : Sz S 300) (id t : Int) :
    Calls Tryd.prog 27 #[.pointer (some ⟨p, 0, none⟩), .int .i64 id, .int .i64 t] w (RetB (spT (basE id t 0) (knw S id) (thr S id) t) w) := by
  obtain ⟨m, D, rb, V, h⟩ := h
  obtain ⟨W0, hW0⟩ : ∃ W0, W0 = w.alloc (.cells #[.int .i64 0, .int .i64 0, .int .i64 0] 28) := ⟨_, rfl⟩
  have hb0 : Below w.heap.size w W0 := by rw [hW0]; exact (Below.refl _ _).alloc (Nat.le_refl _) _
  have hz0 : w.heap.size < W0.heap.size := by rw [hW0]; simp
  have hbox : Cel W0 w.heap.size #[.int .i64 0, .int .i64 0, .int .i64 0] 28 := by rw [hW0]; exact Cel.new _ _ _
  have h0 := h.below hb0
  have c0 := h0.cp.cell 0
  have l0 := hbox.cell 0
  have l1 := hbox.cell 1
  have l2 := hbox.cell 2
  have f0 := hbox.free 0
  have f1 := hbox.free 1
  have f2 := hbox.free 2
  simp at c0 l0 l1 l2
  have HW := Lib.hid hW0
  have HB0 := Lib.hid hb0
  have HB := Lib.hid (fun b : Int => fun hb : basE id t 0 = b => hb ▸ basic_any id t 0 W0)
  rcases basE_two id t 0 with hb | hb
  · have HBA := Lib.hid (HB.out 0 hb)
    cases hk : knw S id with
    | true =>
      have hkl := knw_iff.1 hk
      have hl := h0.look_yes hk (wf_id hb)
      obtain ⟨R, hR⟩ : ∃ R, R = rb (fnd S.rs id) := ⟨_, rfl⟩
      rw [← hR] at hl
      have hr2 := h0.rw _ 2 hkl (by omega)
      rw [rOf_thr] at hr2
      obtain ⟨a2, c2, e2, w2⟩ := hr2.rows2
      have hc := h0.cr _ hkl
      rw [← hR, e2] at hc
      have r2 := hc.cell 2
      simp at r2
      have hsp := Spent_t t a2 (thr S id).hi.length c2 (zP (thr S id).hi) W0 (hT.grow hb0) (hsz.thr id).2.2 w2
      have HV := Lib.hid (spT_ok (t := t) (r := thr S id) (show knE (basE id t 0) true = 0 by rw [hb]; rfl))
      obtain ⟨s1, hs1⟩ : ∃ s1, s1 = spN (zP (thr S id).hi) (thr S id).hi.length t 1 := ⟨_, rfl⟩
      obtain ⟨s2, hs2⟩ : ∃ s2, s2 = spN (zP (thr S id).hi) (thr S id).hi.length t 2 := ⟨_, rfl⟩
      obtain ⟨s3, hs3⟩ : ∃ s3, s3 = spN (zP (thr S id).hi) (thr S id).hi.length t 3 := ⟨_, rfl⟩
      obtain ⟨n2, hn2⟩ : ∃ n2, n2 = (thr S id).hi.length := ⟨_, rfl⟩
      rw [← hs1, ← hs2, ← hs3] at hsp HV
      rw [← hn2] at hsp r2
      have HSP := Lib.hid hsp
      have HBX := Lib.hid hbox
      clear h h0 hT hsz hb hk hkl hW0 hb0 hR hr2 e2 w2 hc hsp hs1 hs2 hs3 hn2 hbox HB
      go_enter Tryd.func27, Tryd.ntmps27
      go_wp2_with fail
      rw [← HW.out]
      go_wp2_with (first
        | (go_at_call 57; refine HBA.out.mono ?_; rintro e w' ⟨rfl, rfl⟩)
        | (go_at_call 13; (with_reducible refine HSP.out.mono ?_); rintro e w3 ⟨rfl, hb3⟩; have HB3 := Lib.hid hb3; have C3 := HBX.out.below hb3 HBX.out.lt; have m0 := C3.cell 0; have m1 := C3.cell 1; have m2 := C3.cell 2; have g0 := C3.free 0; have g1 := C3.free 1; have g2 := C3.free 2; simp at m0 m1 m2; clear hb3 C3))
      refine bodyPost_ret (v := .tuple #[.agg #[.int .i64 s1, .int .i64 s2, .int .i64 s3], .int .i64 0]) (by simp [results, Tryd.results27, go_sem, m0, m1, m2]) rfl ⟨congrArg _ HV.out, ?_⟩
      have hx := HB0.out.trans (HB3.out.mono HB0.out.size)
      exact ((hx.setCell (Nat.le_refl _) _).setCell (Nat.le_refl _) _).setCell (Nat.le_refl _) _
    | false =>
      have hl := h0.look_no hk (wf_id hb)
      have HV := Lib.hid (spT_no (t := t) (r := thr S id) (show knE (basE id t 0) false = 5 by rw [hb]; rfl) (by decide))
      clear h h0 hT hsz hb hk hW0 hb0 hbox HB
      go_enter Tryd.func27, Tryd.ntmps27
      go_wp2_with fail
      rw [← HW.out]
      go_wp2_with (go_at_call 57; refine HBA.out.mono ?_; rintro e w' ⟨rfl, rfl⟩)
      refine bodyPost_ret (v := .tuple #[.agg #[.int .i64 0, .int .i64 0, .int .i64 0], .int .i64 5]) (by simp [results, Tryd.results27, go_sem, l0, l1, l2]) rfl ⟨congrArg _ HV.out, ?_⟩
      exact ((HB0.out.setCell (Nat.le_refl _) _).setCell (Nat.le_refl _) _).setCell (Nat.le_refl _) _
  · have HBA := Lib.hid (HB.out 2 hb)
    have HV := Lib.hid (spT_no (t := t) (r := thr S id) (k := knw S id) (show knE (basE id t 0) (knw S id) = 2 by rw [hb]; rfl) (by decide))
    clear h h0 hT hsz hb hW0 hb0 hbox HB
    go_enter Tryd.func27, Tryd.ntmps27
    go_wp2_with fail
    rw [← HW.out]
    go_wp2_with (go_at_call 57; refine HBA.out.mono ?_; rintro e w' ⟨rfl, rfl⟩)
    refine bodyPost_ret (v := .tuple #[.agg #[.int .i64 0, .int .i64 0, .int .i64 0], .int .i64 2]) (by simp [results, Tryd.results27, go_sem, l0, l1, l2]) rfl ⟨congrArg _ HV.out, ?_⟩
    exact ((HB0.out.setCell (Nat.le_refl _) _).setCell (Nat.le_refl _) _).setCell (Nat.le_refl _) _
end
/-! A nil object. -/
theorem pRegister_nil (id x t : Int) (w : World) : Calls Tryd.prog 25 #[.pointer none, .int .i64 id, .int .i64 x, .int .i64 t] w (RetB (.int .i64 5) w) := by
  go_enter Tryd.func25, Tryd.ntmps25
  go_wp2_with (fail)
  go_ret
  exact ⟨rfl, by first | exact Below.refl _ _ | exact (Below.refl _ _).alloc (Nat.le_refl _) _⟩
theorem pSetLimits_nil (id t x y z : Int) (w : World) : Calls Tryd.prog 45 #[.pointer none, .int .i64 id, .int .i64 t, .agg #[.int .i64 x, .int .i64 y, .int .i64 z]] w (RetB (.int .i64 5) w) := by
  go_enter Tryd.func45, Tryd.ntmps45
  go_wp2_with ((go_at_call 69; refine (pfind_nil _ _ _).mono ?_; rintro e' w' ⟨rfl, rfl⟩))
  go_ret
  exact ⟨rfl, by first | exact Below.refl _ _ | exact (Below.refl _ _).alloc (Nat.le_refl _) _⟩
theorem pExclude_nil (id t x y : Int) (w : World) : Calls Tryd.prog 46 #[.pointer none, .int .i64 id, .int .i64 t, .agg #[.int .i64 x, .int .i64 y]] w (RetB (.int .i64 5) w) := by
  go_enter Tryd.func46, Tryd.ntmps46
  go_wp2_with ((go_at_call 69; refine (pfind_nil _ _ _).mono ?_; rintro e' w' ⟨rfl, rfl⟩))
  go_ret
  exact ⟨rfl, by first | exact Below.refl _ _ | exact (Below.refl _ _).alloc (Nat.le_refl _) _⟩
theorem pAllow_nil (id t x : Int) (w : World) : Calls Tryd.prog 47 #[.pointer none, .int .i64 id, .int .i64 t, .int .i64 x] w (RetB (.int .i64 5) w) := by
  go_enter Tryd.func47, Tryd.ntmps47
  go_wp2_with ((go_at_call 70; refine (pallow_nil _ _ _ _).mono ?_; rintro e' w' ⟨rfl, rfl⟩))
  go_ret
  exact ⟨rfl, by first | exact Below.refl _ _ | exact (Below.refl _ _).alloc (Nat.le_refl _) _⟩
theorem pCharge_nil (id t x : Int) (w : World) : Calls Tryd.prog 48 #[.pointer none, .int .i64 id, .int .i64 t, .int .i64 x] w (RetB (.int .i64 5) w) := by
  go_enter Tryd.func48, Tryd.ntmps48
  go_wp2_with ((go_at_call 70; refine (pallow_nil _ _ _ _).mono ?_; rintro e' w' ⟨rfl, rfl⟩))
  go_ret
  exact ⟨rfl, by first | exact Below.refl _ _ | exact (Below.refl _ _).alloc (Nat.le_refl _) _⟩
theorem pRefund_nil (id t x : Int) (w : World) : Calls Tryd.prog 49 #[.pointer none, .int .i64 id, .int .i64 t, .int .i64 x] w (RetB (.int .i64 5) w) := by
  go_enter Tryd.func49, Tryd.ntmps49
  go_wp2_with ((go_at_call 69; refine (pfind_nil _ _ _).mono ?_; rintro e' w' ⟨rfl, rfl⟩))
  go_ret
  exact ⟨rfl, by first | exact Below.refl _ _ | exact (Below.refl _ _).alloc (Nat.le_refl _) _⟩
theorem pSpent_nil (id t : Int) (w : World) : Calls Tryd.prog 27 #[.pointer none, .int .i64 id, .int .i64 t] w (RetB (.tuple #[.agg #[.int .i64 0, .int .i64 0, .int .i64 0], .int .i64 5]) w) := by
  go_enter Tryd.func27, Tryd.ntmps27
  go_wp2
  refine bodyPost_ret (v := .tuple #[.agg #[.int .i64 0, .int .i64 0, .int .i64 0], .int .i64 5]) (by simp [results, Tryd.results27, go_sem]) rfl ⟨rfl, ?_⟩
  first | exact (Below.refl _ _).alloc (Nat.le_refl _) _ | exact ((((Below.refl _ _).alloc (Nat.le_refl _) _).setCell (Nat.le_refl _) _).setCell (Nat.le_refl _) _).setCell (Nat.le_refl _) _
theorem pCount_nil (w : World) : Calls Tryd.prog 23 #[.pointer none] w (RetS (.int .i64 0) w) := by
  go_enter Tryd.func23, Tryd.ntmps23
  go_wp2
  go_ret
  exact ⟨rfl, rfl⟩
end Go.Proofs.YtainelkenkgppaaDoor
