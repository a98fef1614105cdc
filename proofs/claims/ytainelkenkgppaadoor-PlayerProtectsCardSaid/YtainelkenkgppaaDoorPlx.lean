/- The program's object: SetLimits, Exclude, Charge, Refund. -/
import Derived.Test.YtainelkenkgppaaDoorPlw
import Derived.Deep.RegionLaw
import Derived.BigRegion
namespace Go.Proofs.YtainelkenkgppaaDoor
open Go.ChangeShapes Go.WideShapes Go.ChangeAt Go.RowKit Go.Lott
open Go.Sort Go.Lott.Stb Go.Lott.Srt Go.Lott.Lm
theorem infoE : (Tryd.prog.info? 58).map (fun i => (i.zero, i.size, i.bytes)) = some (some (.agg #[.int .i64 0, .int .i64 0]), 2, 16) := by kernel_rfl
theorem infoSp : (Tryd.prog.info? 26).map (fun i => (i.zero, i.size, i.bytes)) = some (some (.agg #[.int .i64 0, .int .i64 0]), 2, 16) := by kernel_rfl
theorem e1_ok {S : PSt} {id t x y z : Int} (h : knE (basE id t S.now) (knw S id) = 0) (hc : chk x y z = 0) : errD S ⟨1, id, t, x, y, z⟩ = 0 := by
  show setE _ _ _ _ _ = 0
  unfold setE; rw [if_pos h, hc]
theorem e1_no {S : PSt} {id t x y z e : Int} (h : knE (basE id t S.now) (knw S id) = e) (he : e ≠ 0) : errD S ⟨1, id, t, x, y, z⟩ = e := by
  show setE _ _ _ _ _ = e
  unfold setE; rw [if_neg (by rw [h]; exact he), h]
theorem e1_chk {S : PSt} {id t x y z : Int} (h : knE (basE id t S.now) (knw S id) = 0) (hc : chk x y z = 2) : errD S ⟨1, id, t, x, y, z⟩ = 2 := by
  show setE _ _ _ _ _ = 2
  unfold setE; rw [if_pos h, hc]
set_option maxHeartbeats 4000000 in
set_option maxRecDepth 100000 in
theorem pSetLimits_any {w : World} {B p : Nat} {τ : Rl} {S : PSt} (h : PO w B τ p S) (hB : B ≤ w.heap.size) (hsz : Sz S 300) (id t x y z : Int) :
    Calls Tryd.prog 45 #[.pointer (some ⟨p, 0, none⟩), .int .i64 id, .int .i64 t, .agg #[.int .i64 x, .int .i64 y, .int .i64 z]] w (Lv (fun w τ S => PO w B τ p S) w τ (stpD S ⟨1, id, t, x, y, z⟩) (.int .i64 (errD S ⟨1, id, t, x, y, z⟩))) := by
  have HPO := Lib.hid h
  obtain ⟨m, D, rb, V, h⟩ := h
  obtain ⟨W0, hW0⟩ : ∃ W0, W0 = w.alloc (.cells #[.int .i64 x, .int .i64 y, .int .i64 z] 28) := ⟨_, rfl⟩
  have hb0 : Below w.heap.size w W0 := by rw [hW0]; exact (Below.refl _ _).alloc (Nat.le_refl _) _
  have hz0 : W0.heap.size = w.heap.size + 1 := by rw [hW0]; simp
  have hbox : Cel W0 w.heap.size #[.int .i64 x, .int .i64 y, .int .i64 z] 28 := by rw [hW0]; exact Cel.new _ _ _
  have h0 := h.below hb0
  have HW := Lib.hid hW0
  have HB0 := Lib.hid hb0
  have b0 := hbox.cell 0
  have b1 := hbox.cell 1
  have b2 := hbox.cell 2
  simp at b0 b1 b2
  clear hW0
  by_cases hk : knE (basE id t S.now) (knw S id) = 0
  · have HF := Lib.hid (pfind_ok h0 hk)
    have hkn := (knE_zero hk).2
    obtain ⟨K, hK⟩ : ∃ K, K = fnd S.rs id := ⟨_, rfl⟩
    obtain ⟨R, hR⟩ : ∃ R, R = rb K := ⟨_, rfl⟩
    have hRk : R = rb (fnd S.rs id) := by rw [← hK]; exact hR
    rw [← hRk] at HF
    have HKN := Lib.hid hkn
    have HRK := Lib.hid hRk
    rcases chk_two x y z with hc | hc
    · have HE := Lib.hid (e1_ok (x := x) (y := y) (z := z) hk hc)
      have HP := Lib.hid h0
      have HC := Lib.hid (hc ▸ check_any x y z W0)
      have HBX := Lib.hid hbox
      have HS := Lib.hid hsz
      obtain ⟨i0, hi0, hz00, hz1, hz2⟩ := info_parts infoC
      clear h h0 hk hkn hc hbox hsz hK hR hRk hb0
      go_enter Tryd.func45, Tryd.ntmps45
      go_wp2_with fail
      rw [← HW.out]
      go_wp2_with (first
        | (go_at_call 69; refine HF.out.mono ?_; rintro e w' ⟨rfl, rfl⟩)
        | (go_at_call 34; refine HC.out.mono ?_; rintro e w2 ⟨rfl, hb2⟩; have HP2 := Lib.hid (HP.out.below hb2); have HB2 := Lib.hid (HB0.out.trans (hb2.mono (by omega))); have HBX2 := Lib.hid (HBX.out.below hb2 HBX.out.lt); clear hb2))
      have l0 := HBX2.out.cell 0
      have l1 := HBX2.out.cell 1
      have l2 := HBX2.out.cell 2
      simp at l0 l1 l2
      have hbx : w.heap.size < w2.heap.size := HBX2.out.lt
      have hn := (HS.out.thr id).1
      obtain ⟨v0, hv0⟩ : ∃ v0, v0 = V (fnd S.rs id) 0 := ⟨_, rfl⟩
      have HV0 := Lib.hid hv0
      have HPF := Lib.hid (HP2.out.facts HKN.out (f := 0) (by omega) HRK.out hv0)
      have r0 := HPF.out.r0
      have rf := HPF.out.rf
      have hrl := HPF.out.rl
      have hrow : w2.ownsRow B 30 4 v0 (thr S id).ch.length (flC (thr S id).ch) := by
        have := HP2.out.rw (fnd S.rs id) 0 (knw_iff.1 HKN.out) (by omega)
        rw [← hv0, rOf_thr] at this
        exact this
      have HRW := Lib.hid hrow
      obtain ⟨n, hnn⟩ : ∃ n, n = (thr S id).ch.length := ⟨_, rfl⟩
      rw [← hnn] at hn HRW
      have hzB : B ≤ w2.heap.size := Nat.le_trans hB HB2.out.size
      have hkb : (n + 1) * 32 ≤ 140737488355328 := by omega
      have hkm : n + 1 ≤ maxLen := by unfold maxLen; omega
      have HNN := Lib.hid hnn
      clear hrow hnn hv0
      have HA := Lib.hid ((((Below.refl w2.heap.size w2).alloc (Nat.le_refl _) (.cells #[.int .i64 t, .int .i64 x, .int .i64 y, .int .i64 z] 30)).drew))
      go_region_law ((refine step_append_lies _ (by rfl) _ _ _ (by rfl) B 30 i0 _ 4 32 Tryd.underlying23 hi0 hz00 hz1 hz2 rfl (by omega) _ n (flC (thr S id).ch) (by rfl) ((HRW.out.alloc _).drew) ⟨w2.heap.size, 0, none⟩ 1 1 [.int .i64 t, .int .i64 x, .int .i64 y, .int .i64 z] (by rfl) (by rfl) (World.news_of_block (cs := #[.int .i64 t, .int .i64 x, .int .i64 y, .int .i64 z]) (t := 30) (fr := (0, 0)) (heap_alloc_new w2 _)) (by simp [Value.oneCell']) (by omega) hkm hkb (by simp; omega) (w2.heap.size + 1) (by simp) ?_; intro gg cap w1 hown1 hgrow hat hlt; have HQ := Lib.hid ((HPF.out.fr HA.out).grow hgrow); have q1 := HQ.out.r0; have q2 := HQ.out.rf; have q3 := HQ.out.p1; have q4 := HQ.out.pf; have q5 := HQ.out.rp; have HG1 := Lib.hid hgrow; have HO1 := Lib.hid hown1; have HA1 := Lib.hid hat; have HL1 := Lib.hid hlt; clear hown1 hgrow hat hlt))
      all_goals
        go_wp2
        go_ret
        rw [stp1 HE.out]
        rw [HNN.out] at HO1 ⊢
        exact ⟨ret_int HE.out.symm, HP2.out.done HB2.out HKN.out (by omega) HRK.out HV0.out HA.out (by simp) HG1.out HA1.out HL1.out (recF_ch (c := (t, x, y, z)) HO1.out) keep_ch⟩
    · have HE := Lib.hid (e1_chk (x := x) (y := y) (z := z) hk hc)
      have HC := Lib.hid (hc ▸ check_any x y z W0)
      have HS1 := Lib.hid (stp_err (S := S) (d := ⟨1, id, t, x, y, z⟩) (by rw [HE.out]; decide))
      clear h h0 hk hkn hc hbox hsz hK hR hRk hb0
      go_enter Tryd.func45, Tryd.ntmps45
      go_wp2_with fail
      rw [← HW.out]
      go_wp2_with (first
        | (go_at_call 69; refine HF.out.mono ?_; rintro e w' ⟨rfl, rfl⟩)
        | (go_at_call 34; refine HC.out.mono ?_; rintro e w2 ⟨rfl, hb2⟩; have HB2 := Lib.hid (HB0.out.trans (hb2.mono (by omega))); clear hb2))
      go_ret
      rw [HS1.out, HE.out]
      exact Lv.same (HPO.out.below HB2.out) rfl HB2.out
  · obtain ⟨e, he⟩ : ∃ e, knE (basE id t S.now) (knw S id) = e := ⟨_, rfl⟩
    have hne : e ≠ 0 := by rw [← he]; exact hk
    have HF := Lib.hid (pfind_no h0 he hne)
    have HE := Lib.hid (e1_no (x := x) (y := y) (z := z) he hne)
    have HS1 := Lib.hid (stp_err (S := S) (d := ⟨1, id, t, x, y, z⟩) (by rw [HE.out]; exact hne))
    have hnb : (e != 0) = true := by simp [hne]
    clear h h0 hk hbox hsz hb0 he hne
    go_enter Tryd.func45, Tryd.ntmps45
    go_wp2_with fail
    rw [← HW.out]
    go_wp2_with (go_at_call 69; refine HF.out.mono ?_; rintro e' w' ⟨rfl, rfl⟩)
    go_ret
    rw [HS1.out, HE.out]
    exact Lv.same (HPO.out.below HB0.out) rfl HB0.out
end Go.Proofs.YtainelkenkgppaaDoor
