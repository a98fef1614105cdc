/- The reference's object: SetLimits, Exclude, Refund. -/
import Derived.Test.YtainelkenkgppaaDoorQw
import Derived.Test.YtainelkenkgppaaDoorPlz
import Derived.Deep.RegionHeld3
namespace Go.Proofs.YtainelkenkgppaaDoor
open Go.ChangeShapes Go.WideShapes Go.ChangeAt Go.RowKit Go.Lott
open Go.Sort Go.Lott.Stb Go.Lott.Srt Go.Lott.Lm
set_option linter.unusedSimpArgs false
set_option maxHeartbeats 4000000 in
set_option maxRecDepth 100000 in
theorem qSetLimits_any {w : World} {B p : Nat} {τ : Rl} {S : PSt} (h : QO w B τ p S) (hB : B ≤ w.heap.size) (hsz : Sz S 300) (id t x y z : Int) :
    Calls Tryd.prog 51 #[.pointer (some ⟨p, 0, none⟩), .int .i64 id, .int .i64 t, .agg #[.int .i64 x, .int .i64 y, .int .i64 z]] w (Lv (fun w τ S => QO w B τ p S) w τ (stpD S ⟨1, id, t, x, y, z⟩) (.int .i64 (errD S ⟨1, id, t, x, y, z⟩))) := by
  have HPO := Lib.hid h
  obtain ⟨vl, V, h⟩ := h
  obtain ⟨W0, hW0⟩ : ∃ W0, W0 = w.alloc (.cells #[.int .i64 x, .int .i64 y, .int .i64 z] 28) := ⟨_, rfl⟩
  have hb0 : Below w.heap.size w W0 := by rw [hW0]; exact (Below.refl _ _).alloc (Nat.le_refl _) _
  have hz0 : W0.heap.size = w.heap.size + 1 := by rw [hW0]; simp
  have hbox : Cel W0 w.heap.size #[.int .i64 x, .int .i64 y, .int .i64 z] 28 := by rw [hW0]; exact Cel.new _ _ _
  have h0 := h.below hb0
  have HW := Lib.hid hW0
  have HB0 := Lib.hid hb0
  have b0 := hbox.cell 0
  have b1 := hbox.cell 1
  have b2 := hbox.cell 2
  simp at b0 b1 b2
  clear hW0
  by_cases hk : knE (basE id t S.now) (knw S id) = 0
  · have HF := Lib.hid (qknown_ok h0 (Nat.le_trans hsz.1 (by omega)) hk)
    have hkn := (knE_zero hk).2
    obtain ⟨K, hK⟩ : ∃ K, K = fnd S.rs id := ⟨_, rfl⟩
    rw [← hK] at HF
    have HKN := Lib.hid hkn
    have HKE := Lib.hid hK
    rcases chk_two x y z with hc | hc
    · have HE := Lib.hid (e1_ok (x := x) (y := y) (z := z) hk hc)
      have HP := Lib.hid h0
      have HC := Lib.hid (hc ▸ refCheck_any x y z W0)
      have HBX := Lib.hid hbox
      have HS := Lib.hid hsz
      obtain ⟨i0, hi0, hz00, hz1, hz2⟩ := info_parts infoC
      have HTB := Lib.hid (show τ w.heap.size = none from Classical.byContradiction fun c => by have := (h.low _ c).2; omega)
      clear h h0 hk hkn hc hbox hsz hK hb0
      go_enter Tryd.func51, Tryd.ntmps51
      go_wp2_with fail
      rw [← HW.out]
      go_wp2_with (first
        | (go_at_call 75; refine HF.out.mono ?_; rintro e w' ⟨rfl, rfl⟩)
        | (go_at_call 76; refine HC.out.mono ?_; rintro e w2 ⟨rfl, hb2⟩; have HP2 := Lib.hid (HP.out.below hb2); have HB2 := Lib.hid (HB0.out.trans (hb2.mono (by omega))); have HBX2 := Lib.hid (HBX.out.below hb2 HBX.out.lt); clear hb2))
      have l0 := HBX2.out.cell 0
      have l1 := HBX2.out.cell 1
      have l2 := HBX2.out.cell 2
      simp at l0 l1 l2
      have hbx : w.heap.size < w2.heap.size := HBX2.out.lt
      have hn := (HS.out.thr id).1
      obtain ⟨l, cl, hvl, hll⟩ := HP2.out.form (Nat.lt_of_le_of_lt (Nat.zero_le _) (knw_iff.1 HKN.out))
      obtain ⟨v0, hv0⟩ : ∃ v0, v0 = V (fnd S.rs id) 0 := ⟨_, rfl⟩
      have HV0 := Lib.hid hv0
      have HVL := Lib.hid hvl
      have hqf := HP2.out.facts HKN.out (f := 0) (by omega) hvl hv0
      obtain ⟨N, hN⟩ : ∃ N, N = S.rs.length := ⟨_, rfl⟩
      rw [← HKE.out, hvl, ← hN] at hqf
      have hKN2 : K < N := by rw [HKE.out, hN]; exact knw_iff.1 HKN.out
      have hKN0 : (0 : Int) ≤ (K : Int) := by omega
      have hKN1 : (K : Int) < (N : Int) := by omega
      have HPF := Lib.hid hqf
      have r0 : w2.cell? ⟨l, K * 4 + 1, none⟩ = some v0 := hqf.r0
      have rf : w2.frozen? ⟨l, K * 4 + 1, none⟩ = false := hqf.rf
      have p0 := hqf.p0
      have hrl := hqf.rl
      have hpl2 := hqf.pl
      have hrow : w2.ownsRow B 30 4 v0 (thr S id).ch.length (flC (thr S id).ch) := by
        have := HP2.out.rw (fnd S.rs id) 0 (knw_iff.1 HKN.out) (by omega)
        rw [← hv0, rOf_thr] at this
        exact this
      have HRW := Lib.hid hrow
      obtain ⟨n, hnn⟩ : ∃ n, n = (thr S id).ch.length := ⟨_, rfl⟩
      rw [← hnn] at hn HRW
      have hzB : B ≤ w2.heap.size := Nat.le_trans hB HB2.out.size
      have hkb : (n + 1) * 32 ≤ 140737488355328 := by omega
      have hkm : n + 1 ≤ maxLen := by unfold maxLen; omega
      have HNN := Lib.hid hnn
      clear hrow hnn hv0 hqf hvl hN hll
      have HA := Lib.hid ((((Below.refl w2.heap.size w2).alloc (Nat.le_refl _) (.cells #[.int .i64 t, .int .i64 x, .int .i64 y, .int .i64 z] 30)).drew))
      have HNB := Lib.hid (show some w.heap.size ≠ v0.ownBlock from fun c => by have := HP2.out.tv (fnd S.rs id) 0 w.heap.size (knw_iff.1 HKN.out) (by omega) (by rw [← HV0.out]; exact c.symm); rw [HTB.out] at this; cases this)
      have hlb : l ≠ w.heap.size := fun c => by have := HP2.out.tl l (by rw [HVL.out]; rfl); rw [c, HTB.out] at this; cases this
      have HBC := Lib.hid (show ∀ j v, w2.cell? ⟨w.heap.size, j, none⟩ = some v → ∀ V, (w2.alloc (.cells #[.int .i64 t, .int .i64 x, .int .i64 y, .int .i64 z] 30)).drew.grownBy V v0.ownBlock → V.cell? ⟨w.heap.size, j, none⟩ = some v from fun j v hv V hg => (hg.cell_far ⟨w.heap.size, j, none⟩ (by simp; omega) HNB.out).trans ((HA.out.cell (p := ⟨w.heap.size, j, none⟩) hbx).trans hv))
      refine wp_region_held_drew (S := fun w' => w'.cell? ⟨p, 0, none⟩ = some (.slice (some ⟨l, 0, none⟩) N cl) ∧ w'.cell? ⟨w.heap.size, 0, none⟩ = some (.int .i64 x) ∧ w'.cell? ⟨w.heap.size, 1, none⟩ = some (.int .i64 y) ∧ w'.cell? ⟨w.heap.size, 2, none⟩ = some (.int .i64 z)) (by kernel_rfl) ?_ (fun hHeld => ?_)
      · go_keep
      refine wpAnyH_take (i := 0) (oi := _) (v := ?_) rfl (by kernel_rfl) (by kernel_rfl) (by kernel_rfl) (fun _ _ _ h => h) (Or.inl ⟨by rfl, ?_⟩) (by assumption) ?_
      rotate_left
      · (intro w hSw; (try dsimp only at hSw); go_simp; (try with_reducible rfl))
      simp only [Act.put, List.setIfInBounds_toArray, List.set_cons_zero, List.set_cons_succ]
      refine wpAnyH_take (i := 1) (oi := _) (v := ?_) rfl (by kernel_rfl) (by kernel_rfl) (by kernel_rfl) (fun _ _ _ h => h) (Or.inl ⟨by rfl, ?_⟩) (by assumption) ?_
      rotate_left
      · (intro w hSw; (try dsimp only at hSw); go_simp; (try with_reducible rfl))
      simp only [Act.put, List.setIfInBounds_toArray, List.set_cons_zero, List.set_cons_succ]
      refine wpAnyH_take (i := 2) (oi := _) (v := ?_) rfl (by kernel_rfl) (by kernel_rfl) (by kernel_rfl) (fun _ _ _ h => h) (Or.inl ⟨by rfl, ?_⟩) (by assumption) ?_
      rotate_left
      · (intro w hSw; (try dsimp only at hSw); go_simp; (try with_reducible rfl))
      simp only [Act.put, List.setIfInBounds_toArray, List.set_cons_zero, List.set_cons_succ]
      refine wpAnyH_take (i := 3) (oi := _) (v := ?_) rfl (by kernel_rfl) (by kernel_rfl) (by kernel_rfl) (fun _ _ _ h => h) (Or.inl ⟨by rfl, ?_⟩) (by assumption) ?_
      rotate_left
      · (intro w hSw; (try dsimp only at hSw); go_simp; (try with_reducible rfl))
      simp only [Act.put, List.setIfInBounds_toArray, List.set_cons_zero, List.set_cons_succ]
      refine wpAnyH_take (i := 4) (oi := _) (v := ?_) rfl (by kernel_rfl) (by kernel_rfl) (by kernel_rfl) (fun _ _ _ h => h) (Or.inl ⟨by rfl, ?_⟩) (by assumption) ?_
      rotate_left
      · (intro w hSw; (try dsimp only at hSw); go_simp; (try with_reducible rfl))
      simp only [Act.put, List.setIfInBounds_toArray, List.set_cons_zero, List.set_cons_succ]
      refine wpAnyH_take (i := 5) (oi := _) (v := ?_) rfl (by kernel_rfl) (by kernel_rfl) (by kernel_rfl) (fun _ _ _ h => h) (Or.inl ⟨by rfl, ?_⟩) (by assumption) ?_
      rotate_left
      · (intro w hSw; (try dsimp only at hSw); go_simp; (try with_reducible rfl))
      simp only [Act.put, List.setIfInBounds_toArray, List.set_cons_zero, List.set_cons_succ]
      refine wpAnyH_take (i := 6) (oi := _) (v := ?_) rfl (by kernel_rfl) (by kernel_rfl) (by kernel_rfl) (fun _ _ _ h => h) (Or.inl ⟨by rfl, ?_⟩) (by assumption) ?_
      rotate_left
      · (intro w hSw; (try dsimp only at hSw); go_simp; (try with_reducible rfl))
      simp only [Act.put, List.setIfInBounds_toArray, List.set_cons_zero, List.set_cons_succ]
      refine wpAnyH_take (i := 7) (oi := _) (v := ?_) rfl (by kernel_rfl) (by kernel_rfl) (by kernel_rfl) (fun _ _ _ h => h) (Or.inl ⟨by rfl, ?_⟩) (by assumption) ?_
      rotate_left
      · (intro w hSw; (try dsimp only at hSw); go_simp; (try with_reducible rfl))
      simp only [Act.put, List.setIfInBounds_toArray, List.set_cons_zero, List.set_cons_succ]
      refine wpAnyH_take (i := 8) (oi := _) (v := ?_) rfl (by kernel_rfl) (by kernel_rfl) (by kernel_rfl) (fun _ _ _ h => h) (Or.inl ⟨by rfl, ?_⟩) (by assumption) ?_
      rotate_left
      · (intro w hSw; (try dsimp only at hSw); go_simp; (try with_reducible rfl))
      simp only [Act.put, List.setIfInBounds_toArray, List.set_cons_zero, List.set_cons_succ]
      refine wpAnyH_take (i := 9) (oi := _) (v := ?_) rfl (by kernel_rfl) (by kernel_rfl) (by kernel_rfl) (fun _ _ _ h => h) (Or.inl ⟨by rfl, ?_⟩) (by assumption) ?_
      rotate_left
      · (intro w hSw; (try dsimp only at hSw); go_simp; (try with_reducible rfl))
      simp only [Act.put, List.setIfInBounds_toArray, List.set_cons_zero, List.set_cons_succ]
      refine wpAnyH_take (i := 10) (oi := _) (v := ?_) rfl (by kernel_rfl) (by kernel_rfl) (by kernel_rfl) (fun _ _ _ h => h) (Or.inl ⟨by rfl, ?_⟩) (by assumption) ?_
      rotate_left
      · (intro w hSw; (try dsimp only at hSw); go_simp; (try with_reducible rfl))
      simp only [Act.put, List.setIfInBounds_toArray, List.set_cons_zero, List.set_cons_succ]
      refine wpAnyH_take (i := 11) (oi := _) (v := ?_) rfl (by kernel_rfl) (by kernel_rfl) (by kernel_rfl) (fun _ _ _ h => h) (Or.inl ⟨by rfl, ?_⟩) (by assumption) ?_
      rotate_left
      · (intro w hSw; (try dsimp only at hSw); go_simp; (try with_reducible rfl))
      simp only [Act.put, List.setIfInBounds_toArray, List.set_cons_zero, List.set_cons_succ]
      refine wpAnyH_take (i := 13) (oi := _) (v := ?_) rfl (by kernel_rfl) (by kernel_rfl) (by kernel_rfl) (fun _ _ _ h => h) (Or.inl ⟨by rfl, ?_⟩) (by assumption) ?_
      rotate_left
      · (intro w hSw; (try dsimp only at hSw); go_simp; (try with_reducible rfl))
      simp only [Act.put, List.setIfInBounds_toArray, List.set_cons_zero, List.set_cons_succ]
      refine wpAnyH_take (i := 14) (oi := _) (v := ?_) rfl (by kernel_rfl) (by kernel_rfl) (by kernel_rfl) (fun _ _ _ h => h) (Or.inl ⟨by rfl, ?_⟩) (by assumption) ?_
      rotate_left
      · (intro w hSw; (try dsimp only at hSw); go_simp; (try with_reducible rfl))
      simp only [Act.put, List.setIfInBounds_toArray, List.set_cons_zero, List.set_cons_succ]
      refine wpAnyH_take (i := 15) (oi := _) (v := ?_) rfl (by kernel_rfl) (by kernel_rfl) (by kernel_rfl) (fun _ _ _ h => h) (Or.inl ⟨by rfl, ?_⟩) (by assumption) ?_
      rotate_left
      · (intro w hSw; (try dsimp only at hSw); go_simp; (try with_reducible rfl))
      simp only [Act.put, List.setIfInBounds_toArray, List.set_cons_zero, List.set_cons_succ]
      refine wpAnyH_ready (rs := [12, 16]) (by kernel_rfl) (by simp) ?_
      refine AllReadyH.cons (o := _) rfl (fun K2 hK => ?_) (AllReadyH.cons (o := _) rfl (fun K2 hK => ?_) AllReadyH.nil)
      · go_simp
        refine hK.out _ _ ?_ (fun hHeld => ?_)
        · go_keep
        clear hK K2
        try simp only [Act.put, List.setIfInBounds_toArray, List.set_cons_zero, List.set_cons_succ]
        refine wpAnyH_ready (rs := [16]) (by kernel_rfl) (by simp) ?_
        refine AllReadyH.cons (o := _) rfl (fun K2 hK => ?_) AllReadyH.nil
        go_simp
        refine hK.out _ _ ?_ (fun hHeld => ?_)
        · go_keep
        clear hK K2
        try simp only [Act.put, List.setIfInBounds_toArray, List.set_cons_zero, List.set_cons_succ]
        refine wpAnyH_ready (rs := [17]) (by kernel_rfl) (by simp) ?_
        refine AllReadyH.cons (o := _) rfl (fun K2 hK => ?_) AllReadyH.nil
        ((refine step_append_lies _ (by rfl) _ _ _ (by rfl) B 30 i0 _ 4 32 Tryd.underlying23 hi0 hz00 hz1 hz2 rfl (by omega) _ n (flC (thr S id).ch) (by rfl) ((HRW.out.alloc _).drew) ⟨w2.heap.size, 0, none⟩ 1 1 [.int .i64 t, .int .i64 x, .int .i64 y, .int .i64 z] (by rfl) (by rfl) (World.news_of_block (cs := #[.int .i64 t, .int .i64 x, .int .i64 y, .int .i64 z]) (t := 30) (fr := (0, 0)) (heap_alloc_new w2 _)) (by simp [Value.oneCell']) (by omega) hkm hkb (by simp; omega) (w2.heap.size + 1) (by simp) ?_; intro gg cap w1 hown1 hgrow hat hlt; have HQ := Lib.hid ((HPF.out.fr HA.out).grow hgrow); have q1 := HQ.out.r0; have q2 := HQ.out.rf; have q3 := HQ.out.p1; have q4 := HQ.out.pf; have q5 := HQ.out.rp; have q6 := HQ.out.p0; have HG1 := Lib.hid hgrow; have HO1 := Lib.hid hown1; have HA1 := Lib.hid hat; have HL1 := Lib.hid hlt; clear hown1 hgrow hat hlt))
        refine hK.out _ _ ?_ (fun hHeld => ?_)
        · exact ⟨q6, HBC.out 0 _ l0 _ HG1.out, HBC.out 1 _ l1 _ HG1.out, HBC.out 2 _ l2 _ HG1.out⟩
        clear hK K2
        try simp only [Act.put, List.setIfInBounds_toArray, List.set_cons_zero, List.set_cons_succ]
        refine wpAnyH_take (i := 18) (oi := _) (v := ?_) rfl (by kernel_rfl) (by kernel_rfl) (by kernel_rfl) (fun _ _ _ h => h) (Or.inl ⟨by rfl, ?_⟩) (by assumption) ?_
        rotate_left
        · (intro w hSw; (try dsimp only at hSw); go_simp; (try with_reducible rfl))
        simp only [Act.put, List.setIfInBounds_toArray, List.set_cons_zero, List.set_cons_succ]
        refine wpAnyH_take (i := 19) (oi := _) (v := ?_) rfl (by kernel_rfl) (by kernel_rfl) (by kernel_rfl) (fun _ _ _ h => h) (Or.inl ⟨by rfl, ?_⟩) (by assumption) ?_
        rotate_left
        · (intro w hSw; (try dsimp only at hSw); go_simp; (try with_reducible rfl))
        simp only [Act.put, List.setIfInBounds_toArray, List.set_cons_zero, List.set_cons_succ]
        have z0 := HBC.out 0 _ l0 _ HG1.out
        have z1 := HBC.out 1 _ l1 _ HG1.out
        have z2 := HBC.out 2 _ l2 _ HG1.out
        refine wpAnyH_ready (rs := [20]) (by kernel_rfl) (by simp) ?_
        refine AllReadyH.cons (o := _) rfl (fun K2 hK => ?_) AllReadyH.nil
        go_simp
        refine hK.out _ _ ?_ (fun hHeld => ?_)
        · go_keep
        clear hK K2
        try simp only [Act.put, List.setIfInBounds_toArray, List.set_cons_zero, List.set_cons_succ]
        refine wpAnyH_done (by kernel_rfl) ?_ _
        go_wp2
        go_ret
        rw [stp1 HE.out]
        rw [HNN.out] at HO1 ⊢
        exact ⟨ret_int HE.out.symm, HP2.out.done HB2.out HKN.out (by omega) HVL.out (by rw [HKE.out]) HV0.out HA.out (by simp) HG1.out HA1.out HL1.out (recF_ch (c := (t, x, y, z)) HO1.out) keep_ch⟩
      · go_simp
        refine hK.out _ _ ?_ (fun hHeld => ?_)
        · go_keep
        clear hK K2
        try simp only [Act.put, List.setIfInBounds_toArray, List.set_cons_zero, List.set_cons_succ]
        refine wpAnyH_ready (rs := [12]) (by kernel_rfl) (by simp) ?_
        refine AllReadyH.cons (o := _) rfl (fun K2 hK => ?_) AllReadyH.nil
        go_simp
        refine hK.out _ _ ?_ (fun hHeld => ?_)
        · go_keep
        clear hK K2
        try simp only [Act.put, List.setIfInBounds_toArray, List.set_cons_zero, List.set_cons_succ]
        refine wpAnyH_ready (rs := [17]) (by kernel_rfl) (by simp) ?_
        refine AllReadyH.cons (o := _) rfl (fun K2 hK => ?_) AllReadyH.nil
        ((refine step_append_lies _ (by rfl) _ _ _ (by rfl) B 30 i0 _ 4 32 Tryd.underlying23 hi0 hz00 hz1 hz2 rfl (by omega) _ n (flC (thr S id).ch) (by rfl) ((HRW.out.alloc _).drew) ⟨w2.heap.size, 0, none⟩ 1 1 [.int .i64 t, .int .i64 x, .int .i64 y, .int .i64 z] (by rfl) (by rfl) (World.news_of_block (cs := #[.int .i64 t, .int .i64 x, .int .i64 y, .int .i64 z]) (t := 30) (fr := (0, 0)) (heap_alloc_new w2 _)) (by simp [Value.oneCell']) (by omega) hkm hkb (by simp; omega) (w2.heap.size + 1) (by simp) ?_; intro gg cap w1 hown1 hgrow hat hlt; have HQ := Lib.hid ((HPF.out.fr HA.out).grow hgrow); have q1 := HQ.out.r0; have q2 := HQ.out.rf; have q3 := HQ.out.p1; have q4 := HQ.out.pf; have q5 := HQ.out.rp; have q6 := HQ.out.p0; have HG1 := Lib.hid hgrow; have HO1 := Lib.hid hown1; have HA1 := Lib.hid hat; have HL1 := Lib.hid hlt; clear hown1 hgrow hat hlt))
        refine hK.out _ _ ?_ (fun hHeld => ?_)
        · exact ⟨q6, HBC.out 0 _ l0 _ HG1.out, HBC.out 1 _ l1 _ HG1.out, HBC.out 2 _ l2 _ HG1.out⟩
        clear hK K2
        try simp only [Act.put, List.setIfInBounds_toArray, List.set_cons_zero, List.set_cons_succ]
        refine wpAnyH_take (i := 18) (oi := _) (v := ?_) rfl (by kernel_rfl) (by kernel_rfl) (by kernel_rfl) (fun _ _ _ h => h) (Or.inl ⟨by rfl, ?_⟩) (by assumption) ?_
        rotate_left
        · (intro w hSw; (try dsimp only at hSw); go_simp; (try with_reducible rfl))
        simp only [Act.put, List.setIfInBounds_toArray, List.set_cons_zero, List.set_cons_succ]
        refine wpAnyH_take (i := 19) (oi := _) (v := ?_) rfl (by kernel_rfl) (by kernel_rfl) (by kernel_rfl) (fun _ _ _ h => h) (Or.inl ⟨by rfl, ?_⟩) (by assumption) ?_
        rotate_left
        · (intro w hSw; (try dsimp only at hSw); go_simp; (try with_reducible rfl))
        simp only [Act.put, List.setIfInBounds_toArray, List.set_cons_zero, List.set_cons_succ]
        have z0 := HBC.out 0 _ l0 _ HG1.out
        have z1 := HBC.out 1 _ l1 _ HG1.out
        have z2 := HBC.out 2 _ l2 _ HG1.out
        refine wpAnyH_ready (rs := [20]) (by kernel_rfl) (by simp) ?_
        refine AllReadyH.cons (o := _) rfl (fun K2 hK => ?_) AllReadyH.nil
        go_simp
        refine hK.out _ _ ?_ (fun hHeld => ?_)
        · go_keep
        clear hK K2
        try simp only [Act.put, List.setIfInBounds_toArray, List.set_cons_zero, List.set_cons_succ]
        refine wpAnyH_done (by kernel_rfl) ?_ _
        go_wp2
        go_ret
        rw [stp1 HE.out]
        rw [HNN.out] at HO1 ⊢
        exact ⟨ret_int HE.out.symm, HP2.out.done HB2.out HKN.out (by omega) HVL.out (by rw [HKE.out]) HV0.out HA.out (by simp) HG1.out HA1.out HL1.out (recF_ch (c := (t, x, y, z)) HO1.out) keep_ch⟩
    · have HE := Lib.hid (e1_chk (x := x) (y := y) (z := z) hk hc)
      have HC := Lib.hid (hc ▸ refCheck_any x y z W0)
      have HS1 := Lib.hid (stp_err (S := S) (d := ⟨1, id, t, x, y, z⟩) (by rw [HE.out]; decide))
      clear h h0 hk hkn hc hbox hsz hK hb0
      go_enter Tryd.func51, Tryd.ntmps51
      go_wp2_with fail
      rw [← HW.out]
      go_wp2_with (first
        | (go_at_call 75; refine HF.out.mono ?_; rintro e w' ⟨rfl, rfl⟩)
        | (go_at_call 76; refine HC.out.mono ?_; rintro e w2 ⟨rfl, hb2⟩; have HB2 := Lib.hid (HB0.out.trans (hb2.mono (by omega))); clear hb2))
      go_ret
      rw [HS1.out, HE.out]
      exact Lv.same (HPO.out.below HB2.out) rfl HB2.out
  · obtain ⟨e, he⟩ : ∃ e, knE (basE id t S.now) (knw S id) = e := ⟨_, rfl⟩
    have hne : e ≠ 0 := by rw [← he]; exact hk
    have HF := Lib.hid (qknown_no h0 (Nat.le_trans hsz.1 (by omega)) he hne)
    have HE := Lib.hid (e1_no (x := x) (y := y) (z := z) he hne)
    have HS1 := Lib.hid (stp_err (S := S) (d := ⟨1, id, t, x, y, z⟩) (by rw [HE.out]; exact hne))
    have hnb : (e != 0) = true := by simp [hne]
    clear h h0 hk hbox hsz hb0 he hne
    go_enter Tryd.func51, Tryd.ntmps51
    go_wp2_with fail
    rw [← HW.out]
    go_wp2_with (go_at_call 75; refine HF.out.mono ?_; rintro e' w' ⟨rfl, rfl⟩)
    go_ret
    rw [HS1.out, HE.out]
    exact Lv.same (HPO.out.below HB0.out) rfl HB0.out
set_option maxHeartbeats 4000000 in
set_option maxRecDepth 100000 in
theorem qExclude_any {w : World} {B p : Nat} {τ : Rl} {S : PSt} (h : QO w B τ p S) (hB : B ≤ w.heap.size) (hsz : Sz S 300) (id t x y z : Int) :
    Calls Tryd.prog 52 #[.pointer (some ⟨p, 0, none⟩), .int .i64 id, .int .i64 t, .agg #[.int .i64 x, .int .i64 y]] w (Lv (fun w τ S => QO w B τ p S) w τ (stpD S ⟨2, id, t, x, y, z⟩) (.int .i64 (errD S ⟨2, id, t, x, y, z⟩))) := by
  have HPO := Lib.hid h
  obtain ⟨vl, V, h⟩ := h
  obtain ⟨w2, hW0⟩ : ∃ w2, w2 = w.alloc (.cells #[.int .i64 x, .int .i64 y] 58) := ⟨_, rfl⟩
  have hb0 : Below w.heap.size w w2 := by rw [hW0]; exact (Below.refl _ _).alloc (Nat.le_refl _) _
  have hz0 : w2.heap.size = w.heap.size + 1 := by rw [hW0]; simp
  have hbox : Cel w2 w.heap.size #[.int .i64 x, .int .i64 y] 58 := by rw [hW0]; exact Cel.new _ _ _
  have h0 := h.below hb0
  have HW := Lib.hid hW0
  have HB2 := Lib.hid hb0
  have b0 := hbox.cell 0
  have b1 := hbox.cell 1
  simp at b0 b1
  clear hW0
  by_cases hk : knE (basE id t S.now) (knw S id) = 0
  · have HF := Lib.hid (qknown_ok h0 (Nat.le_trans hsz.1 (by omega)) hk)
    have hkn := (knE_zero hk).2
    obtain ⟨K, hK⟩ : ∃ K, K = fnd S.rs id := ⟨_, rfl⟩
    rw [← hK] at HF
    have HKN := Lib.hid hkn
    have HKE := Lib.hid hK
    have HP2 := Lib.hid h0
    have hbx : w.heap.size < w2.heap.size := by omega
    by_cases hc : t ≤ x ∧ x ≤ y ∧ y ≤ 1073741824
    · have HE := Lib.hid (e2_ok (z := z) hk hc)
      obtain ⟨g1, g2, g3⟩ := hc
      have HS := Lib.hid hsz
      have hn := (hsz.thr id).2.1
      have HTB := Lib.hid (show τ w.heap.size = none from Classical.byContradiction fun c => by have := (h.low _ c).2; omega)
      obtain ⟨i0, hi0, hz00, hz1, hz2⟩ := info_parts infoE
      clear h h0 hk hkn hbox hsz hK hb0 hz0
      go_enter Tryd.func52, Tryd.ntmps52
      go_wp2_with fail
      rw [← HW.out]
      go_wp2_with (go_at_call 75; refine HF.out.mono ?_; rintro e w' ⟨rfl, rfl⟩)
      obtain ⟨l, cl, hvl, hll⟩ := HP2.out.form (Nat.lt_of_le_of_lt (Nat.zero_le _) (knw_iff.1 HKN.out))
      obtain ⟨v0, hv0⟩ : ∃ v0, v0 = V (fnd S.rs id) 1 := ⟨_, rfl⟩
      have HV0 := Lib.hid hv0
      have HVL := Lib.hid hvl
      have hqf := HP2.out.facts HKN.out (f := 1) (by omega) hvl hv0
      obtain ⟨N, hN⟩ : ∃ N, N = S.rs.length := ⟨_, rfl⟩
      rw [← HKE.out, hvl, ← hN] at hqf
      have hKN2 : K < N := by rw [HKE.out, hN]; exact knw_iff.1 HKN.out
      have hKN0 : (0 : Int) ≤ (K : Int) := by omega
      have hKN1 : (K : Int) < (N : Int) := by omega
      have HPF := Lib.hid hqf
      have r0 : w2.cell? ⟨l, K * 4 + 2, none⟩ = some v0 := hqf.r0
      have rf : w2.frozen? ⟨l, K * 4 + 2, none⟩ = false := hqf.rf
      have p0 := hqf.p0
      have hrl := hqf.rl
      have hpl2 := hqf.pl
      have hrow : w2.ownsRow B 58 2 v0 (thr S id).ex.length (flP (thr S id).ex) := by
        have := HP2.out.rw (fnd S.rs id) 1 (knw_iff.1 HKN.out) (by omega)
        rw [← hv0, rOf_thr] at this
        exact this
      have HRW := Lib.hid hrow
      obtain ⟨n, hnn⟩ : ∃ n, n = (thr S id).ex.length := ⟨_, rfl⟩
      rw [← hnn] at hn HRW
      have hzB : B ≤ w2.heap.size := Nat.le_trans hB HB2.out.size
      have hkb : (n + 1) * 16 ≤ 140737488355328 := by omega
      have hkm : n + 1 ≤ maxLen := by unfold maxLen; omega
      have HNN := Lib.hid hnn
      clear hrow hnn hv0 hqf hvl hN hll
      have HA := Lib.hid ((((Below.refl w2.heap.size w2).alloc (Nat.le_refl _) (.cells #[.int .i64 x, .int .i64 y] 58)).drew))
      have HNB := Lib.hid (show some w.heap.size ≠ v0.ownBlock from fun c => by have := HP2.out.tv (fnd S.rs id) 1 w.heap.size (knw_iff.1 HKN.out) (by omega) (by rw [← HV0.out]; exact c.symm); rw [HTB.out] at this; cases this)
      have hlb : l ≠ w.heap.size := fun c => by have := HP2.out.tl l (by rw [HVL.out]; rfl); rw [c, HTB.out] at this; cases this
      have l0 := b0
      have l1 := b1
      have HBC := Lib.hid (show ∀ j v, w2.cell? ⟨w.heap.size, j, none⟩ = some v → ∀ V, (w2.alloc (.cells #[.int .i64 x, .int .i64 y] 58)).drew.grownBy V v0.ownBlock → V.cell? ⟨w.heap.size, j, none⟩ = some v from fun j v hv V hg => (hg.cell_far ⟨w.heap.size, j, none⟩ (by simp; omega) HNB.out).trans ((HA.out.cell (p := ⟨w.heap.size, j, none⟩) hbx).trans hv))
      refine wp_region_held_drew (S := fun w' => w'.cell? ⟨p, 0, none⟩ = some (.slice (some ⟨l, 0, none⟩) N cl) ∧ w'.cell? ⟨w.heap.size, 0, none⟩ = some (.int .i64 x) ∧ w'.cell? ⟨w.heap.size, 1, none⟩ = some (.int .i64 y)) (by kernel_rfl) ?_ (fun hHeld => ?_)
      · go_keep
      refine wpAnyH_take (i := 0) (oi := _) (v := ?_) rfl (by kernel_rfl) (by kernel_rfl) (by kernel_rfl) (fun _ _ _ h => h) (Or.inl ⟨by rfl, ?_⟩) (by assumption) ?_
      rotate_left
      · (intro w hSw; (try dsimp only at hSw); go_simp; (try with_reducible rfl))
      simp only [Act.put, List.setIfInBounds_toArray, List.set_cons_zero, List.set_cons_succ]
      refine wpAnyH_take (i := 1) (oi := _) (v := ?_) rfl (by kernel_rfl) (by kernel_rfl) (by kernel_rfl) (fun _ _ _ h => h) (Or.inl ⟨by rfl, ?_⟩) (by assumption) ?_
      rotate_left
      · (intro w hSw; (try dsimp only at hSw); go_simp; (try with_reducible rfl))
      simp only [Act.put, List.setIfInBounds_toArray, List.set_cons_zero, List.set_cons_succ]
      refine wpAnyH_take (i := 2) (oi := _) (v := ?_) rfl (by kernel_rfl) (by kernel_rfl) (by kernel_rfl) (fun _ _ _ h => h) (Or.inl ⟨by rfl, ?_⟩) (by assumption) ?_
      rotate_left
      · (intro w hSw; (try dsimp only at hSw); go_simp; (try with_reducible rfl))
      simp only [Act.put, List.setIfInBounds_toArray, List.set_cons_zero, List.set_cons_succ]
      refine wpAnyH_take (i := 3) (oi := _) (v := ?_) rfl (by kernel_rfl) (by kernel_rfl) (by kernel_rfl) (fun _ _ _ h => h) (Or.inl ⟨by rfl, ?_⟩) (by assumption) ?_
      rotate_left
      · (intro w hSw; (try dsimp only at hSw); go_simp; (try with_reducible rfl))
      simp only [Act.put, List.setIfInBounds_toArray, List.set_cons_zero, List.set_cons_succ]
      refine wpAnyH_take (i := 4) (oi := _) (v := ?_) rfl (by kernel_rfl) (by kernel_rfl) (by kernel_rfl) (fun _ _ _ h => h) (Or.inl ⟨by rfl, ?_⟩) (by assumption) ?_
      rotate_left
      · (intro w hSw; (try dsimp only at hSw); go_simp; (try with_reducible rfl))
      simp only [Act.put, List.setIfInBounds_toArray, List.set_cons_zero, List.set_cons_succ]
      refine wpAnyH_take (i := 5) (oi := _) (v := ?_) rfl (by kernel_rfl) (by kernel_rfl) (by kernel_rfl) (fun _ _ _ h => h) (Or.inl ⟨by rfl, ?_⟩) (by assumption) ?_
      rotate_left
      · (intro w hSw; (try dsimp only at hSw); go_simp; (try with_reducible rfl))
      simp only [Act.put, List.setIfInBounds_toArray, List.set_cons_zero, List.set_cons_succ]
      refine wpAnyH_take (i := 6) (oi := _) (v := ?_) rfl (by kernel_rfl) (by kernel_rfl) (by kernel_rfl) (fun _ _ _ h => h) (Or.inl ⟨by rfl, ?_⟩) (by assumption) ?_
      rotate_left
      · (intro w hSw; (try dsimp only at hSw); go_simp; (try with_reducible rfl))
      simp only [Act.put, List.setIfInBounds_toArray, List.set_cons_zero, List.set_cons_succ]
      refine wpAnyH_take (i := 7) (oi := _) (v := ?_) rfl (by kernel_rfl) (by kernel_rfl) (by kernel_rfl) (fun _ _ _ h => h) (Or.inl ⟨by rfl, ?_⟩) (by assumption) ?_
      rotate_left
      · (intro w hSw; (try dsimp only at hSw); go_simp; (try with_reducible rfl))
      simp only [Act.put, List.setIfInBounds_toArray, List.set_cons_zero, List.set_cons_succ]
      refine wpAnyH_take (i := 8) (oi := _) (v := ?_) rfl (by kernel_rfl) (by kernel_rfl) (by kernel_rfl) (fun _ _ _ h => h) (Or.inl ⟨by rfl, ?_⟩) (by assumption) ?_
      rotate_left
      · (intro w hSw; (try dsimp only at hSw); go_simp; (try with_reducible rfl))
      simp only [Act.put, List.setIfInBounds_toArray, List.set_cons_zero, List.set_cons_succ]
      refine wpAnyH_take (i := 9) (oi := _) (v := ?_) rfl (by kernel_rfl) (by kernel_rfl) (by kernel_rfl) (fun _ _ _ h => h) (Or.inl ⟨by rfl, ?_⟩) (by assumption) ?_
      rotate_left
      · (intro w hSw; (try dsimp only at hSw); go_simp; (try with_reducible rfl))
      simp only [Act.put, List.setIfInBounds_toArray, List.set_cons_zero, List.set_cons_succ]
      refine wpAnyH_take (i := 10) (oi := _) (v := ?_) rfl (by kernel_rfl) (by kernel_rfl) (by kernel_rfl) (fun _ _ _ h => h) (Or.inl ⟨by rfl, ?_⟩) (by assumption) ?_
      rotate_left
      · (intro w hSw; (try dsimp only at hSw); go_simp; (try with_reducible rfl))
      simp only [Act.put, List.setIfInBounds_toArray, List.set_cons_zero, List.set_cons_succ]
      refine wpAnyH_take (i := 11) (oi := _) (v := ?_) rfl (by kernel_rfl) (by kernel_rfl) (by kernel_rfl) (fun _ _ _ h => h) (Or.inl ⟨by rfl, ?_⟩) (by assumption) ?_
      rotate_left
      · (intro w hSw; (try dsimp only at hSw); go_simp; (try with_reducible rfl))
      simp only [Act.put, List.setIfInBounds_toArray, List.set_cons_zero, List.set_cons_succ]
      refine wpAnyH_take (i := 13) (oi := _) (v := ?_) rfl (by kernel_rfl) (by kernel_rfl) (by kernel_rfl) (fun _ _ _ h => h) (Or.inl ⟨by rfl, ?_⟩) (by assumption) ?_
      rotate_left
      · (intro w hSw; (try dsimp only at hSw); go_simp; (try with_reducible rfl))
      simp only [Act.put, List.setIfInBounds_toArray, List.set_cons_zero, List.set_cons_succ]
      refine wpAnyH_ready (rs := [12, 14]) (by kernel_rfl) (by simp) ?_
      refine AllReadyH.cons (o := _) rfl (fun K2 hK => ?_) (AllReadyH.cons (o := _) rfl (fun K2 hK => ?_) AllReadyH.nil)
      · go_simp
        refine hK.out _ _ ?_ (fun hHeld => ?_)
        · go_keep
        clear hK K2
        try simp only [Act.put, List.setIfInBounds_toArray, List.set_cons_zero, List.set_cons_succ]
        refine wpAnyH_ready (rs := [14]) (by kernel_rfl) (by simp) ?_
        refine AllReadyH.cons (o := _) rfl (fun K2 hK => ?_) AllReadyH.nil
        go_simp
        refine hK.out _ _ ?_ (fun hHeld => ?_)
        · go_keep
        clear hK K2
        try simp only [Act.put, List.setIfInBounds_toArray, List.set_cons_zero, List.set_cons_succ]
        refine wpAnyH_ready (rs := [15]) (by kernel_rfl) (by simp) ?_
        refine AllReadyH.cons (o := _) rfl (fun K2 hK => ?_) AllReadyH.nil
        ((refine step_append_lies _ (by rfl) _ _ _ (by rfl) B 58 i0 _ 2 16 Tryd.underlying56 hi0 hz00 hz1 hz2 rfl (by omega) _ n (flP (thr S id).ex) (by rfl) ((HRW.out.alloc _).drew) ⟨w2.heap.size, 0, none⟩ 1 1 [.int .i64 x, .int .i64 y] (by rfl) (by rfl) (World.news_of_block (cs := #[.int .i64 x, .int .i64 y]) (t := 58) (fr := (0, 0)) (heap_alloc_new w2 _)) (by simp [Value.oneCell']) (by omega) hkm hkb (by simp; omega) (w2.heap.size + 1) (by simp) ?_; intro gg cap w1 hown1 hgrow hat hlt; have HQ := Lib.hid ((HPF.out.fr HA.out).grow hgrow); have q1 := HQ.out.r0; have q2 := HQ.out.rf; have q3 := HQ.out.p1; have q4 := HQ.out.pf; have q5 := HQ.out.rp; have q6 := HQ.out.p0; have HG1 := Lib.hid hgrow; have HO1 := Lib.hid hown1; have HA1 := Lib.hid hat; have HL1 := Lib.hid hlt; clear hown1 hgrow hat hlt))
        refine hK.out _ _ ?_ (fun hHeld => ?_)
        · exact ⟨q6, HBC.out 0 _ l0 _ HG1.out, HBC.out 1 _ l1 _ HG1.out⟩
        clear hK K2
        try simp only [Act.put, List.setIfInBounds_toArray, List.set_cons_zero, List.set_cons_succ]
        refine wpAnyH_take (i := 16) (oi := _) (v := ?_) rfl (by kernel_rfl) (by kernel_rfl) (by kernel_rfl) (fun _ _ _ h => h) (Or.inl ⟨by rfl, ?_⟩) (by assumption) ?_
        rotate_left
        · (intro w hSw; (try dsimp only at hSw); go_simp; (try with_reducible rfl))
        simp only [Act.put, List.setIfInBounds_toArray, List.set_cons_zero, List.set_cons_succ]
        refine wpAnyH_take (i := 17) (oi := _) (v := ?_) rfl (by kernel_rfl) (by kernel_rfl) (by kernel_rfl) (fun _ _ _ h => h) (Or.inl ⟨by rfl, ?_⟩) (by assumption) ?_
        rotate_left
        · (intro w hSw; (try dsimp only at hSw); go_simp; (try with_reducible rfl))
        simp only [Act.put, List.setIfInBounds_toArray, List.set_cons_zero, List.set_cons_succ]
        have z0 := HBC.out 0 _ l0 _ HG1.out
        have z1 := HBC.out 1 _ l1 _ HG1.out
        refine wpAnyH_ready (rs := [18]) (by kernel_rfl) (by simp) ?_
        refine AllReadyH.cons (o := _) rfl (fun K2 hK => ?_) AllReadyH.nil
        go_simp
        refine hK.out _ _ ?_ (fun hHeld => ?_)
        · go_keep
        clear hK K2
        try simp only [Act.put, List.setIfInBounds_toArray, List.set_cons_zero, List.set_cons_succ]
        refine wpAnyH_done (by kernel_rfl) ?_ _
        go_wp2
        go_ret
        rw [stp2 HE.out]
        rw [HNN.out] at HO1 ⊢
        exact ⟨ret_int HE.out.symm, HP2.out.done HB2.out HKN.out (by omega) HVL.out (by rw [HKE.out]) HV0.out HA.out (by simp) HG1.out HA1.out HL1.out (recF_ex (c := (x, y)) HO1.out) keep_ex⟩
      · go_simp
        refine hK.out _ _ ?_ (fun hHeld => ?_)
        · go_keep
        clear hK K2
        try simp only [Act.put, List.setIfInBounds_toArray, List.set_cons_zero, List.set_cons_succ]
        refine wpAnyH_ready (rs := [12]) (by kernel_rfl) (by simp) ?_
        refine AllReadyH.cons (o := _) rfl (fun K2 hK => ?_) AllReadyH.nil
        go_simp
        refine hK.out _ _ ?_ (fun hHeld => ?_)
        · go_keep
        clear hK K2
        try simp only [Act.put, List.setIfInBounds_toArray, List.set_cons_zero, List.set_cons_succ]
        refine wpAnyH_ready (rs := [15]) (by kernel_rfl) (by simp) ?_
        refine AllReadyH.cons (o := _) rfl (fun K2 hK => ?_) AllReadyH.nil
        ((refine step_append_lies _ (by rfl) _ _ _ (by rfl) B 58 i0 _ 2 16 Tryd.underlying56 hi0 hz00 hz1 hz2 rfl (by omega) _ n (flP (thr S id).ex) (by rfl) ((HRW.out.alloc _).drew) ⟨w2.heap.size, 0, none⟩ 1 1 [.int .i64 x, .int .i64 y] (by rfl) (by rfl) (World.news_of_block (cs := #[.int .i64 x, .int .i64 y]) (t := 58) (fr := (0, 0)) (heap_alloc_new w2 _)) (by simp [Value.oneCell']) (by omega) hkm hkb (by simp; omega) (w2.heap.size + 1) (by simp) ?_; intro gg cap w1 hown1 hgrow hat hlt; have HQ := Lib.hid ((HPF.out.fr HA.out).grow hgrow); have q1 := HQ.out.r0; have q2 := HQ.out.rf; have q3 := HQ.out.p1; have q4 := HQ.out.pf; have q5 := HQ.out.rp; have q6 := HQ.out.p0; have HG1 := Lib.hid hgrow; have HO1 := Lib.hid hown1; have HA1 := Lib.hid hat; have HL1 := Lib.hid hlt; clear hown1 hgrow hat hlt))
        refine hK.out _ _ ?_ (fun hHeld => ?_)
        · exact ⟨q6, HBC.out 0 _ l0 _ HG1.out, HBC.out 1 _ l1 _ HG1.out⟩
        clear hK K2
        try simp only [Act.put, List.setIfInBounds_toArray, List.set_cons_zero, List.set_cons_succ]
        refine wpAnyH_take (i := 16) (oi := _) (v := ?_) rfl (by kernel_rfl) (by kernel_rfl) (by kernel_rfl) (fun _ _ _ h => h) (Or.inl ⟨by rfl, ?_⟩) (by assumption) ?_
        rotate_left
        · (intro w hSw; (try dsimp only at hSw); go_simp; (try with_reducible rfl))
        simp only [Act.put, List.setIfInBounds_toArray, List.set_cons_zero, List.set_cons_succ]
        refine wpAnyH_take (i := 17) (oi := _) (v := ?_) rfl (by kernel_rfl) (by kernel_rfl) (by kernel_rfl) (fun _ _ _ h => h) (Or.inl ⟨by rfl, ?_⟩) (by assumption) ?_
        rotate_left
        · (intro w hSw; (try dsimp only at hSw); go_simp; (try with_reducible rfl))
        simp only [Act.put, List.setIfInBounds_toArray, List.set_cons_zero, List.set_cons_succ]
        have z0 := HBC.out 0 _ l0 _ HG1.out
        have z1 := HBC.out 1 _ l1 _ HG1.out
        refine wpAnyH_ready (rs := [18]) (by kernel_rfl) (by simp) ?_
        refine AllReadyH.cons (o := _) rfl (fun K2 hK => ?_) AllReadyH.nil
        go_simp
        refine hK.out _ _ ?_ (fun hHeld => ?_)
        · go_keep
        clear hK K2
        try simp only [Act.put, List.setIfInBounds_toArray, List.set_cons_zero, List.set_cons_succ]
        refine wpAnyH_done (by kernel_rfl) ?_ _
        go_wp2
        go_ret
        rw [stp2 HE.out]
        rw [HNN.out] at HO1 ⊢
        exact ⟨ret_int HE.out.symm, HP2.out.done HB2.out HKN.out (by omega) HVL.out (by rw [HKE.out]) HV0.out HA.out (by simp) HG1.out HA1.out HL1.out (recF_ex (c := (x, y)) HO1.out) keep_ex⟩
    · have HE := Lib.hid (e2_bad (z := z) hk hc)
      have HS1 := Lib.hid (stp_err (S := S) (d := ⟨2, id, t, x, y, z⟩) (by rw [HE.out]; decide))
      have hway : x < t ∨ (t ≤ x ∧ y < x) ∨ (t ≤ x ∧ x ≤ y ∧ 1073741824 < y) := by omega
      clear h h0 hk hkn hc hbox hsz hK hb0
      rcases hway with g1 | ⟨g1, g2⟩ | ⟨g1, g2, g3⟩
      all_goals
        go_enter Tryd.func52, Tryd.ntmps52
        go_wp2_with fail
        rw [← HW.out]
        go_wp2_with (go_at_call 75; refine HF.out.mono ?_; rintro e w' ⟨rfl, rfl⟩)
        go_ret
        rw [HS1.out, HE.out]
        exact Lv.same (HPO.out.below HB2.out) rfl HB2.out
  · obtain ⟨e, he⟩ : ∃ e, knE (basE id t S.now) (knw S id) = e := ⟨_, rfl⟩
    have hne : e ≠ 0 := by rw [← he]; exact hk
    have HE := Lib.hid (e2_no (x := x) (y := y) (z := z) he hne)
    have HS1 := Lib.hid (stp_err (S := S) (d := ⟨2, id, t, x, y, z⟩) (by rw [HE.out]; exact hne))
    have hnb : (e != 0) = true := by simp [hne]
    have HF := Lib.hid (qknown_no h0 (Nat.le_trans hsz.1 (by omega)) he hne)
    clear h h0 hk hbox hsz hb0 he hne
    go_enter Tryd.func52, Tryd.ntmps52
    go_wp2_with fail
    rw [← HW.out]
    go_wp2_with (go_at_call 75; refine HF.out.mono ?_; rintro e' w' ⟨rfl, rfl⟩)
    go_ret
    rw [HS1.out, HE.out]
    exact Lv.same (HPO.out.below HB2.out) rfl HB2.out
set_option maxHeartbeats 4000000 in
set_option maxRecDepth 100000 in
theorem qRefund_any {w2 : World} {B p : Nat} {τ : Rl} {S : PSt} (h : QO w2 B τ p S) (hB : B ≤ w2.heap.size) (hsz : Sz S 300) (id t x y z : Int) :
    Calls Tryd.prog 55 #[.pointer (some ⟨p, 0, none⟩), .int .i64 id, .int .i64 t, .int .i64 x] w2 (Lv (fun w τ S => QO w B τ p S) w2 τ (stpD S ⟨5, id, t, x, y, z⟩) (.int .i64 (errD S ⟨5, id, t, x, y, z⟩))) := by
  have HPO := Lib.hid h
  obtain ⟨vl, V, h⟩ := h
  have HB2 := Lib.hid (Below.refl w2.heap.size w2)
  by_cases hk : knE (basE id t S.now) (knw S id) = 0
  · have HF := Lib.hid (qknown_ok h (Nat.le_trans hsz.1 (by omega)) hk)
    have hkn := (knE_zero hk).2
    obtain ⟨K, hK⟩ : ∃ K, K = fnd S.rs id := ⟨_, rfl⟩
    rw [← hK] at HF
    have HKN := Lib.hid hkn
    have HKE := Lib.hid hK
    have HP2 := Lib.hid h
    have HVA := Lib.hid (rValid_any x w2)
    cases hc : amB x with
    | true =>
      have HE := Lib.hid (e5_ok (y := y) (z := z) hk hc)
      have hx := (amB_iff x).1 hc
      have hwr : wrap64 (-x) = -x := IntWalk.wrap64_in _ (by omega)
      have hwi : IntKind.i64.wrap (-x) = -x := IntWalk.i64_in _ (by omega)
      rw [hc] at HVA
      have HS := Lib.hid hsz
      have hn := (hsz.thr id).2.2
      obtain ⟨i0, hi0, hz00, hz1, hz2⟩ := info_parts infoSp
      clear h hk hkn hsz hK hc
      obtain ⟨l, cl, hvl, hll⟩ := HP2.out.form (Nat.lt_of_le_of_lt (Nat.zero_le _) (knw_iff.1 HKN.out))
      obtain ⟨v0, hv0⟩ : ∃ v0, v0 = V (fnd S.rs id) 2 := ⟨_, rfl⟩
      have HV0 := Lib.hid hv0
      have HVL := Lib.hid hvl
      have hqf := HP2.out.facts HKN.out (f := 2) (by omega) hvl hv0
      obtain ⟨N, hN⟩ : ∃ N, N = S.rs.length := ⟨_, rfl⟩
      rw [← HKE.out, hvl, ← hN] at hqf
      have hKN2 : K < N := by rw [HKE.out, hN]; exact knw_iff.1 HKN.out
      have hKN0 : (0 : Int) ≤ (K : Int) := by omega
      have hKN1 : (K : Int) < (N : Int) := by omega
      have HPF := Lib.hid hqf
      have r0 : w2.cell? ⟨l, K * 4 + 3, none⟩ = some v0 := hqf.r0
      have rf : w2.frozen? ⟨l, K * 4 + 3, none⟩ = false := hqf.rf
      have p0 := hqf.p0
      have hrl := hqf.rl
      have hpl2 := hqf.pl
      have hrow : w2.ownsRow B 26 2 v0 (thr S id).hi.length (flP (thr S id).hi) := by
        have := HP2.out.rw (fnd S.rs id) 2 (knw_iff.1 HKN.out) (by omega)
        rw [← hv0, rOf_thr] at this
        exact this
      have HRW := Lib.hid hrow
      obtain ⟨n, hnn⟩ : ∃ n, n = (thr S id).hi.length := ⟨_, rfl⟩
      rw [← hnn] at hn HRW
      have hzB : B ≤ w2.heap.size := Nat.le_trans hB HB2.out.size
      have hkb : (n + 1) * 16 ≤ 140737488355328 := by omega
      have hkm : n + 1 ≤ maxLen := by unfold maxLen; omega
      have HNN := Lib.hid hnn
      clear hrow hnn hv0 hqf hvl hN hll
      have HA := Lib.hid ((((Below.refl w2.heap.size w2).alloc (Nat.le_refl _) (.cells #[.int .i64 t, .int .i64 (-x)] 26)).drew))
      go_enter Tryd.func55, Tryd.ntmps55
      go_wp2_with (first
        | (go_at_call 75; refine HF.out.mono ?_; rintro e w' ⟨rfl, rfl⟩)
        | (go_at_call 77; refine HVA.out.mono ?_; rintro e w' ⟨rfl, rfl⟩))
      refine wp_region_held_drew (S := fun w' => w'.cell? ⟨p, 0, none⟩ = some (.slice (some ⟨l, 0, none⟩) N cl)) (by kernel_rfl) ?_ (fun hHeld => ?_)
      · go_keep
      refine wpAnyH_take (i := 0) (oi := _) (v := ?_) rfl (by kernel_rfl) (by kernel_rfl) (by kernel_rfl) (fun _ _ _ h => h) (Or.inl ⟨by rfl, ?_⟩) (by assumption) ?_
      rotate_left
      · (intro w hSw; (try dsimp only at hSw); go_simp; (try with_reducible rfl))
      simp only [Act.put, List.setIfInBounds_toArray, List.set_cons_zero, List.set_cons_succ]
      refine wpAnyH_take (i := 1) (oi := _) (v := ?_) rfl (by kernel_rfl) (by kernel_rfl) (by kernel_rfl) (fun _ _ _ h => h) (Or.inl ⟨by rfl, ?_⟩) (by assumption) ?_
      rotate_left
      · (intro w hSw; (try dsimp only at hSw); go_simp; (try with_reducible rfl))
      simp only [Act.put, List.setIfInBounds_toArray, List.set_cons_zero, List.set_cons_succ]
      refine wpAnyH_take (i := 2) (oi := _) (v := ?_) rfl (by kernel_rfl) (by kernel_rfl) (by kernel_rfl) (fun _ _ _ h => h) (Or.inl ⟨by rfl, ?_⟩) (by assumption) ?_
      rotate_left
      · (intro w hSw; (try dsimp only at hSw); go_simp; (try with_reducible rfl))
      simp only [Act.put, List.setIfInBounds_toArray, List.set_cons_zero, List.set_cons_succ]
      refine wpAnyH_take (i := 3) (oi := _) (v := ?_) rfl (by kernel_rfl) (by kernel_rfl) (by kernel_rfl) (fun _ _ _ h => h) (Or.inl ⟨by rfl, ?_⟩) (by assumption) ?_
      rotate_left
      · (intro w hSw; (try dsimp only at hSw); go_simp; (try with_reducible rfl))
      simp only [Act.put, List.setIfInBounds_toArray, List.set_cons_zero, List.set_cons_succ]
      refine wpAnyH_take (i := 4) (oi := _) (v := ?_) rfl (by kernel_rfl) (by kernel_rfl) (by kernel_rfl) (fun _ _ _ h => h) (Or.inl ⟨by rfl, ?_⟩) (by assumption) ?_
      rotate_left
      · (intro w hSw; (try dsimp only at hSw); go_simp; (try with_reducible rfl))
      simp only [Act.put, List.setIfInBounds_toArray, List.set_cons_zero, List.set_cons_succ]
      refine wpAnyH_take (i := 5) (oi := _) (v := ?_) rfl (by kernel_rfl) (by kernel_rfl) (by kernel_rfl) (fun _ _ _ h => h) (Or.inl ⟨by rfl, ?_⟩) (by assumption) ?_
      rotate_left
      · (intro w hSw; (try dsimp only at hSw); go_simp; (try with_reducible rfl))
      simp only [Act.put, List.setIfInBounds_toArray, List.set_cons_zero, List.set_cons_succ]
      refine wpAnyH_take (i := 6) (oi := _) (v := ?_) rfl (by kernel_rfl) (by kernel_rfl) (by kernel_rfl) (fun _ _ _ h => h) (Or.inl ⟨by rfl, ?_⟩) (by assumption) ?_
      rotate_left
      · (intro w hSw; (try dsimp only at hSw); go_simp; (try with_reducible rfl))
      simp only [Act.put, List.setIfInBounds_toArray, List.set_cons_zero, List.set_cons_succ]
      refine wpAnyH_take (i := 7) (oi := _) (v := ?_) rfl (by kernel_rfl) (by kernel_rfl) (by kernel_rfl) (fun _ _ _ h => h) (Or.inl ⟨by rfl, ?_⟩) (by assumption) ?_
      rotate_left
      · (intro w hSw; (try dsimp only at hSw); go_simp; (try with_reducible rfl))
      simp only [Act.put, List.setIfInBounds_toArray, List.set_cons_zero, List.set_cons_succ]
      refine wpAnyH_take (i := 8) (oi := _) (v := ?_) rfl (by kernel_rfl) (by kernel_rfl) (by kernel_rfl) (fun _ _ _ h => h) (Or.inl ⟨by rfl, ?_⟩) (by assumption) ?_
      rotate_left
      · (intro w hSw; (try dsimp only at hSw); go_simp; (try with_reducible rfl))
      simp only [Act.put, List.setIfInBounds_toArray, List.set_cons_zero, List.set_cons_succ]
      refine wpAnyH_take (i := 9) (oi := _) (v := ?_) rfl (by kernel_rfl) (by kernel_rfl) (by kernel_rfl) (fun _ _ _ h => h) (Or.inl ⟨by rfl, ?_⟩) (by assumption) ?_
      rotate_left
      · (intro w hSw; (try dsimp only at hSw); go_simp; (try with_reducible rfl))
      simp only [Act.put, List.setIfInBounds_toArray, List.set_cons_zero, List.set_cons_succ]
      refine wpAnyH_take (i := 10) (oi := _) (v := ?_) rfl (by kernel_rfl) (by kernel_rfl) (by kernel_rfl) (fun _ _ _ h => h) (Or.inl ⟨by rfl, ?_⟩) (by assumption) ?_
      rotate_left
      · (intro w hSw; (try dsimp only at hSw); go_simp; (try with_reducible rfl))
      simp only [Act.put, List.setIfInBounds_toArray, List.set_cons_zero, List.set_cons_succ]
      refine wpAnyH_take (i := 11) (oi := _) (v := ?_) rfl (by kernel_rfl) (by kernel_rfl) (by kernel_rfl) (fun _ _ _ h => h) (Or.inl ⟨by rfl, ?_⟩) (by assumption) ?_
      rotate_left
      · (intro w hSw; (try dsimp only at hSw); go_simp; (try with_reducible rfl))
      simp only [Act.put, List.setIfInBounds_toArray, List.set_cons_zero, List.set_cons_succ]
      refine wpAnyH_take (i := 13) (oi := _) (v := ?_) rfl (by kernel_rfl) (by kernel_rfl) (by kernel_rfl) (fun _ _ _ h => h) (Or.inl ⟨by rfl, ?_⟩) (by assumption) ?_
      rotate_left
      · (intro w hSw; (try dsimp only at hSw); go_simp; (try with_reducible rfl))
      simp only [Act.put, List.setIfInBounds_toArray, List.set_cons_zero, List.set_cons_succ]
      refine wpAnyH_take (i := 14) (oi := _) (v := ?_) rfl (by kernel_rfl) (by kernel_rfl) (by kernel_rfl) (fun _ _ _ h => h) (Or.inl ⟨by rfl, ?_⟩) (by assumption) ?_
      rotate_left
      · (intro w hSw; (try dsimp only at hSw); go_simp; (try with_reducible rfl))
      simp only [Act.put, List.setIfInBounds_toArray, List.set_cons_zero, List.set_cons_succ]
      refine wpAnyH_take (i := 15) (oi := _) (v := ?_) rfl (by kernel_rfl) (by kernel_rfl) (by kernel_rfl) (fun _ _ _ h => h) (Or.inl ⟨by rfl, ?_⟩) (by assumption) ?_
      rotate_left
      · (intro w hSw; (try dsimp only at hSw); go_simp; (try with_reducible rfl))
      simp only [Act.put, List.setIfInBounds_toArray, List.set_cons_zero, List.set_cons_succ]
      refine wpAnyH_take (i := 16) (oi := _) (v := ?_) rfl (by kernel_rfl) (by kernel_rfl) (by kernel_rfl) (fun _ _ _ h => h) (Or.inl ⟨by rfl, ?_⟩) (by assumption) ?_
      rotate_left
      · (intro w hSw; (try dsimp only at hSw); go_simp; (try with_reducible rfl))
      simp only [Act.put, List.setIfInBounds_toArray, List.set_cons_zero, List.set_cons_succ]
      refine wpAnyH_ready (rs := [12, 17]) (by kernel_rfl) (by simp) ?_
      refine AllReadyH.cons (o := _) rfl (fun K2 hK => ?_) (AllReadyH.cons (o := _) rfl (fun K2 hK => ?_) AllReadyH.nil)
      · go_simp
        refine hK.out _ _ ?_ (fun hHeld => ?_)
        · go_keep
        clear hK K2
        try simp only [Act.put, List.setIfInBounds_toArray, List.set_cons_zero, List.set_cons_succ]
        refine wpAnyH_ready (rs := [17]) (by kernel_rfl) (by simp) ?_
        refine AllReadyH.cons (o := _) rfl (fun K2 hK => ?_) AllReadyH.nil
        go_simp
        refine hK.out _ _ ?_ (fun hHeld => ?_)
        · go_keep
        clear hK K2
        try simp only [Act.put, List.setIfInBounds_toArray, List.set_cons_zero, List.set_cons_succ]
        refine wpAnyH_ready (rs := [18]) (by kernel_rfl) (by simp) ?_
        refine AllReadyH.cons (o := _) rfl (fun K2 hK => ?_) AllReadyH.nil
        ((refine step_append_lies _ (by rfl) _ _ _ (by rfl) B 26 i0 _ 2 16 Tryd.underlying22 hi0 hz00 hz1 hz2 rfl (by omega) _ n (flP (thr S id).hi) (by rfl) ((HRW.out.alloc _).drew) ⟨w2.heap.size, 0, none⟩ 1 1 [.int .i64 t, .int .i64 (-x)] (by rfl) (by rfl) (World.news_of_block (cs := #[.int .i64 t, .int .i64 (-x)]) (t := 26) (fr := (0, 0)) (heap_alloc_new w2 _)) (by simp [Value.oneCell']) (by omega) hkm hkb (by simp; omega) (w2.heap.size + 1) (by simp) ?_; intro gg cap w1 hown1 hgrow hat hlt; have HQ := Lib.hid ((HPF.out.fr HA.out).grow hgrow); have q1 := HQ.out.r0; have q2 := HQ.out.rf; have q3 := HQ.out.p1; have q4 := HQ.out.pf; have q5 := HQ.out.rp; have q6 := HQ.out.p0; have HG1 := Lib.hid hgrow; have HO1 := Lib.hid hown1; have HA1 := Lib.hid hat; have HL1 := Lib.hid hlt; clear hown1 hgrow hat hlt))
        refine hK.out _ _ ?_ (fun hHeld => ?_)
        · exact q6
        clear hK K2
        try simp only [Act.put, List.setIfInBounds_toArray, List.set_cons_zero, List.set_cons_succ]
        refine wpAnyH_take (i := 19) (oi := _) (v := ?_) rfl (by kernel_rfl) (by kernel_rfl) (by kernel_rfl) (fun _ _ _ h => h) (Or.inl ⟨by rfl, ?_⟩) (by assumption) ?_
        rotate_left
        · (intro w hSw; (try dsimp only at hSw); go_simp; (try with_reducible rfl))
        simp only [Act.put, List.setIfInBounds_toArray, List.set_cons_zero, List.set_cons_succ]
        refine wpAnyH_take (i := 20) (oi := _) (v := ?_) rfl (by kernel_rfl) (by kernel_rfl) (by kernel_rfl) (fun _ _ _ h => h) (Or.inl ⟨by rfl, ?_⟩) (by assumption) ?_
        rotate_left
        · (intro w hSw; (try dsimp only at hSw); go_simp; (try with_reducible rfl))
        simp only [Act.put, List.setIfInBounds_toArray, List.set_cons_zero, List.set_cons_succ]
        refine wpAnyH_ready (rs := [21]) (by kernel_rfl) (by simp) ?_
        refine AllReadyH.cons (o := _) rfl (fun K2 hK => ?_) AllReadyH.nil
        go_simp
        refine hK.out _ _ ?_ (fun hHeld => ?_)
        · go_keep
        clear hK K2
        try simp only [Act.put, List.setIfInBounds_toArray, List.set_cons_zero, List.set_cons_succ]
        refine wpAnyH_done (by kernel_rfl) ?_ _
        go_wp2
        go_ret
        rw [stp5 HE.out]
        rw [HNN.out] at HO1 ⊢
        exact ⟨ret_int HE.out.symm, HP2.out.done HB2.out HKN.out (by omega) HVL.out (by rw [HKE.out]) HV0.out HA.out (by simp) HG1.out HA1.out HL1.out (recF_hi (c := (t, -x)) HO1.out) keep_hi⟩
      · go_simp
        refine hK.out _ _ ?_ (fun hHeld => ?_)
        · go_keep
        clear hK K2
        try simp only [Act.put, List.setIfInBounds_toArray, List.set_cons_zero, List.set_cons_succ]
        refine wpAnyH_ready (rs := [12]) (by kernel_rfl) (by simp) ?_
        refine AllReadyH.cons (o := _) rfl (fun K2 hK => ?_) AllReadyH.nil
        go_simp
        refine hK.out _ _ ?_ (fun hHeld => ?_)
        · go_keep
        clear hK K2
        try simp only [Act.put, List.setIfInBounds_toArray, List.set_cons_zero, List.set_cons_succ]
        refine wpAnyH_ready (rs := [18]) (by kernel_rfl) (by simp) ?_
        refine AllReadyH.cons (o := _) rfl (fun K2 hK => ?_) AllReadyH.nil
        ((refine step_append_lies _ (by rfl) _ _ _ (by rfl) B 26 i0 _ 2 16 Tryd.underlying22 hi0 hz00 hz1 hz2 rfl (by omega) _ n (flP (thr S id).hi) (by rfl) ((HRW.out.alloc _).drew) ⟨w2.heap.size, 0, none⟩ 1 1 [.int .i64 t, .int .i64 (-x)] (by rfl) (by rfl) (World.news_of_block (cs := #[.int .i64 t, .int .i64 (-x)]) (t := 26) (fr := (0, 0)) (heap_alloc_new w2 _)) (by simp [Value.oneCell']) (by omega) hkm hkb (by simp; omega) (w2.heap.size + 1) (by simp) ?_; intro gg cap w1 hown1 hgrow hat hlt; have HQ := Lib.hid ((HPF.out.fr HA.out).grow hgrow); have q1 := HQ.out.r0; have q2 := HQ.out.rf; have q3 := HQ.out.p1; have q4 := HQ.out.pf; have q5 := HQ.out.rp; have q6 := HQ.out.p0; have HG1 := Lib.hid hgrow; have HO1 := Lib.hid hown1; have HA1 := Lib.hid hat; have HL1 := Lib.hid hlt; clear hown1 hgrow hat hlt))
        refine hK.out _ _ ?_ (fun hHeld => ?_)
        · exact q6
        clear hK K2
        try simp only [Act.put, List.setIfInBounds_toArray, List.set_cons_zero, List.set_cons_succ]
        refine wpAnyH_take (i := 19) (oi := _) (v := ?_) rfl (by kernel_rfl) (by kernel_rfl) (by kernel_rfl) (fun _ _ _ h => h) (Or.inl ⟨by rfl, ?_⟩) (by assumption) ?_
        rotate_left
        · (intro w hSw; (try dsimp only at hSw); go_simp; (try with_reducible rfl))
        simp only [Act.put, List.setIfInBounds_toArray, List.set_cons_zero, List.set_cons_succ]
        refine wpAnyH_take (i := 20) (oi := _) (v := ?_) rfl (by kernel_rfl) (by kernel_rfl) (by kernel_rfl) (fun _ _ _ h => h) (Or.inl ⟨by rfl, ?_⟩) (by assumption) ?_
        rotate_left
        · (intro w hSw; (try dsimp only at hSw); go_simp; (try with_reducible rfl))
        simp only [Act.put, List.setIfInBounds_toArray, List.set_cons_zero, List.set_cons_succ]
        refine wpAnyH_ready (rs := [21]) (by kernel_rfl) (by simp) ?_
        refine AllReadyH.cons (o := _) rfl (fun K2 hK => ?_) AllReadyH.nil
        go_simp
        refine hK.out _ _ ?_ (fun hHeld => ?_)
        · go_keep
        clear hK K2
        try simp only [Act.put, List.setIfInBounds_toArray, List.set_cons_zero, List.set_cons_succ]
        refine wpAnyH_done (by kernel_rfl) ?_ _
        go_wp2
        go_ret
        rw [stp5 HE.out]
        rw [HNN.out] at HO1 ⊢
        exact ⟨ret_int HE.out.symm, HP2.out.done HB2.out HKN.out (by omega) HVL.out (by rw [HKE.out]) HV0.out HA.out (by simp) HG1.out HA1.out HL1.out (recF_hi (c := (t, -x)) HO1.out) keep_hi⟩
    | false =>
      have HE := Lib.hid (e5_bad (y := y) (z := z) hk hc)
      have HS1 := Lib.hid (stp_err (S := S) (d := ⟨5, id, t, x, y, z⟩) (by rw [HE.out]; decide))
      rw [hc] at HVA
      clear h hk hkn hsz hK hc
      go_enter Tryd.func55, Tryd.ntmps55
      go_wp2_with (first
        | (go_at_call 75; refine HF.out.mono ?_; rintro e w' ⟨rfl, rfl⟩)
        | (go_at_call 77; refine HVA.out.mono ?_; rintro e w' ⟨rfl, rfl⟩))
      go_ret
      rw [HS1.out, HE.out]
      exact Lv.same HPO.out rfl HB2.out
  · obtain ⟨e, he⟩ : ∃ e, knE (basE id t S.now) (knw S id) = e := ⟨_, rfl⟩
    have hne : e ≠ 0 := by rw [← he]; exact hk
    have HE := Lib.hid (e5_no (x := x) (y := y) (z := z) he hne)
    have HS1 := Lib.hid (stp_err (S := S) (d := ⟨5, id, t, x, y, z⟩) (by rw [HE.out]; exact hne))
    have hnb : (e != 0) = true := by simp [hne]
    have HF := Lib.hid (qknown_no h (Nat.le_trans hsz.1 (by omega)) he hne)
    clear h hk hsz he hne
    go_enter Tryd.func55, Tryd.ntmps55
    go_wp2_with (go_at_call 75; refine HF.out.mono ?_; rintro e' w' ⟨rfl, rfl⟩)
    go_ret
    rw [HS1.out, HE.out]
    exact Lv.same HPO.out rfl HB2.out
end Go.Proofs.YtainelkenkgppaaDoor
