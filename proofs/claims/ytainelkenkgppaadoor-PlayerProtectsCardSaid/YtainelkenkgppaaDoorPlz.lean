/- The program's object: Exclude, Charge, Refund. -/
import Derived.Test.YtainelkenkgppaaDoorPlx
import Derived.Test.YtainelkenkgppaaDoorPly
namespace Go.Proofs.YtainelkenkgppaaDoor
open Go.ChangeShapes Go.WideShapes Go.ChangeAt Go.RowKit Go.Lott
open Go.Sort Go.Lott.Stb Go.Lott.Srt Go.Lott.Lm
theorem e2_ok {S : PSt} {id t x y z : Int} (h : knE (basE id t S.now) (knw S id) = 0) (hc : t ≤ x ∧ x ≤ y ∧ y ≤ 1073741824) : errD S ⟨2, id, t, x, y, z⟩ = 0 := by
  show excE _ _ _ _ _ = 0
  unfold excE; rw [if_pos h, if_pos hc]
theorem e2_bad {S : PSt} {id t x y z : Int} (h : knE (basE id t S.now) (knw S id) = 0) (hc : ¬ (t ≤ x ∧ x ≤ y ∧ y ≤ 1073741824)) : errD S ⟨2, id, t, x, y, z⟩ = 2 := by
  show excE _ _ _ _ _ = 2
  unfold excE; rw [if_pos h, if_neg hc]
theorem e2_no {S : PSt} {id t x y z e : Int} (h : knE (basE id t S.now) (knw S id) = e) (he : e ≠ 0) : errD S ⟨2, id, t, x, y, z⟩ = e := by
  show excE _ _ _ _ _ = e
  unfold excE; rw [if_neg (by rw [h]; exact he), h]
theorem e5_ok {S : PSt} {id t x y z : Int} (h : knE (basE id t S.now) (knw S id) = 0) (hc : amB x = true) : errD S ⟨5, id, t, x, y, z⟩ = 0 := by
  show rfE _ _ _ = 0
  unfold rfE; rw [if_pos h, if_pos hc]
theorem e5_bad {S : PSt} {id t x y z : Int} (h : knE (basE id t S.now) (knw S id) = 0) (hc : amB x = false) : errD S ⟨5, id, t, x, y, z⟩ = 2 := by
  show rfE _ _ _ = 2
  unfold rfE; rw [if_pos h, hc]; rfl
theorem e5_no {S : PSt} {id t x y z e : Int} (h : knE (basE id t S.now) (knw S id) = e) (he : e ≠ 0) : errD S ⟨5, id, t, x, y, z⟩ = e := by
  show rfE _ _ _ = e
  unfold rfE; rw [if_neg (by rw [h]; exact he), h]
theorem e4_eq {S : PSt} {id t x y z : Int} : errD S ⟨4, id, t, x, y, z⟩ = alE (basE id t S.now) (knw S id) (thr S id) t x := rfl
theorem e4_no {S : PSt} {id t x y z e : Int} (h : knE (basE id t S.now) (knw S id) = e) (he : e ≠ 0) : errD S ⟨4, id, t, x, y, z⟩ = e := by
  rw [e4_eq]; unfold alE; rw [if_neg (by rw [h]; exact he), h]
theorem e4_bar {S : PSt} {id t x y z : Int} (h : knE (basE id t S.now) (knw S id) = 0) (hb : barred (thr S id).ex t = true) : errD S ⟨4, id, t, x, y, z⟩ = 20 := by
  rw [e4_eq]; unfold alE; rw [if_pos h, hb]; rfl
theorem e4_al {S : PSt} {id t x y z : Int} (h : knE (basE id t S.now) (knw S id) = 0) (hb : barred (thr S id).ex t = false) : errD S ⟨4, id, t, x, y, z⟩ = alN (zP (thr S id).hi) (thr S id).hi.length (zC (thr S id).ch) (thr S id).ch.length t x := by
  rw [e4_eq]; unfold alE; rw [if_pos h, hb]; rfl
set_option maxHeartbeats 4000000 in
set_option maxRecDepth 100000 in
theorem pExclude_any {w : World} {B p : Nat} {τ : Rl} {S : PSt} (h : PO w B τ p S) (hB : B ≤ w.heap.size) (hsz : Sz S 300) (id t x y z : Int) :
    Calls Tryd.prog 46 #[.pointer (some ⟨p, 0, none⟩), .int .i64 id, .int .i64 t, .agg #[.int .i64 x, .int .i64 y]] w (Lv (fun w τ S => PO w B τ p S) w τ (stpD S ⟨2, id, t, x, y, z⟩) (.int .i64 (errD S ⟨2, id, t, x, y, z⟩))) := by
  have HPO := Lib.hid h
  obtain ⟨m, D, rb, V, h⟩ := h
  obtain ⟨w2, hW0⟩ : ∃ w2, w2 = w.alloc (.cells #[.int .i64 x, .int .i64 y] 58) := ⟨_, rfl⟩
  have hb0 : Below w.heap.size w w2 := by rw [hW0]; exact (Below.refl _ _).alloc (Nat.le_refl _) _
  have hz0 : w2.heap.size = w.heap.size + 1 := by rw [hW0]; simp
  have hbox : Cel w2 w.heap.size #[.int .i64 x, .int .i64 y] 58 := by rw [hW0]; exact Cel.new _ _ _
  have h0 := h.below hb0
  have HW := Lib.hid hW0
  have HB2 := Lib.hid hb0
  have b0 := hbox.cell 0
  have b1 := hbox.cell 1
  simp at b0 b1
  clear hW0
  by_cases hk : knE (basE id t S.now) (knw S id) = 0
  · have HF := Lib.hid (pfind_ok h0 hk)
    have hkn := (knE_zero hk).2
    obtain ⟨K, hK⟩ : ∃ K, K = fnd S.rs id := ⟨_, rfl⟩
    obtain ⟨R, hR⟩ : ∃ R, R = rb K := ⟨_, rfl⟩
    have hRk : R = rb (fnd S.rs id) := by rw [← hK]; exact hR
    rw [← hRk] at HF
    have HKN := Lib.hid hkn
    have HRK := Lib.hid hRk
    have HP2 := Lib.hid h0
    have hbx : w.heap.size < w2.heap.size := by omega
    by_cases hc : t ≤ x ∧ x ≤ y ∧ y ≤ 1073741824
    · have HE := Lib.hid (e2_ok (z := z) hk hc)
      obtain ⟨g1, g2, g3⟩ := hc
      have HS := Lib.hid hsz
      have hn := (hsz.thr id).2.1
      obtain ⟨i0, hi0, hz00, hz1, hz2⟩ := info_parts infoE
      clear h h0 hk hkn hbox hsz hK hR hRk hb0 hz0
      go_enter Tryd.func46, Tryd.ntmps46
      go_wp2_with fail
      rw [← HW.out]
      go_wp2_with (go_at_call 69; refine HF.out.mono ?_; rintro e w' ⟨rfl, rfl⟩)
      obtain ⟨v0, hv0⟩ : ∃ v0, v0 = V (fnd S.rs id) 1 := ⟨_, rfl⟩
      have HV0 := Lib.hid hv0
      have HPF := Lib.hid (HP2.out.facts HKN.out (f := 1) (by omega) HRK.out hv0)
      have r0 := HPF.out.r0
      have rf := HPF.out.rf
      have hrl := HPF.out.rl
      have hrow : w2.ownsRow B 58 2 v0 (thr S id).ex.length (flP (thr S id).ex) := by
        have := HP2.out.rw (fnd S.rs id) 1 (knw_iff.1 HKN.out) (by omega)
        rw [← hv0, rOf_thr] at this
        exact this
      have HRW := Lib.hid hrow
      obtain ⟨n, hnn⟩ : ∃ n, n = (thr S id).ex.length := ⟨_, rfl⟩
      rw [← hnn] at hn HRW
      have hzB : B ≤ w2.heap.size := Nat.le_trans hB HB2.out.size
      have hkb : (n + 1) * 16 ≤ 140737488355328 := by omega
      have hkm : n + 1 ≤ maxLen := by unfold maxLen; omega
      have HNN := Lib.hid hnn
      clear hrow hnn hv0
      have HA := Lib.hid ((((Below.refl w2.heap.size w2).alloc (Nat.le_refl _) (.cells #[.int .i64 x, .int .i64 y] 58)).drew))
      go_region_law ((refine step_append_lies _ (by rfl) _ _ _ (by rfl) B 58 i0 _ 2 16 Tryd.underlying56 hi0 hz00 hz1 hz2 rfl (by omega) _ n (flP (thr S id).ex) (by rfl) ((HRW.out.alloc _).drew) ⟨w2.heap.size, 0, none⟩ 1 1 [.int .i64 x, .int .i64 y] (by rfl) (by rfl) (World.news_of_block (cs := #[.int .i64 x, .int .i64 y]) (t := 58) (fr := (0, 0)) (heap_alloc_new w2 _)) (by simp [Value.oneCell']) (by omega) hkm hkb (by simp; omega) (w2.heap.size + 1) (by simp) ?_; intro gg cap w1 hown1 hgrow hat hlt; have HQ := Lib.hid ((HPF.out.fr HA.out).grow hgrow); have q1 := HQ.out.r0; have q2 := HQ.out.rf; have q3 := HQ.out.p1; have q4 := HQ.out.pf; have q5 := HQ.out.rp; have HG1 := Lib.hid hgrow; have HO1 := Lib.hid hown1; have HA1 := Lib.hid hat; have HL1 := Lib.hid hlt; clear hown1 hgrow hat hlt))
      all_goals
        go_wp2
        go_ret
        rw [stp2 HE.out]
        rw [HNN.out] at HO1 ⊢
        exact ⟨ret_int HE.out.symm, HP2.out.done HB2.out HKN.out (by omega) HRK.out HV0.out HA.out (by simp) HG1.out HA1.out HL1.out (recF_ex (c := (x, y)) HO1.out) keep_ex⟩
    · have HE := Lib.hid (e2_bad (z := z) hk hc)
      have HS1 := Lib.hid (stp_err (S := S) (d := ⟨2, id, t, x, y, z⟩) (by rw [HE.out]; decide))
      have hway : x < t ∨ (t ≤ x ∧ y < x) ∨ (t ≤ x ∧ x ≤ y ∧ 1073741824 < y) := by omega
      clear h h0 hk hkn hc hbox hsz hK hR hRk hb0
      rcases hway with g1 | ⟨g1, g2⟩ | ⟨g1, g2, g3⟩
      all_goals
        go_enter Tryd.func46, Tryd.ntmps46
        go_wp2_with fail
        rw [← HW.out]
        go_wp2_with (go_at_call 69; refine HF.out.mono ?_; rintro e w' ⟨rfl, rfl⟩)
        go_ret
        rw [HS1.out, HE.out]
        exact Lv.same (HPO.out.below HB2.out) rfl HB2.out
  · obtain ⟨e, he⟩ : ∃ e, knE (basE id t S.now) (knw S id) = e := ⟨_, rfl⟩
    have hne : e ≠ 0 := by rw [← he]; exact hk
    have HE := Lib.hid (e2_no (x := x) (y := y) (z := z) he hne)
    have HS1 := Lib.hid (stp_err (S := S) (d := ⟨2, id, t, x, y, z⟩) (by rw [HE.out]; exact hne))
    have hnb : (e != 0) = true := by simp [hne]
    have HF := Lib.hid (pfind_no h0 he hne)
    clear h h0 hk hbox hsz hb0 he hne
    go_enter Tryd.func46, Tryd.ntmps46
    go_wp2_with fail
    rw [← HW.out]
    go_wp2_with (go_at_call 69; refine HF.out.mono ?_; rintro e' w' ⟨rfl, rfl⟩)
    go_ret
    rw [HS1.out, HE.out]
    exact Lv.same (HPO.out.below HB2.out) rfl HB2.out
set_option maxHeartbeats 4000000 in
set_option maxRecDepth 100000 in
theorem pRefund_any {w2 : World} {B p : Nat} {τ : Rl} {S : PSt} (h : PO w2 B τ p S) (hB : B ≤ w2.heap.size) (hsz : Sz S 300) (id t x y z : Int) :
    Calls Tryd.prog 49 #[.pointer (some ⟨p, 0, none⟩), .int .i64 id, .int .i64 t, .int .i64 x] w2 (Lv (fun w τ S => PO w B τ p S) w2 τ (stpD S ⟨5, id, t, x, y, z⟩) (.int .i64 (errD S ⟨5, id, t, x, y, z⟩))) := by
  have HPO := Lib.hid h
  obtain ⟨m, D, rb, V, h⟩ := h
  have HB2 := Lib.hid (Below.refl w2.heap.size w2)
  by_cases hk : knE (basE id t S.now) (knw S id) = 0
  · have HF := Lib.hid (pfind_ok h hk)
    have hkn := (knE_zero hk).2
    obtain ⟨K, hK⟩ : ∃ K, K = fnd S.rs id := ⟨_, rfl⟩
    obtain ⟨R, hR⟩ : ∃ R, R = rb K := ⟨_, rfl⟩
    have hRk : R = rb (fnd S.rs id) := by rw [← hK]; exact hR
    rw [← hRk] at HF
    have HKN := Lib.hid hkn
    have HRK := Lib.hid hRk
    have HP2 := Lib.hid h
    have HVA := Lib.hid (Valid_any x w2)
    cases hc : amB x with
    | true =>
      have HE := Lib.hid (e5_ok (y := y) (z := z) hk hc)
      have hx := (amB_iff x).1 hc
      have hwr : wrap64 (-x) = -x := IntWalk.wrap64_in _ (by omega)
      have hwi : IntKind.i64.wrap (-x) = -x := IntWalk.i64_in _ (by omega)
      rw [hc] at HVA
      have HS := Lib.hid hsz
      have hn := (hsz.thr id).2.2
      obtain ⟨i0, hi0, hz00, hz1, hz2⟩ := info_parts infoSp
      clear h hk hkn hsz hK hR hRk hc
      obtain ⟨v0, hv0⟩ : ∃ v0, v0 = V (fnd S.rs id) 2 := ⟨_, rfl⟩
      have HV0 := Lib.hid hv0
      have HPF := Lib.hid (HP2.out.facts HKN.out (f := 2) (by omega) HRK.out hv0)
      have r0 := HPF.out.r0
      have rf := HPF.out.rf
      have hrl := HPF.out.rl
      have hrow : w2.ownsRow B 26 2 v0 (thr S id).hi.length (flP (thr S id).hi) := by
        have := HP2.out.rw (fnd S.rs id) 2 (knw_iff.1 HKN.out) (by omega)
        rw [← hv0, rOf_thr] at this
        exact this
      have HRW := Lib.hid hrow
      obtain ⟨n, hnn⟩ : ∃ n, n = (thr S id).hi.length := ⟨_, rfl⟩
      rw [← hnn] at hn HRW
      have hzB : B ≤ w2.heap.size := Nat.le_trans hB HB2.out.size
      have hkb : (n + 1) * 16 ≤ 140737488355328 := by omega
      have hkm : n + 1 ≤ maxLen := by unfold maxLen; omega
      have HNN := Lib.hid hnn
      clear hrow hnn hv0
      have HA := Lib.hid ((((Below.refl w2.heap.size w2).alloc (Nat.le_refl _) (.cells #[.int .i64 t, .int .i64 (-x)] 26))))
      go_enter Tryd.func49, Tryd.ntmps49
      go_wp2_with (first
        | (go_at_call 69; refine HF.out.mono ?_; rintro e w' ⟨rfl, rfl⟩)
        | (go_at_call 71; refine HVA.out.mono ?_; rintro e w' ⟨rfl, rfl⟩)
        | (at_builtin; refine wpList_append_lies _ rfl _ _ 22 rfl B 26 i0 _ 2 16 Tryd.underlying22 hi0 hz00 hz1 hz2 rfl (by decide) v0 n (flP (thr S id).hi) (by rfl) (HRW.out.alloc _) ⟨w2.heap.size, 0, none⟩ 1 1 [.int .i64 t, .int .i64 (-x)] (by rfl) (by rfl) (World.news_of_block (cs := #[.int .i64 t, .int .i64 (-x)]) (t := 26) (fr := (0, 0)) (heap_alloc_new w2 _)) (by simp [Value.oneCell']) (by omega) hkm hkb (by simp; omega) (w2.heap.size + 1) (by simp) ?_; intro gg cap w1 hown1 hgrow hat hlt; have HQ := Lib.hid ((HPF.out.fr HA.out).grow hgrow); have q1 := HQ.out.r0; have q2 := HQ.out.rf; have q3 := HQ.out.p1; have q4 := HQ.out.pf; have q5 := HQ.out.rp; have HG1 := Lib.hid hgrow; have HO1 := Lib.hid hown1; have HA1 := Lib.hid hat; have HL1 := Lib.hid hlt; clear hown1 hgrow hat hlt))
      go_ret
      rw [stp5 HE.out]
      rw [HNN.out] at HO1 ⊢
      exact ⟨ret_int HE.out.symm, HP2.out.done HB2.out HKN.out (by omega) HRK.out HV0.out HA.out (by simp) HG1.out HA1.out HL1.out (recF_hi (c := (t, -x)) HO1.out) keep_hi⟩
    | false =>
      have HE := Lib.hid (e5_bad (y := y) (z := z) hk hc)
      have HS1 := Lib.hid (stp_err (S := S) (d := ⟨5, id, t, x, y, z⟩) (by rw [HE.out]; decide))
      rw [hc] at HVA
      clear h hk hkn hsz hK hR hRk hc
      go_enter Tryd.func49, Tryd.ntmps49
      go_wp2_with (first
        | (go_at_call 69; refine HF.out.mono ?_; rintro e w' ⟨rfl, rfl⟩)
        | (go_at_call 71; refine HVA.out.mono ?_; rintro e w' ⟨rfl, rfl⟩))
      go_ret
      rw [HS1.out, HE.out]
      exact Lv.same HPO.out rfl HB2.out
  · obtain ⟨e, he⟩ : ∃ e, knE (basE id t S.now) (knw S id) = e := ⟨_, rfl⟩
    have hne : e ≠ 0 := by rw [← he]; exact hk
    have HE := Lib.hid (e5_no (x := x) (y := y) (z := z) he hne)
    have HS1 := Lib.hid (stp_err (S := S) (d := ⟨5, id, t, x, y, z⟩) (by rw [HE.out]; exact hne))
    have hnb : (e != 0) = true := by simp [hne]
    have HF := Lib.hid (pfind_no h he hne)
    clear h hk hsz he hne
    go_enter Tryd.func49, Tryd.ntmps49
    go_wp2_with (go_at_call 69; refine HF.out.mono ?_; rintro e' w' ⟨rfl, rfl⟩)
    go_ret
    rw [HS1.out, HE.out]
    exact Lv.same HPO.out rfl HB2.out
theorem alP_bar {r : Nat} {x : PRec} {t m : Int} (h : barred x.ex t = true) : alP r x t m = .tuple #[.pointer none, .int .i64 20] := by unfold alP; rw [h]; rfl
theorem alP_al {r : Nat} {x : PRec} {t m : Int} (h : barred x.ex t = false) : alP r x t m = .tuple #[.pointer (some ⟨r, 0, none⟩), .int .i64 (alN (zP x.hi) x.hi.length (zC x.ch) x.ch.length t m)] := by unfold alP; rw [h]; rfl
set_option maxHeartbeats 4000000 in
set_option maxRecDepth 100000 in
theorem pCharge_any {w : World} {B p : Nat} {τ : Rl} {S : PSt} (h : PO w B τ p S) (hT : Tab w) (hB : B ≤ w.heap.size) (hsz : Sz S 300) (id t x y z : Int) :
    Calls Tryd.prog 48 #[.pointer (some ⟨p, 0, none⟩), .int .i64 id, .int .i64 t, .int .i64 x] w (Lv (fun w τ S => PO w B τ p S) w τ (stpD S ⟨4, id, t, x, y, z⟩) (.int .i64 (errD S ⟨4, id, t, x, y, z⟩))) := by
  have HPO := Lib.hid h
  obtain ⟨m, D, rb, V, h⟩ := h
  by_cases hk : knE (basE id t S.now) (knw S id) = 0
  · have hF := pallow_ok h hT hsz (a := x) hk
    have hkn := (knE_zero hk).2
    cases hb : barred (thr S id).ex t with
    | true =>
      have HE := Lib.hid (e4_bar (x := x) (y := y) (z := z) hk hb)
      have HS1 := Lib.hid (stp_err (S := S) (d := ⟨4, id, t, x, y, z⟩) (by rw [HE.out]; decide))
      rw [alP_bar hb] at hF
      have HF := Lib.hid hF
      clear h hk hkn hsz hb hF hT
      go_enter Tryd.func48, Tryd.ntmps48
      go_wp2_with (go_at_call 70; refine HF.out.mono ?_; rintro e w2 ⟨rfl, hb2⟩; have HB2 := Lib.hid hb2; clear hb2)
      go_ret
      rw [HS1.out, HE.out]
      exact Lv.same (HPO.out.below HB2.out) rfl HB2.out
    | false =>
      have hE := e4_al (x := x) (y := y) (z := z) hk hb
      rw [alP_al hb, ← hE] at hF
      have HF := Lib.hid hF
      by_cases hz : errD S ⟨4, id, t, x, y, z⟩ = 0
      · rw [hz] at HF
        obtain ⟨K, hK⟩ : ∃ K, K = fnd S.rs id := ⟨_, rfl⟩
        obtain ⟨R, hR⟩ : ∃ R, R = rb K := ⟨_, rfl⟩
        have hRk : R = rb (fnd S.rs id) := by rw [← hK]; exact hR
        rw [← hRk] at HF
        have HKN := Lib.hid hkn
        have HRK := Lib.hid hRk
        have HP := Lib.hid h
        have HE := Lib.hid hz
        have HS := Lib.hid hsz
        have hn := (hsz.thr id).2.2
        obtain ⟨i0, hi0, hz00, hz1, hz2⟩ := info_parts infoSp
        clear h hk hkn hsz hb hF hT hE hz hK hR hRk
        go_enter Tryd.func48, Tryd.ntmps48
        go_wp2_with (first
          | (go_at_call 70
             refine HF.out.mono ?_
             rintro e w2 ⟨rfl, hb2⟩
             have HB2 := Lib.hid hb2
             have HP2 := Lib.hid (HP.out.below hb2)
             clear hb2
             obtain ⟨v0, hv0⟩ : ∃ v0, v0 = V (fnd S.rs id) 2 := ⟨_, rfl⟩
             have HV0 := Lib.hid hv0
             have HPF := Lib.hid (HP2.out.facts HKN.out (f := 2) (by omega) HRK.out hv0)
             have r0 := HPF.out.r0
             have rf := HPF.out.rf
             have hrl := HPF.out.rl
             have hrow : w2.ownsRow B 26 2 v0 (thr S id).hi.length (flP (thr S id).hi) := by
               have := HP2.out.rw (fnd S.rs id) 2 (knw_iff.1 HKN.out) (by omega)
               rw [← hv0, rOf_thr] at this
               exact this
             have HRW := Lib.hid hrow
             obtain ⟨n, hnn⟩ : ∃ n, n = (thr S id).hi.length := ⟨_, rfl⟩
             rw [← hnn] at hn HRW
             have hzB : B ≤ w2.heap.size := Nat.le_trans hB HB2.out.size
             have hkb : (n + 1) * 16 ≤ 140737488355328 := by omega
             have hkm : n + 1 ≤ maxLen := by unfold maxLen; omega
             have HNN := Lib.hid hnn
             clear hrow hnn hv0
             have HA := Lib.hid ((((Below.refl w2.heap.size w2).alloc (Nat.le_refl _) (.cells #[.int .i64 t, .int .i64 x] 26)))))
          | (at_builtin; refine wpList_append_lies _ rfl _ _ 22 rfl B 26 i0 _ 2 16 Tryd.underlying22 hi0 hz00 hz1 hz2 rfl (by decide) v0 n (flP (thr S id).hi) (by rfl) (HRW.out.alloc _) ⟨w2.heap.size, 0, none⟩ 1 1 [.int .i64 t, .int .i64 x] (by rfl) (by rfl) (World.news_of_block (cs := #[.int .i64 t, .int .i64 x]) (t := 26) (fr := (0, 0)) (heap_alloc_new w2 _)) (by simp [Value.oneCell']) (by omega) hkm hkb (by simp; omega) (w2.heap.size + 1) (by simp) ?_; intro gg cap w1 hown1 hgrow hat hlt; have HQ := Lib.hid ((HPF.out.fr HA.out).grow hgrow); have q1 := HQ.out.r0; have q2 := HQ.out.rf; have q3 := HQ.out.p1; have q4 := HQ.out.pf; have q5 := HQ.out.rp; have HG1 := Lib.hid hgrow; have HO1 := Lib.hid hown1; have HA1 := Lib.hid hat; have HL1 := Lib.hid hlt; clear hown1 hgrow hat hlt))
        go_ret
        rw [stp4 HE.out]
        rw [HNN.out] at HO1 ⊢
        exact ⟨ret_int HE.out.symm, HP2.out.done HB2.out HKN.out (by omega) HRK.out HV0.out HA.out (by simp) HG1.out HA1.out HL1.out (recF_hi (c := (t, x)) HO1.out) keep_hi⟩
      · have HS1 := Lib.hid (stp_err (S := S) (d := ⟨4, id, t, x, y, z⟩) hz)
        obtain ⟨e, he⟩ : ∃ e, e = errD S ⟨4, id, t, x, y, z⟩ := ⟨_, rfl⟩
        have hnb : (e != 0) = true := by rw [he]; simp [hz]
        rw [← he] at HF ⊢
        clear h hk hkn hsz hb hF hT hE hz he
        go_enter Tryd.func48, Tryd.ntmps48
        go_wp2_with (go_at_call 70; refine HF.out.mono ?_; rintro e9 w2 ⟨rfl, hb2⟩; have HB2 := Lib.hid hb2; clear hb2)
        go_ret
        rw [HS1.out]
        exact Lv.same (HPO.out.below HB2.out) rfl HB2.out
  · obtain ⟨e, he⟩ : ∃ e, knE (basE id t S.now) (knw S id) = e := ⟨_, rfl⟩
    have hne : e ≠ 0 := by rw [← he]; exact hk
    have HE := Lib.hid (e4_no (x := x) (y := y) (z := z) he hne)
    have HS1 := Lib.hid (stp_err (S := S) (d := ⟨4, id, t, x, y, z⟩) (by rw [HE.out]; exact hne))
    have hnb : (e != 0) = true := by simp [hne]
    have HF := Lib.hid (pallow_no h (a := x) he hne)
    clear h hk hsz he hne hT
    go_enter Tryd.func48, Tryd.ntmps48
    go_wp2_with (go_at_call 70; refine HF.out.mono ?_; rintro e' w' ⟨rfl, rfl⟩)
    go_ret
    rw [HS1.out, HE.out]
    exact Lv.same HPO.out rfl (Below.refl _ _)
end Go.Proofs.YtainelkenkgppaaDoor
