/- A transfer: the reference. -/
import Derived.Test.YtkpmbkkhdhjbnaaSyj
namespace Go.Proofs.Ytkpmbkkhdhjbnaa
open Go.ChangeShapes Go.WideShapes Go.ChangeAt Go.RowKit Go.Lott
open Go.Lott.Syn
set_option maxRecDepth 100000 in
set_option maxHeartbeats 4000000 in
theorem rChkT_any (a : Option Addr) (n cap : Nat) (z : Nat → Nat → Int) (f t p : Int) (w : World) (hr : IsRows 2 w a n z) (hck : ckS z n = 0) :
    Calls Try.prog 50 #[.slice a n cap, .int .i64 f, .int .i64 t, .int .i64 p] w (RetS (.int .i64 (trE2 z n f t p)) w) := by
  have HCK := Lib.hid hck
  have HVL := Lib.hid (ck_vld hck)
  have HR := Lib.hid hr
  have n1 := HVL.out.n1
  have n2 := HVL.out.n2
  clear hck hr
  obtain ⟨b, o, rfl, hbb, _, hcell⟩ := HR.out.resolve_left (by omega)
  have HCL := Lib.hid hcell
  clear hcell
  have hf1 := rFind_any (some ⟨b, o, none⟩) n cap z f w HR.out (by omega)
  have hf2 := rFind_any (some ⟨b, o, none⟩) n cap z t w HR.out (by omega)
  by_cases hfn : fnd z f n < 0
  · have HF1 := Lib.hid hf1
    have HF2 := Lib.hid hf2
    have HFN := Lib.hid hfn
    clear hf1 hf2
    have HV := Lib.hid ((tr_e2 HCK.out).symm.trans (tr_none (t := t) (p := p) HCK.out HFN.out))
    go_enter Try.func50, Try.ntmps50
    go_wp2_with (first | (go_at_call 33; ((with_reducible refine (HF1.out).mono ?_); rintro e w' ⟨rfl, rfl⟩)) | (go_at_call 33; ((with_reducible refine (HF2.out).mono ?_); rintro e w' ⟨rfl, rfl⟩)))
    go_ret
    exact ⟨ret_int HV.out.symm, rfl⟩
  · obtain ⟨i, hi0, hin, hzi⟩ := fnd_pos hfn
    have HI := Lib.hid hi0
    rw [hi0] at hf1
    have HF1 := Lib.hid hf1
    obtain ⟨_, r1, r2⟩ := HVL.out.rng i hin
    have cI : w.cell? ⟨b, o + i * 2 + 1, none⟩ = some (.int .i64 (z i 1)) := HCL.out i 1 hin (by omega)
    have i1 : (0 : Int) ≤ (i : Int) := by omega
    have i2 : (i : Int) < (n : Int) := by omega
    clear hi0 hzi hf1 hfn
    by_cases t1 : t < 1
    · have HF2 := Lib.hid hf2
      clear hf2
      have HV := Lib.hid ((tr_e2 HCK.out).symm.trans (tr_range (t := t) (p := p) HCK.out HI.out (.inl t1)))
      go_enter Try.func50, Try.ntmps50
      go_wp2_with (first | (go_at_call 33; ((with_reducible refine (HF1.out).mono ?_); rintro e w' ⟨rfl, rfl⟩)) | (go_at_call 33; ((with_reducible refine (HF2.out).mono ?_); rintro e w' ⟨rfl, rfl⟩)))
      go_ret
      exact ⟨ret_int HV.out.symm, rfl⟩
    by_cases htf : t = f
    · have tf1 : (t == f) = true := by rw [beq_iff_eq]; exact htf
      have HTF := Lib.hid htf
      have HF2 := Lib.hid hf2
      clear hf2 htf
      have HV := Lib.hid ((tr_e2 HCK.out).symm.trans (tr_range (t := t) (p := p) HCK.out HI.out (.inr (.inl HTF.out))))
      go_enter Try.func50, Try.ntmps50
      go_wp2_with (first | (go_at_call 33; ((with_reducible refine (HF1.out).mono ?_); rintro e w' ⟨rfl, rfl⟩)) | (go_at_call 33; ((with_reducible refine (HF2.out).mono ?_); rintro e w' ⟨rfl, rfl⟩)))
      go_ret
      exact ⟨ret_int HV.out.symm, rfl⟩
    have tf1 : (t == f) = false := by rw [beq_eq_false_iff_ne]; exact htf
    have HTF := Lib.hid htf
    clear htf
    by_cases p1 : p < 1
    · have HF2 := Lib.hid hf2
      clear hf2
      have HV := Lib.hid ((tr_e2 HCK.out).symm.trans (tr_range (t := t) (p := p) HCK.out HI.out (.inr (.inr (.inl p1)))))
      go_enter Try.func50, Try.ntmps50
      go_wp2_with (first | (go_at_call 33; ((with_reducible refine (HF1.out).mono ?_); rintro e w' ⟨rfl, rfl⟩)) | (go_at_call 33; ((with_reducible refine (HF2.out).mono ?_); rintro e w' ⟨rfl, rfl⟩)))
      go_ret
      exact ⟨ret_int HV.out.symm, rfl⟩
    by_cases p2 : z i 1 < p
    · have HF2 := Lib.hid hf2
      clear hf2
      have HV := Lib.hid ((tr_e2 HCK.out).symm.trans (tr_range (t := t) (p := p) HCK.out HI.out (.inr (.inr (.inr p2)))))
      go_enter Try.func50, Try.ntmps50
      go_wp2_with (first | (go_at_call 33; ((with_reducible refine (HF1.out).mono ?_); rintro e w' ⟨rfl, rfl⟩)) | (go_at_call 33; ((with_reducible refine (HF2.out).mono ?_); rintro e w' ⟨rfl, rfl⟩)))
      go_ret
      exact ⟨ret_int HV.out.symm, rfl⟩
    have HRG := Lib.hid (show ¬ (t < 1 ∨ t = f ∨ p < 1 ∨ z i 1 < p) from fun h => by
      rcases h with h | h | h | h
      · exact t1 h
      · exact HTF.out h
      · exact p1 h
      · exact p2 h)
    by_cases hft : fnd z t n < 0
    · have HFT := Lib.hid hft
      have HF2 := Lib.hid hf2
      have hft1 : ¬ 0 ≤ fnd z t n := by omega
      clear hf2
      by_cases l1 : p < z i 1
      · by_cases l2 : n = 64
        · have HL2 := Lib.hid l2
          have l3 : ((n : Int) == 64) = true := by rw [beq_iff_eq]; omega
          have L1 := Lib.hid l1
          clear l2
          have HV := Lib.hid ((tr_e2 HCK.out).symm.trans (tr_lim HCK.out HI.out HRG.out HFT.out L1.out HL2.out))
          go_enter Try.func50, Try.ntmps50
          go_wp2_with (first | (go_at_call 33; ((with_reducible refine (HF1.out).mono ?_); rintro e w' ⟨rfl, rfl⟩)) | (go_at_call 33; ((with_reducible refine (HF2.out).mono ?_); rintro e w' ⟨rfl, rfl⟩)))
          go_ret
          exact ⟨ret_int HV.out.symm, rfl⟩
        · have HL2 := Lib.hid l2
          have l3 : ((n : Int) == 64) = false := by rw [beq_eq_false_iff_ne]; omega
          clear l2
          have HV := Lib.hid ((tr_e2 HCK.out).symm.trans (tr_fine2 HCK.out HI.out HRG.out HFT.out (fun h => HL2.out h.2)))
          go_enter Try.func50, Try.ntmps50
          go_wp2_with (first | (go_at_call 33; ((with_reducible refine (HF1.out).mono ?_); rintro e w' ⟨rfl, rfl⟩)) | (go_at_call 33; ((with_reducible refine (HF2.out).mono ?_); rintro e w' ⟨rfl, rfl⟩)))
          go_ret
          exact ⟨ret_int HV.out.symm, rfl⟩
      · have L1 := Lib.hid l1
        have HV := Lib.hid ((tr_e2 HCK.out).symm.trans (tr_fine2 HCK.out HI.out HRG.out HFT.out (fun h => L1.out h.1)))
        go_enter Try.func50, Try.ntmps50
        go_wp2_with (first | (go_at_call 33; ((with_reducible refine (HF1.out).mono ?_); rintro e w' ⟨rfl, rfl⟩)) | (go_at_call 33; ((with_reducible refine (HF2.out).mono ?_); rintro e w' ⟨rfl, rfl⟩)))
        go_ret
        exact ⟨ret_int HV.out.symm, rfl⟩
    · obtain ⟨j, hj0, hjn, hzj⟩ := fnd_pos hft
      have HJ := Lib.hid hj0
      rw [hj0] at hf2
      have HF2 := Lib.hid hf2
      obtain ⟨_, q1, q2⟩ := HVL.out.rng j hjn
      have cJ : w.cell? ⟨b, o + j * 2 + 1, none⟩ = some (.int .i64 (z j 1)) := HCL.out j 1 hjn (by omega)
      have j1 : (0 : Int) ≤ (j : Int) := by omega
      have j2 : (j : Int) < (n : Int) := by omega
      clear hj0 hzj hf2 hft
      by_cases ov : 1000000 < z j 1 + p
      · have HOV := Lib.hid ov
        have HV := Lib.hid ((tr_e2 HCK.out).symm.trans (tr_over HCK.out HI.out HRG.out HJ.out HOV.out))
        go_enter Try.func50, Try.ntmps50
        go_wp2_with (first | (go_at_call 33; ((with_reducible refine (HF1.out).mono ?_); rintro e w' ⟨rfl, rfl⟩)) | (go_at_call 33; ((with_reducible refine (HF2.out).mono ?_); rintro e w' ⟨rfl, rfl⟩)))
        go_ret
        exact ⟨ret_int HV.out.symm, rfl⟩
      · have HOV := Lib.hid ov
        have HV := Lib.hid ((tr_e2 HCK.out).symm.trans (tr_fine1 HCK.out HI.out HRG.out HJ.out HOV.out))
        go_enter Try.func50, Try.ntmps50
        go_wp2_with (first | (go_at_call 33; ((with_reducible refine (HF1.out).mono ?_); rintro e w' ⟨rfl, rfl⟩)) | (go_at_call 33; ((with_reducible refine (HF2.out).mono ?_); rintro e w' ⟨rfl, rfl⟩)))
        go_ret
        exact ⟨ret_int HV.out.symm, rfl⟩
set_option maxRecDepth 100000 in
set_option maxHeartbeats 8000000 in
theorem rTransfer_any (a : Option Addr) (n cap : Nat) (z : Nat → Nat → Int) (f t p : Int) (w : World) (hr : IsRows 2 w a n z) (hn : n ≤ 1000000) :
    Calls Try.prog 30 #[.slice a n cap, .int .i64 f, .int .i64 t, .int .i64 p] w (TrPost z n f t p w) := by
  have hc := rsCheck_any a n cap z w hr hn
  have HR := Lib.hid hr
  clear hr
  by_cases hck : ckS z n = 0
  · have HCK := Lib.hid hck
    have HVL := Lib.hid (ck_vld hck)
    have hct := rChkT_any a n cap z f t p w HR.out hck
    rw [hck] at hc
    have HC := Lib.hid hc
    have n1 := HVL.out.n1
    have n2 := HVL.out.n2
    clear hc hck hn
    by_cases hok : trE z n f t p = 0
    · have HV := Lib.hid hok
      have HT := Lib.hid (tr_ok hok)
      rw [← tr_e2 HCK.out, hok] at hct
      have HCT := Lib.hid hct
      have HF := Lib.hid (rFind_any a n cap z t w HR.out (by omega))
      have p1 := HT.out.p1
      clear hct hok
      obtain ⟨b, o, rfl, hbb, _, hcell⟩ := HR.out.resolve_left (by omega)
      have HCL := Lib.hid hcell
      clear hcell
      go_enter Try.func30, Try.ntmps30
      go_wp2_with (first
        | (go_at_call 27; ((with_reducible refine (HC.out).mono ?_); rintro e w' ⟨rfl, rfl⟩))
        | (go_at_call 50; ((with_reducible refine (HCT.out).mono ?_); rintro e w' ⟨rfl, rfl⟩)))
      go_loopw [11, 12] (fun vo vi wr => ∃ (k : Nat) (a2 : Option Addr) (c2 : Nat), vo = .slice a2 (srt (kpL z f t p k)).length c2 ∧ vi = .int .i64 k ∧ k ≤ n ∧ IsRows 2 wr a2 (srt (kpL z f t p k)).length (zL (srt (kpL z f t p k))) ∧ (srt (kpL z f t p k)).length ≤ c2 ∧ Below w.heap.size w wr) (fun _ vi _ => n - (intOf vi).toNat)
      case atStart => exact ⟨0, none, 0, rfl, rfl, by omega, .inl rfl, Nat.le_refl _, Below.refl _ _⟩
      case round =>
        obtain ⟨k, a2, c2, rfl, rfl, hk, hir, hcl, hbel⟩ := hrel
        have HIR := Lib.hid hir
        have HCAP := Lib.hid hcl
        have hbs := hbel.size
        have hsl : (srt (kpL z f t p k)).length ≤ 64 := by
          have hnd : ((kpL z f t p k).map Prod.fst).Nodup := ((kpL_fst z f t p k).nodup (by
            rw [rowL_fst]
            exact List.pairwise_map.2 (List.Pairwise.imp_of_mem (fun {a b} _ hb hab => HVL.out.dif a b hab (by have := List.mem_range.1 hb; omega)) List.pairwise_lt_range)))
          rw [(srt_perm hnd).length_eq]
          have := kpL_length z f t p k; omega
        have HSL := Lib.hid hsl
        clear hir hcl hsl
        by_cases hlt : k < n
        · have c0 : wr.cell? ⟨b, o + k * 2, none⟩ = some (.int .i64 (z k 0)) := (hbel.cell (p := ⟨b, _, none⟩) hbb).trans (HCL.out k 0 hlt (by omega))
          have c1 : wr.cell? ⟨b, o + k * 2 + 1, none⟩ = some (.int .i64 (z k 1)) := (hbel.cell (p := ⟨b, _, none⟩) hbb).trans (HCL.out k 1 hlt (by omega))
          obtain ⟨_, v1, v2⟩ := HVL.out.rng k hlt
          have k1 : (0 : Int) ≤ (k : Int) := by omega
          have k2 : (k : Int) < (n : Int) := by omega
          by_cases hzf : z k 0 = f
          · have f1 : (z k 0 == f) = true := by rw [beq_iff_eq]; exact hzf
            have hm : mvP f t p (z k 0, z k 1) = (z k 0, z k 1 - p) := by rw [mvP_f (x := (z k 0, z k 1)) hzf, hzf]
            have hki : k = (fnd z f n).toNat := HVL.out.inj hlt HT.out.i1 (hzf.trans HT.out.zi.symm)
            have v3 : p ≤ z k 1 := by have := HT.out.p2; rw [← hki] at this; exact this
            have f2 : (z k 0 == t) = false := by rw [beq_eq_false_iff_ne, hzf]; exact fun e => HT.out.tf e.symm
            clear hzf hki
            by_cases v4 : 0 < z k 1 - p
            · have hnx := kpL_yes (z := z) (f := f) (t := t) (p := p) (k := k) (by rw [hm]; exact v4)
              rw [hm] at hnx
              have HTR := Lib.hid (show srt (kpL z f t p (k + 1)) = insL (z k 0, z k 1 - p) (srt (kpL z f t p k)) by rw [hnx, srt_snoc])
              have HIL := Lib.hid (show (srt (kpL z f t p (k + 1))).length = (srt (kpL z f t p k)).length + 1 by rw [HTR.out, (insL_perm _ _).length_eq]; rfl)
              have HINS := Lib.hid (fun w h => rInsert_any a2 c2 (srt (kpL z f t p k)) (z k 0) (z k 1 - p) w h (by have := HSL.out; omega))
              have HBX := Lib.hid (hbel.alloc hbs (.cells #[.int .i64 (z k 0), .int .i64 (z k 1 - p)] 46))
              have HBY := Lib.hid ((Below.refl wr.heap.size wr).alloc (Nat.le_refl _) (.cells #[.int .i64 (z k 0), .int .i64 (z k 1 - p)] 46))
              clear hm hnx
              go_wp2_with (go_at_call 34; ((with_reducible refine (HINS.out _ (HIR.out.below HBY.out (Nat.le_refl _))).mono ?_); rintro e w3 ⟨hb3, a3, c3, rfl, r3, l3⟩; have HR3 := Lib.hid r3; have HL3 := Lib.hid l3; have HB3 := Lib.hid hb3; clear hb3 r3 l3))
              go_roundw
              case rel => exact ⟨k + 1, a3, c3, by rw [HIL.out], by go_num, hlt, by rw [HIL.out, HTR.out]; exact HR3.out, by rw [HIL.out]; exact HL3.out, HBX.out.trans (HB3.out.mono HBX.out.size)⟩
              case measure => simp [intOf]; omega
            · have HN := Lib.hid (kpL_no (z := z) (f := f) (t := t) (p := p) (k := k) (by rw [hm]; exact v4))
              clear hm
              go_wp2
              go_roundw
              case rel => exact ⟨k + 1, _, _, by rw [HN.out], by go_num, hlt, by rw [HN.out]; exact HIR.out.below ((Below.refl _ _).alloc (Nat.le_refl _) _) (Nat.le_refl _), by rw [HN.out]; exact HCAP.out, hbel.alloc hbs _⟩
              case measure => simp [intOf]; omega
          · have f1 : (z k 0 == f) = false := by rw [beq_eq_false_iff_ne]; exact hzf
            by_cases hzt : z k 0 = t
            · have f2 : (z k 0 == t) = true := by rw [beq_iff_eq]; exact hzt
              have hm : mvP f t p (z k 0, z k 1) = (z k 0, z k 1 + p) := by rw [mvP_t (x := (z k 0, z k 1)) hzt HT.out.tf, hzt]
              have v4 : 0 < z k 1 + p := by omega
              have p3 : p ≤ 1000000 := by have h1 := HT.out.p2; have h2 := (HVL.out.rng _ HT.out.i1).2.2; omega
              clear hzf hzt
              have hnx := kpL_yes (z := z) (f := f) (t := t) (p := p) (k := k) (by rw [hm]; exact v4)
              rw [hm] at hnx
              have HTR := Lib.hid (show srt (kpL z f t p (k + 1)) = insL (z k 0, z k 1 + p) (srt (kpL z f t p k)) by rw [hnx, srt_snoc])
              have HIL := Lib.hid (show (srt (kpL z f t p (k + 1))).length = (srt (kpL z f t p k)).length + 1 by rw [HTR.out, (insL_perm _ _).length_eq]; rfl)
              have HINS := Lib.hid (fun w h => rInsert_any a2 c2 (srt (kpL z f t p k)) (z k 0) (z k 1 + p) w h (by have := HSL.out; omega))
              have HBX := Lib.hid (hbel.alloc hbs (.cells #[.int .i64 (z k 0), .int .i64 (z k 1 + p)] 46))
              have HBY := Lib.hid ((Below.refl wr.heap.size wr).alloc (Nat.le_refl _) (.cells #[.int .i64 (z k 0), .int .i64 (z k 1 + p)] 46))
              clear hm hnx
              go_wp2_with (go_at_call 34; ((with_reducible refine (HINS.out _ (HIR.out.below HBY.out (Nat.le_refl _))).mono ?_); rintro e w3 ⟨hb3, a3, c3, rfl, r3, l3⟩; have HR3 := Lib.hid r3; have HL3 := Lib.hid l3; have HB3 := Lib.hid hb3; clear hb3 r3 l3))
              go_roundw
              case rel => exact ⟨k + 1, a3, c3, by rw [HIL.out], by go_num, hlt, by rw [HIL.out, HTR.out]; exact HR3.out, by rw [HIL.out]; exact HL3.out, HBX.out.trans (HB3.out.mono HBX.out.size)⟩
              case measure => simp [intOf]; omega
            · have f2 : (z k 0 == t) = false := by rw [beq_eq_false_iff_ne]; exact hzt
              have hm : mvP f t p (z k 0, z k 1) = (z k 0, z k 1) := mvP_o (x := (z k 0, z k 1)) hzt hzf
              have v4 : 0 < z k 1 := by omega
              clear hzf hzt
              have hnx := kpL_yes (z := z) (f := f) (t := t) (p := p) (k := k) (by rw [hm]; exact v4)
              rw [hm] at hnx
              have HTR := Lib.hid (show srt (kpL z f t p (k + 1)) = insL (z k 0, z k 1) (srt (kpL z f t p k)) by rw [hnx, srt_snoc])
              have HIL := Lib.hid (show (srt (kpL z f t p (k + 1))).length = (srt (kpL z f t p k)).length + 1 by rw [HTR.out, (insL_perm _ _).length_eq]; rfl)
              have HINS := Lib.hid (fun w h => rInsert_any a2 c2 (srt (kpL z f t p k)) (z k 0) (z k 1) w h (by have := HSL.out; omega))
              have HBX := Lib.hid (hbel.alloc hbs (.cells #[.int .i64 (z k 0), .int .i64 (z k 1)] 46))
              have HBY := Lib.hid ((Below.refl wr.heap.size wr).alloc (Nat.le_refl _) (.cells #[.int .i64 (z k 0), .int .i64 (z k 1)] 46))
              clear hm hnx
              go_wp2_with (go_at_call 34; ((with_reducible refine (HINS.out _ (HIR.out.below HBY.out (Nat.le_refl _))).mono ?_); rintro e w3 ⟨hb3, a3, c3, rfl, r3, l3⟩; have HR3 := Lib.hid r3; have HL3 := Lib.hid l3; have HB3 := Lib.hid hb3; clear hb3 r3 l3))
              go_roundw
              case rel => exact ⟨k + 1, a3, c3, by rw [HIL.out], by go_num, hlt, by rw [HIL.out, HTR.out]; exact HR3.out, by rw [HIL.out]; exact HL3.out, HBX.out.trans (HB3.out.mono HBX.out.size)⟩
              case measure => simp [intOf]; omega
        · obtain rfl : k = n := by omega
          by_cases hft : fnd z t k < 0
          · have hmv : srt (mvL z f t p k) = insL (t, p) (srt (kpL z f t p k)) := by unfold mvL; rw [if_pos hft, srt_snoc]
            have HINS := Lib.hid (fun w h => rInsert_any a2 c2 (srt (kpL z f t p k)) t p w h (by have := HSL.out; omega))
            have HTR := Lib.hid (show trS z f t p k = insL (t, p) (srt (kpL z f t p k)) from hmv)
            have HIL := Lib.hid (show (trS z f t p k).length = (srt (kpL z f t p k)).length + 1 by rw [HTR.out, (insL_perm _ _).length_eq]; rfl)
            clear hmv
            have hf2 := rFind_any (some ⟨b, o, none⟩) k cap z t wr (HR.out.below hbel (Nat.le_refl _)) (by omega)
            have HF2 := Lib.hid hf2
            clear hf2
            have HBX := Lib.hid (Below.refl wr.heap.size wr)
            go_wp2_with (first
              | (go_at_call 33; ((with_reducible refine (HF2.out).mono ?_); rintro e w' ⟨rfl, rfl⟩))
              | (go_at_call 34; ((with_reducible refine (HINS.out _ HIR.out).mono ?_); rintro e w3 ⟨hb3, a3, c3, rfl, r3, l3⟩; have HR3 := Lib.hid r3; have HL3 := Lib.hid l3; have HB3 := Lib.hid hb3; clear hb3 r3 l3)))
            go_ret2
            exact ⟨hbel.trans (HB3.out.mono hbs), .inl ⟨HV.out, a3, c3, ret_sl HIL.out.symm, by rw [HIL.out, HTR.out]; exact HR3.out, by rw [HIL.out]; exact HL3.out⟩⟩
          · have HTR := Lib.hid (show trS z f t p k = srt (kpL z f t p k) by unfold trS mvL; rw [if_neg hft, List.append_nil])
            have HF2 := Lib.hid (rFind_any (some ⟨b, o, none⟩) k cap z t wr (HR.out.below hbel (Nat.le_refl _)) (by omega))
            go_wp2_with (go_at_call 33; ((with_reducible refine (HF2.out).mono ?_); rintro e w' ⟨rfl, rfl⟩))
            go_ret2
            exact ⟨hbel, .inl ⟨HV.out, a2, c2, ret_sl (by rw [HTR.out]), by rw [HTR.out]; exact HIR.out, by rw [HTR.out]; exact HCAP.out⟩⟩
    · have HV := Lib.hid hok
      have hoe : (trE2 z n f t p != 0) = true := by rw [bne_iff_ne, ← tr_e2 HCK.out]; exact hok
      have HE2 := Lib.hid (tr_e2 (f := f) (t := t) (p := p) HCK.out)
      have HCT := Lib.hid hct
      clear hct hok
      go_enter Try.func30, Try.ntmps30
      go_wp2_with (first
        | (go_at_call 27; ((with_reducible refine (HC.out).mono ?_); rintro e w' ⟨rfl, rfl⟩))
        | (go_at_call 50; ((with_reducible refine (HCT.out).mono ?_); rintro e w' ⟨rfl, rfl⟩)))
      go_ret2
      exact tr_err (Below.refl _ _) HE2.out (by rw [← HE2.out]; exact HV.out)
  · have HC := Lib.hid hc
    have HE := Lib.hid hck
    have he1 : (ckS z n != 0) = true := by rw [bne_iff_ne]; exact hck
    have he2 : (ckS z n == 0) = false := by rw [beq_eq_false_iff_ne]; exact hck
    have HV := Lib.hid (tr_ck (f := f) (t := t) (p := p) hck)
    clear hck hc
    go_enter Try.func30, Try.ntmps30
    go_wp2_with (go_at_call 27; ((with_reducible refine (HC.out).mono ?_); rintro e w' ⟨rfl, rfl⟩))
    go_ret2
    exact tr_err (Below.refl _ _) HV.out HE.out
end Go.Proofs.Ytkpmbkkhdhjbnaa
