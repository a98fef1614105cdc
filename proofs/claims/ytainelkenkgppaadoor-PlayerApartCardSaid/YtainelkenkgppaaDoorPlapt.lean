/- The law PlayerApart: its walk. -/
import Derived.Test.YtainelkenkgppaaDoorPltwo
namespace Go.Proofs.YtainelkenkgppaaDoor
open Go.ChangeShapes Go.WideShapes Go.ChangeAt Go.RowKit Go.Lott
open Go.Sort Go.Lott.Stb Go.Lott.Srt Go.Lott.Lm
theorem up_all {z : Nat → Nat → Int} {n : Nat} (h : ∀ j, 1 ≤ j → j < n → z (j - 1) 2 ≤ z j 2) : ∀ (m i : Nat), i + m < n → z i 2 ≤ z (i + m) 2
  | 0, _, _ => Int.le_refl _
  | m + 1, i, hi => Int.le_trans (up_all h m i (by omega)) (by have := h (i + (m + 1)) (by omega) hi; rwa [show i + (m + 1) - 1 = i + m by omega] at this)
theorem up_le {z : Nat → Nat → Int} {n : Nat} (h : ∀ j, 1 ≤ j → j < n → z (j - 1) 2 ≤ z j 2) {i j : Nat} (hij : i ≤ j) (hj : j < n) : z i 2 ≤ z j 2 := by
  have := up_all h (j - i) i (by omega)
  rwa [show i + (j - i) = j by omega] at this
set_option maxHeartbeats 8000000 in
set_option maxRecDepth 100000 in
theorem playerApart_walk (a : Option Addr) (n cap : Nat) (z : Nat → Nat → Int) (id : Int) (W : World) (hz : IsRows 6 W a n z ∧ n ≤ cap) (_ : (Lit.int .i64 id).wf = true) (ht : Tab W) :
    Calls Tryd.prog 9 #[.slice a n cap, .int .i64 id] W (RetB (.bool true) W) := by
  have HT := Lib.hid ht
  have HR := Lib.hid hz.1
  clear ht hz
  by_cases hl : 60 < n
  · have hl' : (60 : Int) < (n : Int) := by omega
    clear hl
    go_enter Tryd.func9, Tryd.ntmps9
    go_wp2_with (first
      | (go_at_call 19
         have hfirst := HNA.out
         with_reducible refine (pNew_any _).mono ?_
         rintro e w2 ⟨pb, τb, rfl, hO2, hb2, hp2⟩
         have HTW := Lib.hid (Twob.start hfirst hO2 hb2 HX.out.size)
         replace HX := Lib.hid (HX.out.trans (hb2.mono HX.out.size))
         clear hO2 hb2 hp2 hfirst)
      | (go_at_call 19
         with_reducible refine (pNew_any _).mono ?_
         rintro e w1 ⟨pa, τa, rfl, hO1, hb1, hp1⟩
         have HNA := Lib.hid hO1
         have HX := Lib.hid hb1
         clear hO1 hb1 hp1)
      | (go_at_call 18; (with_reducible refine (awake_any _ (HT.out.grow HX.out)).mono ?_); rintro e9 w9 ⟨rfl, hb9⟩; replace HX := Lib.hid (HX.out.trans (hb9.mono HX.out.size)); clear hb9))
    go_ret
    exact ⟨rfl, HX.out⟩
  · have hl' : (n : Int) ≤ 60 := by omega
    go_enter Tryd.func9, Tryd.ntmps9
    go_wp2_with (first
      | (go_at_call 19
         have hfirst := HNA.out
         with_reducible refine (pNew_any _).mono ?_
         rintro e w2 ⟨pb, τb, rfl, hO2, hb2, hp2⟩
         have HTW := Lib.hid (Twob.start hfirst hO2 hb2 HX.out.size)
         replace HX := Lib.hid (HX.out.trans (hb2.mono HX.out.size))
         clear hO2 hb2 hp2 hfirst)
      | (go_at_call 19
         with_reducible refine (pNew_any _).mono ?_
         rintro e w1 ⟨pa, τa, rfl, hO1, hb1, hp1⟩
         have HNA := Lib.hid hO1
         have HX := Lib.hid hb1
         clear hO1 hb1 hp1))
    generalize w1.heap.size = B at *
    go_loopw [7] (fun vi wr => ∃ (i : Nat), vi = .int .i64 i ∧ 1 ≤ i ∧ (i ≤ n ∨ i = 1) ∧ (∀ j, 1 ≤ j → j < i → z (j - 1) 2 ≤ z j 2) ∧ Twob wr W.heap.size B τa τb pa pb ps0 ps0 ∧ Below W.heap.size W wr) (fun vi _ => n + 1 - (intOf vi).toNat)
    case atStart => exact ⟨1, by go_num, by omega, .inr rfl, fun j h1 h2 => by omega, HTW.out, HX.out⟩
    case round =>
      clear HTW HX HNA
      obtain ⟨i, rfl, hi1, hi2, hup, hTW, hX⟩ := hrel
      have HTW := Lib.hid hTW
      have HX := Lib.hid hX
      have HUP := Lib.hid hup
      clear hup
      by_cases hlt : i < n
      · obtain ⟨b, o, rfl, hbb, _, hcell⟩ := HR.out.resolve_left (by omega)
        obtain ⟨q, hq⟩ : ∃ q, i = q + 1 := ⟨i - 1, by omega⟩
        have e1 : ∀ x : Sub wr.heap.size wr, x.w.cell? ⟨b, o + i * 6 + 2, none⟩ = some (.int .i64 (z i 2)) := Sub.cell ((hX.cell (p := ⟨b, _, none⟩) hbb).trans (hcell i 2 hlt (by omega))) (Nat.lt_of_lt_of_le hbb hX.size)
        have e2 : ∀ x : Sub wr.heap.size wr, x.w.cell? ⟨b, o + q * 6 + 2, none⟩ = some (.int .i64 (z q 2)) := Sub.cell ((hX.cell (p := ⟨b, _, none⟩) hbb).trans (hcell q 2 (by omega) (by omega))) (Nat.lt_of_lt_of_le hbb hX.size)
        have eq : (i : Int) - 1 = (q : Int) := by omega
        have wq : IntKind.i64.wrap (q : Int) = (q : Int) := IntWalk.i64_in _ (by omega)
        have i0 : (0 : Int) ≤ (i : Int) := by omega
        have i1 : (i : Int) < (n : Int) := by omega
        have q0 : (0 : Int) ≤ (q : Int) := by omega
        have q1 : (q : Int) < (n : Int) := by omega
        have q2 : q < n := by omega
        have hqi : i - 1 = q := by omega
        have HQI := Lib.hid hqi
        clear hcell hq hqi
        by_cases hlt2 : z i 2 < z q 2
        · go_wp2
          refine wp_region_below (by kernel_rfl) (by kernel_rfl) ?_
          repeat (go_big_quiet_step (fail))
          refine wpQuiet_nil ?_
          rintro w5 ⟨⟨_, hb5⟩, rfl⟩
          replace HX := Lib.hid (HX.out.trans (hb5.mono HX.out.size))
          clear hb5
          go_wp2_with (go_at_call 18; (with_reducible refine (awake_any _ (HT.out.grow HX.out)).mono ?_); rintro e9 w9 ⟨rfl, hb9⟩; replace HX := Lib.hid (HX.out.trans (hb9.mono HX.out.size)); clear hb9)
          go_ret
          exact ⟨rfl, HX.out⟩
        · have hge : z q 2 ≤ z i 2 := by omega
          clear hlt2
          go_wp2
          refine wp_region_below (by kernel_rfl) (by kernel_rfl) ?_
          repeat (go_big_quiet_step (fail))
          refine wpQuiet_nil ?_
          rintro w5 ⟨⟨_, hb5⟩, rfl⟩
          go_wp2
          go_roundw
          case rel => exact ⟨i + 1, by go_num, by omega, .inl (by omega), fun j h1 h2 => by
            rcases Nat.lt_or_ge j i with c | c
            · exact HUP.out j h1 c
            · obtain rfl : j = i := by omega
              rw [HQI.out]; exact hge, HTW.out.below hb5, HX.out.trans (hb5.mono HX.out.size)⟩
          case measure => simp [intOf]; omega
      · have HUN := Lib.hid (show ∀ j, 1 ≤ j → j < n → z (j - 1) 2 ≤ z j 2 from fun j h1 h2 => HUP.out j h1 (by omega))
        clear hTW hX
        have hni : (n : Int) ≤ (i : Int) := by omega
        go_wp2
        go_loopw [8] (fun vi wr => ∃ (i : Nat) (τa' τb' : Rl) (Sa Sb : PSt) (T : Int), vi = .int .i64 i ∧ i ≤ n ∧ Twob wr W.heap.size B τa' τb' pa pb Sa Sb ∧ Sz Sa i ∧ Sz Sb i ∧ Ap id T Sa Sb ∧ (∀ j, i ≤ j → j < n → T ≤ z j 2) ∧ Below W.heap.size W wr) (fun vi _ => n - (intOf vi).toNat)
        case atStart => exact ⟨0, τa, τb, ps0, ps0, z 0 2, by go_num, by omega, HTW.out, sz0, sz0, ap0 _ _, fun j h1 h2 => up_le HUN.out h1 h2, HX.out⟩
        case round =>
          clear HTW HX HUP hlt hi1 hi2 hni
          obtain ⟨i, τa', τb', Sa, Sb, T, rfl, hi, hTW, hSZ, hSY, hAP, hT, hX⟩ := hrel
          have HTW := Lib.hid hTW
          have HSZ := Lib.hid hSZ
          have HSY := Lib.hid hSY
          have HX := Lib.hid hX
          by_cases hlt : i < n
          · obtain ⟨b, o, rfl, hbb, _, hcell⟩ := HR.out.resolve_left (by omega)
            have HBB := Lib.hid hbb
            have HCELL := Lib.hid (show ∀ y, Below W.heap.size W y → ∀ j, j < 6 → y.cell? ⟨b, o + (i * 6 + j), none⟩ = some (.int .i64 (z i j)) from fun y hy j hj => (hy.cell (p := ⟨b, _, none⟩) hbb).trans (hcell i j hlt hj))
            have c0 : wr.cell? ⟨b, o + i * 6, none⟩ = some (.int .i64 (z i 0)) := HCELL.out _ hX 0 (by omega)
            have c1 : wr.cell? ⟨b, o + i * 6 + 1, none⟩ = some (.int .i64 (z i 1)) := HCELL.out _ hX 1 (by omega)
            have c2 : wr.cell? ⟨b, o + i * 6 + 2, none⟩ = some (.int .i64 (z i 2)) := HCELL.out _ hX 2 (by omega)
            have c3 : wr.cell? ⟨b, o + i * 6 + 3, none⟩ = some (.int .i64 (z i 3)) := HCELL.out _ hX 3 (by omega)
            have c4 : wr.cell? ⟨b, o + i * 6 + 4, none⟩ = some (.int .i64 (z i 4)) := HCELL.out _ hX 4 (by omega)
            have c5 : wr.cell? ⟨b, o + i * 6 + 5, none⟩ = some (.int .i64 (z i 5)) := HCELL.out _ hX 5 (by omega)
            have hTi : T ≤ z i 2 := hT i (Nat.le_refl _) hlt
            obtain ⟨S1, hS1⟩ : ∃ S1, stpD Sa ⟨z i 0, z i 1, z i 2, z i 3, z i 4, z i 5⟩ = S1 := ⟨_, rfl⟩
            obtain ⟨l1, h1⟩ : ∃ l, limD Sa ⟨z i 0, z i 1, z i 2, z i 3, z i 4, z i 5⟩ 1 = l := ⟨_, rfl⟩
            obtain ⟨l2, h2⟩ : ∃ l, limD Sa ⟨z i 0, z i 1, z i 2, z i 3, z i 4, z i 5⟩ 2 = l := ⟨_, rfl⟩
            obtain ⟨l3, h3⟩ : ∃ l, limD Sa ⟨z i 0, z i 1, z i 2, z i 3, z i 4, z i 5⟩ 3 = l := ⟨_, rfl⟩
            obtain ⟨E, hE⟩ : ∃ E, errD Sa ⟨z i 0, z i 1, z i 2, z i 3, z i 4, z i 5⟩ = E := ⟨_, rfl⟩
            have HE := Lib.hid hE
            have HS1 := Lib.hid hS1
            have HL1 := Lib.hid h1
            have HL2 := Lib.hid h2
            have HL3 := Lib.hid h3
            have HSN := Lib.hid (show Sz S1 (i + 1) from hS1 ▸ hSZ.stp _)
            have HTN := Lib.hid (show ∀ j, i + 1 ≤ j → j < n → z i 2 ≤ z j 2 from fun j h1 h2 => up_le HUN.out (by omega) h2)
            have hbl : b < wr.heap.size := Nat.lt_of_lt_of_le hbb hX.size
            by_cases hid : z i 1 = id
            · obtain ⟨he, hlm⟩ := hAP.errs (d := ⟨z i 0, z i 1, z i 2, z i 3, z i 4, z i 5⟩) hTi hid
              obtain ⟨S2, hS2⟩ : ∃ S2, stpD Sb ⟨z i 0, z i 1, z i 2, z i 3, z i 4, z i 5⟩ = S2 := ⟨_, rfl⟩
              have HEB := Lib.hid (he.symm.trans hE)
              have HLB1 := Lib.hid ((hlm 1).symm.trans h1)
              have HLB2 := Lib.hid ((hlm 2).symm.trans h2)
              have HLB3 := Lib.hid ((hlm 3).symm.trans h3)
              have HS2 := Lib.hid hS2
              have HSM := Lib.hid (show Sz S2 (i + 1) from hS2 ▸ hSY.stp _)
              have HAN := Lib.hid (show Ap id (z i 2) S1 S2 by rw [← hS1, ← hS2]; exact hAP.same (d := ⟨z i 0, z i 1, z i 2, z i 3, z i 4, z i 5⟩) hTi hid)
              have hidb : (z i 1 != id) = false := by simp [hid]
              clear hcell hTW hSZ hSY hX h1 h2 h3 hbb hE hS1 hS2 he hlm hAP hT hTi hid
              go_wp2_with (first
                | (go_at_call 21
                   have hac := act_s HTW.out.a (HT.out.grow HX.out) HTW.out.hA (HSZ.out.mono (by omega)) (z i 0) (z i 1) (z i 2) (z i 3) (z i 4) (z i 5) HE.out HL1.out HL2.out HL3.out
                   rw [HS1.out] at hac
                   with_reducible refine hac.mono ?_
                   rintro e w3 ⟨rfl, τ3, hO3, hF3, hG3⟩
                   obtain ⟨ht3, hb3⟩ := HTW.out.actA hO3 hF3 hG3
                   have hal : Below w3.heap.size w3 (w3.alloc (.cells #[.int .i64 l1, .int .i64 l2, .int .i64 l3] 28)) := (Below.refl _ _).alloc (Nat.le_refl _) _
                   have hx3 := HX.out.trans hb3
                   have c0 : w3.cell? ⟨b, o + i * 6, none⟩ = some (.int .i64 (z i 0)) := HCELL.out _ hx3 0 (by omega)
                   have c1 : w3.cell? ⟨b, o + i * 6 + 1, none⟩ = some (.int .i64 (z i 1)) := HCELL.out _ hx3 1 (by omega)
                   have c2 : w3.cell? ⟨b, o + i * 6 + 2, none⟩ = some (.int .i64 (z i 2)) := HCELL.out _ hx3 2 (by omega)
                   have c3 : w3.cell? ⟨b, o + i * 6 + 3, none⟩ = some (.int .i64 (z i 3)) := HCELL.out _ hx3 3 (by omega)
                   have c4 : w3.cell? ⟨b, o + i * 6 + 4, none⟩ = some (.int .i64 (z i 4)) := HCELL.out _ hx3 4 (by omega)
                   have c5 : w3.cell? ⟨b, o + i * 6 + 5, none⟩ = some (.int .i64 (z i 5)) := HCELL.out _ hx3 5 (by omega)
                   have hbl3 : b < w3.heap.size := Nat.lt_of_lt_of_le HBB.out hx3.size
                   have HCL := Lib.hid (Cel.new w3 #[.int .i64 l1, .int .i64 l2, .int .i64 l3] 28)
                   have HBN := Lib.hid (show τb' w3.heap.size = none from Classical.byContradiction fun c => by have := (ht3.b.low _ c).2; omega)
                   replace HTW := Lib.hid (ht3.below hal)
                   replace HX := Lib.hid (hx3.trans (hal.mono hx3.size))
                   clear hac hO3 hF3 hG3 ht3 hb3 hal hx3)
                | (go_at_call 21
                   have hac := act_s HTW.out.b (HT.out.grow HX.out) HTW.out.hB (HSY.out.mono (by omega)) (z i 0) (z i 1) (z i 2) (z i 3) (z i 4) (z i 5) HEB.out HLB1.out HLB2.out HLB3.out
                   rw [HS2.out] at hac
                   with_reducible refine hac.mono ?_
                   rintro e w3 ⟨rfl, τ3, hO3, hF3, hG3⟩
                   obtain ⟨ht3, hb3⟩ := HTW.out.actB hO3 hF3 hG3
                   have hal : Below w3.heap.size w3 (w3.alloc (.cells #[.int .i64 l1, .int .i64 l2, .int .i64 l3] 28)) := (Below.refl _ _).alloc (Nat.le_refl _) _
                   have hx3 := HX.out.trans hb3
                   have c0 : w3.cell? ⟨b, o + i * 6, none⟩ = some (.int .i64 (z i 0)) := HCELL.out _ hx3 0 (by omega)
                   have c1 : w3.cell? ⟨b, o + i * 6 + 1, none⟩ = some (.int .i64 (z i 1)) := HCELL.out _ hx3 1 (by omega)
                   have c2 : w3.cell? ⟨b, o + i * 6 + 2, none⟩ = some (.int .i64 (z i 2)) := HCELL.out _ hx3 2 (by omega)
                   have c3 : w3.cell? ⟨b, o + i * 6 + 3, none⟩ = some (.int .i64 (z i 3)) := HCELL.out _ hx3 3 (by omega)
                   have c4 : w3.cell? ⟨b, o + i * 6 + 4, none⟩ = some (.int .i64 (z i 4)) := HCELL.out _ hx3 4 (by omega)
                   have c5 : w3.cell? ⟨b, o + i * 6 + 5, none⟩ = some (.int .i64 (z i 5)) := HCELL.out _ hx3 5 (by omega)
                   have hbl3 : b < w3.heap.size := Nat.lt_of_lt_of_le HBB.out hx3.size
                   have cx := HCL.out.fr hF3 HBN.out
                   have y0 := cx.cell 0
                   have y1 := cx.cell 1
                   have y2 := cx.cell 2
                   simp at y0 y1 y2
                   have hyl := cx.lt
                   clear cx
                   replace HTW := Lib.hid (ht3.below hal)
                   replace HX := Lib.hid (hx3.trans (hal.mono hx3.size))
                   clear hac hO3 hF3 hG3 ht3 hb3 hal hx3))
              go_roundw
              case rel => exact ⟨i + 1, _, _, S1, S2, _, by go_num, hlt, HTW.out, HSN.out, HSM.out, HAN.out, HTN.out, HX.out⟩
              case measure => simp [intOf]; omega
            · have HSM := Lib.hid (hSY.mono (Nat.le_succ i))
              have HAN := Lib.hid (show Ap id (z i 2) S1 Sb by rw [← hS1]; exact hAP.other (d := ⟨z i 0, z i 1, z i 2, z i 3, z i 4, z i 5⟩) hTi hid)
              have hidb : (z i 1 != id) = true := by simp [hid]
              clear hcell hTW hSZ hSY hX h1 h2 h3 hbb hE hS1 hAP hT hTi hid
              go_wp2_with (first
                | (go_at_call 21
                   have hac := act_s HTW.out.a (HT.out.grow HX.out) HTW.out.hA (HSZ.out.mono (by omega)) (z i 0) (z i 1) (z i 2) (z i 3) (z i 4) (z i 5) HE.out HL1.out HL2.out HL3.out
                   rw [HS1.out] at hac
                   with_reducible refine hac.mono ?_
                   rintro e w3 ⟨rfl, τ3, hO3, hF3, hG3⟩
                   obtain ⟨ht3, hb3⟩ := HTW.out.actA hO3 hF3 hG3
                   have hal : Below w3.heap.size w3 (w3.alloc (.cells #[.int .i64 l1, .int .i64 l2, .int .i64 l3] 28)) := (Below.refl _ _).alloc (Nat.le_refl _) _
                   have hx3 := HX.out.trans hb3
                   have c0 : w3.cell? ⟨b, o + i * 6, none⟩ = some (.int .i64 (z i 0)) := HCELL.out _ hx3 0 (by omega)
                   have c1 : w3.cell? ⟨b, o + i * 6 + 1, none⟩ = some (.int .i64 (z i 1)) := HCELL.out _ hx3 1 (by omega)
                   have c2 : w3.cell? ⟨b, o + i * 6 + 2, none⟩ = some (.int .i64 (z i 2)) := HCELL.out _ hx3 2 (by omega)
                   have c3 : w3.cell? ⟨b, o + i * 6 + 3, none⟩ = some (.int .i64 (z i 3)) := HCELL.out _ hx3 3 (by omega)
                   have c4 : w3.cell? ⟨b, o + i * 6 + 4, none⟩ = some (.int .i64 (z i 4)) := HCELL.out _ hx3 4 (by omega)
                   have c5 : w3.cell? ⟨b, o + i * 6 + 5, none⟩ = some (.int .i64 (z i 5)) := HCELL.out _ hx3 5 (by omega)
                   have hbl3 : b < w3.heap.size := Nat.lt_of_lt_of_le HBB.out hx3.size
                   have HCL := Lib.hid (Cel.new w3 #[.int .i64 l1, .int .i64 l2, .int .i64 l3] 28)
                   have HBN := Lib.hid (show τb' w3.heap.size = none from Classical.byContradiction fun c => by have := (ht3.b.low _ c).2; omega)
                   replace HTW := Lib.hid (ht3.below hal)
                   replace HX := Lib.hid (hx3.trans (hal.mono hx3.size))
                   clear hac hO3 hF3 hG3 ht3 hb3 hal hx3))
              go_roundw
              case rel => exact ⟨i + 1, _, _, S1, Sb, _, by go_num, hlt, HTW.out, HSN.out, HSM.out, HAN.out, HTN.out, HX.out⟩
              case measure => simp [intOf]; omega
          · obtain rfl : i = n := by omega
            clear hTW hX
            go_wp2_with (go_at_call 18; (with_reducible refine (awake_any _ (HT.out.grow HX.out)).mono ?_); rintro e9 w9 ⟨rfl, hb9⟩; replace HX := Lib.hid (HX.out.trans (hb9.mono HX.out.size)); clear hb9)
            go_ret
            exact ⟨rfl, HX.out⟩
end Go.Proofs.YtainelkenkgppaaDoor
