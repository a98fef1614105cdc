/- The law PlayerProtects: its walk. (Printed by wip/gen/prot.py.) -/
import Derived.Test.YtainelkenkgppaaDoorPlss
import Derived.Deep.RegionHeld3
import Derived.Deep.CutRange
import Derived.Deep.RegionWith
namespace Go.Proofs.YtainelkenkgppaaDoor
open Go.ChangeShapes Go.WideShapes Go.ChangeAt Go.RowKit Go.Lott
open Go.Sort Go.Lott.Stb Go.Lott.Srt Go.Lott.Lm
set_option linter.unusedSimpArgs false
theorem infoCs : (Tryd.prog.info? 23).map (fun i => (i.zero, i.size, i.bytes)) = some (some (.slice none 0 0), 1, 24) := by kernel_rfl
theorem infoEs : (Tryd.prog.info? 56).map (fun i => (i.zero, i.size, i.bytes)) = some (some (.slice none 0 0), 1, 24) := by kernel_rfl
theorem make_Cs (w : World) : (Instr.makeSlice 54 (.int .i64 5) (.int .i64 5)).run Tryd.prog w = .ok (.slice (some ⟨w.heap.size, 0, none⟩) 5 5) (w.alloc (.cells (five fun _ => .slice none 0 0) 23)) := by
  obtain ⟨e0, he0, hz0, hz1, hz2⟩ := info_parts infoCs
  have h := run_make (P := Tryd.prog) w 54 23 e0 (.slice none 0 0) Tryd.underlying54 he0 hz0 .i64 .i64 5 5 (by decide) (by decide) (by rw [hz2]; decide) (by decide)
  rw [h, hz1]
  have e : madeCells (Value.slice none 0 0).cells 5 = five fun _ => .slice none 0 0 := by kernel_rfl
  rw [← e]
  rfl
theorem make_Es (w : World) : (Instr.makeSlice 55 (.int .i64 5) (.int .i64 5)).run Tryd.prog w = .ok (.slice (some ⟨w.heap.size, 0, none⟩) 5 5) (w.alloc (.cells (five fun _ => .slice none 0 0) 56)) := by
  obtain ⟨e0, he0, hz0, hz1, hz2⟩ := info_parts infoEs
  have h := run_make (P := Tryd.prog) w 55 56 e0 (.slice none 0 0) Tryd.underlying55 he0 hz0 .i64 .i64 5 5 (by decide) (by decide) (by rw [hz2]; decide) (by decide)
  rw [h, hz1]
  have e : madeCells (Value.slice none 0 0).cells 5 = five fun _ => .slice none 0 0 := by kernel_rfl
  rw [← e]
  rfl
set_option maxHeartbeats 64000000 in
set_option maxRecDepth 100000 in
theorem playerProtects_walk (a : Option Addr) (n cap : Nat) (z : Nat → Nat → Int) (W : World) (hz : IsRows 6 W a n z ∧ n ≤ cap) (ht : Tab W) :
    Calls Tryd.prog 7 #[.slice a n cap] W (RetB (.bool true) W) := by
  have HT := Lib.hid ht
  have HR := Lib.hid hz.1
  clear ht hz
  by_cases hl : 60 < n
  · have hl' : (60 : Int) < (n : Int) := by omega
    clear hl
    go_enter Tryd.func7, Tryd.ntmps7
    go_wp2_with (first
      | (go_at_call 19
         with_reducible refine (pNew_any _).mono ?_
         rintro e w1 ⟨pa, τa, rfl, hO1, hb1, hp1⟩
         have HNA := Lib.hid hO1
         have HX := Lib.hid hb1
         clear hO1 hb1 hp1)
      | (go_at_call 18; (with_reducible refine (awake_any _ (HT.out.grow HX.out)).mono ?_); rintro e9 w9 ⟨rfl, hb9⟩; replace HX := Lib.hid (HX.out.trans (hb9.mono HX.out.size)); clear hb9))
    go_ret
    exact ⟨rfl, HX.out⟩
  · have hl' : (n : Int) ≤ 60 := by omega
    have hm1 := make_Cs
    have hm2 := make_Es
    go_enter Tryd.func7, Tryd.ntmps7
    go_wp2_with (first
      | (go_at_call 19
         with_reducible refine (pNew_any _).mono ?_
         rintro e w1 ⟨pa, τa, rfl, hO1, hb1, hp1⟩
         have HNA := Lib.hid hO1
         have HX := Lib.hid hb1
         clear hO1 hb1 hp1))
    clear hm1 hm2
    have hs1 := HX.out.size
    have HTW := Lib.hid (show Tri ((w1.alloc (.cells (five fun _ => .slice none 0 0) 23)).alloc (.cells (five fun _ => .slice none 0 0) 56)) W.heap.size pa w1.heap.size (w1.heap.size + 1) ps0 τa (tg (fun _ => none) w1.heap.size (0, 0)) (tg (fun _ => none) (w1.heap.size + 1) (0, 0)) (fun _ => []) (fun _ => []) (fun _ => .slice none 0 0) (fun _ => .slice none 0 0) from
      have c1 := Cel.new w1 (five fun _ => .slice none 0 0) 23
      have c2 := Cel.new (w1.alloc (.cells (five fun _ => .slice none 0 0) 23)) (five fun _ => .slice none 0 0) 56
      ⟨HNA.out.below (((Below.refl _ _).alloc (Nat.le_refl _) _).alloc (by simp) _), SS.start (c1.alloc _) hs1, SS.start (by simpa using c2) (by omega),
        fun b => by
          by_cases c : b = w1.heap.size
          · exact .inl (Classical.byContradiction fun e => by have := (HNA.out.low b e).2; omega)
          · exact .inr (tg_ne _ c),
        fun b => by
          by_cases c : b = w1.heap.size + 1
          · exact .inl (Classical.byContradiction fun e => by have := (HNA.out.low b e).2; omega)
          · exact .inr (tg_ne _ c),
        fun b => by
          by_cases c : b = w1.heap.size
          · exact .inr (tg_ne _ (by omega))
          · exact .inl (tg_ne _ c)⟩)
    replace HX := Lib.hid ((HX.out.alloc hs1 (.cells (five fun _ => .slice none 0 0) 23)).alloc (by simp; omega) (.cells (five fun _ => .slice none 0 0) 56))
    generalize w1.heap.size = qa at *
    go_loopw [6] (fun vi wr => ∃ (i : Nat) (S : PSt) (τ σ ρ : Rl) (la : Nat → List Cg) (lb : Nat → List (Int × Int)) (VA VB : Nat → Value), vi = .int .i64 i ∧ i ≤ n ∧ Tri wr W.heap.size pa qa (qa + 1) S τ σ ρ la lb VA VB ∧ Sz S i ∧ Heard S la lb ∧ Below W.heap.size W wr) (fun vi _ => n - (intOf vi).toNat)
    case atStart => exact ⟨0, ps0, _, _, _, _, _, _, _, by go_num, by omega, HTW.out, sz0, heard0, HX.out⟩
    case round =>
      clear HTW HX HNA hs1
      obtain ⟨i, S, τ, σ, ρ, la, lb, VA, VB, rfl, hi, hTW, hSZ, hHD, hX⟩ := hrel
      have HSZ := Lib.hid hSZ
      have HHD := Lib.hid hHD
      by_cases hlt : i < n
      · obtain ⟨b, o, rfl, hbb, _, hcell⟩ := HR.out.resolve_left (by omega)
        have HCELL := Lib.hid (show ∀ y, Below W.heap.size W y → ∀ j, j < 6 → y.cell? ⟨b, o + (i * 6 + j), none⟩ = some (.int .i64 (z i j)) from fun y hy j hj => (hy.cell (p := ⟨b, _, none⟩) hbb).trans (hcell i j hlt hj))
        have c0 : wr.cell? ⟨b, o + i * 6, none⟩ = some (.int .i64 (z i 0)) := HCELL.out _ hX 0 (by omega)
        have c1 : wr.cell? ⟨b, o + i * 6 + 1, none⟩ = some (.int .i64 (z i 1)) := HCELL.out _ hX 1 (by omega)
        have c2 : wr.cell? ⟨b, o + i * 6 + 2, none⟩ = some (.int .i64 (z i 2)) := HCELL.out _ hX 2 (by omega)
        have c3 : wr.cell? ⟨b, o + i * 6 + 3, none⟩ = some (.int .i64 (z i 3)) := HCELL.out _ hX 3 (by omega)
        have c4 : wr.cell? ⟨b, o + i * 6 + 4, none⟩ = some (.int .i64 (z i 4)) := HCELL.out _ hX 4 (by omega)
        have c5 : wr.cell? ⟨b, o + i * 6 + 5, none⟩ = some (.int .i64 (z i 5)) := HCELL.out _ hX 5 (by omega)
        have hbl : b < wr.heap.size := Nat.lt_of_lt_of_le hbb hX.size
        clear hcell HCELL
        generalize z i 0 = x0 at *
        generalize z i 1 = x1 at *
        generalize z i 2 = x2 at *
        generalize z i 3 = x3 at *
        generalize z i 4 = x4 at *
        generalize z i 5 = x5 at *
        obtain ⟨E, hE⟩ : ∃ E, errD S ⟨x0, x1, x2, x3, x4, x5⟩ = E := ⟨_, rfl⟩
        obtain ⟨S1, hS1⟩ : ∃ S1, stpD S ⟨x0, x1, x2, x3, x4, x5⟩ = S1 := ⟨_, rfl⟩
        obtain ⟨l1, h1⟩ : ∃ l, limD S ⟨x0, x1, x2, x3, x4, x5⟩ 1 = l := ⟨_, rfl⟩
        obtain ⟨l2, h2⟩ : ∃ l, limD S ⟨x0, x1, x2, x3, x4, x5⟩ 2 = l := ⟨_, rfl⟩
        obtain ⟨l3, h3⟩ : ∃ l, limD S ⟨x0, x1, x2, x3, x4, x5⟩ 3 = l := ⟨_, rfl⟩
        have HE := Lib.hid hE
        have HS1 := Lib.hid hS1
        have HL1 := Lib.hid h1
        have HL2 := Lib.hid h2
        have HL3 := Lib.hid h3
        have HSN := Lib.hid (show Sz S1 (i + 1) from hS1 ▸ hSZ.stp _)
        obtain ⟨W0, hW0⟩ : ∃ W0, W0 = wr.alloc (.cells #[.int .i64 x0, .int .i64 x1, .int .i64 x2, .int .i64 x3, .int .i64 x4, .int .i64 x5] 46) := ⟨_, rfl⟩
        have hal0 : Below wr.heap.size wr W0 := by rw [hW0]; exact (Below.refl _ _).alloc (Nat.le_refl _) _
        have HD0 := Lib.hid (show Cel W0 wr.heap.size #[.int .i64 x0, .int .i64 x1, .int .i64 x2, .int .i64 x3, .int .i64 x4, .int .i64 x5] 46 by rw [hW0]; exact Cel.new _ _ _)
        have HT0 := Lib.hid (hTW.below hal0)
        have HX0 := Lib.hid (hX.trans (hal0.mono hX.size))
        have HTN := Lib.hid (show τ wr.heap.size = none from Classical.byContradiction fun c => by have := (hTW.a.low _ c).2; omega)
        have HNx := Lib.hid (show σ wr.heap.size = none from Classical.byContradiction fun c => by have := (hTW.x.low _ c).2; omega)
        have HNy := Lib.hid (show ρ wr.heap.size = none from Classical.byContradiction fun c => by have := (hTW.y.low _ c).2; omega)
        have HW0 := Lib.hid hW0
        clear hTW hX hSZ hHD hE hS1 h1 h2 h3 hal0 hW0 hbb
        go_wp2_with fail
        rw [← HW0.out]
        have hac := act_s HT0.out.a (HT.out.grow HX0.out) HT0.out.hA (HSZ.out.mono (by omega)) _ _ _ _ _ _ HE.out HL1.out HL2.out HL3.out
        rw [HS1.out] at hac
        with_reducible refine hac.mono ?_
        rintro e w3 ⟨rfl, τ3, hO3, hF3, hG3⟩
        obtain ⟨ht3, hb3⟩ := HT0.out.act hO3 hF3 hG3
        have hx3 := HX0.out.trans hb3
        have hd3 := HD0.out.fr hF3 HTN.out
        have hdl3 := hd3.lt
        obtain ⟨w2, hw2⟩ : ∃ w2, w2 = w3.alloc (.cells #[.int .i64 l1, .int .i64 l2, .int .i64 l3] 28) := ⟨_, rfl⟩
        have hal : Below w3.heap.size w3 w2 := by rw [hw2]; exact (Below.refl _ _).alloc (Nat.le_refl _) _
        have HW2 := Lib.hid hw2
        have HTW := Lib.hid (ht3.below hal)
        have HX := Lib.hid (hx3.trans (hal.mono hx3.size))
        have HD := Lib.hid (hd3.below hal hdl3)
        clear hac hO3 hF3 hG3 ht3 hb3 hal hx3 hd3 hw2
        clear HT0 HX0 HD0 HTN HL1 HL2 HL3 HW0 hbl c0 c1 c2 c3 c4 c5
        go_upto_region 11 with fail
        rw [← HW2.out]
        have hdl : wr.heap.size < w2.heap.size := HD.out.lt
        have e0 := HD.out.cell 0
        have e1 := HD.out.cell 1
        have e2 := HD.out.cell 2
        have e3 := HD.out.cell 3
        have e4 := HD.out.cell 4
        have e5 := HD.out.cell 5
        simp at e0 e1 e2 e3 e4 e5
        clear hdl3 HW2
        by_cases hE : E = 0
        · have HK := Lib.hid (show 4 < x1 ∨ x1 < 1 → Heard S1 la lb from fun c => HS1.out ▸ HHD.out.keep (d := ⟨x0, x1, x2, x3, x4, x5⟩) (.inr (by simp; omega)))
          subst hE
          by_cases g1 : x1 < 1
          · have HRD := Lib.hid (HK.out (.inr g1))
            as_aux_lemma =>
            clear HS1 HE HHD HSZ
            go_wp2
            go_roundw
            case rel => exact ⟨i + 1, S1, _, _, _, _, _, _, _, by go_num, hlt, HTW.out, HSN.out, HRD.out, HX.out⟩
            case measure => simp [intOf]; omega
          have g1' : 1 ≤ x1 := by omega
          by_cases g4 : 4 < x1
          · have HRD := Lib.hid (HK.out (.inl g4))
            as_aux_lemma =>
            clear HS1 HE HHD HSZ
            go_wp2
            go_roundw
            case rel => exact ⟨i + 1, S1, _, _, _, _, _, _, _, by go_num, hlt, HTW.out, HSN.out, HRD.out, HX.out⟩
            case measure => simp [intOf]; omega
          clear HK
          obtain ⟨k, rfl⟩ : ∃ k : Nat, x1 = (k : Int) := ⟨x1.toNat, by omega⟩
          have hk1 : 1 ≤ k := by omega
          have hk5 : k < 5 := by omega
          have k1 : (1 : Int) ≤ (k : Int) := by omega
          have k4 : (k : Int) ≤ 4 := by omega
          have k0 : (0 : Int) ≤ (k : Int) := by omega
          have k5 : (k : Int) < 5 := by omega
          clear g1 g4 g1'
          by_cases hx : x0 = 1
          · subst hx
            have HRD := Lib.hid (show Heard S1 (fun j => if j = k then la k ++ [(x2, x3, x4, x5)] else la j) lb from HS1.out ▸ HHD.out.set (d := ⟨1, k, x2, x3, x4, x5⟩) rfl HE.out rfl)
            have hlen : (la k).length ≤ 60 := by rw [HHD.out.a k hk1 hk5]; have := (HSZ.out.thr k).1; omega
            obtain ⟨i0, hi0, hz00, hz1, hz2⟩ := info_parts infoC
            clear HS1 HE HHD HSZ
            go_wp2
            obtain ⟨v0, hv0⟩ : ∃ v0, v0 = VA k := ⟨_, rfl⟩
            have hsf := HTW.out.x.facts hk5 hv0
            have HSF := Lib.hid hsf
            have r0 := hsf.r0
            have rf := hsf.rf
            have hrl := hsf.rl
            have hrow := HTW.out.x.rw k hk5
            rw [← hv0] at hrow
            have HRW := Lib.hid hrow
            have HV0 := Lib.hid hv0
            obtain ⟨n, hnn⟩ : ∃ n, n = (la k).length := ⟨_, rfl⟩
            have hn : n ≤ 60 := by rw [hnn]; exact hlen
            simp only [← hnn] at HRW
            have hzB : W.heap.size ≤ w2.heap.size := HX.out.size
            have hkb : (n + 1) * 32 ≤ 140737488355328 := by omega
            have hkm : n + 1 ≤ maxLen := by unfold maxLen; omega
            have HNN := Lib.hid hnn
            have HA := Lib.hid ((((Below.refl w2.heap.size w2).alloc (Nat.le_refl _) (.cells #[.int .i64 x2, .int .i64 x3, .int .i64 x4, .int .i64 x5] 30)).drew))
            have HBC := Lib.hid (show ∀ j v, w2.cell? ⟨wr.heap.size, j, none⟩ = some v → ∀ V, (w2.alloc (.cells #[.int .i64 x2, .int .i64 x3, .int .i64 x4, .int .i64 x5] 30)).drew.grownBy V v0.ownBlock → V.cell? ⟨wr.heap.size, j, none⟩ = some v from fun j v hv V hg => (hg.cell_far ⟨wr.heap.size, j, none⟩ (by simp; omega) (fun c => by have := HTW.out.x.tv k wr.heap.size hk5 (by rw [← HV0.out]; exact c.symm); rw [HNx.out] at this; cases this)).trans ((HA.out.cell (p := ⟨wr.heap.size, j, none⟩) hdl).trans hv))
            have hqd : qa ≠ wr.heap.size := fun c => by have := HTW.out.x.tq; rw [c, HNx.out] at this; cases this
            clear hsf hrow hv0 hnn
            refine wp_region_held_drew (S := fun w' => w'.cell? ⟨wr.heap.size, 0, none⟩ = some (.int .i64 1) ∧ w'.cell? ⟨wr.heap.size, 1, none⟩ = some (.int .i64 (k : Int)) ∧ w'.cell? ⟨wr.heap.size, 2, none⟩ = some (.int .i64 x2) ∧ w'.cell? ⟨wr.heap.size, 3, none⟩ = some (.int .i64 x3) ∧ w'.cell? ⟨wr.heap.size, 4, none⟩ = some (.int .i64 x4) ∧ w'.cell? ⟨wr.heap.size, 5, none⟩ = some (.int .i64 x5)) (by kernel_rfl) ?_ (fun hHeld => ?_)
            · go_keep
            refine wpAnyH_take (i := 0) (oi := _) (v := ?_) rfl (by kernel_rfl) (by kernel_rfl) (by kernel_rfl) (fun _ _ _ h => h) (Or.inl ⟨by rfl, ?_⟩) (by assumption) ?_
            rotate_left
            · (intro w hSw; (try dsimp only at hSw); go_simp; (try with_reducible rfl))
            simp only [Act.put, List.setIfInBounds_toArray, List.set_cons_zero, List.set_cons_succ]
            refine wpAnyH_take (i := 1) (oi := _) (v := ?_) rfl (by kernel_rfl) (by kernel_rfl) (by kernel_rfl) (fun _ _ _ h => h) (Or.inl ⟨by rfl, ?_⟩) (by assumption) ?_
            rotate_left
            · (intro w hSw; (try dsimp only at hSw); go_simp; (try with_reducible rfl))
            simp only [Act.put, List.setIfInBounds_toArray, List.set_cons_zero, List.set_cons_succ]
            refine wpAnyH_take (i := 2) (oi := _) (v := ?_) rfl (by kernel_rfl) (by kernel_rfl) (by kernel_rfl) (fun _ _ _ h => h) (Or.inl ⟨by rfl, ?_⟩) (by assumption) ?_
            rotate_left
            · (intro w hSw; (try dsimp only at hSw); go_simp; (try with_reducible rfl))
            simp only [Act.put, List.setIfInBounds_toArray, List.set_cons_zero, List.set_cons_succ]
            refine wpAnyH_take (i := 3) (oi := _) (v := ?_) rfl (by kernel_rfl) (by kernel_rfl) (by kernel_rfl) (fun _ _ _ h => h) (Or.inl ⟨by rfl, ?_⟩) (by assumption) ?_
            rotate_left
            · (intro w hSw; (try dsimp only at hSw); go_simp; (try with_reducible rfl))
            simp only [Act.put, List.setIfInBounds_toArray, List.set_cons_zero, List.set_cons_succ]
            refine wpAnyH_take (i := 4) (oi := _) (v := ?_) rfl (by kernel_rfl) (by kernel_rfl) (by kernel_rfl) (fun _ _ _ h => h) (Or.inl ⟨by rfl, ?_⟩) (by assumption) ?_
            rotate_left
            · (intro w hSw; (try dsimp only at hSw); go_simp; (try with_reducible rfl))
            simp only [Act.put, List.setIfInBounds_toArray, List.set_cons_zero, List.set_cons_succ]
            refine wpAnyH_take (i := 5) (oi := _) (v := ?_) rfl (by kernel_rfl) (by kernel_rfl) (by kernel_rfl) (fun _ _ _ h => h) (Or.inl ⟨by rfl, ?_⟩) (by assumption) ?_
            rotate_left
            · (intro w hSw; (try dsimp only at hSw); go_simp; (try with_reducible rfl))
            simp only [Act.put, List.setIfInBounds_toArray, List.set_cons_zero, List.set_cons_succ]
            refine wpAnyH_take (i := 6) (oi := _) (v := ?_) rfl (by kernel_rfl) (by kernel_rfl) (by kernel_rfl) (fun _ _ _ h => h) (Or.inl ⟨by rfl, ?_⟩) (by assumption) ?_
            rotate_left
            · (intro w hSw; (try dsimp only at hSw); go_simp; (try with_reducible rfl))
            simp only [Act.put, List.setIfInBounds_toArray, List.set_cons_zero, List.set_cons_succ]
            refine wpAnyH_take (i := 8) (oi := _) (v := ?_) rfl (by kernel_rfl) (by kernel_rfl) (by kernel_rfl) (fun _ _ _ h => h) (Or.inl ⟨by rfl, ?_⟩) (by assumption) ?_
            rotate_left
            · (intro w hSw; (try dsimp only at hSw); go_simp; (try with_reducible rfl))
            simp only [Act.put, List.setIfInBounds_toArray, List.set_cons_zero, List.set_cons_succ]
            refine wpAnyH_take (i := 9) (oi := _) (v := ?_) rfl (by kernel_rfl) (by kernel_rfl) (by kernel_rfl) (fun _ _ _ h => h) (Or.inl ⟨by rfl, ?_⟩) (by assumption) ?_
            rotate_left
            · (intro w hSw; (try dsimp only at hSw); go_simp; (try with_reducible rfl))
            simp only [Act.put, List.setIfInBounds_toArray, List.set_cons_zero, List.set_cons_succ]
            refine wpAnyH_take (i := 10) (oi := _) (v := ?_) rfl (by kernel_rfl) (by kernel_rfl) (by kernel_rfl) (fun _ _ _ h => h) (Or.inl ⟨by rfl, ?_⟩) (by assumption) ?_
            rotate_left
            · (intro w hSw; (try dsimp only at hSw); go_simp; (try with_reducible rfl))
            simp only [Act.put, List.setIfInBounds_toArray, List.set_cons_zero, List.set_cons_succ]
            refine wpAnyH_take (i := 11) (oi := _) (v := ?_) rfl (by kernel_rfl) (by kernel_rfl) (by kernel_rfl) (fun _ _ _ h => h) (Or.inl ⟨by rfl, ?_⟩) (by assumption) ?_
            rotate_left
            · (intro w hSw; (try dsimp only at hSw); go_simp; (try with_reducible rfl))
            simp only [Act.put, List.setIfInBounds_toArray, List.set_cons_zero, List.set_cons_succ]
            refine wpAnyH_take (i := 12) (oi := _) (v := ?_) rfl (by kernel_rfl) (by kernel_rfl) (by kernel_rfl) (fun _ _ _ h => h) (Or.inl ⟨by rfl, ?_⟩) (by assumption) ?_
            rotate_left
            · (intro w hSw; (try dsimp only at hSw); go_simp; (try with_reducible rfl))
            simp only [Act.put, List.setIfInBounds_toArray, List.set_cons_zero, List.set_cons_succ]
            refine wpAnyH_take (i := 13) (oi := _) (v := ?_) rfl (by kernel_rfl) (by kernel_rfl) (by kernel_rfl) (fun _ _ _ h => h) (Or.inl ⟨by rfl, ?_⟩) (by assumption) ?_
            rotate_left
            · (intro w hSw; (try dsimp only at hSw); go_simp; (try with_reducible rfl))
            simp only [Act.put, List.setIfInBounds_toArray, List.set_cons_zero, List.set_cons_succ]
            refine wpAnyH_take (i := 14) (oi := _) (v := ?_) rfl (by kernel_rfl) (by kernel_rfl) (by kernel_rfl) (fun _ _ _ h => h) (Or.inl ⟨by rfl, ?_⟩) (by assumption) ?_
            rotate_left
            · (intro w hSw; (try dsimp only at hSw); go_simp; (try with_reducible rfl))
            simp only [Act.put, List.setIfInBounds_toArray, List.set_cons_zero, List.set_cons_succ]
            refine wpAnyH_take (i := 15) (oi := _) (v := ?_) rfl (by kernel_rfl) (by kernel_rfl) (by kernel_rfl) (fun _ _ _ h => h) (Or.inl ⟨by rfl, ?_⟩) (by assumption) ?_
            rotate_left
            · (intro w hSw; (try dsimp only at hSw); go_simp; (try with_reducible rfl))
            simp only [Act.put, List.setIfInBounds_toArray, List.set_cons_zero, List.set_cons_succ]
            refine wpAnyH_take (i := 16) (oi := _) (v := ?_) rfl (by kernel_rfl) (by kernel_rfl) (by kernel_rfl) (fun _ _ _ h => h) (Or.inl ⟨by rfl, ?_⟩) (by assumption) ?_
            rotate_left
            · (intro w hSw; (try dsimp only at hSw); go_simp; (try with_reducible rfl))
            simp only [Act.put, List.setIfInBounds_toArray, List.set_cons_zero, List.set_cons_succ]
            refine wpAnyH_take (i := 17) (oi := _) (v := ?_) rfl (by kernel_rfl) (by kernel_rfl) (by kernel_rfl) (fun _ _ _ h => h) (Or.inl ⟨by rfl, ?_⟩) (by assumption) ?_
            rotate_left
            · (intro w hSw; (try dsimp only at hSw); go_simp; (try with_reducible rfl))
            simp only [Act.put, List.setIfInBounds_toArray, List.set_cons_zero, List.set_cons_succ]
            refine wpAnyH_ready (rs := [7, 18]) (by kernel_rfl) (by simp) ?_
            refine AllReadyH.cons (o := _) rfl (fun K2 hK => ?_) (AllReadyH.cons (o := _) rfl (fun K2 hK => ?_) AllReadyH.nil)
            · go_simp
              refine hK.out _ _ ?_ (fun hHeld => ?_)
              · go_keep
              clear hK K2
              try simp only [Act.put, List.setIfInBounds_toArray, List.set_cons_zero, List.set_cons_succ]
              refine wpAnyH_ready (rs := [18]) (by kernel_rfl) (by simp) ?_
              refine AllReadyH.cons (o := _) rfl (fun K2 hK => ?_) AllReadyH.nil
              go_simp
              refine hK.out _ _ ?_ (fun hHeld => ?_)
              · go_keep
              clear hK K2
              try simp only [Act.put, List.setIfInBounds_toArray, List.set_cons_zero, List.set_cons_succ]
              refine wpAnyH_ready (rs := [19]) (by kernel_rfl) (by simp) ?_
              refine AllReadyH.cons (o := _) rfl (fun K2 hK => ?_) AllReadyH.nil
              ((refine step_append_lies _ (by rfl) _ _ _ (by rfl) W.heap.size 30 i0 _ 4 32 Tryd.underlying23 hi0 hz00 hz1 hz2 rfl (by omega) _ n (flC (la k)) (by rfl) ((HRW.out.alloc _).drew) ⟨w2.heap.size, 0, none⟩ 1 1 [.int .i64 x2, .int .i64 x3, .int .i64 x4, .int .i64 x5] (by rfl) (by rfl) (World.news_of_block (cs := #[.int .i64 x2, .int .i64 x3, .int .i64 x4, .int .i64 x5]) (t := 30) (fr := (0, 0)) (heap_alloc_new w2 _)) (by simp [Value.oneCell']) (by omega) hkm hkb (by simp; omega) (w2.heap.size + 1) (by simp) ?_; intro gg cc w1 hown1 hgrow hat hlt; have HQ := Lib.hid ((HSF.out.fr HA.out).grow hgrow); have q1 := HQ.out.r0; have q2 := HQ.out.rf; have HG1 := Lib.hid hgrow; have HO1 := Lib.hid hown1; have HA1 := Lib.hid hat; have HL1 := Lib.hid hlt; clear hown1 hgrow hat hlt))
              refine hK.out _ _ ?_ (fun hHeld => ?_)
              · exact ⟨HBC.out 0 _ e0 _ HG1.out, HBC.out 1 _ e1 _ HG1.out, HBC.out 2 _ e2 _ HG1.out, HBC.out 3 _ e3 _ HG1.out, HBC.out 4 _ e4 _ HG1.out, HBC.out 5 _ e5 _ HG1.out⟩
              clear hK K2
              try simp only [Act.put, List.setIfInBounds_toArray, List.set_cons_zero, List.set_cons_succ]
              refine wpAnyH_take (i := 20) (oi := _) (v := ?_) rfl (by kernel_rfl) (by kernel_rfl) (by kernel_rfl) (fun _ _ _ h => h) (Or.inl ⟨by rfl, ?_⟩) (by assumption) ?_
              rotate_left
              · (intro w hSw; (try dsimp only at hSw); go_simp; (try with_reducible rfl))
              simp only [Act.put, List.setIfInBounds_toArray, List.set_cons_zero, List.set_cons_succ]
              have z0 := HBC.out 0 _ e0 _ HG1.out
              have z1 := HBC.out 1 _ e1 _ HG1.out
              have z2 := HBC.out 2 _ e2 _ HG1.out
              have z3 := HBC.out 3 _ e3 _ HG1.out
              have z4 := HBC.out 4 _ e4 _ HG1.out
              have z5 := HBC.out 5 _ e5 _ HG1.out
              refine wpAnyH_ready (rs := [21]) (by kernel_rfl) (by simp) ?_
              refine AllReadyH.cons (o := _) rfl (fun K2 hK => ?_) AllReadyH.nil
              go_simp
              refine hK.out _ _ ?_ (fun hHeld => ?_)
              · go_keep
              clear hK K2
              try simp only [Act.put, List.setIfInBounds_toArray, List.set_cons_zero, List.set_cons_succ]
              refine wpAnyH_done (by kernel_rfl) ?_ _
              go_wp2
              go_roundw
              case rel =>
                obtain ⟨σ', VA', hO, hF, hG⟩ := HTW.out.x.done hk5 HV0.out HA.out (by simp) HG1.out HA1.out HL1.out HO1.out
                rw [HNN.out] at hO hF ⊢
                obtain ⟨ht, hb⟩ := HTW.out.chA (by rw [← (la_push la k (x2, x3, x4, x5)).1, ← (la_push la k (x2, x3, x4, x5)).2]; exact hO) hF hG
                exact ⟨i + 1, S1, _, _, _, _, _, _, _, by go_num, hlt, ht, HSN.out, HRD.out, HX.out.trans hb⟩
              case measure => simp [intOf]; omega
            · go_simp
              refine hK.out _ _ ?_ (fun hHeld => ?_)
              · go_keep
              clear hK K2
              try simp only [Act.put, List.setIfInBounds_toArray, List.set_cons_zero, List.set_cons_succ]
              refine wpAnyH_ready (rs := [7]) (by kernel_rfl) (by simp) ?_
              refine AllReadyH.cons (o := _) rfl (fun K2 hK => ?_) AllReadyH.nil
              go_simp
              refine hK.out _ _ ?_ (fun hHeld => ?_)
              · go_keep
              clear hK K2
              try simp only [Act.put, List.setIfInBounds_toArray, List.set_cons_zero, List.set_cons_succ]
              refine wpAnyH_ready (rs := [19]) (by kernel_rfl) (by simp) ?_
              refine AllReadyH.cons (o := _) rfl (fun K2 hK => ?_) AllReadyH.nil
              ((refine step_append_lies _ (by rfl) _ _ _ (by rfl) W.heap.size 30 i0 _ 4 32 Tryd.underlying23 hi0 hz00 hz1 hz2 rfl (by omega) _ n (flC (la k)) (by rfl) ((HRW.out.alloc _).drew) ⟨w2.heap.size, 0, none⟩ 1 1 [.int .i64 x2, .int .i64 x3, .int .i64 x4, .int .i64 x5] (by rfl) (by rfl) (World.news_of_block (cs := #[.int .i64 x2, .int .i64 x3, .int .i64 x4, .int .i64 x5]) (t := 30) (fr := (0, 0)) (heap_alloc_new w2 _)) (by simp [Value.oneCell']) (by omega) hkm hkb (by simp; omega) (w2.heap.size + 1) (by simp) ?_; intro gg cc w1 hown1 hgrow hat hlt; have HQ := Lib.hid ((HSF.out.fr HA.out).grow hgrow); have q1 := HQ.out.r0; have q2 := HQ.out.rf; have HG1 := Lib.hid hgrow; have HO1 := Lib.hid hown1; have HA1 := Lib.hid hat; have HL1 := Lib.hid hlt; clear hown1 hgrow hat hlt))
              refine hK.out _ _ ?_ (fun hHeld => ?_)
              · exact ⟨HBC.out 0 _ e0 _ HG1.out, HBC.out 1 _ e1 _ HG1.out, HBC.out 2 _ e2 _ HG1.out, HBC.out 3 _ e3 _ HG1.out, HBC.out 4 _ e4 _ HG1.out, HBC.out 5 _ e5 _ HG1.out⟩
              clear hK K2
              try simp only [Act.put, List.setIfInBounds_toArray, List.set_cons_zero, List.set_cons_succ]
              refine wpAnyH_take (i := 20) (oi := _) (v := ?_) rfl (by kernel_rfl) (by kernel_rfl) (by kernel_rfl) (fun _ _ _ h => h) (Or.inl ⟨by rfl, ?_⟩) (by assumption) ?_
              rotate_left
              · (intro w hSw; (try dsimp only at hSw); go_simp; (try with_reducible rfl))
              simp only [Act.put, List.setIfInBounds_toArray, List.set_cons_zero, List.set_cons_succ]
              have z0 := HBC.out 0 _ e0 _ HG1.out
              have z1 := HBC.out 1 _ e1 _ HG1.out
              have z2 := HBC.out 2 _ e2 _ HG1.out
              have z3 := HBC.out 3 _ e3 _ HG1.out
              have z4 := HBC.out 4 _ e4 _ HG1.out
              have z5 := HBC.out 5 _ e5 _ HG1.out
              refine wpAnyH_ready (rs := [21]) (by kernel_rfl) (by simp) ?_
              refine AllReadyH.cons (o := _) rfl (fun K2 hK => ?_) AllReadyH.nil
              go_simp
              refine hK.out _ _ ?_ (fun hHeld => ?_)
              · go_keep
              clear hK K2
              try simp only [Act.put, List.setIfInBounds_toArray, List.set_cons_zero, List.set_cons_succ]
              refine wpAnyH_done (by kernel_rfl) ?_ _
              go_wp2
              go_roundw
              case rel =>
                obtain ⟨σ', VA', hO, hF, hG⟩ := HTW.out.x.done hk5 HV0.out HA.out (by simp) HG1.out HA1.out HL1.out HO1.out
                rw [HNN.out] at hO hF ⊢
                obtain ⟨ht, hb⟩ := HTW.out.chA (by rw [← (la_push la k (x2, x3, x4, x5)).1, ← (la_push la k (x2, x3, x4, x5)).2]; exact hO) hF hG
                exact ⟨i + 1, S1, _, _, _, _, _, _, _, by go_num, hlt, ht, HSN.out, HRD.out, HX.out.trans hb⟩
              case measure => simp [intOf]; omega
          have z1 : (x0 == 1) = false := beq_eq_false_iff_ne.2 hx
          have HN1 := Lib.hid hx
          clear hx
          by_cases hx : x0 = 2
          · subst hx
            have HRD := Lib.hid (show Heard S1 la (fun j => if j = k then lb k ++ [(x3, x4)] else lb j) from HS1.out ▸ HHD.out.bar (d := ⟨2, k, x2, x3, x4, x5⟩) rfl HE.out rfl)
            have hlen : (lb k).length ≤ 60 := by rw [HHD.out.b k hk1 hk5]; have := (HSZ.out.thr k).2.1; omega
            obtain ⟨i0, hi0, hz00, hz1, hz2⟩ := info_parts infoE
            clear HS1 HE HHD HSZ
            go_wp2
            obtain ⟨v0, hv0⟩ : ∃ v0, v0 = VB k := ⟨_, rfl⟩
            have hsf := HTW.out.y.facts hk5 hv0
            have HSF := Lib.hid hsf
            have r0 := hsf.r0
            have rf := hsf.rf
            have hrl := hsf.rl
            have hrow := HTW.out.y.rw k hk5
            rw [← hv0] at hrow
            have HRW := Lib.hid hrow
            have HV0 := Lib.hid hv0
            obtain ⟨n, hnn⟩ : ∃ n, n = (lb k).length := ⟨_, rfl⟩
            have hn : n ≤ 60 := by rw [hnn]; exact hlen
            simp only [← hnn] at HRW
            have hzB : W.heap.size ≤ w2.heap.size := HX.out.size
            have hkb : (n + 1) * 16 ≤ 140737488355328 := by omega
            have hkm : n + 1 ≤ maxLen := by unfold maxLen; omega
            have HNN := Lib.hid hnn
            have HA := Lib.hid ((((Below.refl w2.heap.size w2).alloc (Nat.le_refl _) (.cells #[.int .i64 x3, .int .i64 x4] 58)).drew))
            have HBC := Lib.hid (show ∀ j v, w2.cell? ⟨wr.heap.size, j, none⟩ = some v → ∀ V, (w2.alloc (.cells #[.int .i64 x3, .int .i64 x4] 58)).drew.grownBy V v0.ownBlock → V.cell? ⟨wr.heap.size, j, none⟩ = some v from fun j v hv V hg => (hg.cell_far ⟨wr.heap.size, j, none⟩ (by simp; omega) (fun c => by have := HTW.out.y.tv k wr.heap.size hk5 (by rw [← HV0.out]; exact c.symm); rw [HNy.out] at this; cases this)).trans ((HA.out.cell (p := ⟨wr.heap.size, j, none⟩) hdl).trans hv))
            have hqd : (qa + 1) ≠ wr.heap.size := fun c => by have := HTW.out.y.tq; rw [c, HNy.out] at this; cases this
            clear hsf hrow hv0 hnn
            refine wp_region_held_drew (S := fun w' => w'.cell? ⟨wr.heap.size, 0, none⟩ = some (.int .i64 2) ∧ w'.cell? ⟨wr.heap.size, 1, none⟩ = some (.int .i64 (k : Int)) ∧ w'.cell? ⟨wr.heap.size, 2, none⟩ = some (.int .i64 x2) ∧ w'.cell? ⟨wr.heap.size, 3, none⟩ = some (.int .i64 x3) ∧ w'.cell? ⟨wr.heap.size, 4, none⟩ = some (.int .i64 x4) ∧ w'.cell? ⟨wr.heap.size, 5, none⟩ = some (.int .i64 x5)) (by kernel_rfl) ?_ (fun hHeld => ?_)
            · go_keep
            refine wpAnyH_take (i := 0) (oi := _) (v := ?_) rfl (by kernel_rfl) (by kernel_rfl) (by kernel_rfl) (fun _ _ _ h => h) (Or.inl ⟨by rfl, ?_⟩) (by assumption) ?_
            rotate_left
            · (intro w hSw; (try dsimp only at hSw); go_simp; (try with_reducible rfl))
            simp only [Act.put, List.setIfInBounds_toArray, List.set_cons_zero, List.set_cons_succ]
            refine wpAnyH_take (i := 1) (oi := _) (v := ?_) rfl (by kernel_rfl) (by kernel_rfl) (by kernel_rfl) (fun _ _ _ h => h) (Or.inl ⟨by rfl, ?_⟩) (by assumption) ?_
            rotate_left
            · (intro w hSw; (try dsimp only at hSw); go_simp; (try with_reducible rfl))
            simp only [Act.put, List.setIfInBounds_toArray, List.set_cons_zero, List.set_cons_succ]
            refine wpAnyH_take (i := 2) (oi := _) (v := ?_) rfl (by kernel_rfl) (by kernel_rfl) (by kernel_rfl) (fun _ _ _ h => h) (Or.inl ⟨by rfl, ?_⟩) (by assumption) ?_
            rotate_left
            · (intro w hSw; (try dsimp only at hSw); go_simp; (try with_reducible rfl))
            simp only [Act.put, List.setIfInBounds_toArray, List.set_cons_zero, List.set_cons_succ]
            refine wpAnyH_take (i := 3) (oi := _) (v := ?_) rfl (by kernel_rfl) (by kernel_rfl) (by kernel_rfl) (fun _ _ _ h => h) (Or.inl ⟨by rfl, ?_⟩) (by assumption) ?_
            rotate_left
            · (intro w hSw; (try dsimp only at hSw); go_simp; (try with_reducible rfl))
            simp only [Act.put, List.setIfInBounds_toArray, List.set_cons_zero, List.set_cons_succ]
            refine wpAnyH_take (i := 4) (oi := _) (v := ?_) rfl (by kernel_rfl) (by kernel_rfl) (by kernel_rfl) (fun _ _ _ h => h) (Or.inl ⟨by rfl, ?_⟩) (by assumption) ?_
            rotate_left
            · (intro w hSw; (try dsimp only at hSw); go_simp; (try with_reducible rfl))
            simp only [Act.put, List.setIfInBounds_toArray, List.set_cons_zero, List.set_cons_succ]
            refine wpAnyH_take (i := 5) (oi := _) (v := ?_) rfl (by kernel_rfl) (by kernel_rfl) (by kernel_rfl) (fun _ _ _ h => h) (Or.inl ⟨by rfl, ?_⟩) (by assumption) ?_
            rotate_left
            · (intro w hSw; (try dsimp only at hSw); go_simp; (try with_reducible rfl))
            simp only [Act.put, List.setIfInBounds_toArray, List.set_cons_zero, List.set_cons_succ]
            refine wpAnyH_take (i := 6) (oi := _) (v := ?_) rfl (by kernel_rfl) (by kernel_rfl) (by kernel_rfl) (fun _ _ _ h => h) (Or.inl ⟨by rfl, ?_⟩) (by assumption) ?_
            rotate_left
            · (intro w hSw; (try dsimp only at hSw); go_simp; (try with_reducible rfl))
            simp only [Act.put, List.setIfInBounds_toArray, List.set_cons_zero, List.set_cons_succ]
            refine wpAnyH_take (i := 8) (oi := _) (v := ?_) rfl (by kernel_rfl) (by kernel_rfl) (by kernel_rfl) (fun _ _ _ h => h) (Or.inl ⟨by rfl, ?_⟩) (by assumption) ?_
            rotate_left
            · (intro w hSw; (try dsimp only at hSw); go_simp; (try with_reducible rfl))
            simp only [Act.put, List.setIfInBounds_toArray, List.set_cons_zero, List.set_cons_succ]
            refine wpAnyH_take (i := 9) (oi := _) (v := ?_) rfl (by kernel_rfl) (by kernel_rfl) (by kernel_rfl) (fun _ _ _ h => h) (Or.inl ⟨by rfl, ?_⟩) (by assumption) ?_
            rotate_left
            · (intro w hSw; (try dsimp only at hSw); go_simp; (try with_reducible rfl))
            simp only [Act.put, List.setIfInBounds_toArray, List.set_cons_zero, List.set_cons_succ]
            refine wpAnyH_take (i := 10) (oi := _) (v := ?_) rfl (by kernel_rfl) (by kernel_rfl) (by kernel_rfl) (fun _ _ _ h => h) (Or.inl ⟨by rfl, ?_⟩) (by assumption) ?_
            rotate_left
            · (intro w hSw; (try dsimp only at hSw); go_simp; (try with_reducible rfl))
            simp only [Act.put, List.setIfInBounds_toArray, List.set_cons_zero, List.set_cons_succ]
            refine wpAnyH_take (i := 11) (oi := _) (v := ?_) rfl (by kernel_rfl) (by kernel_rfl) (by kernel_rfl) (fun _ _ _ h => h) (Or.inl ⟨by rfl, ?_⟩) (by assumption) ?_
            rotate_left
            · (intro w hSw; (try dsimp only at hSw); go_simp; (try with_reducible rfl))
            simp only [Act.put, List.setIfInBounds_toArray, List.set_cons_zero, List.set_cons_succ]
            refine wpAnyH_take (i := 12) (oi := _) (v := ?_) rfl (by kernel_rfl) (by kernel_rfl) (by kernel_rfl) (fun _ _ _ h => h) (Or.inl ⟨by rfl, ?_⟩) (by assumption) ?_
            rotate_left
            · (intro w hSw; (try dsimp only at hSw); go_simp; (try with_reducible rfl))
            simp only [Act.put, List.setIfInBounds_toArray, List.set_cons_zero, List.set_cons_succ]
            refine wpAnyH_ready (rs := [7, 13]) (by kernel_rfl) (by simp) ?_
            refine AllReadyH.cons (o := _) rfl (fun K2 hK => ?_) (AllReadyH.cons (o := _) rfl (fun K2 hK => ?_) AllReadyH.nil)
            · go_simp
              refine hK.out _ _ ?_ (fun hHeld => ?_)
              · go_keep
              clear hK K2
              try simp only [Act.put, List.setIfInBounds_toArray, List.set_cons_zero, List.set_cons_succ]
              refine wpAnyH_ready (rs := [13]) (by kernel_rfl) (by simp) ?_
              refine AllReadyH.cons (o := _) rfl (fun K2 hK => ?_) AllReadyH.nil
              go_simp
              refine hK.out _ _ ?_ (fun hHeld => ?_)
              · go_keep
              clear hK K2
              try simp only [Act.put, List.setIfInBounds_toArray, List.set_cons_zero, List.set_cons_succ]
              refine wpAnyH_ready (rs := [14]) (by kernel_rfl) (by simp) ?_
              refine AllReadyH.cons (o := _) rfl (fun K2 hK => ?_) AllReadyH.nil
              ((refine step_append_lies _ (by rfl) _ _ _ (by rfl) W.heap.size 58 i0 _ 2 16 Tryd.underlying56 hi0 hz00 hz1 hz2 rfl (by omega) _ n (flP (lb k)) (by rfl) ((HRW.out.alloc _).drew) ⟨w2.heap.size, 0, none⟩ 1 1 [.int .i64 x3, .int .i64 x4] (by rfl) (by rfl) (World.news_of_block (cs := #[.int .i64 x3, .int .i64 x4]) (t := 58) (fr := (0, 0)) (heap_alloc_new w2 _)) (by simp [Value.oneCell']) (by omega) hkm hkb (by simp; omega) (w2.heap.size + 1) (by simp) ?_; intro gg cc w1 hown1 hgrow hat hlt; have HQ := Lib.hid ((HSF.out.fr HA.out).grow hgrow); have q1 := HQ.out.r0; have q2 := HQ.out.rf; have HG1 := Lib.hid hgrow; have HO1 := Lib.hid hown1; have HA1 := Lib.hid hat; have HL1 := Lib.hid hlt; clear hown1 hgrow hat hlt))
              refine hK.out _ _ ?_ (fun hHeld => ?_)
              · exact ⟨HBC.out 0 _ e0 _ HG1.out, HBC.out 1 _ e1 _ HG1.out, HBC.out 2 _ e2 _ HG1.out, HBC.out 3 _ e3 _ HG1.out, HBC.out 4 _ e4 _ HG1.out, HBC.out 5 _ e5 _ HG1.out⟩
              clear hK K2
              try simp only [Act.put, List.setIfInBounds_toArray, List.set_cons_zero, List.set_cons_succ]
              refine wpAnyH_take (i := 15) (oi := _) (v := ?_) rfl (by kernel_rfl) (by kernel_rfl) (by kernel_rfl) (fun _ _ _ h => h) (Or.inl ⟨by rfl, ?_⟩) (by assumption) ?_
              rotate_left
              · (intro w hSw; (try dsimp only at hSw); go_simp; (try with_reducible rfl))
              simp only [Act.put, List.setIfInBounds_toArray, List.set_cons_zero, List.set_cons_succ]
              have z0 := HBC.out 0 _ e0 _ HG1.out
              have z1 := HBC.out 1 _ e1 _ HG1.out
              have z2 := HBC.out 2 _ e2 _ HG1.out
              have z3 := HBC.out 3 _ e3 _ HG1.out
              have z4 := HBC.out 4 _ e4 _ HG1.out
              have z5 := HBC.out 5 _ e5 _ HG1.out
              refine wpAnyH_ready (rs := [16]) (by kernel_rfl) (by simp) ?_
              refine AllReadyH.cons (o := _) rfl (fun K2 hK => ?_) AllReadyH.nil
              go_simp
              refine hK.out _ _ ?_ (fun hHeld => ?_)
              · go_keep
              clear hK K2
              try simp only [Act.put, List.setIfInBounds_toArray, List.set_cons_zero, List.set_cons_succ]
              refine wpAnyH_done (by kernel_rfl) ?_ _
              go_wp2
              go_roundw
              case rel =>
                obtain ⟨σ', VA', hO, hF, hG⟩ := HTW.out.y.done hk5 HV0.out HA.out (by simp) HG1.out HA1.out HL1.out HO1.out
                rw [HNN.out] at hO hF ⊢
                obtain ⟨ht, hb⟩ := HTW.out.chB (by rw [← (lb_push lb k (x3, x4)).1, ← (lb_push lb k (x3, x4)).2]; exact hO) hF hG
                exact ⟨i + 1, S1, _, _, _, _, _, _, _, by go_num, hlt, ht, HSN.out, HRD.out, HX.out.trans hb⟩
              case measure => simp [intOf]; omega
            · go_simp
              refine hK.out _ _ ?_ (fun hHeld => ?_)
              · go_keep
              clear hK K2
              try simp only [Act.put, List.setIfInBounds_toArray, List.set_cons_zero, List.set_cons_succ]
              refine wpAnyH_ready (rs := [7]) (by kernel_rfl) (by simp) ?_
              refine AllReadyH.cons (o := _) rfl (fun K2 hK => ?_) AllReadyH.nil
              go_simp
              refine hK.out _ _ ?_ (fun hHeld => ?_)
              · go_keep
              clear hK K2
              try simp only [Act.put, List.setIfInBounds_toArray, List.set_cons_zero, List.set_cons_succ]
              refine wpAnyH_ready (rs := [14]) (by kernel_rfl) (by simp) ?_
              refine AllReadyH.cons (o := _) rfl (fun K2 hK => ?_) AllReadyH.nil
              ((refine step_append_lies _ (by rfl) _ _ _ (by rfl) W.heap.size 58 i0 _ 2 16 Tryd.underlying56 hi0 hz00 hz1 hz2 rfl (by omega) _ n (flP (lb k)) (by rfl) ((HRW.out.alloc _).drew) ⟨w2.heap.size, 0, none⟩ 1 1 [.int .i64 x3, .int .i64 x4] (by rfl) (by rfl) (World.news_of_block (cs := #[.int .i64 x3, .int .i64 x4]) (t := 58) (fr := (0, 0)) (heap_alloc_new w2 _)) (by simp [Value.oneCell']) (by omega) hkm hkb (by simp; omega) (w2.heap.size + 1) (by simp) ?_; intro gg cc w1 hown1 hgrow hat hlt; have HQ := Lib.hid ((HSF.out.fr HA.out).grow hgrow); have q1 := HQ.out.r0; have q2 := HQ.out.rf; have HG1 := Lib.hid hgrow; have HO1 := Lib.hid hown1; have HA1 := Lib.hid hat; have HL1 := Lib.hid hlt; clear hown1 hgrow hat hlt))
              refine hK.out _ _ ?_ (fun hHeld => ?_)
              · exact ⟨HBC.out 0 _ e0 _ HG1.out, HBC.out 1 _ e1 _ HG1.out, HBC.out 2 _ e2 _ HG1.out, HBC.out 3 _ e3 _ HG1.out, HBC.out 4 _ e4 _ HG1.out, HBC.out 5 _ e5 _ HG1.out⟩
              clear hK K2
              try simp only [Act.put, List.setIfInBounds_toArray, List.set_cons_zero, List.set_cons_succ]
              refine wpAnyH_take (i := 15) (oi := _) (v := ?_) rfl (by kernel_rfl) (by kernel_rfl) (by kernel_rfl) (fun _ _ _ h => h) (Or.inl ⟨by rfl, ?_⟩) (by assumption) ?_
              rotate_left
              · (intro w hSw; (try dsimp only at hSw); go_simp; (try with_reducible rfl))
              simp only [Act.put, List.setIfInBounds_toArray, List.set_cons_zero, List.set_cons_succ]
              have z0 := HBC.out 0 _ e0 _ HG1.out
              have z1 := HBC.out 1 _ e1 _ HG1.out
              have z2 := HBC.out 2 _ e2 _ HG1.out
              have z3 := HBC.out 3 _ e3 _ HG1.out
              have z4 := HBC.out 4 _ e4 _ HG1.out
              have z5 := HBC.out 5 _ e5 _ HG1.out
              refine wpAnyH_ready (rs := [16]) (by kernel_rfl) (by simp) ?_
              refine AllReadyH.cons (o := _) rfl (fun K2 hK => ?_) AllReadyH.nil
              go_simp
              refine hK.out _ _ ?_ (fun hHeld => ?_)
              · go_keep
              clear hK K2
              try simp only [Act.put, List.setIfInBounds_toArray, List.set_cons_zero, List.set_cons_succ]
              refine wpAnyH_done (by kernel_rfl) ?_ _
              go_wp2
              go_roundw
              case rel =>
                obtain ⟨σ', VA', hO, hF, hG⟩ := HTW.out.y.done hk5 HV0.out HA.out (by simp) HG1.out HA1.out HL1.out HO1.out
                rw [HNN.out] at hO hF ⊢
                obtain ⟨ht, hb⟩ := HTW.out.chB (by rw [← (lb_push lb k (x3, x4)).1, ← (lb_push lb k (x3, x4)).2]; exact hO) hF hG
                exact ⟨i + 1, S1, _, _, _, _, _, _, _, by go_num, hlt, ht, HSN.out, HRD.out, HX.out.trans hb⟩
              case measure => simp [intOf]; omega
          have z2 : (x0 == 2) = false := beq_eq_false_iff_ne.2 hx
          have HRD := Lib.hid (show Heard S1 la lb from HS1.out ▸ HHD.out.keep (d := ⟨x0, k, x2, x3, x4, x5⟩) (.inl fun _ => ⟨HN1.out, hx⟩))
          clear hx
          by_cases hx : x0 = 4
          · subst hx
            clear z1 z2 HN1
            obtain ⟨g1, g2, g3, g4⟩ := charge_law (S := S) (d := ⟨4, k, x2, x3, x4, x5⟩) rfl HE.out
            rw [HS1.out] at g2 g4
            simp only at g2 g3 g4
            rw [← HHD.out.b k hk1 hk5] at g3
            rw [← HHD.out.a k hk1 hk5] at g4
            obtain ⟨s1, hs1⟩ : ∃ s, spN (zP (thr S1 k).hi) (thr S1 k).hi.length x2 1 = s := ⟨_, rfl⟩
            obtain ⟨s2, hs2⟩ : ∃ s, spN (zP (thr S1 k).hi) (thr S1 k).hi.length x2 2 = s := ⟨_, rfl⟩
            obtain ⟨s3, hs3⟩ : ∃ s, spN (zP (thr S1 k).hi) (thr S1 k).hi.length x2 3 = s := ⟨_, rfl⟩
            obtain ⟨m1, hm1⟩ : ∃ m, efN (zC (la k)) (la k).length x2 0 = m := ⟨_, rfl⟩
            obtain ⟨m2, hm2⟩ : ∃ m, efN (zC (la k)) (la k).length x2 1 = m := ⟨_, rfl⟩
            obtain ⟨m3, hm3⟩ : ∃ m, efN (zC (la k)) (la k).length x2 2 = m := ⟨_, rfl⟩
            have HQ := Lib.hid (show 0 < x3 → (m1 ≠ 0 → s1 ≤ m1) ∧ (m2 ≠ 0 → s2 ≤ m2) ∧ (m3 ≠ 0 → s3 ≤ m3) from fun hx => ⟨by have := g4 hx 0 (by omega); rw [hm1] at this; rw [← hs1]; exact this, by have := g4 hx 1 (by omega); rw [hm2] at this; rw [← hs2]; exact this, by have := g4 hx 2 (by omega); rw [hm3] at this; rw [← hs3]; exact this⟩)
            have HSPT := Lib.hid (spT_ok (t := x2) (r := thr S1 k) g2)
            rw [hs1, hs2, hs3] at HSPT
            have HM := Lib.hid (⟨hm1, hm2, hm3⟩ : _ ∧ _ ∧ _)
            have HBR := Lib.hid g3
            have hlb : (lb k).length ≤ 60 := by rw [HHD.out.b k hk1 hk5]; have := (HSZ.out.thr k).2.1; omega
            have hla : (la k).length < 1000000 := by rw [HHD.out.a k hk1 hk5]; have := (HSZ.out.thr k).1; omega
            clear g1 g2 g3 g4 hs1 hs2 hs3 hm1 hm2 hm3
            as_aux_lemma =>
            clear HS1 HE HHD HSZ
            go_wp2
            clear e0 e1 e2 e3 e4 e5
            generalize wr.heap.size = D at *
            obtain ⟨vb, hvb⟩ : ∃ v, v = VB k := ⟨_, rfl⟩
            have hsb := HTW.out.y.facts hk5 hvb
            obtain ⟨ab, cb, hvb2, hrb⟩ := HTW.out.y.rows hk5 (flP_get (lb k))
            rw [hvb, hvb2] at hsb
            obtain ⟨m, hm⟩ : ∃ m, m = (lb k).length := ⟨_, rfl⟩
            simp only [← hm] at hsb hrb
            have HRB := Lib.hid hrb
            have HSB := Lib.hid hsb
            have HMM := Lib.hid hm
            have hm6 : m ≤ 60 := by rw [hm]; exact hlb
            clear hvb hvb2 hrb hsb hm
            go_loopw [10] (fun vj wy => ∃ j : Nat, vj = .int .i64 j ∧ j ≤ m ∧ Below w2.heap.size w2 wy) (fun vj _ => m - (intOf vj).toNat)
            case atStart => exact ⟨0, by go_num, by omega, Below.refl _ _⟩
            case round =>
              obtain ⟨j, rfl, hj, hby⟩ := hrel
              have hdy := HD.out.below hby hdl
              have hDL := hdy.lt
              have y1 := hdy.cell 1
              have y2 := hdy.cell 2
              simp at y1 y2
              have yb := (HSB.out.fr hby).r0
              have hql := (HSB.out.fr hby).rl
              have HBY := Lib.hid hby
              have HDY := Lib.hid hdy
              clear hby hdy
              by_cases hjm : j < m
              · as_aux_lemma =>
                obtain ⟨gb, ob, rfl, hgb, _, hcb⟩ := HRB.out.resolve_left (by omega)
                have u1 : ∀ x : Sub wr.heap.size wr, x.w.cell? ⟨D, 1, none⟩ = some (.int .i64 (k : Int)) := Sub.cell y1 hDL
                have u2 : ∀ x : Sub wr.heap.size wr, x.w.cell? ⟨D, 2, none⟩ = some (.int .i64 x2) := Sub.cell y2 hDL
                have ub : ∀ x : Sub wr.heap.size wr, x.w.cell? ⟨qa + 1, k, none⟩ = some (.slice (some ⟨gb, ob, none⟩) m cb) := Sub.cell yb hql
                have uf : ∀ x : Sub wr.heap.size wr, x.w.cell? ⟨gb, ob + j * 2, none⟩ = some (.int .i64 (zP (lb k) j 0)) := Sub.cell ((HBY.out.cell (p := ⟨gb, _, none⟩) hgb).trans (hcb j 0 hjm (by omega))) (Nat.lt_of_lt_of_le hgb HBY.out.size)
                have ut : ∀ x : Sub wr.heap.size wr, x.w.cell? ⟨gb, ob + j * 2 + 1, none⟩ = some (.int .i64 (zP (lb k) j 1)) := Sub.cell ((HBY.out.cell (p := ⟨gb, _, none⟩) hgb).trans (hcb j 1 hjm (by omega))) (Nat.lt_of_lt_of_le hgb HBY.out.size)
                have hnb : ¬ (zP (lb k) j 0 ≤ x2 ∧ x2 ≤ zP (lb k) j 1) := by
                  have hjl : j < (lb k).length := by rw [← HMM.out]; exact hjm
                  have := barred_not HBR.out (List.getElem_mem hjl)
                  unfold zP
                  simpa [hjl] using this
                have j0 : (0 : Int) ≤ (j : Int) := by omega
                have j1 : (j : Int) < (m : Int) := by omega
                clear hcb hgb
                generalize zP (lb k) j 0 = ff at *
                generalize zP (lb k) j 1 = tt at *
                by_cases hf : ff ≤ x2
                · have q1 : decide (ff ≤ x2) = true := decide_eq_true hf
                  have q2 : decide (x2 ≤ tt) = false := decide_eq_false (fun c => hnb ⟨hf, c⟩)
                  clear hf hnb
                  go_wp2
                  refine wp_region_below (by kernel_rfl) (by kernel_rfl) ?_
                  repeat (go_big_quiet_step (fail))
                  refine wpQuiet_nil ?_
                  rintro w5 ⟨⟨_, hb5⟩, rfl⟩
                  go_wp2
                  go_roundw
                  case rel => exact ⟨j + 1, by go_num, by omega, HBY.out.trans (hb5.mono HBY.out.size)⟩
                  case measure => simp [intOf]; omega
                · have q1 : decide (ff ≤ x2) = false := decide_eq_false hf
                  clear hf hnb
                  go_wp2
                  refine wp_region_below (by kernel_rfl) (by kernel_rfl) ?_
                  repeat (go_big_quiet_step (fail))
                  refine wpQuiet_nil ?_
                  rintro w5 ⟨⟨_, hb5⟩, rfl⟩
                  go_wp2
                  go_roundw
                  case rel => exact ⟨j + 1, by go_num, by omega, HBY.out.trans (hb5.mono HBY.out.size)⟩
                  case measure => simp [intOf]; omega
              · obtain rfl : j = m := by omega
                have HXY := Lib.hid (HX.out.trans (HBY.out.mono HX.out.size))
                have HTY := Lib.hid (HTW.out.below HBY.out)
                have hsp := pSpent_any HTY.out.a (HT.out.grow HXY.out) (HSN.out.mono (by omega)) k x2
                rw [← HSPT.out] at hsp
                have HSP := Lib.hid hsp
                clear hsp hj hjm
                go_wp2_with fail
                refine HSP.out.mono ?_
                rintro e w4 ⟨rfl, hb4⟩
                have hd4 := HDY.out.below hb4 HDY.out.lt
                obtain ⟨w5, hw5⟩ : ∃ w5, w5 = w4.alloc (.cells #[.int .i64 s1, .int .i64 s2, .int .i64 s3] 28) := ⟨_, rfl⟩
                have HW5 := Lib.hid hw5
                have hal : Below w4.heap.size w4 w5 := by rw [hw5]; exact (Below.refl _ _).alloc (Nat.le_refl _) _
                have HXZ := Lib.hid ((HXY.out.trans (hb4.mono HXY.out.size)).trans (hal.mono (Nat.le_trans HXY.out.size hb4.size)))
                have HTZ := Lib.hid ((HTY.out.below hb4).below hal)
                have hd5 := hd4.below hal hd4.lt
                have HB5 := Lib.hid (show Cel w5 w4.heap.size #[.int .i64 s1, .int .i64 s2, .int .i64 s3] 28 by rw [hw5]; exact Cel.new _ _ _)
                have HD5 := Lib.hid hd5
                clear hb4 hd4 hw5 hal hd5 HSP
                obtain ⟨a4, q4, hva, hra⟩ := HTZ.out.x.rows hk5 (flC_get (la k))
                have hsa := HTZ.out.x.facts hk5 (v := VA k) rfl
                rw [hva] at hsa
                have HEF := Lib.hid (show ∀ Y, Below w5.heap.size w5 Y → Calls Tryd.prog 14 #[.slice a4 (la k).length q4, .int .i64 x2] Y (RetB (.agg #[.int .i64 m1, .int .i64 m2, .int .i64 m3]) Y) from fun Y hY => by
                  have := Eff_t a4 (la k).length q4 (zC (la k)) x2 Y hla (hra.below hY (Nat.le_refl _))
                  rw [HM.out.1, HM.out.2.1, HM.out.2.2] at this
                  exact this)
                generalize (la k).length = na at *
                go_wp2_with fail
                rw [← HW5.out]
                have r0 := hsa.r0
                have hrl := hsa.rl
                have e1 := HD5.out.cell 1
                have e2 := HD5.out.cell 2
                simp at e1 e2
                have hdl5 := HD5.out.lt
                have hb5l := HB5.out.lt
                have HSA := Lib.hid hsa
                clear hva hra hsa y1 y2 yb hql hDL
                clear HBY HRB HSB HDY HXY HTY HW5 HBR HMM HM HD HX HTW hdl HSPT hla hlb hm6 HNx HNy
                go_cut [13] from 148 to 155 (fun v wz => ∃ Q : Nat, v = .pointer (some ⟨Q, 0, none⟩) ∧ Cel wz Q #[.int .i64 m1, .int .i64 m2, .int .i64 m3] 28 ∧ Below w5.heap.size w5 wz ∧ w5.heap.size ≤ Q)
                case first =>
                  as_aux_lemma =>
                  go_region_with (go_at_call 14
                                  refine (HEF.out _ ?_).mono ?_
                                  · first
                                    | exact (Below.refl _ _).drew
                                    | exact ((Below.refl _ _).alloc (Nat.le_refl _) _).drew
                                  rintro e w6 ⟨rfl, hb6⟩
                                  first
                                  | (have C6 : Cel w6 w5.heap.size #[.int .i64 0, .int .i64 0, .int .i64 0] 28 := ((Cel.new w5 #[.int .i64 0, .int .i64 0, .int .i64 0] 28).drew).below hb6 (by simp)
                                     have l0 := C6.cell 0
                                     have l1 := C6.cell 1
                                     have l2 := C6.cell 2
                                     have f0 := C6.free 0
                                     have f1 := C6.free 1
                                     have f2 := C6.free 2
                                     simp at l0 l1 l2
                                     have H6 := Lib.hid (((Below.refl w5.heap.size w5).alloc (Nat.le_refl _) (.cells #[.int .i64 0, .int .i64 0, .int .i64 0] 28)).drew.trans (hb6.mono (by simp)))
                                     have HC6 := Lib.hid C6
                                     clear C6 hb6)
                                  | (have H6 := Lib.hid ((Below.refl w5.heap.size w5).drew.trans (hb6.mono (Nat.le_refl _)))
                                     clear hb6))
                  all_goals go_wp2_with fail
                  all_goals go_meet
                  all_goals first
                    | exact ⟨_, rfl, by have := ((HC6.out.set 0 (.int .i64 m1)).set 1 (.int .i64 m2)).set 2 (.int .i64 m3); simpa using this, ((H6.out.setCell (Nat.le_refl _) _).setCell (Nat.le_refl _) _).setCell (Nat.le_refl _) _, Nat.le_refl _⟩
                    | exact ⟨_, rfl, Cel.new _ _ _, H6.out.alloc H6.out.size _, H6.out.size⟩
                case rest =>
                  obtain ⟨Q, rfl, hcq, hbz, hQ⟩ := hcut
                  have HB6 := HB5.out.below hbz HB5.out.lt
                  have s0 := HB6.cell 0
                  have s1' := HB6.cell 1
                  have s2' := HB6.cell 2
                  have n0 := hcq.cell 0
                  have n1 := hcq.cell 1
                  have n2 := hcq.cell 2
                  have e3 := (HD5.out.below hbz HD5.out.lt).cell 3
                  simp at s0 s1' s2' n0 n1 n2 e3
                  have HTF := Lib.hid (HTZ.out.below hbz)
                  have HXF := Lib.hid (HXZ.out.trans (hbz.mono HXZ.out.size))
                  clear HB6 hcq hbz hQ HB5 HD5 HEF HTZ HXZ HSA e1 e2 r0 hrl hdl5 hb5l
                  by_cases hx3 : 0 < x3
                  · obtain ⟨t1, t2, t3⟩ := HQ.out hx3
                    rcases Classical.em (m1 = 0) with rfl | h1
                    · rcases Classical.em (m2 = 0) with rfl | h2
                      · rcases Classical.em (m3 = 0) with rfl | h3
                        · as_aux_lemma =>
                          go_wp2
                          go_roundw
                          case rel => exact ⟨i + 1, S1, _, _, _, _, _, _, _, by go_num, hlt, HTF.out, HSN.out, HRD.out, HXF.out⟩
                          case measure => simp [intOf]; omega
                        · have t3' := t3 h3
                          have b3 : (m3 != 0) = true := by simp [h3]
                          clear h3 t1 t2 t3
                          as_aux_lemma =>
                          go_wp2
                          go_roundw
                          case rel => exact ⟨i + 1, S1, _, _, _, _, _, _, _, by go_num, hlt, HTF.out, HSN.out, HRD.out, HXF.out⟩
                          case measure => simp [intOf]; omega
                      · have t2' := t2 h2
                        have b2 : (m2 != 0) = true := by simp [h2]
                        clear h2
                        rcases Classical.em (m3 = 0) with rfl | h3
                        · as_aux_lemma =>
                          go_wp2
                          go_roundw
                          case rel => exact ⟨i + 1, S1, _, _, _, _, _, _, _, by go_num, hlt, HTF.out, HSN.out, HRD.out, HXF.out⟩
                          case measure => simp [intOf]; omega
                        · have t3' := t3 h3
                          have b3 : (m3 != 0) = true := by simp [h3]
                          clear h3 t1 t2 t3
                          as_aux_lemma =>
                          go_wp2
                          go_roundw
                          case rel => exact ⟨i + 1, S1, _, _, _, _, _, _, _, by go_num, hlt, HTF.out, HSN.out, HRD.out, HXF.out⟩
                          case measure => simp [intOf]; omega
                    · have t1' := t1 h1
                      have b1 : (m1 != 0) = true := by simp [h1]
                      clear h1
                      rcases Classical.em (m2 = 0) with rfl | h2
                      · rcases Classical.em (m3 = 0) with rfl | h3
                        · as_aux_lemma =>
                          go_wp2
                          go_roundw
                          case rel => exact ⟨i + 1, S1, _, _, _, _, _, _, _, by go_num, hlt, HTF.out, HSN.out, HRD.out, HXF.out⟩
                          case measure => simp [intOf]; omega
                        · have t3' := t3 h3
                          have b3 : (m3 != 0) = true := by simp [h3]
                          clear h3 t1 t2 t3
                          as_aux_lemma =>
                          go_wp2
                          go_roundw
                          case rel => exact ⟨i + 1, S1, _, _, _, _, _, _, _, by go_num, hlt, HTF.out, HSN.out, HRD.out, HXF.out⟩
                          case measure => simp [intOf]; omega
                      · have t2' := t2 h2
                        have b2 : (m2 != 0) = true := by simp [h2]
                        clear h2
                        rcases Classical.em (m3 = 0) with rfl | h3
                        · as_aux_lemma =>
                          go_wp2
                          go_roundw
                          case rel => exact ⟨i + 1, S1, _, _, _, _, _, _, _, by go_num, hlt, HTF.out, HSN.out, HRD.out, HXF.out⟩
                          case measure => simp [intOf]; omega
                        · have t3' := t3 h3
                          have b3 : (m3 != 0) = true := by simp [h3]
                          clear h3 t1 t2 t3
                          as_aux_lemma =>
                          go_wp2
                          go_roundw
                          case rel => exact ⟨i + 1, S1, _, _, _, _, _, _, _, by go_num, hlt, HTF.out, HSN.out, HRD.out, HXF.out⟩
                          case measure => simp [intOf]; omega
                  · have hx3' : x3 ≤ 0 := by omega
                    clear hx3
                    as_aux_lemma =>
                    go_wp2
                    go_roundw
                    case rel => exact ⟨i + 1, S1, _, _, _, _, _, _, _, by go_num, hlt, HTF.out, HSN.out, HRD.out, HXF.out⟩
                    case measure => simp [intOf]; omega
          have z4 : (x0 != 4) = true := by simp [hx]
          clear hx HN1
          as_aux_lemma =>
          clear HS1 HE HHD HSZ
          go_wp2
          go_roundw
          case rel => exact ⟨i + 1, S1, _, _, _, _, _, _, _, by go_num, hlt, HTW.out, HSN.out, HRD.out, HX.out⟩
          case measure => simp [intOf]; omega
        · have HRD := Lib.hid (show Heard S1 la lb from HS1.out ▸ HHD.out.keep (d := ⟨x0, x1, x2, x3, x4, x5⟩) (.inl fun e => absurd (HE.out.symm.trans e) hE))
          have hEb : (E != 0) = true := by simp [hE]
          clear hE
          as_aux_lemma =>
          clear HS1 HE HHD HSZ
          go_wp2
          go_roundw
          case rel => exact ⟨i + 1, S1, _, _, _, _, _, _, _, by go_num, hlt, HTW.out, HSN.out, HRD.out, HX.out⟩
          case measure => simp [intOf]; omega
      · obtain rfl : i = n := by omega
        have HX := Lib.hid hX
        clear hTW hX
        go_wp2_with (go_at_call 18; (with_reducible refine (awake_any _ (HT.out.grow HX.out)).mono ?_); rintro e9 w9 ⟨rfl, hb9⟩; replace HX := Lib.hid (HX.out.trans (hb9.mono HX.out.size)); clear hb9)
        go_ret
        exact ⟨rfl, HX.out⟩
end Go.Proofs.YtainelkenkgppaaDoor
