/- Binomial coefficients: 6 over 2, 0 over 0. -/
import Derived.Test.YtnnocbelgfhecaaGreatDoorTrg
import Derived.Deep.RegionHeld3
namespace Go.Proofs.YtnnocbelgfhecaaGreatDoor
open Go.ChangeShapes Go.WideShapes Go.ChangeAt Go.RowKit Go.Lott
theorem cell_al {w : World} {b i : Nat} (o : Obj) (h : b < w.heap.size) : (w.alloc o).cell? ⟨b, i, none⟩ = w.cell? ⟨b, i, none⟩ := ((Below.refl w.heap.size w).alloc (Nat.le_refl _) o).cell (p := ⟨b, i, none⟩) h
theorem cell_st {w : World} {b i : Nat} {a : Addr} (h : b ≠ a.block) (u : Value) : (w.setCell a u).cell? ⟨b, i, none⟩ = w.cell? ⟨b, i, none⟩ := by
  unfold World.cell?
  rw [Below.heap_setCell _ _ _ _ h]
theorem Nat1.st {w : World} {b o c : Nat} {x : Int} (h : Nat1 w (.slice (some ⟨b, o, none⟩) 1 c) x) {a : Addr} (ha : a.block ≠ b) (u : Value) : Nat1 (w.setCell a u) (.slice (some ⟨b, o, none⟩) 1 c) x := by
  obtain ⟨h0, h1, b', o', c', h2, h3, h4, h5⟩ := h
  cases h2
  exact ⟨h0, h1, b, o, c, rfl, h3, by simpa [World.setCell] using h4, (cell_st (fun e => ha e.symm) u).trans h5⟩
/-- The coefficient behind i - 1 rounds. -/
def cho (i : Nat) : Int := if i = 1 then 1 else if i = 2 then 5 else 15
theorem cho_mul (i : Nat) (h : i = 1 ∨ i = 2) : cho i * (4 + (i : Int)) < 4294967296 ∧ (i : Int) ≤ cho i * (4 + i) ∧ cho i * (4 + (i : Int)) / i = cho (i + 1) ∧ cho i * (4 + (i : Int)) % i = 0 := by
  rcases h with rfl | rfl <;> decide
set_option maxHeartbeats 4000000 in
set_option maxRecDepth 100000 in
theorem choose62 (w : World) : Calls Tryz.prog 123 #[.int .i64 6, .int .i64 2] w fun e w' => ∃ v, e = .returned (.tuple #[.agg #[v], .int .i64 0]) ∧ Nat1 w' v 15 ∧ Below w.heap.size w w' := by
  go_enter Tryz.func123, Tryz.ntmps123
  go_wp2_with (go_at_call 144; (with_reducible refine (known_any _ (by decide) (by decide) _).mono ?_); rintro e w' ⟨rfl, rfl⟩)
  refine (of_any 1 _ (by decide) (by decide)).mono ?_
  rintro e w1 ⟨v, rfl, hn, hf, hb1⟩
  have HF := Lib.hid (show ∀ b, v.ownBlock = some b → w.heap.size < b from fun b hb => by have := hf b hb; simp at this; omega)
  have HX := Lib.hid (((Below.refl w.heap.size w).alloc (Nat.le_refl _) (.cells #[.slice none 0 0] 205)).trans (hb1.mono (by simp)))
  have HR := Lib.hid ((Cel.new w #[.slice none 0 0] 205).below hb1 (by simp))
  have hw01 : w.heap.size < w1.heap.size := HR.out.lt
  have HN := Lib.hid hn
  obtain ⟨_, _, b, o, c, rfl, _⟩ := hn
  clear hb1 hf
  go_wp2_with fail
  go_loopw [7] (fun i wr => ∃ (k : Nat) (v : Value), 1 ≤ k ∧ k ≤ 3 ∧ i = .int .i64 k ∧ Cel wr w1.heap.size #[v] 205 ∧ Nat1 wr v (cho k) ∧ (∀ b, v.ownBlock = some b → w.heap.size < b) ∧ Cel wr w.heap.size #[.slice none 0 0] 205 ∧ Below w.heap.size w wr) (fun i _ => 3 - (intOf i).toNat)
  case atStart =>
    refine ⟨1, .slice (some ⟨b, o, none⟩) 1 c, by omega, by omega, rfl, ?_, ?_, ?_, ?_, ?_⟩
    · exact Cel.new _ _ _
    · exact HN.out.below ((Below.refl _ _).alloc (Nat.le_refl _) _) (Nat.le_refl _)
    · exact HF.out
    · exact HR.out.alloc _
    · exact HX.out.alloc HX.out.size _
  case round =>
    obtain ⟨k, v, hk1, hk3, rfl, h1, h2, h5, h3, h4⟩ := hrel
    obtain ⟨_, _, vb, vo, vc, rfl, _⟩ := id h2
    by_cases hlt : k ≤ 2
    · have hk : k = 1 ∨ k = 2 := by omega
      obtain ⟨m1, m2, m3, m4⟩ := cho_mul k hk
      have c0 := h1.cell 0
      simp at c0
      have H1 := Lib.hid h1
      have H2 := Lib.hid h2
      have H3 := Lib.hid h3
      have H4 := Lib.hid h4
      clear h5
      have M1 := Lib.hid m1
      have M2 := Lib.hid m2
      have M3 := Lib.hid m3
      have M4 := Lib.hid m4
      have e1 : IntKind.u64.wrap (IntKind.i64.wrap (IntKind.i64.wrap 4 + (k : Int))) = 4 + (k : Int) := by rcases hk with rfl | rfl <;> decide
      have e2 : IntKind.u64.wrap (k : Int) = (k : Int) := by rcases hk with rfl | rfl <;> decide
      have HS := Lib.hid c0
      clear HN HR HX h1 h2 h3 h4 m1 m2 m3 m4 hk
      go_wp2
      go_region_held3 (fun w' => w'.cell? ⟨w1.heap.size, 0, none⟩ = some (.slice (some ⟨vb, vo, none⟩) 1 vc)) (first
        | exact HS.out
        | ((with_reducible refine (cell_al _ ?_).trans HS.out); have hl1 := H1.out.lt; first | (have := B3.out.size; omega) | (have := B2.out.size; omega) | (simp; omega))
        | ((with_reducible refine (cell_st ?_ _).trans HS.out); have hl1 := H1.out.lt; first | (show w1.heap.size ≠ wr.heap.size; omega) | (have := B2.out.size; show w1.heap.size ≠ w2.heap.size; omega))
        | go_keep)
        (first
         | (go_at_call 145
            refine (of_any (4 + (k : Int)) _ (by omega) (by omega)).mono ?_
            rintro e w2 ⟨v2, rfl, hn2, _, hb2⟩
            have B2 := Lib.hid (show Below wr.heap.size wr w2 from by
              refine Below.trans ?_ (hb2.mono ?_)
              · repeat (first | (with_reducible exact Below.refl _ _) | (with_reducible exact B2.out) | (with_reducible refine Below.drew ?_) | (with_reducible refine Below.alloc ?_ ?_ _) | (with_reducible exact B2.out.size) | (simp; done))
              · simp)
            have P2 := Lib.hid hb2
            try
              have R7 : Cel w2 wr.drew.heap.size #[.slice none 0 0] 205 := by
                have lt7 : wr.drew.heap.size < (wr.drew.alloc (.cells #[.slice none 0 0] 205)).heap.size := by simp
                with_reducible exact (Cel.new wr.drew #[.slice none 0 0] 205).below hb2 lt7
              have R8 := Lib.hid (show Cel w2 wr.heap.size #[.slice none 0 0] 205 from R7)
              clear R7
            have N2 := Lib.hid hn2
            replace HS := Lib.hid (((B2.out).cell (p := ⟨w1.heap.size, 0, none⟩) H1.out.lt).trans HS.out)
            obtain ⟨_, _, v2b, v2o, v2c, rfl, _⟩ := hn2
            clear hb2)
         | (go_at_call 146
            refine (mul_one _ _ (cho k) (4 + (k : Int)) _ (by first | (with_reducible exact H2.out.below B2.out (Nat.le_refl _)) | (with_reducible exact H2.out.below (B2.out.alloc B2.out.size _) (Nat.le_refl _))) (by first | (with_reducible exact N2.out) | (with_reducible exact N2.out.below ((Below.refl _ _).alloc (Nat.le_refl _) _) (Nat.le_refl _))) M1.out).mono ?_
            rintro e w3 ⟨v3, rfl, hn3, hf3, hb3⟩
            have B3 := Lib.hid (show Below wr.heap.size wr w3 from by
              refine Below.trans ?_ (hb3.mono ?_)
              · repeat (first | (with_reducible exact Below.refl _ _) | (with_reducible exact B2.out) | (with_reducible refine Below.drew ?_) | (with_reducible refine Below.alloc ?_ ?_ _) | (with_reducible exact B2.out.size) | (simp; done))
              · (have := B2.out.size; first | omega | (simp; omega)))
            have N3 := Lib.hid hn3
            have F3 := Lib.hid hf3
            clear hf3
            have P3 := Lib.hid hb3
            first
            | (have R9 := R8.out.below hb3 R8.out.lt
               have r8 := R9.cell 0
               have r9 := R9.free 0
               have r10 := R9.lt
               simp at r8
               clear R9)
            | (have R9 : Cel w3 w2.heap.size #[.slice none 0 0] 205 := by
                 have lt7 : w2.heap.size < (w2.alloc (.cells #[.slice none 0 0] 205)).heap.size := by simp
                 with_reducible exact (Cel.new w2 #[.slice none 0 0] 205).below hb3 lt7
               have r8 := R9.cell 0
               have r9 := R9.free 0
               have r10 := R9.lt
               simp at r8
               clear R9)
            | skip
            replace HS := Lib.hid (((B3.out).cell (p := ⟨w1.heap.size, 0, none⟩) H1.out.lt).trans c0)
            obtain ⟨_, _, v3b, v3o, v3c, rfl, _⟩ := hn3
            clear hb3))
      all_goals
        first
        | (obtain ⟨W, hW⟩ : ∃ W, W = w3.alloc (.cells #[.slice (some ⟨v3b, v3o, none⟩) 1 v3c] 205) := ⟨_, rfl⟩
           obtain ⟨a8, ha8⟩ : ∃ a8, a8 = w3.heap.size := ⟨_, rfl⟩
           rw [← hW, ← ha8]
           have FQ := Lib.hid (show Cel W a8 #[.slice (some ⟨v3b, v3o, none⟩) 1 v3c] 205 by rw [hW, ha8]; exact Cel.new _ _ _)
           have FX := Lib.hid (show Below wr.heap.size wr W by rw [hW]; exact B3.out.alloc B3.out.size _)
           have FN := Lib.hid (show Nat1 W (.slice (some ⟨v3b, v3o, none⟩) 1 v3c) (cho k * (4 + (k : Int))) by rw [hW]; exact N3.out.below ((Below.refl _ _).alloc (Nat.le_refl _) _) (Nat.le_refl _))
           have hne : w1.heap.size < a8 := by have := H1.out.lt; have := B3.out.size; omega)
        | (obtain ⟨W, hW⟩ : ∃ W, W = w3.setCell ⟨w2.heap.size, 0, none⟩ (.slice (some ⟨v3b, v3o, none⟩) 1 v3c) := ⟨_, rfl⟩
           obtain ⟨a8, ha8⟩ : ∃ a8, a8 = w2.heap.size := ⟨_, rfl⟩
           rw [← hW, ← ha8]
           have FQ := Lib.hid (show Cel W a8 #[.slice (some ⟨v3b, v3o, none⟩) 1 v3c] 205 by rw [hW, ha8]; exact ((Cel.new w2 #[.slice none 0 0] 205).below P3.out (by simp)).set 0 _)
           have FX := Lib.hid (show Below wr.heap.size wr W by rw [hW]; exact B3.out.setCell B2.out.size _)
           have FN := Lib.hid (show Nat1 W (.slice (some ⟨v3b, v3o, none⟩) 1 v3c) (cho k * (4 + (k : Int))) by rw [hW]; exact N3.out.st (by have := F3.out v3b rfl; simp at this; show w2.heap.size ≠ v3b; omega) _)
           have hne : w1.heap.size < a8 := by have := H1.out.lt; have := B2.out.size; omega)
        | (obtain ⟨W, hW⟩ : ∃ W, W = w3.setCell ⟨wr.heap.size, 0, none⟩ (.slice (some ⟨v3b, v3o, none⟩) 1 v3c) := ⟨_, rfl⟩
           obtain ⟨a8, ha8⟩ : ∃ a8, a8 = wr.heap.size := ⟨_, rfl⟩
           rw [← hW, ← ha8]
           have FQ := Lib.hid (show Cel W a8 #[.slice (some ⟨v3b, v3o, none⟩) 1 v3c] 205 by
             rw [hW, ha8]
             have hc := (Cel.new wr.drew #[.slice none 0 0] 205).below P2.out (by simp)
             exact (hc.below P3.out hc.lt).set 0 _)
           have FX := Lib.hid (show Below wr.heap.size wr W by rw [hW]; exact B3.out.setCell (Nat.le_refl _) _)
           have FN := Lib.hid (show Nat1 W (.slice (some ⟨v3b, v3o, none⟩) 1 v3c) (cho k * (4 + (k : Int))) by rw [hW]; exact N3.out.st (by have := F3.out v3b rfl; have := B2.out.size; have := P2.out.size; simp at this; show wr.heap.size ≠ v3b; omega) _)
           have hne : w1.heap.size < a8 := by have := H1.out.lt; omega)
      all_goals
        clear hW ha8 N2 N3 P3 F3 B2 B3 HS P2 e1
        try clear r8 r9 r10
        try clear R8
        have f0 := FQ.out.cell 0
        have f1 := H1.out.below FX.out H1.out.lt
        have g0 := f1.cell 0
        have g1 := f1.free 0
        have g2 := f1.lt
        have q2 := FQ.out.lt
        simp at f0 g0
        clear f1
        have HS := Lib.hid f0
        go_wp2
        go_region_held3 (fun w' => w'.cell? ⟨a8, 0, none⟩ = some (.slice (some ⟨v3b, v3o, none⟩) 1 v3c))
          (first
          | exact HS.out
          | ((with_reducible refine (cell_st ?_ _).trans HS.out); show a8 ≠ w1.heap.size; omega)
          | go_keep)
          (first
           | (go_at_call 145
              refine (of_any (k : Int) _ (by omega) (by omega)).mono ?_
              rintro e x2 ⟨u2, rfl, hn2, _, hb2⟩
              have B2 := Lib.hid (show Below wr.heap.size wr x2 from FX.out.drew.trans (hb2.mono (by have := FX.out.size; simpa using this)))
              have C2 := Lib.hid (show Below W.heap.size W x2 from (Below.refl W.heap.size W).drew.trans (hb2.mono (by simp)))
              have N2 := Lib.hid hn2
              replace HS := Lib.hid ((C2.out.cell (p := ⟨a8, 0, none⟩) q2).trans HS.out)
              obtain ⟨_, _, u2b, u2o, u2c, rfl, _⟩ := hn2
              clear hb2)
           | (go_at_call 147
              refine (divmod_one _ _ _ _ (cho (k + 1)) _ (FN.out.below C2.out (Nat.le_refl _)) N2.out M2.out M3.out M4.out).mono ?_
              rintro e x3 ⟨u3, rfl, hn3, hf3, hb3⟩
              have B3 := Lib.hid (B2.out.trans (hb3.mono B2.out.size))
              have N3 := Lib.hid hn3
              have F3 := Lib.hid hf3
              replace HS := Lib.hid ((hb3.cell (p := ⟨a8, 0, none⟩) (Nat.lt_of_lt_of_le q2 C2.out.size)).trans HS.out)
              have K1 := Lib.hid (H1.out.below B3.out H1.out.lt)
              clear g0 g1 g2
              have g0 := K1.out.cell 0
              have g1 := K1.out.free 0
              have g2 := K1.out.lt
              simp at g0
              obtain ⟨_, _, u3b, u3o, u3c, rfl, _⟩ := hn3
              clear hb3 hf3))
        go_wp2
        go_roundw
        case rel => exact ⟨k + 1, .slice (some ⟨u3b, u3o, none⟩) 1 u3c, by omega, by omega, by go_num, K1.out.set 0 _, N3.out.st (by have : x2.heap.size ≤ u3b := F3.out u3b rfl; have := H1.out.lt; have := B2.out.size; show w1.heap.size ≠ u3b; omega) _, fun b hb => (by cases hb; have : x2.heap.size ≤ u3b := F3.out u3b rfl; have := H3.out.lt; have := B2.out.size; show w.heap.size < u3b; omega), (H3.out.below B3.out H3.out.lt).other (by show w.heap.size ≠ w1.heap.size; omega) _, (H4.out.trans (B3.out.mono H4.out.size)).setCell (by show w.heap.size ≤ w1.heap.size; omega) _⟩
        case measure => simp [intOf]; omega
    · obtain rfl : k = 3 := by omega
      have c0 := h1.cell 0
      have c1 := h3.cell 0
      have f1 := h3.free 0
      have l1 := h1.lt
      have l3 := h3.lt
      have HX2 := Lib.hid h4
      have HN2 := Lib.hid (show Nat1 wr _ 15 from h2)
      have H1 := Lib.hid h1
      have H5 := Lib.hid h5
      simp at c0 c1
      clear h5
      clear HN HR HX h1 h2 h3 h4
      go_wp2
      refine bodyPost_ret (v := .tuple #[.agg #[.slice (some ⟨vb, vo, none⟩) 1 vc], .int .i64 0]) (by simp [results, Tryz.results123, go_sem, c1]) rfl ⟨_, rfl, HN2.out.st (by have : w.heap.size < vb := H5.out vb rfl; show w.heap.size ≠ vb; omega) _, HX2.out.setCell (Nat.le_refl _) _⟩
theorem choose00 (w : World) : Calls Tryz.prog 123 #[.int .i64 0, .int .i64 0] w fun e w' => ∃ v, e = .returned (.tuple #[.agg #[v], .int .i64 0]) ∧ Nat1 w' v 1 ∧ Below w.heap.size w w' := by
  go_enter Tryz.func123, Tryz.ntmps123
  go_wp2_with (go_at_call 144; (with_reducible refine (known_any _ (by decide) (by decide) _).mono ?_); rintro e w' ⟨rfl, rfl⟩)
  refine (of_any 1 _ (by decide) (by decide)).mono ?_
  rintro e w1 ⟨v, rfl, hn, hf, hb1⟩
  have HF := Lib.hid (show ∀ b, v.ownBlock = some b → w.heap.size < b from fun b hb => by have := hf b hb; simp at this; omega)
  have HX := Lib.hid (((Below.refl w.heap.size w).alloc (Nat.le_refl _) (.cells #[.slice none 0 0] 205)).trans (hb1.mono (by simp)))
  have HR := Lib.hid ((Cel.new w #[.slice none 0 0] 205).below hb1 (by simp))
  have hw01 : w.heap.size < w1.heap.size := HR.out.lt
  have r0 := HR.out.cell 0
  have r1 := HR.out.free 0
  simp at r0
  have HN := Lib.hid hn
  obtain ⟨_, _, b, o, c, rfl, _⟩ := hn
  clear hb1 hf
  go_wp2_with fail
  refine wp_loop_rounds 1 ?_
  rw [rounds_succ]
  go_wp2
  have k0 : ((w1.setCell ⟨w.heap.size, 0, none⟩ (.slice (some ⟨b, o, none⟩) 1 c)).alloc (.cells #[.slice (some ⟨b, o, none⟩) 1 c] 205)).cell? ⟨w.heap.size, 0, none⟩ = some (.slice (some ⟨b, o, none⟩) 1 c) := by
    rw [cell_al _ (by simpa [World.setCell] using hw01), (HR.out.set 0 _).cell]; rfl
  refine bodyPost_ret (v := .tuple #[.agg #[.slice (some ⟨b, o, none⟩) 1 c], .int .i64 0]) (by simp [results, Tryz.results123, go_sem, k0]) rfl ⟨_, rfl, (HN.out.st (a := ⟨w.heap.size, 0, none⟩) (by have : w.heap.size < b := HF.out b rfl; show w.heap.size ≠ b; omega) _).below ((Below.refl _ _).alloc (Nat.le_refl _) _) (Nat.le_refl _), (HX.out.setCell (Nat.le_refl _) _).alloc (by have := HX.out.size; simpa [World.setCell] using this) _⟩
theorem count62 (w : World) : Calls Tryz.prog 93 #[.int .i64 6, .int .i64 2] w (RetB (.tuple #[.int .i64 15, .int .i64 0]) w) := by
  go_enter Tryz.func93, Tryz.ntmps93
  go_wp2_with fail
  refine (choose62 _).mono ?_
  rintro e w1 ⟨v, rfl, hn, hb1⟩
  have HX := Lib.hid hb1
  have HN := Lib.hid (hn.below ((Below.refl _ _).alloc (Nat.le_refl _) (.cells #[v] 205)) (Nat.le_refl _))
  obtain ⟨_, _, b, o, c, rfl, _⟩ := hn
  clear hb1
  go_wp2_with fail
  refine (narrow_one _ 15 _ HN.out).mono ?_
  rintro e w2 ⟨rfl, hb2⟩
  have HX2 := Lib.hid ((HX.out.alloc HX.out.size (.cells #[.slice (some ⟨b, o, none⟩) 1 c] 205)).trans (hb2.mono (by have := HX.out.size; simp; omega)))
  clear hb2
  go_wp2
  go_ret2
  exact ⟨rfl, HX2.out⟩
theorem count00 (w : World) : Calls Tryz.prog 93 #[.int .i64 0, .int .i64 0] w (RetB (.tuple #[.int .i64 1, .int .i64 0]) w) := by
  go_enter Tryz.func93, Tryz.ntmps93
  go_wp2_with fail
  refine (choose00 _).mono ?_
  rintro e w1 ⟨v, rfl, hn, hb1⟩
  have HX := Lib.hid hb1
  have HN := Lib.hid (hn.below ((Below.refl _ _).alloc (Nat.le_refl _) (.cells #[v] 205)) (Nat.le_refl _))
  obtain ⟨_, _, b, o, c, rfl, _⟩ := hn
  clear hb1
  go_wp2_with fail
  refine (narrow_one _ 1 _ HN.out).mono ?_
  rintro e w2 ⟨rfl, hb2⟩
  have HX2 := Lib.hid ((HX.out.alloc HX.out.size (.cells #[.slice (some ⟨b, o, none⟩) 1 c] 205)).trans (hb2.mono (by have := HX.out.size; simp; omega)))
  clear hb2
  go_wp2
  go_ret2
  exact ⟨rfl, HX2.out⟩
end Go.Proofs.YtnnocbelgfhecaaGreatDoor
