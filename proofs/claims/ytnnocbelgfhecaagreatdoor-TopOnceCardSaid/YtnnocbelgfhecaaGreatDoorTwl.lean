/- The register: copyGame. -/
import Derived.Test.YtnnocbelgfhecaaGreatDoorTwk
set_option linter.unusedSimpArgs false
namespace Go.Proofs.YtnnocbelgfhecaaGreatDoor
open Go.ChangeShapes Go.WideShapes Go.ChangeAt Go.RowKit Go.Lott
/-- A tier in a block of its own. -/
def IsTierF (B : Nat) (w : World) (v : Value) : Prop := ∃ b o c, v = .slice (some ⟨b, o, none⟩) 1 c ∧ 1 ≤ c ∧ B ≤ b ∧ b < w.heap.size ∧ w.cell? ⟨b, o, none⟩ = some (.int .i64 2) ∧ w.cell? ⟨b, o + 1, none⟩ = some (.int .i64 0) ∧ w.cell? ⟨b, o + 2, none⟩ = some (.int .i64 0) ∧
  w.cell? ⟨b, o + 3, none⟩ = some (.int .i64 0) ∧ w.cell? ⟨b, o + 4, none⟩ = some (.int .i64 3) ∧ w.cell? ⟨b, o + 5, none⟩ = some (.int .i64 1)
def tierC : List Value := [.int .i64 2, .int .i64 0, .int .i64 0, .int .i64 0, .int .i64 3, .int .i64 1]
theorem IsTierF.tier {B : Nat} {w : World} {v : Value} (h : IsTierF B w v) : IsTier w v := by
  obtain ⟨b, o, c, h1, h2, _, r⟩ := h; exact ⟨b, o, c, h1, h2, r⟩
theorem IsTierF.below {B : Nat} {w w1 : World} {v : Value} (h : IsTierF B w v) (hb : Below w.heap.size w w1) : IsTierF B w1 v := by
  obtain ⟨b, o, c, h1, h2, t1, h3, h4, h5, h6, h7, h8, h9⟩ := h
  have k := cell_same (hb.block b h3)
  exact ⟨b, o, c, h1, h2, t1, Nat.lt_of_lt_of_le h3 hb.size, (k _).trans h4, (k _).trans h5, (k _).trans h6, (k _).trans h7, (k _).trans h8, (k _).trans h9⟩
theorem IsTierF.mono {B B2 : Nat} {w : World} {v : Value} (h : IsTierF B w v) (hB : B2 ≤ B) : IsTierF B2 w v := by
  obtain ⟨b, o, c, h1, h2, t1, r⟩ := h
  exact ⟨b, o, c, h1, h2, Nat.le_trans hB t1, r⟩
theorem IsTierF.st {B : Nat} {w : World} {v : Value} (h : IsTierF B w v) {a : Addr} (ha : a.block < B) (u : Value) : IsTierF B (w.setCell a u) v := by
  obtain ⟨b, o, c, h1, h2, t1, h3, h4, h5, h6, h7, h8, h9⟩ := h
  have k := fun i => cell_st (w := w) (a := a) (b := b) (i := i) (fun e => by omega) u
  exact ⟨b, o, c, h1, h2, t1, by rw [sz_set]; exact h3, (k _).trans h4, (k _).trans h5, (k _).trans h6, (k _).trans h7, (k _).trans h8, (k _).trans h9⟩
theorem IsTierF.row {B g : Nat} {w : World} {v : Value} (h : IsTierF B w v) (hg : g < B) (cs : Array Value) : IsTierF B (w.setRow g cs) v := by
  obtain ⟨b, o, c, h1, h2, t1, h3, h4, h5, h6, h7, h8, h9⟩ := h
  have k := cell_same (setRow_other w g b cs (by omega))
  exact ⟨b, o, c, h1, h2, t1, by rw [size_setRow]; exact h3, (k _).trans h4, (k _).trans h5, (k _).trans h6, (k _).trans h7, (k _).trans h8, (k _).trans h9⟩
theorem Below.row {B g : Nat} {w0 w : World} (hb : Below B w0 w) (hBg : B ≤ g) (cs : Array Value) : Below B w0 (w.setRow g cs) :=
  hb.trans ⟨rfl, rfl, rfl, by simp [World.setRow], fun k hk => setRow_other w g k cs (by omega)⟩
theorem IsTierF.of_row {B : Nat} {w : World} {v : Value} (h : w.ownsRow B 55 6 v 1 tierC) : IsTierF B w v := by
  obtain ⟨h0, h⟩ := h
  rcases h with ⟨_, c⟩ | ⟨g, cap, cur, rfl, hg, hh, h1, h2, h3, h4⟩
  · cases c
  · have hc : Cel w g cur 55 := hh
    have k : ∀ j u, tierC[j]? = some u → w.cell? ⟨g, 0 + j, none⟩ = some u := fun j u hj => by
      rw [Nat.zero_add, hc.cell j, ← hj, ← h4, List.getElem?_take]
      have : j < 6 := (List.getElem?_eq_some_iff.1 hj).1
      rw [if_pos (by omega)]
      exact (Array.getElem?_toList).symm
    exact ⟨g, 0, cap, rfl, h1, hg, hc.lt, k 0 _ rfl, k 1 _ rfl, k 2 _ rfl, k 3 _ rfl, k 4 _ rfl, k 5 _ rfl⟩
set_option maxHeartbeats 4000000 in
set_option maxRecDepth 100000 in
theorem copyG_any (v : Value) (w : World) (h : IsTier w v) : Calls Tryz.prog 19 #[.agg (gcs v)] w fun e w' => ∃ v', e = .returned (.agg (gcs v')) ∧ IsTierF w.heap.size w' v' ∧ Below w.heap.size w w' := by
  obtain ⟨tb, to_, tc, rfl, htc, htl, q0, q1, q2, q3, q4, q5⟩ := h
  obtain ⟨W1, hW1⟩ : ∃ W1, W1 = (w.alloc (.cells (gcs (.slice (some ⟨tb, to_, none⟩) 1 tc)) 27)).alloc (.cells #[.string ⟨#[]⟩, .int .i64 0, .int .i64 0, .int .i64 0, .int .i64 0, .int .i64 0, .int .i64 0, .int .i64 0, .int .i64 0, .int .i64 0, .int .i64 0, .int .i64 0, .int .i64 0, .int .i64 0, .int .i64 0, .int .i64 0, .int .i64 0, .int .i64 0, .int .i64 0, .int .i64 0, .slice none 0 0, .slice none 0 0] 27) := ⟨_, rfl⟩
  have hX : Below w.heap.size w W1 := by rw [hW1]; exact ((Below.refl _ _).alloc (Nat.le_refl _) _).alloc (by simp) _
  have HG := Lib.hid (show Cel W1 w.heap.size (gcs (.slice (some ⟨tb, to_, none⟩) 1 tc)) 27 by rw [hW1]; exact (Cel.new _ _ _).alloc _)
  have HR := Lib.hid (show Cel W1 (w.heap.size + 1) #[.string ⟨#[]⟩, .int .i64 0, .int .i64 0, .int .i64 0, .int .i64 0, .int .i64 0, .int .i64 0, .int .i64 0, .int .i64 0, .int .i64 0, .int .i64 0, .int .i64 0, .int .i64 0, .int .i64 0, .int .i64 0, .int .i64 0, .int .i64 0, .int .i64 0, .int .i64 0, .int .i64 0, .slice none 0 0, .slice none 0 0] 27 by
    rw [hW1]
    have := Cel.new (w.alloc (.cells (gcs (.slice (some ⟨tb, to_, none⟩) 1 tc)) 27)) #[.string ⟨#[]⟩, .int .i64 0, .int .i64 0, .int .i64 0, .int .i64 0, .int .i64 0, .int .i64 0, .int .i64 0, .int .i64 0, .int .i64 0, .int .i64 0, .int .i64 0, .int .i64 0, .int .i64 0, .int .i64 0, .int .i64 0, .int .i64 0, .int .i64 0, .int .i64 0, .int .i64 0, .slice none 0 0, .slice none 0 0] 27
    simpa using this)
  have HCT := Lib.hid (cloT_any tb to_ 1 tc tierC W1 rfl (by omega) (fun j u hj => by
    have k := cell_same (hX.block tb htl)
    rw [k]
    have hj6 : j < 6 := (List.getElem?_eq_some_iff.1 hj).1
    rcases (show j = 0 ∨ j = 1 ∨ j = 2 ∨ j = 3 ∨ j = 4 ∨ j = 5 by omega) with rfl | rfl | rfl | rfl | rfl | rfl <;> (cases hj; assumption)) (by decide))
  have HLT0 := Lib.hid (show w.heap.size < W1.heap.size from HG.out.lt)
  have HLT1 := Lib.hid (show w.heap.size + 1 < W1.heap.size from HR.out.lt)
  have HX := Lib.hid hX
  have HW := Lib.hid hW1
  have g21' : ((w.alloc (.cells (gcs (.slice (some ⟨tb, to_, none⟩) 1 tc)) 27)).alloc (.cells #[.string ⟨#[]⟩, .int .i64 0, .int .i64 0, .int .i64 0, .int .i64 0, .int .i64 0, .int .i64 0, .int .i64 0, .int .i64 0, .int .i64 0, .int .i64 0, .int .i64 0, .int .i64 0, .int .i64 0, .int .i64 0, .int .i64 0, .int .i64 0, .int .i64 0, .int .i64 0, .int .i64 0, .slice none 0 0, .slice none 0 0] 27)).cell? ⟨w.heap.size, 21, none⟩ = some (.slice (some ⟨tb, to_, none⟩) 1 tc) := by rw [← hW1]; exact HG.out.cell 21
  have g20 : W1.cell? ⟨w.heap.size, 20, none⟩ = some (.slice none 0 0) := HG.out.cell 20
  have g21 : W1.cell? ⟨w.heap.size, 21, none⟩ = some (.slice (some ⟨tb, to_, none⟩) 1 tc) := HG.out.cell 21
  clear hX hW1 htl q0 q1 q2 q3 q4 q5
  go_enter Tryz.func19, Tryz.ntmps19
  go_wp2_with fail
  rw [← HW.out]
  refine HCT.out.mono ?_
  rintro e w2 ⟨v', rfl, hown, hne, hb2⟩
  have HT := Lib.hid (IsTierF.of_row hown)
  obtain ⟨v'_1, v'_2, rfl⟩ := own_slice hown
  replace HG := Lib.hid (HG.out.below hb2 HG.out.lt)
  replace HR := Lib.hid (HR.out.below hb2 HR.out.lt)
  have HWL := Lib.hid HX.out.size
  have HLT := Lib.hid HLT0.out
  replace HX := Lib.hid (HX.out.trans (hb2.mono HX.out.size))
  clear hown hne hb2 g20 g21 g21' HW HCT
  have g20 : w2.cell? ⟨w.heap.size, 20, none⟩ = some (.slice none 0 0) := HG.out.cell 20
  have g21 : w2.cell? ⟨w.heap.size, 21, none⟩ = some (.slice (some ⟨tb, to_, none⟩) 1 tc) := HG.out.cell 21
  have f20 := HG.out.free 20
  have f21 := HG.out.free 21
  have gl := HG.out.lt
  go_wp2_with (first | (go_at_call 38; (with_reducible refine (cloA_nil _ _ _).mono ?_); rintro e w' ⟨rfl, rfl⟩) | fail)
  obtain ⟨V, hV⟩ : ∃ V, V = ((w2.setCell ⟨w.heap.size, 21, none⟩ (.slice v'_1 1 v'_2)).setCell ⟨w.heap.size, 20, none⟩ (.slice none 0 0)) := ⟨_, rfl⟩
  rw [← hV]
  have HG2 := Lib.hid (show Cel V w.heap.size (gcs (.slice v'_1 1 v'_2)) 27 by
    rw [hV]
    have := (HG.out.set 21 (.slice v'_1 1 v'_2)).set 20 (.slice none 0 0)
    simpa [gcs] using this)
  have HR2 := Lib.hid (show Cel V (w.heap.size + 1) #[.string ⟨#[]⟩, .int .i64 0, .int .i64 0, .int .i64 0, .int .i64 0, .int .i64 0, .int .i64 0, .int .i64 0, .int .i64 0, .int .i64 0, .int .i64 0, .int .i64 0, .int .i64 0, .int .i64 0, .int .i64 0, .int .i64 0, .int .i64 0, .int .i64 0, .int .i64 0, .int .i64 0, .slice none 0 0, .slice none 0 0] 27 by
    rw [hV]
    have hne : w.heap.size + 1 ≠ w.heap.size := by omega
    exact (HR.out.other (a := ⟨w.heap.size, 21, none⟩) hne _).other (a := ⟨w.heap.size, 20, none⟩) hne _)
  have HT2 := Lib.hid (show IsTierF W1.heap.size V _ by
    rw [hV]
    exact (HT.out.st (show w.heap.size < W1.heap.size from HLT.out) _).st (show w.heap.size < W1.heap.size from HLT.out) _)
  have HX2 := Lib.hid (show Below w.heap.size w V by
    rw [hV]
    exact (HX.out.setCell (Nat.le_refl _) _).setCell (Nat.le_refl _) _)
  clear hV HG HR HT HX g20 g21 f20 f21 gl
  refine wp_loop_rounds 1 ?_
  rw [rounds_succ]
  go_wp2_with (first
    | (refine wpList_load_row rfl 27 _ rfl w.heap.size rfl _ _ _ _ HG2.out Tryz.underlying27 rfl (by kernel_rfl) ?_)
    | (refine wpList_store_row rfl 27 _ _ rfl (w.heap.size + 1) (gcs (.slice v'_1 1 v'_2)) rfl rfl 27 _ HR2.out (by kernel_rfl) (by kernel_rfl) (by kernel_rfl) ?_)
    | fail)
  have HR3 : Cel (V.setRow (w.heap.size + 1) (gcs (.slice v'_1 1 v'_2))) (w.heap.size + 1) (gcs (.slice v'_1 1 v'_2)) 27 := setRow_heap V (w.heap.size + 1) _ _ 27 (0, 0) HR2.out
  refine bodyPost_ret (v := .agg (gcs (.slice v'_1 1 v'_2))) (results_cell_row Tryz.results19 _ _ (w.heap.size + 1) 27 _ (0, 0) _ rfl HR3 Tryz.underlying27 rfl (by kernel_rfl)) rfl ⟨_, rfl, ?_, ?_⟩
  · exact (HT2.out.row HLT1.out _).mono (Nat.le_of_lt HLT.out)
  · exact Below.row HX2.out (Nat.le_succ _) _
end Go.Proofs.YtnnocbelgfhecaaGreatDoor
