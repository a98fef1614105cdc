/- A line of the game: matrix.Check, Canon. -/
import Derived.Test.YtnnocbelgfhecaaGreatDoorTrj
import Derived.Lib.OwnBridge
import Derived.Lib.AppendIntMem
set_option linter.unusedSimpArgs false
namespace Go.Proofs.YtnnocbelgfhecaaGreatDoor
open Go.ChangeShapes Go.WideShapes Go.ChangeAt Go.RowKit Go.Lott Go.Sort
theorem IsTwo.drewN {w : World} {v : Value} {x y : Int} (h : IsTwo w v x y) (n : Nat) : IsTwo (w.drewN n) v x y := h
set_option maxHeartbeats 2000000 in
set_option maxRecDepth 100000 in
theorem mcheck_any (v vm : Value) (x y : Int) (w : World) (ht : IsTier w v) (hm : IsTwo w vm x y) : Calls Tryz.prog 108 #[gameV v, .agg #[vm, .slice none 0 0]] w (RetB (.int .i64 0) w) := by
  have hX1 := (Below.alloc (Below.refl w.heap.size w) (Nat.le_refl _) (.cells #[.string nmB, .int .i64 1, .int .i64 200, .int .i64 2, .int .i64 6, .int .i64 0, .int .i64 0, .int .i64 0, .int .i64 4, .int .i64 4, .int .i64 32, .int .i64 1230, .int .i64 30, .int .i64 15, .int .i64 90, .int .i64 5000, .int .i64 0, .int .i64 1, .int .i64 0, .int .i64 0, .slice none 0 0, v] 27))
  have HX := Lib.hid (hX1.alloc hX1.size (.cells #[vm, .slice none 0 0] 118))
  have HT := Lib.hid (ht.below HX.out (Nat.le_refl _))
  have HM := Lib.hid (hm.below HX.out (Nat.le_refl _))
  have HG := Lib.hid ((Cel.new w #[.string nmB, .int .i64 1, .int .i64 200, .int .i64 2, .int .i64 6, .int .i64 0, .int .i64 0, .int .i64 0, .int .i64 4, .int .i64 4, .int .i64 32, .int .i64 1230, .int .i64 30, .int .i64 15, .int .i64 90, .int .i64 5000, .int .i64 0, .int .i64 1, .int .i64 0, .int .i64 0, .slice none 0 0, v] 27).alloc (.cells #[vm, .slice none 0 0] 118))
  have HL := Lib.hid (show Cel ((w.alloc (.cells #[.string nmB, .int .i64 1, .int .i64 200, .int .i64 2, .int .i64 6, .int .i64 0, .int .i64 0, .int .i64 0, .int .i64 4, .int .i64 4, .int .i64 32, .int .i64 1230, .int .i64 30, .int .i64 15, .int .i64 90, .int .i64 5000, .int .i64 0, .int .i64 1, .int .i64 0, .int .i64 0, .slice none 0 0, v] 27)).alloc (.cells #[vm, .slice none 0 0] 118)) (w.heap.size + 1) _ _ by
    have := Cel.new (w.alloc (.cells #[.string nmB, .int .i64 1, .int .i64 200, .int .i64 2, .int .i64 6, .int .i64 0, .int .i64 0, .int .i64 0, .int .i64 4, .int .i64 4, .int .i64 32, .int .i64 1230, .int .i64 30, .int .i64 15, .int .i64 90, .int .i64 5000, .int .i64 0, .int .i64 1, .int .i64 0, .int .i64 0, .slice none 0 0, v] 27)) #[vm, .slice none 0 0] 118
    simpa using this)
  have HS := Lib.hid fun W (h : IsTier W v) => check_any v W h
  obtain ⟨_, _, _, mb, mo, mc, rfl, _⟩ := hm
  clear ht hX1
  unfold gameV at *
  go_enter Tryz.func108, Tryz.ntmps108
  go_wp2_with (first
    | (refine wpList_load_row rfl 27 _ rfl w.heap.size rfl _ _ _ _ HG.out Tryz.underlying27 rfl (by kernel_rfl) ?_)
    | (go_at_call 17; (with_reducible refine (HS.out _ HT.out).mono ?_); rintro e w1 ⟨rfl, hb1⟩; replace HX := Lib.hid (HX.out.trans (hb1.mono HX.out.size)); replace HM := Lib.hid (HM.out.below hb1 (Nat.le_refl _)); replace HG := Lib.hid (HG.out.below hb1 HG.out.lt); replace HL := Lib.hid (HL.out.below hb1 HL.out.lt); have g1 := HG.out.cell 1
       have g3 := HG.out.cell 3
       have g4 := HG.out.cell 4
       have g5 := HG.out.cell 5
       have g6 := HG.out.cell 6
       have gl := HG.out.lt
       have l0 := HL.out.cell 0
       have l1 := HL.out.cell 1
       have ll := HL.out.lt
       simp at g1 g3 g4 g5 g6 l0 l1; clear hb1)
    | (go_at_call 132; (with_reducible refine (inside_two _ x y _ HM.out).mono ?_); rintro e w' ⟨rfl, rfl⟩)
    | (go_at_call 132; (with_reducible refine (inside_nil _ _ _).mono ?_); rintro e w' ⟨rfl, rfl⟩)
    | (go_at_call 133; (with_reducible refine (repeated_two _ x y _ HM.out).mono ?_); rintro e w' ⟨rfl, rfl⟩)
    | (go_at_call 133; (with_reducible refine (repeated_nil _).mono ?_); rintro e w' ⟨rfl, rfl⟩))
  go_quiet (fail)
  go_wp2_with (first
    | (go_at_call 132; (with_reducible refine (inside_two _ x y _ (HM.out.drewN _)).mono ?_); rintro e w' ⟨rfl, rfl⟩)
    | (go_at_call 132; (with_reducible refine (inside_nil _ _ _).mono ?_); rintro e w' ⟨rfl, rfl⟩)
    | (go_at_call 133; (with_reducible refine (repeated_two _ x y _ (HM.out.drewN _)).mono ?_); rintro e w' ⟨rfl, rfl⟩)
    | (go_at_call 133; (with_reducible refine (repeated_nil _).mono ?_); rintro e w' ⟨rfl, rfl⟩))
  go_ret
  exact ⟨rfl, blw_drewN HX.out _⟩
theorem sort_two (v : Value) (x y : Int) (w : World) (h : IsTwo w v x y) (hf : ∀ b, v.ownBlock = some b → ∀ i, w.frozen? ⟨b, i, none⟩ = false) : Calls Tryz.prog 158 #[v] w (RetB (.tuple #[]) w) := by
  obtain ⟨h0, h1, h2, b, o, c, rfl, h4, h5, h6, h7⟩ := h
  have hH : Holds (Value.int .i64) w b o [x, y].toArray := fun j hj => by
    rcases (show j = 0 ∨ j = 1 by simp at hj; omega) with rfl | rfl
    · exact ⟨h6, hf b rfl _⟩
    · exact ⟨h7, hf b rfl _⟩
  refine (Tryz.slices_Sort_int b o c [x, y] w hH h5 (by simp)).mono ?_
  rintro e w' ⟨rfl, n, os, rfl⟩
  refine ⟨rfl, ?_⟩
  have e1 : [x, y].mergeSort (fun x y => decide (x ≤ y)) = [x, y] := by
    have : x ≤ y := by omega
    simp [List.mergeSort, List.MergeSort.Internal.splitInTwo, this]
  rw [e1, putRow_self]
  · exact Go.Lib.below_grow _ _ (Nat.le_refl _) n os
  · exact hH
theorem IsTwo.st {w : World} {b o c : Nat} {x y : Int} (h : IsTwo w (.slice (some ⟨b, o, none⟩) 2 c) x y) {a : Addr} (ha : a.block ≠ b) (u : Value) : IsTwo (w.setCell a u) (.slice (some ⟨b, o, none⟩) 2 c) x y := by
  obtain ⟨h0, h1, h2, b', o', c', h3, h4, h5, h6, h7⟩ := h
  cases h3
  exact ⟨h0, h1, h2, b, o, c, rfl, h4, by simpa [World.setCell] using h5, (cell_st (fun e => ha e.symm) u).trans h6, (cell_st (fun e => ha e.symm) u).trans h7⟩
theorem own_two {w : World} {base g c : Nat} {e : TypeId} {x y : Value} (h : w.ownsRow base e 1 (.slice (some ⟨g, 0, none⟩) 2 c) 2 [x, y]) : 2 ≤ c ∧ ∃ cs, Cel w g cs e ∧ cs[0]? = some x ∧ cs[1]? = some y := by
  rcases h.2 with ⟨hc, _⟩ | ⟨g', cap, cur, hv, _, hh, hc, _, _, hl⟩
  · cases hc
  · injection hv with h1 h2 h3
    injection h1 with h1
    injection h1 with h1
    subst h1 h3
    refine ⟨hc, cur, hh, ?_, ?_⟩
    · have : (cur.toList.take (2 * 1))[0]? = some x := by rw [hl]; rfl
      rw [List.getElem?_take] at this
      simpa using this
    · have : (cur.toList.take (2 * 1))[1]? = some y := by rw [hl]; rfl
      rw [List.getElem?_take] at this
      simpa using this
theorem canon1_nil (w : World) : Calls Tryz.prog 157 #[.slice none 0 0] w (RetB (.slice none 0 0) w) := by
  go_enter Tryz.func157, Tryz.ntmps157
  go_wp2_with fail
  refine (Tryz.slices_Sort_int_none none 0 _).mono ?_
  rintro e w1 ⟨rfl, rfl⟩
  go_wp2
  go_ret
  exact ⟨rfl, Below.refl _ _⟩
theorem infoI : (Tryz.prog.info? 3).map (fun i => (i.zero, i.size, i.bytes)) = some (some (.int .i64 0), 1, 8) := by kernel_rfl
set_option maxHeartbeats 1000000 in
theorem canon1_two (v : Value) (x y : Int) (w : World) (h : IsTwo w v x y) : Calls Tryz.prog 157 #[v] w fun e w' => ∃ u, e = .returned u ∧ IsTwo w' u x y ∧ Fresh w u ∧ Below w.heap.size w w' := by
  obtain ⟨h0, h1, h2, b, o, c, rfl, h4, h5, h6, h7⟩ := h
  obtain ⟨e0, he0, hz0, hz1, hz2⟩ := info_parts infoI
  go_enter Tryz.func157, Tryz.ntmps157
  go_wp2_with
   (at_builtin
    refine wpList_append_lies _ rfl _ _ 71 rfl w.heap.size 3 e0 (.int .i64 0) 1 8 Tryz.underlying71 he0 hz0 hz1 hz2 rfl (by decide) (.slice none 0 0) 0 [] (by rfl) (World.ownsRow_nil w _ _ _) ⟨b, o, none⟩ 2 c [.int .i64 x, .int .i64 y] (by rfl) (by rfl) (fun j u hj => by rcases j with _ | _ | j; (simp at hj; subst hj; exact h6); (simp at hj; subst hj; exact h7); simp at hj) (by simp [Value.oneCell']) (by omega) (by unfold maxLen; omega) (by omega) (Nat.le_refl _) w.heap.size rfl ?_
    intro g8 c8 w4 own8 gr8 at8 lt8
    have hb1 := (Below.refl w.heap.size w).grown gr8 (Nat.le_refl _) (fun k hk => by cases hk)
    obtain ⟨hc8, cs, HQ, hq0, hq1⟩ := own_two own8
    have hne : g8 = w.heap.size := by rcases at8 with c | c; cases c; exact c
    have HI := Lib.hid (show IsTwo w4 (.slice (some ⟨g8, 0, none⟩) 2 c8) x y from ⟨h0, h1, h2, g8, 0, c8, rfl, hc8, HQ.lt, by rw [HQ.cell, hq0], by rw [HQ.cell, hq1]⟩)
    have HN := Lib.hid hne
    have HZ := Lib.hid (fun i => HQ.free i)
    have HX := Lib.hid hb1
    clear own8 gr8 at8 hne hq0 hq1 HQ hb1 h6 h7)
  refine (sort_two _ x y _ HI.out (fun b hb i => by cases hb; exact HZ.out i)).mono ?_
  rintro e w5 ⟨rfl, hb1⟩
  replace HX := Lib.hid (HX.out.trans (hb1.mono HX.out.size))
  replace HI := Lib.hid (HI.out.below hb1 (Nat.le_refl _))
  clear hb1 HZ
  go_wp2
  go_ret
  exact ⟨_, rfl, HI.out, fun b hb => (by cases hb; show w.heap.size ≤ g8; have := HN.out; omega), HX.out⟩
set_option maxHeartbeats 1000000 in
set_option maxRecDepth 100000 in
theorem canon_two (v : Value) (x y : Int) (w : World) (h : IsTwo w v x y) : Calls Tryz.prog 134 #[.agg #[v, .slice none 0 0]] w fun e w' => ∃ u, e = .returned (.agg #[u, .slice none 0 0]) ∧ IsTwo w' u x y ∧ Fresh w u ∧ Below w.heap.size w w' := by
  have HI := Lib.hid h
  obtain ⟨_, _, _, b, o, c, rfl, _⟩ := h
  obtain ⟨W1, hW1⟩ : ∃ W1, W1 = (w.alloc (.cells #[.slice (some ⟨b, o, none⟩) 2 c, .slice none 0 0] 118)).alloc (.cells #[.slice none 0 0, .slice none 0 0] 118) := ⟨_, rfl⟩
  have hX1 : Below w.heap.size w W1 := by rw [hW1]; exact ((Below.refl _ _).alloc (Nat.le_refl _) _).alloc (by simp) _
  have HA := Lib.hid (show Cel W1 w.heap.size #[.slice (some ⟨b, o, none⟩) 2 c, .slice none 0 0] 118 by rw [hW1]; exact (Cel.new _ _ _).alloc _)
  have hR : Cel W1 (w.heap.size + 1) #[.slice none 0 0, .slice none 0 0] 118 := by
    rw [hW1]
    have := Cel.new (w.alloc (.cells #[.slice (some ⟨b, o, none⟩) 2 c, .slice none 0 0] 118)) #[.slice none 0 0, .slice none 0 0] 118
    simpa using this
  have HXD := Lib.hid (show Below w.heap.size w W1.drew from hX1.drew)
  have HXS := Lib.hid (Below.refl W1.drew.heap.size W1.drew)
  have HRD := Lib.hid (show Cel W1.drew (w.heap.size + 1) _ _ from hR)
  have HS := Lib.hid (show W1.drew.cell? ⟨w.heap.size, 0, none⟩ = some (.slice (some ⟨b, o, none⟩) 2 c) ∧ W1.drew.cell? ⟨w.heap.size, 1, none⟩ = some (.slice none 0 0) from ⟨HA.out.cell 0, HA.out.cell 1⟩)
  have HL := Lib.hid (show w.heap.size < W1.drew.heap.size from HA.out.lt)
  have HU := HXD
  have HV := HXD
  have HW := Lib.hid hW1
  clear hX1 hR hW1
  go_enter Tryz.func134, Tryz.ntmps134
  go_wp2_with fail
  rw [← HW.out]
  go_region_held3 (fun w' => w'.cell? ⟨w.heap.size, 0, none⟩ = some (.slice (some ⟨b, o, none⟩) 2 c) ∧ w'.cell? ⟨w.heap.size, 1, none⟩ = some (.slice none 0 0)) (first | exact HS.out | go_keep)
    (first
     | (go_at_call 157
        refine (canon1_two _ x y _ (HI.out.below (by first | (with_reducible exact HV.out) | (with_reducible exact HXD.out)) (Nat.le_refl _))).mono ?_
        rintro e wu ⟨u, rfl, hu, hfu, hbu⟩
        have HU := Lib.hid (show Below w.heap.size w wu from by
          refine Below.trans ?_ (hbu.mono ?_)
          · first | (with_reducible exact HV.out) | (with_reducible exact HXD.out)
          · first | (with_reducible exact HV.out.size) | (with_reducible exact HXD.out.size))
        have HZ := Lib.hid (show ∀ b, u.ownBlock = some b → w.heap.size + 1 < b from fun b hb => Nat.lt_of_lt_of_le HRD.out.lt (hfu b hb))
        replace HRD := Lib.hid (HRD.out.below hbu HRD.out.lt)
        replace HS := Lib.hid (show wu.cell? ⟨w.heap.size, 0, none⟩ = some (.slice (some ⟨b, o, none⟩) 2 c) ∧ wu.cell? ⟨w.heap.size, 1, none⟩ = some (.slice none 0 0) from ⟨(hbu.cell (p := ⟨w.heap.size, 0, none⟩) HL.out).trans HS.out.1, (hbu.cell (p := ⟨w.heap.size, 1, none⟩) HL.out).trans HS.out.2⟩)
        replace HL := Lib.hid (Nat.lt_of_lt_of_le HL.out hbu.size)
        (try clear r0 r1 f0 f1 rl)
        have r0 := HRD.out.cell 0
        have r1 := HRD.out.cell 1
        have f0 := HRD.out.free 0
        have f1 := HRD.out.free 1
        have rl := HRD.out.lt
        simp at r0 r1
        have HI2 := Lib.hid hu
        obtain ⟨_, _, _, ub, uo, uc, rfl, _⟩ := hu
        clear hbu hfu)
     | (go_at_call 157
        (with_reducible refine (canon1_nil _).mono ?_)
        rintro e wn ⟨rfl, hbn⟩
        have HV := Lib.hid (show Below w.heap.size w wn from by
          refine Below.trans ?_ (hbn.mono ?_)
          · first | (with_reducible exact HU.out) | (with_reducible exact HXD.out)
          · first | (with_reducible exact HU.out.size) | (with_reducible exact HXD.out.size))
        replace HRD := Lib.hid (HRD.out.below hbn HRD.out.lt)
        replace HS := Lib.hid (show wn.cell? ⟨w.heap.size, 0, none⟩ = some (.slice (some ⟨b, o, none⟩) 2 c) ∧ wn.cell? ⟨w.heap.size, 1, none⟩ = some (.slice none 0 0) from ⟨(hbn.cell (p := ⟨w.heap.size, 0, none⟩) HL.out).trans HS.out.1, (hbn.cell (p := ⟨w.heap.size, 1, none⟩) HL.out).trans HS.out.2⟩)
        replace HL := Lib.hid (Nat.lt_of_lt_of_le HL.out hbn.size)
        (try clear r0 r1 f0 f1 rl)
        have r0 := HRD.out.cell 0
        have r1 := HRD.out.cell 1
        have f0 := HRD.out.free 0
        have f1 := HRD.out.free 1
        have rl := HRD.out.lt
        simp at r0 r1
        try replace HI2 := Lib.hid (HI2.out.below hbn (Nat.le_refl _))
        clear hbn))
  all_goals
    have hz : w.heap.size + 1 < ub := HZ.out ub rfl
    go_wp2
    refine bodyPost_ret (v := .agg #[.slice (some ⟨ub, uo, none⟩) 2 uc, .slice none 0 0]) (by simp [results, Tryz.results134, go_sem, r0, r1]) rfl ⟨_, rfl, (HI2.out.st (by show w.heap.size + 1 ≠ ub; omega) _).st (by show w.heap.size + 1 ≠ ub; omega) _, fun b hb => (by cases hb; show w.heap.size ≤ ub; omega), ?_⟩
    refine Below.setCell (Below.setCell ?_ ?_ _) ?_ _
    · first | (with_reducible exact HV.out) | (with_reducible exact HU.out)
    · show w.heap.size ≤ w.heap.size + 1; omega
    · show w.heap.size ≤ w.heap.size + 1; omega
end Go.Proofs.YtnnocbelgfhecaaGreatDoor
/- A bet of the game: bet.check. -/
set_option linter.unusedSimpArgs false
namespace Go.Proofs.YtnnocbelgfhecaaGreatDoor
open Go.ChangeShapes Go.WideShapes Go.ChangeAt Go.RowKit Go.Lott
theorem containsL_none (a : Option Addr) (c : Nat) (f : Value) (w : World) : Calls Tryz.prog 112 #[.slice a 0 c, f] w (RetS (.bool false) w) := by
  have HI : Hid (∀ W, Calls Tryz.prog 136 #[.slice a 0 c, f] W (RetS (.int .i64 (-1)) W)) := Lib.hid (fun W => by
    go_enter Tryz.func136, Tryz.ntmps136
    go_wp2
    refine wp_loop_rounds 1 ?_
    rw [rounds_succ]
    go_wp2
    go_ret
    exact ⟨rfl, rfl⟩)
  go_enter Tryz.func112, Tryz.ntmps112
  go_wp2_with (go_at_call 136; refine (HI.out _).mono ?_; rintro e w1 ⟨rfl, rfl⟩)
  go_ret
  exact ⟨rfl, rfl⟩
set_option maxHeartbeats 1000000 in
set_option maxRecDepth 100000 in
theorem size1_any (v vm : Value) (x y : Int) (bB bG : Nat) (w : World) (ht : IsTier w v) (hm : IsTwo w vm x y) (hg : Cel w bG #[.string nmB, .int .i64 1, .int .i64 200, .int .i64 2, .int .i64 6, .int .i64 0, .int .i64 0, .int .i64 0, .int .i64 4, .int .i64 4, .int .i64 32, .int .i64 1230, .int .i64 30, .int .i64 15, .int .i64 90, .int .i64 5000, .int .i64 0, .int .i64 1, .int .i64 0, .int .i64 0, .slice none 0 0, v] 27) (hbB : bB < w.heap.size) (hb : w.cell? ⟨bB, 1, none⟩ = some (.bool false)) :
    Calls Tryz.prog 106 #[.agg #[vm, .slice none 0 0], .pointer (some ⟨bB, 0, none⟩), .pointer (some ⟨bG, 0, none⟩)] w (RetB (.tuple #[.int .i64 1, .int .i64 0]) w) := by
  have HX := Lib.hid (Below.alloc (Below.refl w.heap.size w) (Nat.le_refl _) (.cells #[vm, .slice none 0 0] 118))
  have HT := Lib.hid (ht.below HX.out (Nat.le_refl _))
  have HM := Lib.hid (hm.below HX.out (Nat.le_refl _))
  have HG := Lib.hid (hg.alloc (.cells #[vm, .slice none 0 0] 118))
  have HC := Lib.hid fun W (h1 : IsTier W v) (h2 : IsTwo W vm x y) => mcheck_any v vm x y W h1 h2
  obtain ⟨_, _, _, mb, mo, mc, rfl, _⟩ := hm
  clear ht hg
  unfold gameV at *
  go_enter Tryz.func106, Tryz.ntmps106
  go_wp2_with (first
    | (refine wpList_load_row rfl 27 _ rfl bG rfl _ _ _ _ HG.out Tryz.underlying27 rfl (by kernel_rfl) ?_)
    | (go_at_call 108; (with_reducible refine (HC.out _ HT.out HM.out).mono ?_); rintro e w1 ⟨rfl, hb1⟩; replace HX := Lib.hid (HX.out.trans (hb1.mono HX.out.size)); clear hb1))
  go_ret2
  exact ⟨rfl, HX.out⟩
set_option maxHeartbeats 1000000 in
set_option maxRecDepth 100000 in
theorem canonical_any (v vm : Value) (x y : Int) (w : World) (hm : IsTwo w vm x y) : Calls Tryz.prog 109 #[gameV v, .agg #[vm, .slice none 0 0]] w fun e w' => ∃ u, e = .returned (.agg #[u, .slice none 0 0]) ∧ IsTwo w' u x y ∧ Fresh w u ∧ Below w.heap.size w w' := by
  obtain ⟨W1, hW1⟩ : ∃ W1, W1 = ((w.alloc (.cells #[.string nmB, .int .i64 1, .int .i64 200, .int .i64 2, .int .i64 6, .int .i64 0, .int .i64 0, .int .i64 0, .int .i64 4, .int .i64 4, .int .i64 32, .int .i64 1230, .int .i64 30, .int .i64 15, .int .i64 90, .int .i64 5000, .int .i64 0, .int .i64 1, .int .i64 0, .int .i64 0, .slice none 0 0, v] 27)).alloc (.cells #[vm, .slice none 0 0] 118)).alloc (.cells #[.slice none 0 0, .slice none 0 0] 118) := ⟨_, rfl⟩
  have HX := Lib.hid (show Below w.heap.size w W1 by rw [hW1]; exact (((Below.refl _ _).alloc (Nat.le_refl _) _).alloc (by simp) _).alloc (by simp; omega) _)
  have HM := Lib.hid (hm.below HX.out (Nat.le_refl _))
  have HG := Lib.hid (show Cel W1 w.heap.size #[.string nmB, .int .i64 1, .int .i64 200, .int .i64 2, .int .i64 6, .int .i64 0, .int .i64 0, .int .i64 0, .int .i64 4, .int .i64 4, .int .i64 32, .int .i64 1230, .int .i64 30, .int .i64 15, .int .i64 90, .int .i64 5000, .int .i64 0, .int .i64 1, .int .i64 0, .int .i64 0, .slice none 0 0, v] 27 by rw [hW1]; exact ((Cel.new _ _ _).alloc _).alloc _)
  have HL := Lib.hid (show Cel W1 (w.heap.size + 1) #[vm, .slice none 0 0] 118 by
    rw [hW1]
    have := (Cel.new (w.alloc (.cells #[.string nmB, .int .i64 1, .int .i64 200, .int .i64 2, .int .i64 6, .int .i64 0, .int .i64 0, .int .i64 0, .int .i64 4, .int .i64 4, .int .i64 32, .int .i64 1230, .int .i64 30, .int .i64 15, .int .i64 90, .int .i64 5000, .int .i64 0, .int .i64 1, .int .i64 0, .int .i64 0, .slice none 0 0, v] 27)) #[vm, .slice none 0 0] 118).alloc (.cells #[.slice none 0 0, .slice none 0 0] 118)
    simpa using this)
  have HR := Lib.hid (show Cel W1 (w.heap.size + 1 + 1) #[.slice none 0 0, .slice none 0 0] 118 by
    rw [hW1]
    have := Cel.new ((w.alloc (.cells #[.string nmB, .int .i64 1, .int .i64 200, .int .i64 2, .int .i64 6, .int .i64 0, .int .i64 0, .int .i64 0, .int .i64 4, .int .i64 4, .int .i64 32, .int .i64 1230, .int .i64 30, .int .i64 15, .int .i64 90, .int .i64 5000, .int .i64 0, .int .i64 1, .int .i64 0, .int .i64 0, .slice none 0 0, v] 27)).alloc (.cells #[vm, .slice none 0 0] 118)) #[.slice none 0 0, .slice none 0 0] 118
    simpa using this)
  obtain ⟨_, _, _, mb, mo, mc, rfl, _⟩ := hm
  have HW := Lib.hid hW1
  clear hW1
  unfold gameV at *
  go_enter Tryz.func109, Tryz.ntmps109
  go_wp2_with fail
  rw [← HW.out]
  refine (canon_two _ x y _ HM.out).mono ?_
  rintro e w1 ⟨u, rfl, hu, hf, hb1⟩
  have hz : ∀ b, u.ownBlock = some b → w.heap.size + 1 + 1 < b := fun b hb => Nat.lt_of_lt_of_le HR.out.lt (hf b hb)
  replace HR := Lib.hid (HR.out.below hb1 HR.out.lt)
  replace HX := Lib.hid (HX.out.trans (hb1.mono HX.out.size))
  have HU := Lib.hid hu
  obtain ⟨_, _, _, ub, uo, uc, rfl, _⟩ := hu
  have hub : w.heap.size + 1 + 1 < ub := hz ub rfl
  have r0 := HR.out.cell 0
  have r1 := HR.out.cell 1
  have f0 := HR.out.free 0
  have f1 := HR.out.free 1
  have rl := HR.out.lt
  simp at r0 r1
  clear hb1 hf hz HW
  go_wp2
  refine bodyPost_ret (v := .agg #[.slice (some ⟨ub, uo, none⟩) 2 uc, .slice none 0 0]) (by simp [results, Tryz.results109, go_sem, r0, r1]) rfl ⟨_, rfl, (HU.out.st (by show w.heap.size + 1 + 1 ≠ ub; omega) _).st (by show w.heap.size + 1 + 1 ≠ ub; omega) _, fun b hb => (by cases hb; show w.heap.size ≤ ub; omega), ?_⟩
  refine Below.setCell (Below.setCell HX.out ?_ _) ?_ _
  · show w.heap.size ≤ w.heap.size + 1 + 1; omega
  · show w.heap.size ≤ w.heap.size + 1 + 1; omega
/-- A bet of one line of two numbers, for one draw. -/
def IsBet (w : World) (v : Value) (x y : Int) : Prop := ∃ b o c vm, v = .agg #[.slice (some ⟨b, o, none⟩) 1 c, .bool false, .int .i64 1, .int .i64 0] ∧ 1 ≤ c ∧ b < w.heap.size ∧ w.cell? ⟨b, o, none⟩ = some vm ∧ w.cell? ⟨b, o + 1, none⟩ = some (.slice none 0 0) ∧ IsTwo w vm x y
theorem IsBet.below {w w1 : World} {v : Value} {x y : Int} {B : Nat} (h : IsBet w v x y) (hb : Below B w w1) (hB : w.heap.size ≤ B) : IsBet w1 v x y := by
  obtain ⟨b, o, c, vm, h0, h1, h2, h3, h4, h5⟩ := h
  exact ⟨b, o, c, vm, h0, h1, Nat.lt_of_lt_of_le h2 hb.size, (hb.cell (p := ⟨b, o, none⟩) (Nat.lt_of_lt_of_le h2 hB)).trans h3, (hb.cell (p := ⟨b, o + 1, none⟩) (Nat.lt_of_lt_of_le h2 hB)).trans h4, h5.below hb hB⟩
theorem infoL : (Tryz.prog.info? 118).map (fun i => (i.zero, i.size, i.bytes)) = some (some (.agg #[.slice none 0 0, .slice none 0 0]), 2, 48) := by kernel_rfl
theorem make_L1 (w : World) : (Instr.makeSlice 77 (.int .i64 0) (.int .i64 1)).run Tryz.prog w = .ok (.slice (some ⟨w.heap.size, 0, none⟩) 0 1) (w.alloc (.cells #[.slice none 0 0, .slice none 0 0] 118)) := by
  obtain ⟨e0, he0, hz0, hz1, hz2⟩ := info_parts infoL
  have h := run_make (P := Tryz.prog) w 77 118 e0 _ Tryz.underlying77 he0 hz0 .i64 .i64 0 1 (by decide) (by decide) (by rw [hz2]; decide) (by decide)
  rw [h, hz1]
  have e : madeCells (Value.agg #[.slice none 0 0, .slice none 0 0]).cells (Int.toNat 1 * 2) = #[.slice none 0 0, .slice none 0 0] := by kernel_rfl
  rw [e]
  rfl
set_option maxHeartbeats 4000000 in
set_option maxRecDepth 100000 in
theorem bcheck_any (v vb : Value) (x y : Int) (w : World) (ht : IsTier w v) (hb : IsBet w vb x y) : Calls Tryz.prog 77 #[gameV v, vb] w (RetB (.tuple #[.int .i64 1, .int .i64 0]) w) := by
  have HBT := Lib.hid hb
  obtain ⟨b, o, c, vm, rfl, _, _, _, _, hm⟩ := hb
  clear hm
  obtain ⟨W1, hW1⟩ : ∃ W1, W1 = (w.alloc (.cells #[.string nmB, .int .i64 1, .int .i64 200, .int .i64 2, .int .i64 6, .int .i64 0, .int .i64 0, .int .i64 0, .int .i64 4, .int .i64 4, .int .i64 32, .int .i64 1230, .int .i64 30, .int .i64 15, .int .i64 90, .int .i64 5000, .int .i64 0, .int .i64 1, .int .i64 0, .int .i64 0, .slice none 0 0, v] 27)).alloc (.cells #[.slice (some ⟨b, o, none⟩) 1 c, .bool false, .int .i64 1, .int .i64 0] 79) := ⟨_, rfl⟩
  have HX := Lib.hid (show Below w.heap.size w W1 by rw [hW1]; exact ((Below.refl _ _).alloc (Nat.le_refl _) _).alloc (by simp) _)
  have HG := Lib.hid (show Cel W1 w.heap.size #[.string nmB, .int .i64 1, .int .i64 200, .int .i64 2, .int .i64 6, .int .i64 0, .int .i64 0, .int .i64 0, .int .i64 4, .int .i64 4, .int .i64 32, .int .i64 1230, .int .i64 30, .int .i64 15, .int .i64 90, .int .i64 5000, .int .i64 0, .int .i64 1, .int .i64 0, .int .i64 0, .slice none 0 0, v] 27 by rw [hW1]; exact (Cel.new _ _ _).alloc _)
  have HL := Lib.hid (show Cel W1 (w.heap.size + 1) #[.slice (some ⟨b, o, none⟩) 1 c, .bool false, .int .i64 1, .int .i64 0] 79 by
    rw [hW1]
    have := (Cel.new (w.alloc (.cells #[.string nmB, .int .i64 1, .int .i64 200, .int .i64 2, .int .i64 6, .int .i64 0, .int .i64 0, .int .i64 0, .int .i64 4, .int .i64 4, .int .i64 32, .int .i64 1230, .int .i64 30, .int .i64 15, .int .i64 90, .int .i64 5000, .int .i64 0, .int .i64 1, .int .i64 0, .int .i64 0, .slice none 0 0, v] 27)) #[.slice (some ⟨b, o, none⟩) 1 c, .bool false, .int .i64 1, .int .i64 0] 79)
    simpa using this)
  have HT := Lib.hid (ht.below HX.out (Nat.le_refl _))
  replace HBT := Lib.hid (HBT.out.below HX.out (Nat.le_refl _))
  have HW := Lib.hid hW1
  have HG0 := Lib.hid ((Cel.new w #[.string nmB, .int .i64 1, .int .i64 200, .int .i64 2, .int .i64 6, .int .i64 0, .int .i64 0, .int .i64 0, .int .i64 4, .int .i64 4, .int .i64 32, .int .i64 1230, .int .i64 30, .int .i64 15, .int .i64 90, .int .i64 5000, .int .i64 0, .int .i64 1, .int .i64 0, .int .i64 0, .slice none 0 0, v] 27).alloc (.cells #[.slice (some ⟨b, o, none⟩) 1 c, .bool false, .int .i64 1, .int .i64 0] 79))
  have hmk := make_L1
  have HCN := Lib.hid fun W (h : IsTier W v) => count_any v W h
  have HCA := Lib.hid fun W vm (h : IsTwo W vm x y) => canonical_any v vm x y W h
  clear hW1 ht
  unfold gameV at *
  go_enter Tryz.func77, Tryz.ntmps77
  go_wp2_with (first
    | (refine wpList_load_row rfl 27 _ rfl w.heap.size rfl _ _ _ _ HG0.out Tryz.underlying27 rfl (by kernel_rfl) ?_)
    | ((rw [← HW.out]; go_at_call 63); (with_reducible refine (HCN.out _ HT.out).mono ?_)
       rintro e w1 ⟨rfl, hb1⟩
       replace HX := Lib.hid (HX.out.trans (hb1.mono HX.out.size))
       replace HT := Lib.hid (HT.out.below hb1 (Nat.le_refl _))
       replace HBT := Lib.hid (HBT.out.below hb1 (Nat.le_refl _))
       replace HG := Lib.hid (HG.out.below hb1 HG.out.lt)
       replace HL := Lib.hid (HL.out.below hb1 HL.out.lt)
       have l0 := HL.out.cell 0
       have l1 := HL.out.cell 1
       have ll := HL.out.lt
       have gl := HG.out.lt
       simp at l0 l1
       clear hb1))
  obtain ⟨W2, hW2⟩ : ∃ W2, W2 = w1.alloc (.cells #[.slice none 0 0, .slice none 0 0] 118) := ⟨_, rfl⟩
  have hal : Below w1.heap.size w1 W2 := by rw [hW2]; exact (Below.refl _ _).alloc (Nat.le_refl _) _
  replace HX := Lib.hid (HX.out.trans (hal.mono HX.out.size))
  replace HT := Lib.hid (HT.out.below hal (Nat.le_refl _))
  replace HBT := Lib.hid (HBT.out.below hal (Nat.le_refl _))
  replace HG := Lib.hid (HG.out.below hal HG.out.lt)
  replace HL := Lib.hid (HL.out.below hal HL.out.lt)
  have HE := Lib.hid (show Cel W2 w1.heap.size #[.slice none 0 0, .slice none 0 0] 118 by rw [hW2]; exact Cel.new _ _ _)
  rw [← hW2]
  obtain ⟨b1, o1, c1, vm1, heq, hc1, hbl, hv, hn, hm⟩ := HBT.out
  cases heq
  have HM := Lib.hid hm
  obtain ⟨_, _, _, mb, mo, mc, rfl, _⟩ := hm
  have HN := Lib.hid (And.intro hbl (And.intro hv hn))
  have hgl : w.heap.size < w1.heap.size := gl
  clear l0 l1 ll gl hal hW2 HW HG0
  refine wp_loop_rounds 2 ?_
  rw [rounds_succ]
  go_wp2_with fail
  obtain ⟨W3, hW3⟩ : ∃ W3, W3 = W2.alloc (.cells #[.slice (some ⟨mb, mo, none⟩) 2 mc, .slice none 0 0] 118) := ⟨_, rfl⟩
  have hb1 : Below W2.heap.size W2 W3 := by rw [hW3]; exact (Below.refl _ _).alloc (Nat.le_refl _) _
  have HK := Lib.hid (show Cel W3 W2.heap.size #[.slice (some ⟨mb, mo, none⟩) 2 mc, .slice none 0 0] 118 by rw [hW3]; exact Cel.new _ _ _)
  replace HX := Lib.hid (HX.out.trans (hb1.mono HX.out.size))
  replace HG := Lib.hid (HG.out.below hb1 HG.out.lt)
  replace HL := Lib.hid (HL.out.below hb1 HL.out.lt)
  replace HE := Lib.hid (HE.out.below hb1 HE.out.lt)
  replace HT := Lib.hid (HT.out.below hb1 (Nat.le_refl _))
  replace HM := Lib.hid (HM.out.below hb1 (Nat.le_refl _))
  rw [← hW3]
  clear hb1 hW3
  refine (size1_any v _ x y (w.heap.size + 1) w.heap.size _ HT.out HM.out HG.out HL.out.lt (HL.out.cell 1)).mono ?_
  rintro e w4 ⟨rfl, hb1⟩
  replace HX := Lib.hid (HX.out.trans (hb1.mono HX.out.size))
  replace HG := Lib.hid (HG.out.below hb1 HG.out.lt)
  replace HL := Lib.hid (HL.out.below hb1 HL.out.lt)
  replace HE := Lib.hid (HE.out.below hb1 HE.out.lt)
  replace HK := Lib.hid (HK.out.below hb1 HK.out.lt)
  replace HM := Lib.hid (HM.out.below hb1 (Nat.le_refl _))
  have k0 := HK.out.cell 0
  have k1 := HK.out.cell 1
  have kl := HK.out.lt
  simp at k0 k1
  clear hb1
  go_wp2_with (first
    | (refine wpList_load_row rfl 27 _ rfl w.heap.size rfl _ _ _ _ HG.out Tryz.underlying27 rfl (by kernel_rfl) ?_)
    | (go_at_call 109; (with_reducible refine (HCA.out _ _ HM.out).mono ?_)
       rintro e w5 ⟨u, rfl, hu, hfu, hb1⟩
       have HFU := Lib.hid (show ∀ b, u.ownBlock = some b → w4.heap.size ≤ b from hfu)
       replace HX := Lib.hid (HX.out.trans (hb1.mono HX.out.size))
       replace HG := Lib.hid (HG.out.below hb1 HG.out.lt)
       replace HL := Lib.hid (HL.out.below hb1 HL.out.lt)
       have hEK := Nat.lt_of_lt_of_le HE.out.lt hb1.size
       replace HE := Lib.hid (HE.out.below hb1 HE.out.lt)
       obtain ⟨_, _, _, ub, uo, uc, rfl, _⟩ := hu
       clear hb1 hfu k0 k1 kl
       have e0 := HE.out.cell 0
       have e1 := HE.out.cell 1
       have f0 := HE.out.free 0
       have f1 := HE.out.free 1
       have el := HE.out.lt
       have l2 := HL.out.cell 2
       have l3 := HL.out.cell 3
       have ll := HL.out.lt
       have g8 := HG.out.cell 8
       have g20 := HG.out.cell 20
       have gl := HG.out.lt
       simp at e0 e1 l2 l3 g8 g20)
    | (go_at_call 112; (with_reducible refine (containsL_none _ _ _ _).mono ?_); rintro e w' ⟨rfl, rfl⟩))
  rw [rounds_succ]
  go_wp2
  go_ret2
  have hs := HX.out.size
  refine ⟨rfl, Below.alloc (Below.alloc (Below.setCell (Below.setCell HX.out ?_ _) ?_ _) ?_ _) ?_ _⟩
  · show w.heap.size ≤ w1.heap.size; omega
  · show w.heap.size ≤ w1.heap.size; omega
  · simpa [World.setCell] using hs
  · simp [World.setCell]; omega
theorem BCheck_any (v vb : Value) (x y : Int) (w : World) (ht : IsTier w v) (hb : IsBet w vb x y) : Calls Tryz.prog 51 #[gameV v, vb] w (RetB (.int .i64 0) w) := by
  have hX1 := (Below.alloc (Below.refl w.heap.size w) (Nat.le_refl _) (.cells #[.string nmB, .int .i64 1, .int .i64 200, .int .i64 2, .int .i64 6, .int .i64 0, .int .i64 0, .int .i64 0, .int .i64 4, .int .i64 4, .int .i64 32, .int .i64 1230, .int .i64 30, .int .i64 15, .int .i64 90, .int .i64 5000, .int .i64 0, .int .i64 1, .int .i64 0, .int .i64 0, .slice none 0 0, v] 27))
  have HBT := Lib.hid hb
  have HT := Lib.hid ht
  obtain ⟨b, o, c, vm, rfl, _, _, _, _, hm⟩ := hb
  clear hm
  have HX := Lib.hid (hX1.alloc hX1.size (.cells #[.slice (some ⟨b, o, none⟩) 1 c, .bool false, .int .i64 1, .int .i64 0] 79))
  have HG0 := Lib.hid ((Cel.new w #[.string nmB, .int .i64 1, .int .i64 200, .int .i64 2, .int .i64 6, .int .i64 0, .int .i64 0, .int .i64 0, .int .i64 4, .int .i64 4, .int .i64 32, .int .i64 1230, .int .i64 30, .int .i64 15, .int .i64 90, .int .i64 5000, .int .i64 0, .int .i64 1, .int .i64 0, .int .i64 0, .slice none 0 0, v] 27).alloc (.cells #[.slice (some ⟨b, o, none⟩) 1 c, .bool false, .int .i64 1, .int .i64 0] 79))
  have HC := Lib.hid fun W vb (h1 : IsTier W v) (h2 : IsBet W vb x y) => bcheck_any v vb x y W h1 h2
  clear hX1 ht
  unfold gameV at *
  go_enter Tryz.func51, Tryz.ntmps51
  go_wp2_with (first
    | (refine wpList_load_row rfl 27 _ rfl w.heap.size rfl _ _ _ _ HG0.out Tryz.underlying27 rfl (by kernel_rfl) ?_)
    | (go_at_call 77; (with_reducible refine (HC.out _ _ (HT.out.below HX.out (Nat.le_refl _)) (HBT.out.below HX.out (Nat.le_refl _))).mono ?_); rintro e w1 ⟨rfl, hb1⟩; replace HX := Lib.hid (HX.out.trans (hb1.mono HX.out.size)); clear hb1))
  go_ret
  exact ⟨rfl, HX.out⟩
end Go.Proofs.YtnnocbelgfhecaaGreatDoor
/- The price of a bet of the game. -/
set_option linter.unusedSimpArgs false
namespace Go.Proofs.YtnnocbelgfhecaaGreatDoor
open Go.ChangeShapes Go.WideShapes Go.ChangeAt Go.RowKit Go.Lott
theorem mul200 (w : World) : Calls Tryz.prog 68 #[.int .i64 200, .int .i64 1] w (RetS (.tuple #[.int .i64 200, .int .i64 0]) w) := mul_in 200 1 200 w (by decide) (by decide) (by decide) (by decide) (by decide) (by decide)
set_option maxHeartbeats 2000000 in
set_option maxRecDepth 100000 in
theorem stake_any (v vb : Value) (x y : Int) (w : World) (ht : IsTier w v) (hb : IsBet w vb x y) : Calls Tryz.prog 67 #[gameV v, vb] w (RetB (.tuple #[.int .i64 200, .int .i64 0, .int .i64 0]) w) := by
  have hX1 := (Below.alloc (Below.refl w.heap.size w) (Nat.le_refl _) (.cells #[.string nmB, .int .i64 1, .int .i64 200, .int .i64 2, .int .i64 6, .int .i64 0, .int .i64 0, .int .i64 0, .int .i64 4, .int .i64 4, .int .i64 32, .int .i64 1230, .int .i64 30, .int .i64 15, .int .i64 90, .int .i64 5000, .int .i64 0, .int .i64 1, .int .i64 0, .int .i64 0, .slice none 0 0, v] 27))
  have HBT := Lib.hid hb
  have HT := Lib.hid ht
  obtain ⟨b, o, c, vm, rfl, _, _, _, _, hm⟩ := hb
  clear hm
  have HX := Lib.hid (hX1.alloc hX1.size (.cells #[.slice (some ⟨b, o, none⟩) 1 c, .bool false, .int .i64 1, .int .i64 0] 79))
  have HG := Lib.hid ((Cel.new w #[.string nmB, .int .i64 1, .int .i64 200, .int .i64 2, .int .i64 6, .int .i64 0, .int .i64 0, .int .i64 0, .int .i64 4, .int .i64 4, .int .i64 32, .int .i64 1230, .int .i64 30, .int .i64 15, .int .i64 90, .int .i64 5000, .int .i64 0, .int .i64 1, .int .i64 0, .int .i64 0, .slice none 0 0, v] 27).alloc (.cells #[.slice (some ⟨b, o, none⟩) 1 c, .bool false, .int .i64 1, .int .i64 0] 79))
  have HL := Lib.hid (show Cel ((w.alloc (.cells #[.string nmB, .int .i64 1, .int .i64 200, .int .i64 2, .int .i64 6, .int .i64 0, .int .i64 0, .int .i64 0, .int .i64 4, .int .i64 4, .int .i64 32, .int .i64 1230, .int .i64 30, .int .i64 15, .int .i64 90, .int .i64 5000, .int .i64 0, .int .i64 1, .int .i64 0, .int .i64 0, .slice none 0 0, v] 27)).alloc (.cells #[.slice (some ⟨b, o, none⟩) 1 c, .bool false, .int .i64 1, .int .i64 0] 79)) (w.heap.size + 1) #[.slice (some ⟨b, o, none⟩) 1 c, .bool false, .int .i64 1, .int .i64 0] 79 by
    have := (Cel.new (w.alloc (.cells #[.string nmB, .int .i64 1, .int .i64 200, .int .i64 2, .int .i64 6, .int .i64 0, .int .i64 0, .int .i64 0, .int .i64 4, .int .i64 4, .int .i64 32, .int .i64 1230, .int .i64 30, .int .i64 15, .int .i64 90, .int .i64 5000, .int .i64 0, .int .i64 1, .int .i64 0, .int .i64 0, .slice none 0 0, v] 27)) #[.slice (some ⟨b, o, none⟩) 1 c, .bool false, .int .i64 1, .int .i64 0] 79)
    simpa using this)
  replace HT := Lib.hid (HT.out.below HX.out (Nat.le_refl _))
  replace HBT := Lib.hid (HBT.out.below HX.out (Nat.le_refl _))
  clear hX1 ht
  have HC := Lib.hid fun W vb (h1 : IsTier W v) (h2 : IsBet W vb x y) => bcheck_any v vb x y W h1 h2
  unfold gameV at *
  go_enter Tryz.func67, Tryz.ntmps67
  go_wp2_with (first
    | (refine wpList_load_row rfl 27 _ rfl w.heap.size rfl _ _ _ _ HG.out Tryz.underlying27 rfl (by kernel_rfl) ?_)
    | (go_at_call 77; (with_reducible refine (HC.out _ _ HT.out HBT.out).mono ?_)
       rintro e w1 ⟨rfl, hb1⟩
       replace HX := Lib.hid (HX.out.trans (hb1.mono HX.out.size))
       replace HG := Lib.hid (HG.out.below hb1 HG.out.lt)
       replace HL := Lib.hid (HL.out.below hb1 HL.out.lt)
       have g2 := HG.out.cell 2
       have g20 := HG.out.cell 20
       have gl := HG.out.lt
       have l3 := HL.out.cell 3
       have ll := HL.out.lt
       simp at g2 g20 l3
       clear hb1)
    | (go_at_call 68; (with_reducible refine (mul200 _).mono ?_); rintro e w' ⟨rfl, rfl⟩))
  refine wp_loop_rounds 1 ?_
  rw [rounds_succ]
  go_wp2
  refine bodyPost_ret (results_tmp3 rfl _ _ _) rfl ?_
  exact ⟨rfl, HX.out⟩
set_option maxHeartbeats 2000000 in
set_option maxRecDepth 100000 in
theorem price_any (v vb : Value) (x y : Int) (w : World) (ht : IsTier w v) (hb : IsBet w vb x y) : Calls Tryz.prog 43 #[gameV v, vb] w (RetB (.tuple #[.int .i64 200, .int .i64 0]) w) := by
  have hX1 := (Below.alloc (Below.refl w.heap.size w) (Nat.le_refl _) (.cells #[.string nmB, .int .i64 1, .int .i64 200, .int .i64 2, .int .i64 6, .int .i64 0, .int .i64 0, .int .i64 0, .int .i64 4, .int .i64 4, .int .i64 32, .int .i64 1230, .int .i64 30, .int .i64 15, .int .i64 90, .int .i64 5000, .int .i64 0, .int .i64 1, .int .i64 0, .int .i64 0, .slice none 0 0, v] 27))
  have HBT := Lib.hid hb
  have HT := Lib.hid ht
  obtain ⟨b, o, c, vm, rfl, _, _, _, _, hm⟩ := hb
  clear hm
  have HX := Lib.hid (hX1.alloc hX1.size (.cells #[.slice (some ⟨b, o, none⟩) 1 c, .bool false, .int .i64 1, .int .i64 0] 79))
  have HG := Lib.hid ((Cel.new w #[.string nmB, .int .i64 1, .int .i64 200, .int .i64 2, .int .i64 6, .int .i64 0, .int .i64 0, .int .i64 0, .int .i64 4, .int .i64 4, .int .i64 32, .int .i64 1230, .int .i64 30, .int .i64 15, .int .i64 90, .int .i64 5000, .int .i64 0, .int .i64 1, .int .i64 0, .int .i64 0, .slice none 0 0, v] 27).alloc (.cells #[.slice (some ⟨b, o, none⟩) 1 c, .bool false, .int .i64 1, .int .i64 0] 79))
  have HL := Lib.hid (show Cel ((w.alloc (.cells #[.string nmB, .int .i64 1, .int .i64 200, .int .i64 2, .int .i64 6, .int .i64 0, .int .i64 0, .int .i64 0, .int .i64 4, .int .i64 4, .int .i64 32, .int .i64 1230, .int .i64 30, .int .i64 15, .int .i64 90, .int .i64 5000, .int .i64 0, .int .i64 1, .int .i64 0, .int .i64 0, .slice none 0 0, v] 27)).alloc (.cells #[.slice (some ⟨b, o, none⟩) 1 c, .bool false, .int .i64 1, .int .i64 0] 79)) (w.heap.size + 1) #[.slice (some ⟨b, o, none⟩) 1 c, .bool false, .int .i64 1, .int .i64 0] 79 by
    have := (Cel.new (w.alloc (.cells #[.string nmB, .int .i64 1, .int .i64 200, .int .i64 2, .int .i64 6, .int .i64 0, .int .i64 0, .int .i64 0, .int .i64 4, .int .i64 4, .int .i64 32, .int .i64 1230, .int .i64 30, .int .i64 15, .int .i64 90, .int .i64 5000, .int .i64 0, .int .i64 1, .int .i64 0, .int .i64 0, .slice none 0 0, v] 27)) #[.slice (some ⟨b, o, none⟩) 1 c, .bool false, .int .i64 1, .int .i64 0] 79)
    simpa using this)
  replace HT := Lib.hid (HT.out.below HX.out (Nat.le_refl _))
  replace HBT := Lib.hid (HBT.out.below HX.out (Nat.le_refl _))
  clear hX1 ht
  have HC := Lib.hid fun W vb (h1 : IsTier W v) (h2 : IsBet W vb x y) => stake_any v vb x y W h1 h2
  unfold gameV at *
  go_enter Tryz.func43, Tryz.ntmps43
  go_wp2_with (first
    | (refine wpList_load_row rfl 27 _ rfl w.heap.size rfl _ _ _ _ HG.out Tryz.underlying27 rfl (by kernel_rfl) ?_)
    | (go_at_call 67; (with_reducible refine (HC.out _ _ HT.out HBT.out).mono ?_)
       rintro e w1 ⟨rfl, hb1⟩
       replace HX := Lib.hid (HX.out.trans (hb1.mono HX.out.size))
       replace HL := Lib.hid (HL.out.below hb1 HL.out.lt)
       have l2 := HL.out.cell 2
       have ll := HL.out.lt
       simp at l2
       clear hb1)
    | (go_at_call 68; (with_reducible refine (mul200 _).mono ?_); rintro e w' ⟨rfl, rfl⟩))
  go_ret2
  exact ⟨rfl, HX.out⟩
end Go.Proofs.YtnnocbelgfhecaaGreatDoor
