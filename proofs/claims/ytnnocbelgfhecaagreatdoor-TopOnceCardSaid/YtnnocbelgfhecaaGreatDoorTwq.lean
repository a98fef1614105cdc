/- The terminals: sellOnline. -/
import Derived.Test.YtnnocbelgfhecaaGreatDoorTwo
import Derived.Laws.ResultCell
import Derived.Great.BuildSlice
import Derived.Test.YtnnocbelgfhecaaGreatDoorTwn
set_option linter.unusedSimpArgs false
namespace Go.Proofs.YtnnocbelgfhecaaGreatDoor
open Go.ChangeShapes Go.WideShapes Go.ChangeAt Go.RowKit Go.Lott
theorem results_row_tmp {P : Program} {fn : Func} {p u : Tmp} {ty : TypeId} (h : fn.results = #[.cell p ty, .tmp u]) (tmps : Array Value) (w : World) (g : Nat) (t : TypeId) (cs : Array Value) (fr : Nat × Nat) (d : TypeDesc)
    (hp : tmps.getD p undef = .pointer (some ⟨g, 0, none⟩)) (hg : w.heap[g]? = some (.cells cs t fr)) (hu : P.underlying ty = some d) (hd : (match d with | .struct _ | .array _ _ => true | _ => false) = true) (hi : (P.info? ty).map (·.size) = some cs.size) :
    (results fn tmps).run P w = .ok (.tuple #[.agg cs, tmps.getD u undef]) w := by
  rw [results_cell_tmp h, hp]
  simp [asAddr, run_loadVar_row w g t ty cs fr d hg hu hd hi]
section
variable {w : World} {B p m c gb gc pm q id : Nat} {τ σ : Rl} {key : Int} {v tv : Value} {ls : List (Tp.Tk × Value)} {U : Nat → Int → Prop} {cs : Array Value} {gs gm : Nat → Nat} {D : DataW Unit}
set_option maxHeartbeats 4000000 in
set_option maxRecDepth 100000 in
theorem teOn_any (h : RObj w B τ p key v ls m c U cs gb gc pm tv gs gm D) (hl : Lv B w) (t : Tp.Tk) (ht : TkOk t) (hU : ¬ U t.tm t.sq) (hm : m ≤ 1000) (hcc : c ≤ 1000) (hll : ls.length ≤ 1000) (g : Value) (on : Bool) (wv pv : Value)
    (hq : Cel w q (teC q t.tm key t.sq on wv pv) 73) (hτ : τ q = none) :
    Calls Tryz.prog 40 #[.pointer (some ⟨q, 0, none⟩), .pointer (some ⟨p, 0, none⟩), .agg (gcs g), .string (tx t.x t.y), .int .i64 0, .int .i64 t.at_] w fun e w' => e = .returned (.tuple #[rcV key t, .int .i64 0]) ∧ ∃ τ' u cs' tv' D',
      RObj w' B τ' p key v (ls ++ [(t, u)]) (m + 1) (c + 1) (fun j q => U j q ∨ (j = t.tm ∧ q = t.sq)) cs' gb gc pm tv' gs gm D' ∧ Fr τ w w' ∧ Gr τ τ' w.heap.size := by
  obtain ⟨W1, hW1⟩ : ∃ W1, W1 = (w.alloc (.cells (gcs g) 27)).alloc (.cells #[.string ⟨#[]⟩, .string ⟨#[]⟩, .string ⟨#[]⟩, .int .i64 0, .int .i64 0, .int .i64 0, .int .u64 0] 44) := ⟨_, rfl⟩
  have hX : Below w.heap.size w W1 := by rw [hW1]; exact ((Below.refl _ _).alloc (Nat.le_refl _) _).alloc (by simp) _
  have HG := Lib.hid (show Cel W1 w.heap.size (gcs g) 27 by rw [hW1]; exact (Cel.new _ _ _).alloc _)
  have HR := Lib.hid (show Cel W1 (w.heap.size + 1) #[.string ⟨#[]⟩, .string ⟨#[]⟩, .string ⟨#[]⟩, .int .i64 0, .int .i64 0, .int .i64 0, .int .u64 0] 44 by
    rw [hW1]
    have := Cel.new (w.alloc (.cells (gcs g) 27)) #[.string ⟨#[]⟩, .string ⟨#[]⟩, .string ⟨#[]⟩, .int .i64 0, .int .i64 0, .int .i64 0, .int .u64 0] 44
    simpa using this)
  have HQ := Lib.hid (hq.below hX hq.lt)
  have HLOW := Lib.hid (show ∀ b, τ b ≠ none → B ≤ b ∧ b < w.heap.size from h.low)
  have hBw : B ≤ w.heap.size := Nat.le_trans (h.low p (by rw [h.tp]; simp)).1 (Nat.le_of_lt (h.low p (by rw [h.tp]; simp)).2)
  have HO := Lib.hid (h.below hX)
  have HLV := Lib.hid (hl.below (hX.mono hBw))
  have HSE := Lib.hid (fun W hO hL => sell_any (w := W) (B := B) (τ := τ) (p := p) (key := key) (v := v) (ls := ls) (m := m) (c := c) (U := U) (cs := cs) (gb := gb) (gc := gc) (pm := pm) (tv := tv) (gs := gs) (gm := gm) (D := D) hO hL t ht.m1 ht.m2 ht.s1 ht.s2 hU hm hcc hll ht.x1 ht.xy ht.y2 ht.at_)
  have HX := Lib.hid hX
  have HW := Lib.hid hW1
  have HTQ := Lib.hid hτ
  have HNQ := Lib.hid (show ¬ w.heap.size ≤ q from by have := hq.lt; omega)
  have HT0 := Lib.hid (show τ w.heap.size = none from Classical.byContradiction fun c => by have := (HLOW.out _ c).2; omega)
  have HT1 := Lib.hid (show τ (w.heap.size + 1) = none from Classical.byContradiction fun c => by have := (HLOW.out _ c).2; omega)
  clear h hl hX hW1 hq hU hτ
  go_enter Tryz.func40, Tryz.ntmps40
  go_wp2_with fail
  rw [← HW.out]
  have hS : W1.cell? ⟨w.heap.size, 0, none⟩ = some (.string nmB) ∧ W1.cell? ⟨q, 0, none⟩ = some (.int .i64 t.tm) ∧ W1.cell? ⟨q, 2, none⟩ = some (.int .i64 t.sq) := ⟨HG.out.cell 0, HQ.out.cell 0, HQ.out.cell 2⟩
  have HSS := Lib.hid hS
  clear hS HW
  refine wp_region_held_drew (S := fun y => y.cell? ⟨w.heap.size, 0, none⟩ = some (.string nmB) ∧ y.cell? ⟨q, 0, none⟩ = some (.int .i64 t.tm) ∧ y.cell? ⟨q, 2, none⟩ = some (.int .i64 t.sq)) (by kernel_rfl) HSS.out (fun hHeld => ?_)
  refine wpAnyH_take (i := 0) (oi := _) (v := ?_) rfl (by kernel_rfl) (by kernel_rfl) (by kernel_rfl) (fun _ _ _ h => h) (Or.inl ⟨by rfl, ?_⟩) (by assumption) ?_
  rotate_left
  · (intro w hSw; (try dsimp only at hSw); go_simp; (try with_reducible rfl))
  simp only [Act.put, List.setIfInBounds_toArray, List.set_cons_zero, List.set_cons_succ]
  refine wpAnyH_take (i := 1) (oi := _) (v := ?_) rfl (by kernel_rfl) (by kernel_rfl) (by kernel_rfl) (fun _ _ _ h => h) (Or.inl ⟨by rfl, ?_⟩) (by assumption) ?_
  rotate_left
  · (intro w hSw; (try dsimp only at hSw); go_simp; (try with_reducible rfl))
  simp only [Act.put, List.setIfInBounds_toArray, List.set_cons_zero, List.set_cons_succ]
  refine wpAnyH_take (i := 2) (oi := _) (v := ?_) rfl (by kernel_rfl) (by kernel_rfl) (by kernel_rfl) (fun _ _ _ h => h) (Or.inl ⟨by rfl, ?_⟩) (by assumption) ?_
  rotate_left
  · (intro w hSw; (try dsimp only at hSw); go_simp; (try with_reducible rfl))
  simp only [Act.put, List.setIfInBounds_toArray, List.set_cons_zero, List.set_cons_succ]
  refine wpAnyH_take (i := 3) (oi := _) (v := ?_) rfl (by kernel_rfl) (by kernel_rfl) (by kernel_rfl) (fun _ _ _ h => h) (Or.inl ⟨by rfl, ?_⟩) (by assumption) ?_
  rotate_left
  · (intro w hSw; (try dsimp only at hSw); go_simp; (try with_reducible rfl))
  simp only [Act.put, List.setIfInBounds_toArray, List.set_cons_zero, List.set_cons_succ]
  refine wpAnyH_take (i := 4) (oi := _) (v := ?_) rfl (by kernel_rfl) (by kernel_rfl) (by kernel_rfl) (fun _ _ _ h => h) (Or.inl ⟨by rfl, ?_⟩) (by assumption) ?_
  rotate_left
  · (intro w hSw; (try dsimp only at hSw); go_simp; (try with_reducible rfl))
  simp only [Act.put, List.setIfInBounds_toArray, List.set_cons_zero, List.set_cons_succ]
  refine wpAnyH_take (i := 5) (oi := _) (v := ?_) rfl (by kernel_rfl) (by kernel_rfl) (by kernel_rfl) (fun _ _ _ h => h) (Or.inl ⟨by rfl, ?_⟩) (by assumption) ?_
  rotate_left
  · (intro w hSw; (try dsimp only at hSw); go_simp; (try with_reducible rfl))
  simp only [Act.put, List.setIfInBounds_toArray, List.set_cons_zero, List.set_cons_succ]
  refine wpAnyH_take (i := 6) (oi := _) (v := ?_) rfl (by kernel_rfl) (by kernel_rfl) (by kernel_rfl) (fun _ _ _ h => h) (Or.inl ⟨by rfl, ?_⟩) (by assumption) ?_
  rotate_left
  · (intro w hSw; (try dsimp only at hSw); go_simp; (try with_reducible rfl))
  simp only [Act.put, List.setIfInBounds_toArray, List.set_cons_zero, List.set_cons_succ]
  refine wpAnyH_take (i := 7) (oi := _) (v := ?_) rfl (by kernel_rfl) (by kernel_rfl) (by kernel_rfl) (fun _ _ _ h => h) (Or.inl ⟨by rfl, ?_⟩) (by assumption) ?_
  rotate_left
  · (intro w hSw; (try dsimp only at hSw); go_simp; (try with_reducible rfl))
  simp only [Act.put, List.setIfInBounds_toArray, List.set_cons_zero, List.set_cons_succ]
  refine wpAnyH_take (i := 8) (oi := _) (v := ?_) rfl (by kernel_rfl) (by kernel_rfl) (by kernel_rfl) (fun _ _ _ h => h) (Or.inl ⟨by rfl, ?_⟩) (by assumption) ?_
  rotate_left
  · (intro w hSw; (try dsimp only at hSw); go_simp; (try with_reducible rfl))
  simp only [Act.put, List.setIfInBounds_toArray, List.set_cons_zero, List.set_cons_succ]
  refine wpAnyH_take (i := 9) (oi := _) (v := ?_) rfl (by kernel_rfl) (by kernel_rfl) (by kernel_rfl) (fun _ _ _ h => h) (Or.inl ⟨by rfl, ?_⟩) (by assumption) ?_
  rotate_left
  · (intro w hSw; (try dsimp only at hSw); go_simp; (try with_reducible rfl))
  simp only [Act.put, List.setIfInBounds_toArray, List.set_cons_zero, List.set_cons_succ]
  refine wpAnyH_take (i := 10) (oi := _) (v := ?_) rfl (by kernel_rfl) (by kernel_rfl) (by kernel_rfl) (fun _ _ _ h => h) (Or.inl ⟨by rfl, ?_⟩) (by assumption) ?_
  rotate_left
  · (intro w hSw; (try dsimp only at hSw); go_simp; (try with_reducible rfl))
  simp only [Act.put, List.setIfInBounds_toArray, List.set_cons_zero, List.set_cons_succ]
  refine wpAnyH_take (i := 11) (oi := _) (v := ?_) rfl (by kernel_rfl) (by kernel_rfl) (by kernel_rfl) (fun _ _ _ h => h) (Or.inl ⟨by rfl, ?_⟩) (by assumption) ?_
  rotate_left
  · (intro w hSw; (try dsimp only at hSw); go_simp; (try with_reducible rfl))
  simp only [Act.put, List.setIfInBounds_toArray, List.set_cons_zero, List.set_cons_succ]
  refine wpAnyH_take (i := 12) (oi := _) (v := ?_) rfl (by kernel_rfl) (by kernel_rfl) (by kernel_rfl) (fun _ _ _ h => h) (Or.inl ⟨by rfl, ?_⟩) (by assumption) ?_
  rotate_left
  · (intro w hSw; (try dsimp only at hSw); go_simp; (try with_reducible rfl))
  simp only [Act.put, List.setIfInBounds_toArray, List.set_cons_zero, List.set_cons_succ]
  refine wpAnyH_take (i := 13) (oi := _) (v := ?_) rfl (by kernel_rfl) (by kernel_rfl) (by kernel_rfl) (fun _ _ _ h => h) (Or.inl ⟨by rfl, ?_⟩) (by assumption) ?_
  rotate_left
  · (intro w hSw; (try dsimp only at hSw); go_simp; (try with_reducible rfl))
  simp only [Act.put, List.setIfInBounds_toArray, List.set_cons_zero, List.set_cons_succ]
  refine wpAnyH_ready (rs := [14]) (by kernel_rfl) (by simp) ?_
  refine AllReadyH.cons (o := _) rfl (fun K2 hK => ?_) AllReadyH.nil
  go_simp
  refine (HSE.out _ (HO.out.below (Below.refl _ _).drew) (HLV.out.below (Below.refl _ _).drew)).mono ?_
  rintro e w2 ⟨τ', u, cs', tv', D', rfl, h7, hf7, hg7⟩
  have HG2 := Lib.hid (HG.out.drew.fr hf7 HT0.out)
  have HQ2 := Lib.hid (HQ.out.drew.fr hf7 HTQ.out)
  have HR2 := Lib.hid (HR.out.drew.fr hf7 HT1.out)
  have H7 := Lib.hid h7
  have HF7 := Lib.hid (show Fr τ w w2 from ((Fr.of_below HX.out).trans (Gr.refl _ _) (Fr.of_below ((Below.refl W1.heap.size W1).drew))).trans (Gr.refl _ _) hf7)
  have HG7 := Lib.hid (show Gr τ τ' W1.heap.size from hg7)
  have HRL := Lib.hid (show w.heap.size + 1 < W1.heap.size from HR.out.lt)
  have HX1 := Lib.hid (show τ' (w.heap.size + 1) = none from Classical.byContradiction fun hc => by
    rcases HG7.out _ hc with d | d
    · exact d HT1.out
    · have := HRL.out; omega)
  have HQL := Lib.hid (show q ≠ w.heap.size + 1 from fun e => HNQ.out (by rw [e]; omega))
  clear h7 hf7 hg7
  unfold rcV rcpV
  go_wp2_with fail
  refine hK.out _ _ ?_ (fun hHeld => ?_)
  · exact ⟨HG2.out.cell 0, HQ2.out.cell 0, HQ2.out.cell 2⟩
  clear hK K2
  try simp only [Act.put, List.setIfInBounds_toArray, List.set_cons_zero, List.set_cons_succ]
  refine wpAnyH_take (i := 15) (oi := _) (v := ?_) rfl (by kernel_rfl) (by kernel_rfl) (by kernel_rfl) (fun _ _ _ h => h) (Or.inl ⟨by rfl, ?_⟩) (by assumption) ?_
  rotate_left
  · (intro w hSw; (try dsimp only at hSw); go_simp; (try with_reducible rfl))
  simp only [Act.put, List.setIfInBounds_toArray, List.set_cons_zero, List.set_cons_succ]
  refine wpAnyH_take (i := 16) (oi := _) (v := ?_) rfl (by kernel_rfl) (by kernel_rfl) (by kernel_rfl) (fun _ _ _ h => h) (Or.inl ⟨by rfl, ?_⟩) (by assumption) ?_
  rotate_left
  · (intro w hSw; (try dsimp only at hSw); go_simp; (try with_reducible rfl))
  simp only [Act.put, List.setIfInBounds_toArray, List.set_cons_zero, List.set_cons_succ]
  have r0 := HR2.out.cell 0
  have f0 := HR2.out.free 0
  have r1 := HR2.out.cell 1
  have f1 := HR2.out.free 1
  have r2 := HR2.out.cell 2
  have f2 := HR2.out.free 2
  have r3 := HR2.out.cell 3
  have f3 := HR2.out.free 3
  have r4 := HR2.out.cell 4
  have f4 := HR2.out.free 4
  have r5 := HR2.out.cell 5
  have f5 := HR2.out.free 5
  have r6 := HR2.out.cell 6
  have f6 := HR2.out.free 6
  have rl := HR2.out.lt
  simp at r0 r1 r2 r3 r4 r5 r6
  refine wpAnyH_ready (rs := [17]) (by kernel_rfl) (by simp) ?_
  refine AllReadyH.cons (o := _) rfl (fun K2 hK => ?_) AllReadyH.nil
  go_simp
  obtain ⟨W3, hW3⟩ : ∃ W3, W3 = ((((((w2.setCell ⟨w.heap.size + 1, 0, none⟩ (.string (nu t))).setCell ⟨w.heap.size + 1, 1, none⟩ (.string nmB)).setCell ⟨w.heap.size + 1, 2, none⟩ (.string (tx t.x t.y))).setCell ⟨w.heap.size + 1, 3, none⟩ (.int .i64 (Tp.fst t.at_))).setCell ⟨w.heap.size + 1, 4, none⟩ (.int .i64 200)).setCell ⟨w.heap.size + 1, 5, none⟩ (.int .i64 t.at_)).setCell ⟨w.heap.size + 1, 6, none⟩ (.int .u64 (sgI key (nu t) nmB (tx t.x t.y) (Tp.fst t.at_) 200 t.at_)) := ⟨_, rfl⟩
  rw [← hW3]
  have hbk : ∀ b, b ≠ w.heap.size + 1 → W3.heap[b]? = w2.heap[b]? := fun b hb => by
    rw [hW3]
    repeat rw [Below.heap_setCell _ _ _ _ (show b ≠ w.heap.size + 1 from hb)]
  have hsz : W3.heap.size = w2.heap.size := by rw [hW3]; simp only [sz_set]
  have HC3 := Lib.hid (show Cel W3 (w.heap.size + 1) (rcC key t) 44 by
    rw [hW3]
    have := ((((((HR2.out.set 0 (.string (nu t))).set 1 (.string nmB)).set 2 (.string (tx t.x t.y))).set 3 (.int .i64 (Tp.fst t.at_))).set 4 (.int .i64 200)).set 5 (.int .i64 t.at_)).set 6 (.int .u64 (sgI key (nu t) nmB (tx t.x t.y) (Tp.fst t.at_) 200 t.at_))
    simpa [rcC] using this)
  have HF3 := Lib.hid (show Fr τ w W3 by
    rw [hW3]
    have f := HF7.out
    repeat (first | (with_reducible exact f) | (refine Fr.setCell ?_ (.inr (Nat.le_succ w.heap.size)) _)))
  have H3 := Lib.hid (H7.out.same (w1 := W3) (by omega) (fun b hb => hbk b (fun e => hb (by rw [e]; exact HX1.out))))
  have HS3 := Lib.hid (show W3.cell? ⟨w.heap.size, 0, none⟩ = some (.string nmB) ∧ W3.cell? ⟨q, 0, none⟩ = some (.int .i64 t.tm) ∧ W3.cell? ⟨q, 2, none⟩ = some (.int .i64 t.sq) from
    ⟨(cell_same (hbk _ (by omega)) 0).trans (HG2.out.cell 0), (cell_same (hbk _ HQL.out) 0).trans (HQ2.out.cell 0), (cell_same (hbk _ HQL.out) 2).trans (HQ2.out.cell 2)⟩)
  clear hW3 hbk hsz r0 r1 r2 r3 r4 r5 r6 f0 f1 f2 f3 f4 f5 f6 rl
  refine hK.out _ _ ?_ (fun hHeld => ?_)
  · exact HS3.out
  clear hK K2
  try simp only [Act.put, List.setIfInBounds_toArray, List.set_cons_zero, List.set_cons_succ]
  refine wpAnyH_ready (rs := [18]) (by kernel_rfl) (by simp) ?_
  refine AllReadyH.cons (o := _) rfl (fun K2 hK => ?_) AllReadyH.nil
  go_simp
  refine hK.out _ _ ?_ (fun hHeld => ?_)
  · exact HS3.out
  clear hK K2
  try simp only [Act.put, List.setIfInBounds_toArray, List.set_cons_zero, List.set_cons_succ]
  refine wpAnyH_done (by kernel_rfl) ?_ _
  go_wp2
  exact bodyPost_ret (v := .tuple #[rcV key t, .int .i64 0]) (results_row_tmp Tryz.results40 _ _ (w.heap.size + 1) 44 (rcC key t) (0, 0) _ rfl HC3.out Tryz.underlying44 rfl (by kernel_rfl)) rfl ⟨rfl, τ', u, cs', tv', D', H3.out, HF3.out, fun b hb => (HG7.out b hb).imp id (Nat.le_trans HX.out.size)⟩
end
end Go.Proofs.YtnnocbelgfhecaaGreatDoor
/- The terminals: sellOffline. -/
set_option linter.unusedSimpArgs false
namespace Go.Proofs.YtnnocbelgfhecaaGreatDoor
open Go.ChangeShapes Go.WideShapes Go.ChangeAt Go.RowKit Go.Lott
theorem infoRe : (Tryz.prog.info? 44).map (fun i => (i.zero, i.size, i.bytes)) = some (some (.agg #[.string ⟨#[]⟩, .string ⟨#[]⟩, .string ⟨#[]⟩, .int .i64 0, .int .i64 0, .int .i64 0, .int .u64 0]), 7, 80) := by kernel_rfl
theorem infoIn : (Tryz.prog.info? 3).map (fun i => (i.zero, i.size, i.bytes)) = some (some (.int .i64 0), 1, 8) := by kernel_rfl
/-- No receipt. -/
def rcZ : Array Value := #[.string ⟨#[]⟩, .string ⟨#[]⟩, .string ⟨#[]⟩, .int .i64 0, .int .i64 0, .int .i64 0, .int .u64 0]
section
variable {w : World} {B q : Nat} {σ : Rl} {key : Int} {wt : List Tp.Tk} {wv pv : Value} {on : Bool}
def OffP (w : World) (B : Nat) (σ : Rl) (q : Nat) (key : Int) (on : Bool) (wt : List Tp.Tk) (t : Tp.Tk) (full : Bool) (e : Ending) (w' : World) : Prop :=
  (full = true ∧ e = .returned (.tuple #[.agg rcZ, .int .i64 25]) ∧ Below w.heap.size w w') ∨
  (full = false ∧ e = .returned (.tuple #[rcV key t, .int .i64 0]) ∧ ∃ σ' wv' pv', TObj w' B σ' q t.tm key t.sq on (wt ++ [t]) (wt.length + 1) wv' pv' ∧ Fr σ w w' ∧ Gr σ σ' w.heap.size)
set_option maxHeartbeats 8000000 in
set_option maxRecDepth 100000 in
theorem teOff_any (r : Value) (t : Tp.Tk) (h : TObj w B σ q t.tm key t.sq on wt wt.length wv pv) (hl : Lv B w) (ht : TkOk t) (hw5 : wt.length ≤ 5) (g : Value) (hg : IsTier w g) :
    Calls Tryz.prog 21 #[.pointer (some ⟨q, 0, none⟩), r, .agg (gcs g), .string (tx t.x t.y), .int .i64 0, .int .i64 t.at_] w (OffP w B σ q key on wt t (decide (5 ≤ wt.length))) := by
  obtain ⟨wa, wk, hwv⟩ := own_slice h.wr
  obtain ⟨pa, pk, hpv⟩ := own_slice h.pr
  subst hwv hpv
  obtain ⟨W1, hW1⟩ : ∃ W1, W1 = (w.alloc (.cells (gcs g) 27)).alloc (.cells #[.string ⟨#[]⟩, .string ⟨#[]⟩, .string ⟨#[]⟩, .int .i64 0, .int .i64 0, .int .i64 0, .int .u64 0] 44) := ⟨_, rfl⟩
  have hX : Below w.heap.size w W1 := by rw [hW1]; exact ((Below.refl _ _).alloc (Nat.le_refl _) _).alloc (by simp) _
  have HG := Lib.hid (show Cel W1 w.heap.size (gcs g) 27 by rw [hW1]; exact (Cel.new _ _ _).alloc _)
  have HR := Lib.hid (show Cel W1 (w.heap.size + 1) rcZ 44 by
    rw [hW1]
    have := Cel.new (w.alloc (.cells (gcs g) 27)) rcZ 44
    simpa [rcZ] using this)
  have HLOW := Lib.hid (show ∀ b, σ b ≠ none → B ≤ b ∧ b < w.heap.size from h.low)
  have hBw : B ≤ w.heap.size := Nat.le_trans (h.low q (by rw [h.tq]; simp)).1 (Nat.le_of_lt (h.low q (by rw [h.tq]; simp)).2)
  have HO := Lib.hid (h.below hX)
  have HL0 := Lib.hid hl
  have HT := Lib.hid (hg.below hX (Nat.le_refl _))
  have HTK := Lib.hid ht
  have HX := Lib.hid hX
  have HW := Lib.hid hW1
  clear h hl hX hW1 hg ht
  go_enter Tryz.func21, Tryz.ntmps21
  go_wp2_with fail
  rw [← HW.out]
  have b6 := Sub.cell (show W1.cell? ⟨q, 6, none⟩ = some (.slice wa wt.length wk) from HO.out.cp.cell 6) HO.out.cp.lt
  have b1 := Sub.cell (show W1.cell? ⟨q, 1, none⟩ = some (.int .i64 5) from HO.out.cp.cell 1) HO.out.cp.lt
  refine wp_region_below (by kernel_rfl) (by kernel_rfl) ?_
  repeat (first
    | go_big_quiet_step (fail))
  refine wpQuiet_nil ?_
  rintro w2 ⟨⟨_, hb2⟩, rfl⟩
  have hb1 : Below W1.heap.size W1 w2 := hb2
  replace HG := Lib.hid (HG.out.below hb1 HG.out.lt)
  replace HR := Lib.hid (HR.out.below hb1 HR.out.lt)
  replace HX := Lib.hid (HX.out.trans (hb1.mono HX.out.size))
  replace HT := Lib.hid (HT.out.below hb1 (Nat.le_refl _))
  replace HO := Lib.hid (HO.out.below hb1)
  clear hb1 hb2 b6 b1 HW
  by_cases hfull : 5 ≤ wt.length
  · have hi : (5 : Int) ≤ (wt.length : Int) := by omega
    go_wp2_with (first
      | (refine wpList_store_row rfl 44 _ _ rfl (w.heap.size + 1) rcZ rfl rfl 44 _ HR.out (by kernel_rfl) (by kernel_rfl) (by kernel_rfl) ?_)
      | fail)
    refine bodyPost_ret (v := .tuple #[.agg rcZ, .int .i64 25]) (results_row_tmp Tryz.results21 _ _ (w.heap.size + 1) 44 rcZ (0, 0) _ rfl (setRow_heap _ _ _ _ _ _ HR.out) Tryz.underlying44 rfl (by kernel_rfl)) rfl ?_
    exact .inl ⟨by simpa using hfull, rfl, Below.row HX.out (Nat.le_succ _) _⟩
  · have hi : (wt.length : Int) < 5 := by omega
    have HPS := Lib.hid (show ∀ W, IsTier W g → Calls Tryz.prog 41 #[.agg (gcs g), .string (tx t.x t.y)] W fun e w' => ∃ u, e = .returned (.tuple #[u, .int .i64 0, .int .i64 0]) ∧ IsBetF W.heap.size w' u t.x t.y ∧ Below W.heap.size W w' from fun W h => parse_any g t.x t.y W h HTK.out.x1 HTK.out.xy HTK.out.y2)
    have HOP := Lib.hid (show ∀ W, IsTier W g → Calls Tryz.prog 42 #[.agg (gcs g), .int .i64 t.at_] W (RetB (.tuple #[.int .i64 (Tp.fst t.at_), .int .i64 0]) W) from fun W h => open_any g t.at_ W h HTK.out.at_)
    have HPR := Lib.hid (show ∀ W vb, IsTier W g → IsBet W vb t.x t.y → Calls Tryz.prog 43 #[.agg (gcs g), vb] W (RetB (.tuple #[.int .i64 200, .int .i64 0]) W) from fun W vb h1 h2 => price_any g vb t.x t.y W h1 h2)
    go_wp2_with (first
      | (refine wpList_load_row rfl 27 _ rfl w.heap.size rfl _ _ _ _ HG.out Tryz.underlying27 rfl (by kernel_rfl) ?_)
      | (refine wpList_load_row rfl 27 _ rfl w.heap.size rfl _ _ _ _ (HG.out.alloc _) Tryz.underlying27 rfl (by kernel_rfl) ?_)
      | (go_at_call 42
         have hal := (Below.refl w3.heap.size w3).alloc (Nat.le_refl _) (.cells #[.slice (some ⟨ub, uo, none⟩) 1 uc, .bool false, .int .i64 1, .int .i64 0] 79)
         (with_reducible refine (HOP.out _ (HT.out.below hal (Nat.le_refl _))).mono ?_)
         rintro e w4 ⟨rfl, hb4⟩
         have hb1 : Below w3.heap.size w3 w4 := hal.trans (hb4.mono hal.size)
         have HBL := Lib.hid ((Cel.new w3 #[.slice (some ⟨ub, uo, none⟩) 1 uc, .bool false, .int .i64 1, .int .i64 0] 79).below hb4 (Cel.new w3 #[.slice (some ⟨ub, uo, none⟩) 1 uc, .bool false, .int .i64 1, .int .i64 0] 79).lt)
         replace HG := Lib.hid (HG.out.below hb1 HG.out.lt)
         replace HR := Lib.hid (HR.out.below hb1 HR.out.lt)
         have HW3 := Lib.hid HX.out.size
         replace HX := Lib.hid (HX.out.trans (hb1.mono HX.out.size))
         replace HT := Lib.hid (HT.out.below hb1 (Nat.le_refl _))
         replace HO := Lib.hid (HO.out.below hb1)
         replace HBF := Lib.hid (HBF.out.below hb1 (Nat.le_refl _))
         clear hb1 hb4 hal
         have v0 := HBL.out.cell 0
         have v1 := HBL.out.cell 1
         have v2 := HBL.out.cell 2
         have v3 := HBL.out.cell 3
         have vl := HBL.out.lt
         simp at v0 v1 v2 v3)
      | (go_at_call 43; (with_reducible refine (HPR.out _ _ HT.out HBF.out.bet).mono ?_)
         rintro e w5 ⟨rfl, hb1⟩
         replace HG := Lib.hid (HG.out.below hb1 HG.out.lt)
         replace HR := Lib.hid (HR.out.below hb1 HR.out.lt)
         replace HBL := Lib.hid (HBL.out.below hb1 HBL.out.lt)
         replace HX := Lib.hid (HX.out.trans (hb1.mono HX.out.size))
         replace HT := Lib.hid (HT.out.below hb1 (Nat.le_refl _))
         replace HO := Lib.hid (HO.out.below hb1)
         replace HBF := Lib.hid (HBF.out.below hb1 (Nat.le_refl _))
         clear hb1 v0 v1 v2 v3 vl)
      | (go_at_call 41; (with_reducible refine (HPS.out _ HT.out).mono ?_)
         rintro e w3 ⟨u, rfl, hbet, hb1⟩
         replace HG := Lib.hid (HG.out.below hb1 HG.out.lt)
         replace HR := Lib.hid (HR.out.below hb1 HR.out.lt)
         replace HX := Lib.hid (HX.out.trans (hb1.mono HX.out.size))
         replace HT := Lib.hid (HT.out.below hb1 (Nat.le_refl _))
         replace HO := Lib.hid (HO.out.below hb1)
         have HBF := Lib.hid hbet
         obtain ⟨ub, uo, uc, mb, mo, mc, rfl, _⟩ := hbet
         clear hb1)
      | fail)
    have b0 := Sub.cell (show w5.cell? ⟨q, 0, none⟩ = some (.int .i64 t.tm) from HO.out.cp.cell 0) HO.out.cp.lt
    have b2 := Sub.cell (show w5.cell? ⟨q, 2, none⟩ = some (.int .i64 t.sq) from HO.out.cp.cell 2) HO.out.cp.lt
    have HMK := Lib.hid (show ∀ x : Sub w5.heap.size w5, Calls Tryz.prog 44 #[.int .i64 t.tm, .int .i64 t.sq] x.w (RetB (.tuple #[.string (nu t), .int .i64 0]) x.w) from fun x => make_any HTK.out.m1 HTK.out.m2 HTK.out.s1 HTK.out.s2 _ (HL0.out.below ((HX.out.trans (x.h.mono HX.out.size)).mono hBw)).p)
    refine wp_region_below (by kernel_rfl) (by kernel_rfl) ?_
    repeat (first
      | go_big_quiet_step ((go_at_call 44; exact Sub.ofB _ (Nat.le_refl _) (HMK.out _))))
    refine wpQuiet_nil ?_
    rintro w6 ⟨⟨_, hb6⟩, rfl⟩
    have hb1 : Below w5.heap.size w5 w6 := hb6
    replace HG := Lib.hid (HG.out.below hb1 HG.out.lt)
    replace HR := Lib.hid (HR.out.below hb1 HR.out.lt)
    replace HBL := Lib.hid (HBL.out.below hb1 HBL.out.lt)
    replace HX := Lib.hid (HX.out.trans (hb1.mono HX.out.size))
    replace HO := Lib.hid (HO.out.below hb1)
    replace HBF := Lib.hid (HBF.out.below hb1 (Nat.le_refl _))
    clear hb1 hb6 b0 b2 HMK HT HPS HOP HPR
    go_wp2_with fail
    have hS := Below.refl w6.heap.size w6
    have HSS := Lib.hid hS
    have hlg : ∀ y, Below w6.heap.size w6 y → y.cell? ⟨w.heap.size, 0, none⟩ = some (.string nmB) := fun y hy => (HG.out.below hy HG.out.lt).cell 0
    have hl0 : ∀ y, Below w6.heap.size w6 y → y.cell? ⟨q, 0, none⟩ = some (.int .i64 t.tm) := fun y hy => (HO.out.below hy).cp.cell 0
    have hl2 : ∀ y, Below w6.heap.size w6 y → y.cell? ⟨q, 2, none⟩ = some (.int .i64 t.sq) := fun y hy => (HO.out.below hy).cp.cell 2
    have hlb := fun y (hy : Below w6.heap.size w6 y) => show y.rangeAt w3.heap.size 0 [.slice (some ⟨ub, uo, none⟩) 1 uc, .bool false, .int .i64 1, .int .i64 0] from fun j u hj => by
      rw [Nat.zero_add]
      refine ((HBL.out.below hy HBL.out.lt).cell j).trans ?_
      rw [← hj]
      exact List.getElem?_toArray
    clear hS
    refine wp_region_held_drew (S := fun w' => Below w6.heap.size w6 w') (by kernel_rfl) HSS.out.drew (fun hHeld => ?_)
    refine wpAnyH_take (i := 0) (oi := _) (v := ?_) rfl (by kernel_rfl) (by kernel_rfl) (by kernel_rfl) (fun _ _ _ h => h) (Or.inl ⟨by rfl, ?_⟩) (by assumption) ?_
    rotate_left
    · (intro w hSw; (try dsimp only at hSw); go_simp; (try with_reducible rfl))
    simp only [Act.put, List.setIfInBounds_toArray, List.set_cons_zero, List.set_cons_succ]
    refine wpAnyH_take (i := 1) (oi := _) (v := ?_) rfl (by kernel_rfl) (by kernel_rfl) (by kernel_rfl) (fun _ _ _ h => h) (Or.inl ⟨by rfl, ?_⟩) (by assumption) ?_
    rotate_left
    · (intro w hSw; (try dsimp only at hSw); go_simp; (try with_reducible rfl))
    simp only [Act.put, List.setIfInBounds_toArray, List.set_cons_zero, List.set_cons_succ]
    refine wpAnyH_take (i := 2) (oi := _) (v := ?_) rfl (by kernel_rfl) (by kernel_rfl) (by kernel_rfl) (fun _ _ _ h => h) (Or.inl ⟨by rfl, ?_⟩) (by assumption) ?_
    rotate_left
    · (intro w hSw; (try dsimp only at hSw); go_simp; (try with_reducible rfl))
    simp only [Act.put, List.setIfInBounds_toArray, List.set_cons_zero, List.set_cons_succ]
    refine wpAnyH_take (i := 3) (oi := _) (v := _) rfl (by kernel_rfl) (by kernel_rfl) (by kernel_rfl) (fun _ _ _ h => h) (yieldsIf_load_mid (by rfl) 79 _ rfl w3.heap.size 0 rfl [.slice (some ⟨ub, uo, none⟩) 1 uc, .bool false, .int .i64 1, .int .i64 0] _ hlb Tryz.underlying79 rfl (by kernel_rfl)) (by assumption) ?_
    simp only [Act.put, List.setIfInBounds_toArray, List.set_cons_zero, List.set_cons_succ]
    refine wpAnyH_take (i := 4) (oi := _) (v := ?_) rfl (by kernel_rfl) (by kernel_rfl) (by kernel_rfl) (fun _ _ _ h => h) (Or.inl ⟨by rfl, ?_⟩) (by assumption) ?_
    rotate_left
    · (intro w hSw; (try dsimp only at hSw); go_simp; (try with_reducible rfl))
    simp only [Act.put, List.setIfInBounds_toArray, List.set_cons_zero, List.set_cons_succ]
    refine wpAnyH_take (i := 5) (oi := _) (v := ?_) rfl (by kernel_rfl) (by kernel_rfl) (by kernel_rfl) (fun _ _ _ h => h) (Or.inl ⟨by rfl, ?_⟩) (by assumption) ?_
    rotate_left
    · (intro w hSw; (try dsimp only at hSw); go_simp; (try with_reducible rfl))
    simp only [Act.put, List.setIfInBounds_toArray, List.set_cons_zero, List.set_cons_succ]
    refine wpAnyH_take (i := 6) (oi := _) (v := ?_) rfl (by kernel_rfl) (by kernel_rfl) (by kernel_rfl) (fun _ _ _ h => h) (Or.inl ⟨by rfl, ?_⟩) (by assumption) ?_
    rotate_left
    · (intro w hSw; (try dsimp only at hSw); go_simp; (try with_reducible rfl))
    simp only [Act.put, List.setIfInBounds_toArray, List.set_cons_zero, List.set_cons_succ]
    refine wpAnyH_take (i := 7) (oi := _) (v := ?_) rfl (by kernel_rfl) (by kernel_rfl) (by kernel_rfl) (fun _ _ _ h => h) (Or.inl ⟨by rfl, ?_⟩) (by assumption) ?_
    rotate_left
    · (intro w hSw; (try dsimp only at hSw); go_simp; (try with_reducible rfl))
    simp only [Act.put, List.setIfInBounds_toArray, List.set_cons_zero, List.set_cons_succ]
    refine wpAnyH_take (i := 8) (oi := _) (v := ?_) rfl (by kernel_rfl) (by kernel_rfl) (by kernel_rfl) (fun _ _ _ h => h) (Or.inl ⟨by rfl, ?_⟩) (by assumption) ?_
    rotate_left
    · (intro w hSw; (try dsimp only at hSw); go_simp; (try with_reducible rfl))
    simp only [Act.put, List.setIfInBounds_toArray, List.set_cons_zero, List.set_cons_succ]
    refine wpAnyH_take (i := 9) (oi := _) (v := ?_) rfl (by kernel_rfl) (by kernel_rfl) (by kernel_rfl) (fun _ _ _ h => h) (Or.inl ⟨by rfl, ?_⟩) (by assumption) ?_
    rotate_left
    · (intro w hSw; (try dsimp only at hSw); go_simp; (try with_reducible rfl))
    simp only [Act.put, List.setIfInBounds_toArray, List.set_cons_zero, List.set_cons_succ]
    refine wpAnyH_take (i := 10) (oi := _) (v := ?_) rfl (by kernel_rfl) (by kernel_rfl) (by kernel_rfl) (fun _ _ _ h => h) (Or.inl ⟨by rfl, ?_⟩) (by assumption) ?_
    rotate_left
    · (intro w hSw; (try dsimp only at hSw); go_simp; (try with_reducible rfl))
    simp only [Act.put, List.setIfInBounds_toArray, List.set_cons_zero, List.set_cons_succ]
    refine wpAnyH_take (i := 11) (oi := _) (v := ?_) rfl (by kernel_rfl) (by kernel_rfl) (by kernel_rfl) (fun _ _ _ h => h) (Or.inl ⟨by rfl, ?_⟩) (by assumption) ?_
    rotate_left
    · (intro w hSw; (try dsimp only at hSw); go_simp; (try with_reducible rfl))
    simp only [Act.put, List.setIfInBounds_toArray, List.set_cons_zero, List.set_cons_succ]
    refine wpAnyH_take (i := 12) (oi := _) (v := ?_) rfl (by kernel_rfl) (by kernel_rfl) (by kernel_rfl) (fun _ _ _ h => h) (Or.inl ⟨by rfl, ?_⟩) (by assumption) ?_
    rotate_left
    · (intro w hSw; (try dsimp only at hSw); go_simp; (try with_reducible rfl))
    simp only [Act.put, List.setIfInBounds_toArray, List.set_cons_zero, List.set_cons_succ]
    refine wpAnyH_take (i := 13) (oi := _) (v := ?_) rfl (by kernel_rfl) (by kernel_rfl) (by kernel_rfl) (fun _ _ _ h => h) (Or.inl ⟨by rfl, ?_⟩) (by assumption) ?_
    rotate_left
    · (intro w hSw; (try dsimp only at hSw); go_simp; (try with_reducible rfl))
    simp only [Act.put, List.setIfInBounds_toArray, List.set_cons_zero, List.set_cons_succ]
    refine wpAnyH_take (i := 14) (oi := _) (v := ?_) rfl (by kernel_rfl) (by kernel_rfl) (by kernel_rfl) (fun _ _ _ h => h) (Or.inl ⟨by rfl, ?_⟩) (by assumption) ?_
    rotate_left
    · (intro w hSw; (try dsimp only at hSw); go_simp; (try with_reducible rfl))
    simp only [Act.put, List.setIfInBounds_toArray, List.set_cons_zero, List.set_cons_succ]
    refine wpAnyH_take (i := 15) (oi := _) (v := ?_) rfl (by kernel_rfl) (by kernel_rfl) (by kernel_rfl) (fun _ _ _ h => h) (Or.inl ⟨by rfl, ?_⟩) (by assumption) ?_
    rotate_left
    · (intro w hSw; (try dsimp only at hSw); go_simp; (try with_reducible rfl))
    simp only [Act.put, List.setIfInBounds_toArray, List.set_cons_zero, List.set_cons_succ]
    refine wpAnyH_take (i := 16) (oi := _) (v := ?_) rfl (by kernel_rfl) (by kernel_rfl) (by kernel_rfl) (fun _ _ _ h => h) (Or.inl ⟨by rfl, ?_⟩) (by assumption) ?_
    rotate_left
    · (intro w hSw; (try dsimp only at hSw); go_simp; (try with_reducible rfl))
    simp only [Act.put, List.setIfInBounds_toArray, List.set_cons_zero, List.set_cons_succ]
    refine wpAnyH_ready (rs := [17]) (by kernel_rfl) (by simp) ?_
    refine AllReadyH.cons (o := _) rfl (fun K2 hK => ?_) AllReadyH.nil
    go_simp
    obtain ⟨Wa, hWa⟩ : ∃ Wa, Wa = (w6.alloc (.cells #[.string ⟨#[]⟩, .string ⟨#[]⟩, .slice none 0 0, .bool false, .int .i64 0, .int .i64 0, .string ⟨#[]⟩, .int .i64 0, .int .i64 0, .int .i64 0, .int .i64 0, .int .i64 0, .int .i64 0, .bool false] 81)).drew := ⟨_, rfl⟩
    have HAA := Lib.hid (show Cel Wa w6.heap.size #[.string ⟨#[]⟩, .string ⟨#[]⟩, .slice none 0 0, .bool false, .int .i64 0, .int .i64 0, .string ⟨#[]⟩, .int .i64 0, .int .i64 0, .int .i64 0, .int .i64 0, .int .i64 0, .int .i64 0, .bool false] 81 by rw [hWa]; exact (Cel.new w6 _ _).drew)
    replace HSS := Lib.hid (show Below w6.heap.size w6 Wa by rw [hWa]; exact ((Below.refl _ _).alloc (Nat.le_refl _) _).drew)
    rw [← hWa]
    clear hWa
    refine hK.out _ _ ?_ (fun hHeld => ?_)
    · exact HSS.out
    clear hK K2
    try simp only [Act.put, List.setIfInBounds_toArray, List.set_cons_zero, List.set_cons_succ]
    have f0 := HAA.out.cell 0
    have g0 := HAA.out.free 0
    have f1 := HAA.out.cell 1
    have g1 := HAA.out.free 1
    have f2 := HAA.out.cell 2
    have g2 := HAA.out.free 2
    have f3 := HAA.out.cell 3
    have g3 := HAA.out.free 3
    have f4 := HAA.out.cell 4
    have g4 := HAA.out.free 4
    have f5 := HAA.out.cell 5
    have g5 := HAA.out.free 5
    have f6 := HAA.out.cell 6
    have g6 := HAA.out.free 6
    have f7 := HAA.out.cell 7
    have g7 := HAA.out.free 7
    have f8 := HAA.out.cell 8
    have g8 := HAA.out.free 8
    have f9 := HAA.out.cell 9
    have g9 := HAA.out.free 9
    have f10 := HAA.out.cell 10
    have g10 := HAA.out.free 10
    have f11 := HAA.out.cell 11
    have g11 := HAA.out.free 11
    have f12 := HAA.out.cell 12
    have g12 := HAA.out.free 12
    have f13 := HAA.out.cell 13
    have g13 := HAA.out.free 13
    have fl := HAA.out.lt
    simp at f0 f1 f2 f3 f4 f5 f6 f7 f8 f9 f10 f11 f12 f13
    refine wpAnyH_ready (rs := [18]) (by kernel_rfl) (by simp) ?_
    refine AllReadyH.cons (o := _) rfl (fun K2 hK => ?_) AllReadyH.nil
    go_simp
    obtain ⟨Wb, hWb⟩ : ∃ Wb, Wb = ((((((((((((((Wa.setCell ⟨w6.heap.size, 0, none⟩ (.string (nu t))).setCell ⟨w6.heap.size, 1, none⟩ (.string nmB)).setCell ⟨w6.heap.size, 2, none⟩ (.slice (some ⟨ub, uo, none⟩) 1 uc)).setCell ⟨w6.heap.size, 3, none⟩ (.bool false)).setCell ⟨w6.heap.size, 4, none⟩ (.int .i64 1)).setCell ⟨w6.heap.size, 5, none⟩ (.int .i64 0)).setCell ⟨w6.heap.size, 6, none⟩ (.string ⟨#[]⟩)).setCell ⟨w6.heap.size, 7, none⟩ (.int .i64 (Tp.fst t.at_))).setCell ⟨w6.heap.size, 8, none⟩ (.int .i64 200)).setCell ⟨w6.heap.size, 9, none⟩ (.int .i64 t.at_)).setCell ⟨w6.heap.size, 10, none⟩ (.int .i64 t.tm)).setCell ⟨w6.heap.size, 11, none⟩ (.int .i64 t.sq)).setCell ⟨w6.heap.size, 12, none⟩ (.int .i64 0)).setCell ⟨w6.heap.size, 13, none⟩ (.bool false)) := ⟨_, rfl⟩
    rw [← hWb]
    have HBB := Lib.hid (show Cel Wb w6.heap.size #[.string (nu t), .string nmB, .slice (some ⟨ub, uo, none⟩) 1 uc, .bool false, .int .i64 1, .int .i64 0, .string ⟨#[]⟩, .int .i64 (Tp.fst t.at_), .int .i64 200, .int .i64 t.at_, .int .i64 t.tm, .int .i64 t.sq, .int .i64 0, .bool false] 81 by
      rw [hWb]
      have := ((((((((((((((HAA.out.set 0 (.string (nu t))).set 1 (.string nmB)).set 2 (.slice (some ⟨ub, uo, none⟩) 1 uc)).set 3 (.bool false)).set 4 (.int .i64 1)).set 5 (.int .i64 0)).set 6 (.string ⟨#[]⟩)).set 7 (.int .i64 (Tp.fst t.at_))).set 8 (.int .i64 200)).set 9 (.int .i64 t.at_)).set 10 (.int .i64 t.tm)).set 11 (.int .i64 t.sq)).set 12 (.int .i64 0)).set 13 (.bool false))
      simpa using this)
    replace HSS := Lib.hid (show Below w6.heap.size w6 Wb by
      rw [hWb]
      exact ((((((((((((((HSS.out.setCell (Nat.le_refl _) (.string (nu t))).setCell (Nat.le_refl _) (.string nmB)).setCell (Nat.le_refl _) (.slice (some ⟨ub, uo, none⟩) 1 uc)).setCell (Nat.le_refl _) (.bool false)).setCell (Nat.le_refl _) (.int .i64 1)).setCell (Nat.le_refl _) (.int .i64 0)).setCell (Nat.le_refl _) (.string ⟨#[]⟩)).setCell (Nat.le_refl _) (.int .i64 (Tp.fst t.at_))).setCell (Nat.le_refl _) (.int .i64 200)).setCell (Nat.le_refl _) (.int .i64 t.at_)).setCell (Nat.le_refl _) (.int .i64 t.tm)).setCell (Nat.le_refl _) (.int .i64 t.sq)).setCell (Nat.le_refl _) (.int .i64 0)).setCell (Nat.le_refl _) (.bool false)))
    clear hWb HAA fl f0 g0 f1 g1 f2 g2 f3 g3 f4 g4 f5 g5 f6 g6 f7 g7 f8 g8 f9 g9 f10 g10 f11 g11 f12 g12 f13 g13
    refine hK.out _ _ ?_ (fun hHeld => ?_)
    · exact HSS.out
    clear hK K2
    try simp only [Act.put, List.setIfInBounds_toArray, List.set_cons_zero, List.set_cons_succ]
    refine wpAnyH_done (by kernel_rfl) ?_ _
    replace HR := Lib.hid (HR.out.below HSS.out HR.out.lt)
    have HX6 := Lib.hid HX.out.size
    replace HX := Lib.hid (HX.out.trans (HSS.out.mono HX.out.size))
    replace HO := Lib.hid (HO.out.below HSS.out)
    replace HBF := Lib.hid (HBF.out.below HSS.out (Nat.le_refl _))
    clear hlg hl0 hl2 hlb HSS HBL HG
    go_wp2_with fail
    have hfl : Tp.fst t.at_ ≤ 18 := Tp.fst_le HTK.out.at_
    have hns := nu_size HTK.out.m1 HTK.out.m2 HTK.out.s1 HTK.out.s2
    have htk := HTK.out
    have hat := htk.at_
    have htm := htk.m2
    have hsq := htk.s2
    have HIS := Lib.hid fun W => issue_any key (nu t) (tx t.x t.y) (.slice (some ⟨ub, uo, none⟩) 1 uc) (Tp.fst t.at_) t.at_ t.tm t.sq W ⟨_, _, _, rfl⟩ (by omega) (by omega) (by rw [tx_size]; decide) (by rw [tx_size]; decide) (by omega) (by omega)
    clear htk hns hfl
    have hS := Below.refl Wb.heap.size Wb
    have HSS := Lib.hid hS
    have hl3 : ∀ y, Below Wb.heap.size Wb y → y.cell? ⟨q, 3, none⟩ = some (.int .u64 key) := fun y hy => (HO.out.below hy).cp.cell 3
    have hlt := fun y (hy : Below Wb.heap.size Wb y) => show y.rangeAt w6.heap.size 0 (tkC (t, .slice (some ⟨ub, uo, none⟩) 1 uc)) from fun j u hj => by
      rw [Nat.zero_add]
      refine ((HBB.out.below hy HBB.out.lt).cell j).trans ?_
      rw [← hj]
      exact List.getElem?_toArray
    clear hS
    refine wp_region_held_drew (S := fun w' => Below Wb.heap.size Wb w') (by kernel_rfl) HSS.out.drew (fun hHeld => ?_)
    refine wpAnyH_take (i := 0) (oi := _) (v := ?_) rfl (by kernel_rfl) (by kernel_rfl) (by kernel_rfl) (fun _ _ _ h => h) (Or.inl ⟨by rfl, ?_⟩) (by assumption) ?_
    rotate_left
    · (intro w hSw; (try dsimp only at hSw); go_simp; (try with_reducible rfl))
    simp only [Act.put, List.setIfInBounds_toArray, List.set_cons_zero, List.set_cons_succ]
    refine wpAnyH_take (i := 1) (oi := _) (v := ?_) rfl (by kernel_rfl) (by kernel_rfl) (by kernel_rfl) (fun _ _ _ h => h) (Or.inl ⟨by rfl, ?_⟩) (by assumption) ?_
    rotate_left
    · (intro w hSw; (try dsimp only at hSw); go_simp; (try with_reducible rfl))
    simp only [Act.put, List.setIfInBounds_toArray, List.set_cons_zero, List.set_cons_succ]
    refine wpAnyH_take (i := 2) (oi := _) (v := ?_) rfl (by kernel_rfl) (by kernel_rfl) (by kernel_rfl) (fun _ _ _ h => h) (Or.inl ⟨by rfl, ?_⟩) (by assumption) ?_
    rotate_left
    · (intro w hSw; (try dsimp only at hSw); go_simp; (try with_reducible rfl))
    simp only [Act.put, List.setIfInBounds_toArray, List.set_cons_zero, List.set_cons_succ]
    refine wpAnyH_take (i := 3) (oi := _) (v := ?_) rfl (by kernel_rfl) (by kernel_rfl) (by kernel_rfl) (fun _ _ _ h => h) (Or.inl ⟨by rfl, ?_⟩) (by assumption) ?_
    rotate_left
    · (intro w hSw; (try dsimp only at hSw); go_simp; (try with_reducible rfl))
    simp only [Act.put, List.setIfInBounds_toArray, List.set_cons_zero, List.set_cons_succ]
    refine wpAnyH_take (i := 4) (oi := _) (v := _) rfl (by kernel_rfl) (by kernel_rfl) (by kernel_rfl) (fun _ _ _ h => h) (yieldsIf_load_mid (by rfl) 81 _ rfl w6.heap.size 0 rfl (tkC (t, .slice (some ⟨ub, uo, none⟩) 1 uc)) _ hlt Tryz.underlying81 rfl (by kernel_rfl)) (by assumption) ?_
    simp only [Act.put, List.setIfInBounds_toArray, List.set_cons_zero, List.set_cons_succ]
    refine wpAnyH_take (i := 5) (oi := _) (v := ?_) rfl (by kernel_rfl) (by kernel_rfl) (by kernel_rfl) (fun _ _ _ h => h) (Or.inl ⟨by rfl, ?_⟩) (by assumption) ?_
    rotate_left
    · (intro w hSw; (try dsimp only at hSw); go_simp; (try with_reducible rfl))
    simp only [Act.put, List.setIfInBounds_toArray, List.set_cons_zero, List.set_cons_succ]
    refine wpAnyH_ready (rs := [6, 7]) (by kernel_rfl) (by simp) ?_
    refine AllReadyH.cons (o := _) rfl (fun K2 hK => ?_) (AllReadyH.cons (o := _) rfl (fun K2 hK => ?_) AllReadyH.nil)
    · go_simp
      refine (HIS.out _).mono ?_
      rintro e w7 ⟨rfl, hb7⟩
      replace HSS := Lib.hid (show Below Wb.heap.size Wb w7 from HSS.out.drew.trans (hb7.mono HSS.out.size))
      clear hb7
      unfold rcpV
      go_wp2_with fail
      refine hK.out _ _ ?_ (fun hHeld => ?_)
      · exact HSS.out
      clear hK K2
      try simp only [Act.put, List.setIfInBounds_toArray, List.set_cons_zero, List.set_cons_succ]
      refine wpAnyH_ready (rs := [7]) (by kernel_rfl) (by simp) ?_
      refine AllReadyH.cons (o := _) rfl (fun K2 hK => ?_) AllReadyH.nil
      go_simp
      have HAL := Lib.hid HSS.out.size
      have HAA := Lib.hid (Cel.new w7 rcZ 44)
      obtain ⟨W7, hW7⟩ : ∃ W7, W7 = w7.alloc (.cells #[.string ⟨#[]⟩, .string ⟨#[]⟩, .string ⟨#[]⟩, .int .i64 0, .int .i64 0, .int .i64 0, .int .u64 0] 44) := ⟨_, rfl⟩
      replace HAA := Lib.hid (show Cel W7 w7.heap.size rcZ 44 by rw [hW7]; exact HAA.out)
      replace HSS := Lib.hid (show Below Wb.heap.size Wb W7 by rw [hW7]; exact HSS.out.alloc HSS.out.size _)
      rw [← hW7]
      clear hW7
      refine hK.out _ _ ?_ (fun hHeld => ?_)
      · exact HSS.out
      clear hK K2
      try simp only [Act.put, List.setIfInBounds_toArray, List.set_cons_zero, List.set_cons_succ]
      have f0 := HAA.out.cell 0
      have g0 := HAA.out.free 0
      have f1 := HAA.out.cell 1
      have g1 := HAA.out.free 1
      have f2 := HAA.out.cell 2
      have g2 := HAA.out.free 2
      have f3 := HAA.out.cell 3
      have g3 := HAA.out.free 3
      have f4 := HAA.out.cell 4
      have g4 := HAA.out.free 4
      have f5 := HAA.out.cell 5
      have g5 := HAA.out.free 5
      have f6 := HAA.out.cell 6
      have g6 := HAA.out.free 6
      have fl := HAA.out.lt
      simp [rcZ] at f0 f1 f2 f3 f4 f5 f6
      refine wpAnyH_ready (rs := [8]) (by kernel_rfl) (by simp) ?_
      refine AllReadyH.cons (o := _) rfl (fun K2 hK => ?_) AllReadyH.nil
      go_simp
      obtain ⟨W8, hW8⟩ : ∃ W8, W8 = (((((((W7.setCell ⟨w7.heap.size, 0, none⟩ (.string (nu t))).setCell ⟨w7.heap.size, 1, none⟩ (.string nmB)).setCell ⟨w7.heap.size, 2, none⟩ (.string (tx t.x t.y))).setCell ⟨w7.heap.size, 3, none⟩ (.int .i64 (Tp.fst t.at_))).setCell ⟨w7.heap.size, 4, none⟩ (.int .i64 200)).setCell ⟨w7.heap.size, 5, none⟩ (.int .i64 t.at_)).setCell ⟨w7.heap.size, 6, none⟩ (.int .u64 (sgI key (nu t) nmB (tx t.x t.y) (Tp.fst t.at_) 200 t.at_))) := ⟨_, rfl⟩
      rw [← hW8]
      have HRC := Lib.hid (show Cel W8 w7.heap.size (rcC key t) 44 by
        rw [hW8]
        have := (((((((HAA.out.set 0 (.string (nu t))).set 1 (.string nmB)).set 2 (.string (tx t.x t.y))).set 3 (.int .i64 (Tp.fst t.at_))).set 4 (.int .i64 200)).set 5 (.int .i64 t.at_)).set 6 (.int .u64 (sgI key (nu t) nmB (tx t.x t.y) (Tp.fst t.at_) 200 t.at_)))
        simpa [rcC, rcZ] using this)
      have HS8 := Lib.hid (show Below Wb.heap.size Wb W8 by
        rw [hW8]
        exact (((((((HSS.out.setCell HAL.out (.string (nu t))).setCell HAL.out (.string nmB)).setCell HAL.out (.string (tx t.x t.y))).setCell HAL.out (.int .i64 (Tp.fst t.at_))).setCell HAL.out (.int .i64 200)).setCell HAL.out (.int .i64 t.at_)).setCell HAL.out (.int .u64 (sgI key (nu t) nmB (tx t.x t.y) (Tp.fst t.at_) 200 t.at_))))
      clear hW8 fl f0 g0 f1 g1 f2 g2 f3 g3 f4 g4 f5 g5 f6 g6
      refine hK.out _ _ ?_ (fun hHeld => ?_)
      · exact HS8.out
      clear hK K2 HSS HAA
      try simp only [Act.put, List.setIfInBounds_toArray, List.set_cons_zero, List.set_cons_succ]
      refine wpAnyH_done (by kernel_rfl) ?_ _
      replace HR := Lib.hid (HR.out.below HS8.out HR.out.lt)
      have HXB := Lib.hid HX.out.size
      replace HX := Lib.hid (HX.out.trans (HS8.out.mono HX.out.size))
      replace HO := Lib.hid (HO.out.below HS8.out)
      have HAN := Lib.hid (show w.heap.size ≤ w7.heap.size from Nat.le_trans HXB.out HAL.out)
      have hbs : B ≤ W8.heap.size := Nat.le_trans hBw HX.out.size
      clear hl3 hlt HBB HIS HBF HL0 HXB
      go_wp2_with fail
      have hlr : ∀ y : World, y.rangeAt w7.heap.size 0 (rcC key t).toList → y.rangeAt w7.heap.size 0 (rcC key t).toList := fun y hy => hy
      have HRA := Lib.hid (show ∀ y, Below W8.heap.size W8 y → y.rangeAt w7.heap.size 0 (rcC key t).toList from fun y hy j u hj => by
        rw [Nat.zero_add, (HRC.out.below hy HRC.out.lt).cell j, ← hj]
        exact (Array.getElem?_toList).symm)
      refine wp_region_held_drew (S := fun y => y.rangeAt w7.heap.size 0 (rcC key t).toList) (by kernel_rfl) (HRA.out _ (Below.refl _ _).drew) (fun hHeld => ?_)
      refine wpAnyH_take (i := 0) (oi := _) (v := ?_) rfl (by kernel_rfl) (by kernel_rfl) (by kernel_rfl) (fun _ _ _ h => h) (Or.inl ⟨by rfl, ?_⟩) (by assumption) ?_
      rotate_left
      · (intro w hSw; (try dsimp only at hSw); go_simp; (try with_reducible rfl))
      simp only [Act.put, List.setIfInBounds_toArray, List.set_cons_zero, List.set_cons_succ]
      refine wpAnyH_take (i := 1) (oi := _) (v := ?_) rfl (by kernel_rfl) (by kernel_rfl) (by kernel_rfl) (fun _ _ _ h => h) (Or.inl ⟨by rfl, ?_⟩) (by assumption) ?_
      rotate_left
      · (intro w hSw; (try dsimp only at hSw); go_simp; (try with_reducible rfl))
      simp only [Act.put, List.setIfInBounds_toArray, List.set_cons_zero, List.set_cons_succ]
      refine wpAnyH_take (i := 2) (oi := _) (v := ?_) rfl (by kernel_rfl) (by kernel_rfl) (by kernel_rfl) (fun _ _ _ h => h) (Or.inl ⟨by rfl, ?_⟩) (by assumption) ?_
      rotate_left
      · (intro w hSw; (try dsimp only at hSw); go_simp; (try with_reducible rfl))
      simp only [Act.put, List.setIfInBounds_toArray, List.set_cons_zero, List.set_cons_succ]
      refine wpAnyH_take (i := 3) (oi := _) (v := ?_) rfl (by kernel_rfl) (by kernel_rfl) (by kernel_rfl) (fun _ _ _ h => h) (Or.inl ⟨by rfl, ?_⟩) (by assumption) ?_
      rotate_left
      · (intro w hSw; (try dsimp only at hSw); go_simp; (try with_reducible rfl))
      simp only [Act.put, List.setIfInBounds_toArray, List.set_cons_zero, List.set_cons_succ]
      refine wpAnyH_take (i := 5) (oi := _) (v := _) rfl (by kernel_rfl) (by kernel_rfl) (by kernel_rfl) (fun _ _ _ h => h) (yieldsIf_load_mid (by rfl) 44 _ rfl w7.heap.size 0 rfl (rcC key t).toList _ hlr Tryz.underlying44 rfl (by kernel_rfl)) (by assumption) ?_
      simp only [Act.put, List.setIfInBounds_toArray, List.set_cons_zero, List.set_cons_succ]
      have p0 : W8.drew.cell? ⟨q, 6, none⟩ = some (.slice wa wt.length wk) := HO.out.cp.cell 6
      refine wpAnyH_ready (rs := [4, 6]) (by kernel_rfl) (by simp) ?_
      refine AllReadyH.cons (o := _) rfl (fun K2 hK => ?_) (AllReadyH.cons (o := _) rfl (fun K2 hK => ?_) AllReadyH.nil)
      · go_simp
        refine hK.out _ _ ?_ (fun hHeld => ?_)
        · exact HRA.out _ (Below.refl _ _).drew
        clear hK K2
        try simp only [Act.put, List.setIfInBounds_toArray, List.set_cons_zero, List.set_cons_succ]
        refine wpAnyH_ready (rs := [6]) (by kernel_rfl) (by simp) ?_
        refine AllReadyH.cons (o := _) rfl (fun K2 hK => ?_) AllReadyH.nil
        obtain ⟨i0, hi0, hz0, hz1, hz2⟩ := info_parts infoRe
        refine step_wp rfl (wp_buildSlice 48 44 1 _ rfl (rcC key t) i0 _ Tryz.underlying48 hi0 hz0 (by omega) (by omega) (by rw [hz1]; kernel_rfl) ?_)
        refine hK.out _ _ ?_ (fun hHeld => ?_)
        · exact HRA.out _ (((Below.refl _ _).alloc (Nat.le_refl _) _).drew)
        clear hK K2
        try simp only [Act.put, List.setIfInBounds_toArray, List.set_cons_zero, List.set_cons_succ]
        refine wpAnyH_ready (rs := [7]) (by kernel_rfl) (by simp) ?_
        refine AllReadyH.cons (o := _) rfl (fun K2 hK => ?_) AllReadyH.nil
        refine step_append_lies _ (by rfl) _ _ _ (by rfl) B 44 i0 _ 7 80 Tryz.underlying48 hi0 hz0 hz1 hz2 rfl (by omega) (.slice wa wt.length wk) wt.length (wt.flatMap fun t => (rcC key t).toList) (by rfl) ((HO.out.wr.alloc _).drew) ⟨W8.heap.size, 0, none⟩ 1 1 (rcC key t).toList (by rfl) (by kernel_rfl) (World.news_of_block (cs := rcC key t) (t := 44) (fr := (0, 0)) (heap_alloc_new W8 _)) (by simp [rcC, Value.oneCell']) (by omega) (by unfold maxLen; omega) (by omega) (by simp; omega) (W8.heap.size + 1) (by simp) ?_
        intro gg cap w9 hown hgrow hat hlt
        have hal : Below W8.heap.size W8 ((W8.alloc (.cells (rcC key t) 44)).drew) := ((Below.refl _ _).alloc (Nat.le_refl _) _).drew
        obtain ⟨hN, hF, hGr⟩ := HO.out.pushW t hal hgrow hown (hat.imp id (fun e => by omega)) hlt
        have hqc : Cel w9 q (teC q t.tm key t.sq on (.slice wa wt.length wk) (.slice pa wt.length pk)) 73 := (hgrow.block q (by have := HO.out.cp.lt; simp; omega) (fun e => by have := HO.out.wT q e.symm; rw [HO.out.tq] at this; cases this)).trans (hal.block q HO.out.cp.lt |>.trans HO.out.cp)
        have hrc : Cel w9 w7.heap.size (rcC key t) 44 := (hgrow.block w7.heap.size (by have := HRC.out.lt; simp; omega) (fun e => by have := HO.out.wT _ e.symm; have := HLOW.out _ (show σ w7.heap.size ≠ none by rw [this]; simp); have := HAN.out; omega)).trans (hal.block w7.heap.size HRC.out.lt |>.trans HRC.out)
        have hrr : Cel w9 (w.heap.size + 1) rcZ 44 := (hgrow.block (w.heap.size + 1) (by have := HR.out.lt; simp; omega) (fun e => by have := HO.out.wT _ e.symm; have := HLOW.out _ (show σ (w.heap.size + 1) ≠ none by rw [this]; simp); omega)).trans (hal.block (w.heap.size + 1) HR.out.lt |>.trans HR.out)
        refine hK.out _ _ ?_ (fun hHeld => ?_)
        · exact fun j u hj => by rw [Nat.zero_add, hrc.cell j, ← hj]; exact (Array.getElem?_toList).symm
        clear hK K2 p0
        try simp only [Act.put, List.setIfInBounds_toArray, List.set_cons_zero, List.set_cons_succ]
        refine wpAnyH_take (i := 8) (oi := _) (v := ?_) rfl (by kernel_rfl) (by kernel_rfl) (by kernel_rfl) (fun _ _ _ h => h) (Or.inl ⟨by rfl, ?_⟩) (by assumption) ?_
        rotate_left
        · (intro w hSw; (try dsimp only at hSw); go_simp; (try with_reducible rfl))
        simp only [Act.put, List.setIfInBounds_toArray, List.set_cons_zero, List.set_cons_succ]
        refine wpAnyH_take (i := 9) (oi := _) (v := ?_) rfl (by kernel_rfl) (by kernel_rfl) (by kernel_rfl) (fun _ _ _ h => h) (Or.inl ⟨by rfl, ?_⟩) (by assumption) ?_
        rotate_left
        · (intro w hSw; (try dsimp only at hSw); go_simp; (try with_reducible rfl))
        simp only [Act.put, List.setIfInBounds_toArray, List.set_cons_zero, List.set_cons_succ]
        have HN := Lib.hid hN
        have HF := Lib.hid hF
        have HGr := Lib.hid hGr
        have HRC9 := Lib.hid hrc
        have HS1 := Lib.hid (show ¬ tg σ gg (1, 0) w7.heap.size ≠ none from fun hc => by
          rcases hGr _ hc with d | d
          · have := (HLOW.out _ d).2; have := HAN.out; omega
          · have := HRC.out.lt; omega)
        have HS2 := Lib.hid (show ¬ tg σ gg (1, 0) (w.heap.size + 1) ≠ none from fun hc => by
          rcases hGr _ hc with d | d
          · have := (HLOW.out _ d).2; omega
          · have := HR.out.lt; omega)
        have HRR9 := Lib.hid hrr
        have p0 : w9.cell? ⟨q, 6, none⟩ = some (.slice wa wt.length wk) := hqc.cell 6
        have p1 := hqc.free 6
        have p2 := hqc.lt
        have HAQ := Lib.hid (show w7.heap.size ≠ q from fun e => by have := HAN.out; have := HLOW.out q (by rw [HO.out.tq]; simp); omega)
        have HRQ := Lib.hid (show w.heap.size + 1 ≠ q from fun e => by have := HLOW.out q (by rw [HO.out.tq]; simp); omega)
        clear hN hF hGr hrc hrr hqc hal hown hgrow hat hlt hi0 hz0 hz1 hz2
        refine wpAnyH_ready (rs := [10]) (by kernel_rfl) (by simp) ?_
        refine AllReadyH.cons (o := _) rfl (fun K2 hK => ?_) AllReadyH.nil
        go_simp
        obtain ⟨V9, hV9⟩ : ∃ V9, V9 = w9.setCell ⟨q, 6, none⟩ (.slice (some ⟨gg, 0, none⟩) (wt.length + 1) cap) := ⟨_, rfl⟩
        rw [← hV9] at HN HF ⊢
        have HRC0 := Lib.hid (show Cel V9 w7.heap.size (rcC key t) 44 by rw [hV9]; exact HRC9.out.other (a := ⟨q, 6, none⟩) HAQ.out _)
        have HRR0 := Lib.hid (show Cel V9 (w.heap.size + 1) rcZ 44 by rw [hV9]; exact HRR9.out.other (a := ⟨q, 6, none⟩) HRQ.out _)
        clear hV9 HRC9 HRR9 p0 p1 p2
        refine hK.out _ _ ?_ (fun hHeld => ?_)
        · exact fun j u hj => by rw [Nat.zero_add, HRC0.out.cell j, ← hj]; exact (Array.getElem?_toList).symm
        clear hK K2
        try simp only [Act.put, List.setIfInBounds_toArray, List.set_cons_zero, List.set_cons_succ]
        refine wpAnyH_done (by kernel_rfl) ?_ _
        clear HRC HR HRA HO
        obtain ⟨i1, hi1, hy0, hy1, hy2⟩ := info_parts infoIn
        have p0 : V9.cell? ⟨q, 7, none⟩ = some (.slice pa wt.length pk) := HN.out.cp.cell 7
        have p1 := HN.out.cp.free 7
        have p2 := HN.out.cp.lt
        have hv9 : W8.heap.size ≤ V9.heap.size := HF.out.size
        have hal : Below V9.heap.size V9 (V9.alloc (.cells #[.int .i64 0] 3)) := (Below.refl _ _).alloc (Nat.le_refl _) _
        have HAL2 := Lib.hid hal
        clear hal
        go_wp2_with (first
          | (refine wpList_append_lies _ rfl _ _ _ rfl B 3 i1 _ 1 8 Tryz.underlying71 hi1 hy0 hy1 hy2 rfl (by omega) (.slice pa wt.length pk) wt.length (List.replicate wt.length (.int .i64 0)) rfl (HN.out.pr.alloc _) ⟨V9.heap.size, 0, none⟩ 1 1 [.int .i64 0] rfl rfl (World.news_of_block (cs := #[.int .i64 0]) (t := 3) (fr := (0, 0)) (heap_alloc_new V9 _)) (by simp [Value.oneCell']) (by omega) (by unfold maxLen; omega) (by omega) (by simp; omega) (V9.heap.size + 1) (by simp) ?_
             intro g2 cap2 w10 hown hgrow hat hlt
             obtain ⟨hN, hF, hGr⟩ := HN.out.pushP HAL2.out hgrow hown (hat.imp id (fun e => by omega)) hlt
             have hfar : ∀ b, b < V9.heap.size → some b ≠ (Value.slice pa wt.length pk).ownBlock → w10.heap[b]? = V9.heap[b]? := fun b hb hne => (hgrow.block b (by simp; omega) hne).trans (HAL2.out.block b hb)
             have hqc : Cel w10 q _ 73 := (hfar q HN.out.cp.lt (fun e => by have := HN.out.pT q e.symm; rw [HN.out.tq] at this; cases this)).trans HN.out.cp
             have hrc : Cel w10 w7.heap.size (rcC key t) 44 := (hfar w7.heap.size HRC0.out.lt (fun e => HS1.out (by have := HN.out.pT _ e.symm; rw [this]; simp))).trans HRC0.out
             have hrr : Cel w10 (w.heap.size + 1) rcZ 44 := (hfar _ HRR0.out.lt (fun e => HS2.out (by have := HN.out.pT _ e.symm; rw [this]; simp))).trans HRR0.out
             have HN2 := Lib.hid hN
             have HF2 := Lib.hid hF
             have HG2 := Lib.hid hGr
             have HRC1 := Lib.hid (show Cel (w10.setCell ⟨q, 7, none⟩ (.slice (some ⟨g2, 0, none⟩) (wt.length + 1) cap2)) w7.heap.size (rcC key t) 44 from hrc.other (a := ⟨q, 7, none⟩) HAQ.out _)
             have HRR1 := Lib.hid (show Cel (w10.setCell ⟨q, 7, none⟩ (.slice (some ⟨g2, 0, none⟩) (wt.length + 1) cap2)) (w.heap.size + 1) rcZ 44 from hrr.other (a := ⟨q, 7, none⟩) HRQ.out _)
             clear p0 p1 p2
             have p0 : w10.cell? ⟨q, 7, none⟩ = some (.slice pa wt.length pk) := hqc.cell 7
             have p1 := hqc.free 7
             have p2 := hqc.lt
             clear hN hF hGr hfar hqc hrc hrr hown hgrow hat hlt hi1 hy0 hy1 hy2)
          | (refine wpList_load_row rfl 44 _ rfl w7.heap.size rfl _ _ _ _ HRC1.out Tryz.underlying44 rfl (by kernel_rfl) ?_)
          | (refine wpList_store_row rfl 44 _ _ rfl (w.heap.size + 1) (rcC key t) rfl rfl 44 _ HRR1.out (by kernel_rfl) (by kernel_rfl) (by kernel_rfl) ?_)
          | fail)
        have hg1 : Gr σ (tg σ gg (1, 0)) w.heap.size := fun b hb => (HGr.out b hb).imp id (Nat.le_trans HX.out.size)
        have hg2 : Gr σ (tg (tg σ gg (1, 0)) g2 (2, 0)) w.heap.size := hg1.trans HG2.out (Nat.le_trans HX.out.size hv9)
        have hf : Fr σ w (w10.setCell ⟨q, 7, none⟩ (.slice (some ⟨g2, 0, none⟩) (wt.length + 1) cap2)) := ((Fr.of_below HX.out).trans (Gr.refl _ _) HF.out).trans hg1 HF2.out
        have hnr : tg (tg σ gg (1, 0)) g2 (2, 0) (w.heap.size + 1) = none := Classical.byContradiction fun hc => by
          rcases HG2.out _ hc with d | d
          · exact HS2.out d
          · have := HRR0.out.lt; omega
        refine bodyPost_ret (v := .tuple #[rcV key t, .int .i64 0]) (results_row_tmp Tryz.results21 _ _ (w.heap.size + 1) 44 (rcC key t) (0, 0) _ rfl (setRow_heap _ _ _ _ _ _ HRR1.out) Tryz.underlying44 rfl (by kernel_rfl)) rfl ?_
        refine .inr ⟨by simp [hfull], rfl, _, _, _, HN2.out.same (by rw [size_setRow]; exact Nat.le_refl _) (fun b hb => setRow_other _ _ _ _ (fun e => hb (by rw [e]; exact hnr))), ?_, hg2⟩
        exact ⟨hf.os, hf.tape, hf.output, by rw [size_setRow]; exact hf.size, fun b hb hn => (setRow_other _ _ _ _ (by omega)).trans (hf.block b hb hn)⟩
      · obtain ⟨i0, hi0, hz0, hz1, hz2⟩ := info_parts infoRe
        refine step_wp rfl (wp_buildSlice 48 44 1 _ rfl (rcC key t) i0 _ Tryz.underlying48 hi0 hz0 (by omega) (by omega) (by rw [hz1]; kernel_rfl) ?_)
        refine hK.out _ _ ?_ (fun hHeld => ?_)
        · exact HRA.out _ (((Below.refl _ _).alloc (Nat.le_refl _) _).drew)
        clear hK K2
        try simp only [Act.put, List.setIfInBounds_toArray, List.set_cons_zero, List.set_cons_succ]
        clear p0
        have p0 : (W8.alloc (.cells (rcC key t) 44)).drew.cell? ⟨q, 6, none⟩ = some (.slice wa wt.length wk) := (HO.out.below (((Below.refl _ _).alloc (Nat.le_refl _) (.cells (rcC key t) 44)).drew)).cp.cell 6
        refine wpAnyH_ready (rs := [4]) (by kernel_rfl) (by simp) ?_
        refine AllReadyH.cons (o := _) rfl (fun K2 hK => ?_) AllReadyH.nil
        go_simp
        refine hK.out _ _ ?_ (fun hHeld => ?_)
        · exact HRA.out _ (((Below.refl _ _).alloc (Nat.le_refl _) _).drew)
        clear hK K2
        try simp only [Act.put, List.setIfInBounds_toArray, List.set_cons_zero, List.set_cons_succ]
        refine wpAnyH_ready (rs := [7]) (by kernel_rfl) (by simp) ?_
        refine AllReadyH.cons (o := _) rfl (fun K2 hK => ?_) AllReadyH.nil
        refine step_append_lies _ (by rfl) _ _ _ (by rfl) B 44 i0 _ 7 80 Tryz.underlying48 hi0 hz0 hz1 hz2 rfl (by omega) (.slice wa wt.length wk) wt.length (wt.flatMap fun t => (rcC key t).toList) (by rfl) ((HO.out.wr.alloc _).drew) ⟨W8.heap.size, 0, none⟩ 1 1 (rcC key t).toList (by rfl) (by kernel_rfl) (World.news_of_block (cs := rcC key t) (t := 44) (fr := (0, 0)) (heap_alloc_new W8 _)) (by simp [rcC, Value.oneCell']) (by omega) (by unfold maxLen; omega) (by omega) (by simp; omega) (W8.heap.size + 1) (by simp) ?_
        intro gg cap w9 hown hgrow hat hlt
        have hal : Below W8.heap.size W8 ((W8.alloc (.cells (rcC key t) 44)).drew) := ((Below.refl _ _).alloc (Nat.le_refl _) _).drew
        obtain ⟨hN, hF, hGr⟩ := HO.out.pushW t hal hgrow hown (hat.imp id (fun e => by omega)) hlt
        have hqc : Cel w9 q (teC q t.tm key t.sq on (.slice wa wt.length wk) (.slice pa wt.length pk)) 73 := (hgrow.block q (by have := HO.out.cp.lt; simp; omega) (fun e => by have := HO.out.wT q e.symm; rw [HO.out.tq] at this; cases this)).trans (hal.block q HO.out.cp.lt |>.trans HO.out.cp)
        have hrc : Cel w9 w7.heap.size (rcC key t) 44 := (hgrow.block w7.heap.size (by have := HRC.out.lt; simp; omega) (fun e => by have := HO.out.wT _ e.symm; have := HLOW.out _ (show σ w7.heap.size ≠ none by rw [this]; simp); have := HAN.out; omega)).trans (hal.block w7.heap.size HRC.out.lt |>.trans HRC.out)
        have hrr : Cel w9 (w.heap.size + 1) rcZ 44 := (hgrow.block (w.heap.size + 1) (by have := HR.out.lt; simp; omega) (fun e => by have := HO.out.wT _ e.symm; have := HLOW.out _ (show σ (w.heap.size + 1) ≠ none by rw [this]; simp); omega)).trans (hal.block (w.heap.size + 1) HR.out.lt |>.trans HR.out)
        refine hK.out _ _ ?_ (fun hHeld => ?_)
        · exact fun j u hj => by rw [Nat.zero_add, hrc.cell j, ← hj]; exact (Array.getElem?_toList).symm
        clear hK K2 p0
        try simp only [Act.put, List.setIfInBounds_toArray, List.set_cons_zero, List.set_cons_succ]
        refine wpAnyH_take (i := 8) (oi := _) (v := ?_) rfl (by kernel_rfl) (by kernel_rfl) (by kernel_rfl) (fun _ _ _ h => h) (Or.inl ⟨by rfl, ?_⟩) (by assumption) ?_
        rotate_left
        · (intro w hSw; (try dsimp only at hSw); go_simp; (try with_reducible rfl))
        simp only [Act.put, List.setIfInBounds_toArray, List.set_cons_zero, List.set_cons_succ]
        refine wpAnyH_take (i := 9) (oi := _) (v := ?_) rfl (by kernel_rfl) (by kernel_rfl) (by kernel_rfl) (fun _ _ _ h => h) (Or.inl ⟨by rfl, ?_⟩) (by assumption) ?_
        rotate_left
        · (intro w hSw; (try dsimp only at hSw); go_simp; (try with_reducible rfl))
        simp only [Act.put, List.setIfInBounds_toArray, List.set_cons_zero, List.set_cons_succ]
        have HN := Lib.hid hN
        have HF := Lib.hid hF
        have HGr := Lib.hid hGr
        have HRC9 := Lib.hid hrc
        have HS1 := Lib.hid (show ¬ tg σ gg (1, 0) w7.heap.size ≠ none from fun hc => by
          rcases hGr _ hc with d | d
          · have := (HLOW.out _ d).2; have := HAN.out; omega
          · have := HRC.out.lt; omega)
        have HS2 := Lib.hid (show ¬ tg σ gg (1, 0) (w.heap.size + 1) ≠ none from fun hc => by
          rcases hGr _ hc with d | d
          · have := (HLOW.out _ d).2; omega
          · have := HR.out.lt; omega)
        have HRR9 := Lib.hid hrr
        have p0 : w9.cell? ⟨q, 6, none⟩ = some (.slice wa wt.length wk) := hqc.cell 6
        have p1 := hqc.free 6
        have p2 := hqc.lt
        have HAQ := Lib.hid (show w7.heap.size ≠ q from fun e => by have := HAN.out; have := HLOW.out q (by rw [HO.out.tq]; simp); omega)
        have HRQ := Lib.hid (show w.heap.size + 1 ≠ q from fun e => by have := HLOW.out q (by rw [HO.out.tq]; simp); omega)
        clear hN hF hGr hrc hrr hqc hal hown hgrow hat hlt hi0 hz0 hz1 hz2
        refine wpAnyH_ready (rs := [10]) (by kernel_rfl) (by simp) ?_
        refine AllReadyH.cons (o := _) rfl (fun K2 hK => ?_) AllReadyH.nil
        go_simp
        obtain ⟨V9, hV9⟩ : ∃ V9, V9 = w9.setCell ⟨q, 6, none⟩ (.slice (some ⟨gg, 0, none⟩) (wt.length + 1) cap) := ⟨_, rfl⟩
        rw [← hV9] at HN HF ⊢
        have HRC0 := Lib.hid (show Cel V9 w7.heap.size (rcC key t) 44 by rw [hV9]; exact HRC9.out.other (a := ⟨q, 6, none⟩) HAQ.out _)
        have HRR0 := Lib.hid (show Cel V9 (w.heap.size + 1) rcZ 44 by rw [hV9]; exact HRR9.out.other (a := ⟨q, 6, none⟩) HRQ.out _)
        clear hV9 HRC9 HRR9 p0 p1 p2
        refine hK.out _ _ ?_ (fun hHeld => ?_)
        · exact fun j u hj => by rw [Nat.zero_add, HRC0.out.cell j, ← hj]; exact (Array.getElem?_toList).symm
        clear hK K2
        try simp only [Act.put, List.setIfInBounds_toArray, List.set_cons_zero, List.set_cons_succ]
        refine wpAnyH_done (by kernel_rfl) ?_ _
        clear HRC HR HRA HO
        obtain ⟨i1, hi1, hy0, hy1, hy2⟩ := info_parts infoIn
        have p0 : V9.cell? ⟨q, 7, none⟩ = some (.slice pa wt.length pk) := HN.out.cp.cell 7
        have p1 := HN.out.cp.free 7
        have p2 := HN.out.cp.lt
        have hv9 : W8.heap.size ≤ V9.heap.size := HF.out.size
        have hal : Below V9.heap.size V9 (V9.alloc (.cells #[.int .i64 0] 3)) := (Below.refl _ _).alloc (Nat.le_refl _) _
        have HAL2 := Lib.hid hal
        clear hal
        go_wp2_with (first
          | (refine wpList_append_lies _ rfl _ _ _ rfl B 3 i1 _ 1 8 Tryz.underlying71 hi1 hy0 hy1 hy2 rfl (by omega) (.slice pa wt.length pk) wt.length (List.replicate wt.length (.int .i64 0)) rfl (HN.out.pr.alloc _) ⟨V9.heap.size, 0, none⟩ 1 1 [.int .i64 0] rfl rfl (World.news_of_block (cs := #[.int .i64 0]) (t := 3) (fr := (0, 0)) (heap_alloc_new V9 _)) (by simp [Value.oneCell']) (by omega) (by unfold maxLen; omega) (by omega) (by simp; omega) (V9.heap.size + 1) (by simp) ?_
             intro g2 cap2 w10 hown hgrow hat hlt
             obtain ⟨hN, hF, hGr⟩ := HN.out.pushP HAL2.out hgrow hown (hat.imp id (fun e => by omega)) hlt
             have hfar : ∀ b, b < V9.heap.size → some b ≠ (Value.slice pa wt.length pk).ownBlock → w10.heap[b]? = V9.heap[b]? := fun b hb hne => (hgrow.block b (by simp; omega) hne).trans (HAL2.out.block b hb)
             have hqc : Cel w10 q _ 73 := (hfar q HN.out.cp.lt (fun e => by have := HN.out.pT q e.symm; rw [HN.out.tq] at this; cases this)).trans HN.out.cp
             have hrc : Cel w10 w7.heap.size (rcC key t) 44 := (hfar w7.heap.size HRC0.out.lt (fun e => HS1.out (by have := HN.out.pT _ e.symm; rw [this]; simp))).trans HRC0.out
             have hrr : Cel w10 (w.heap.size + 1) rcZ 44 := (hfar _ HRR0.out.lt (fun e => HS2.out (by have := HN.out.pT _ e.symm; rw [this]; simp))).trans HRR0.out
             have HN2 := Lib.hid hN
             have HF2 := Lib.hid hF
             have HG2 := Lib.hid hGr
             have HRC1 := Lib.hid (show Cel (w10.setCell ⟨q, 7, none⟩ (.slice (some ⟨g2, 0, none⟩) (wt.length + 1) cap2)) w7.heap.size (rcC key t) 44 from hrc.other (a := ⟨q, 7, none⟩) HAQ.out _)
             have HRR1 := Lib.hid (show Cel (w10.setCell ⟨q, 7, none⟩ (.slice (some ⟨g2, 0, none⟩) (wt.length + 1) cap2)) (w.heap.size + 1) rcZ 44 from hrr.other (a := ⟨q, 7, none⟩) HRQ.out _)
             clear p0 p1 p2
             have p0 : w10.cell? ⟨q, 7, none⟩ = some (.slice pa wt.length pk) := hqc.cell 7
             have p1 := hqc.free 7
             have p2 := hqc.lt
             clear hN hF hGr hfar hqc hrc hrr hown hgrow hat hlt hi1 hy0 hy1 hy2)
          | (refine wpList_load_row rfl 44 _ rfl w7.heap.size rfl _ _ _ _ HRC1.out Tryz.underlying44 rfl (by kernel_rfl) ?_)
          | (refine wpList_store_row rfl 44 _ _ rfl (w.heap.size + 1) (rcC key t) rfl rfl 44 _ HRR1.out (by kernel_rfl) (by kernel_rfl) (by kernel_rfl) ?_)
          | fail)
        have hg1 : Gr σ (tg σ gg (1, 0)) w.heap.size := fun b hb => (HGr.out b hb).imp id (Nat.le_trans HX.out.size)
        have hg2 : Gr σ (tg (tg σ gg (1, 0)) g2 (2, 0)) w.heap.size := hg1.trans HG2.out (Nat.le_trans HX.out.size hv9)
        have hf : Fr σ w (w10.setCell ⟨q, 7, none⟩ (.slice (some ⟨g2, 0, none⟩) (wt.length + 1) cap2)) := ((Fr.of_below HX.out).trans (Gr.refl _ _) HF.out).trans hg1 HF2.out
        have hnr : tg (tg σ gg (1, 0)) g2 (2, 0) (w.heap.size + 1) = none := Classical.byContradiction fun hc => by
          rcases HG2.out _ hc with d | d
          · exact HS2.out d
          · have := HRR0.out.lt; omega
        refine bodyPost_ret (v := .tuple #[rcV key t, .int .i64 0]) (results_row_tmp Tryz.results21 _ _ (w.heap.size + 1) 44 (rcC key t) (0, 0) _ rfl (setRow_heap _ _ _ _ _ _ HRR1.out) Tryz.underlying44 rfl (by kernel_rfl)) rfl ?_
        refine .inr ⟨by simp [hfull], rfl, _, _, _, HN2.out.same (by rw [size_setRow]; exact Nat.le_refl _) (fun b hb => setRow_other _ _ _ _ (fun e => hb (by rw [e]; exact hnr))), ?_, hg2⟩
        exact ⟨hf.os, hf.tape, hf.output, by rw [size_setRow]; exact hf.size, fun b hb hn => (setRow_other _ _ _ _ (by omega)).trans (hf.block b hb hn)⟩
    · go_simp
      have HAL := Lib.hid (Nat.le_refl Wb.heap.size)
      obtain ⟨W7, hW7⟩ : ∃ W7, W7 = (Wb.alloc (.cells #[.string ⟨#[]⟩, .string ⟨#[]⟩, .string ⟨#[]⟩, .int .i64 0, .int .i64 0, .int .i64 0, .int .u64 0] 44)).drew := ⟨_, rfl⟩
      have HAA := Lib.hid (show Cel W7 Wb.heap.size rcZ 44 by rw [hW7]; exact (Cel.new Wb rcZ 44).drew)
      replace HSS := Lib.hid (show Below Wb.heap.size Wb W7 by rw [hW7]; exact ((Below.refl _ _).alloc (Nat.le_refl _) _).drew)
      rw [← hW7]
      clear hW7
      refine hK.out _ _ ?_ (fun hHeld => ?_)
      · exact HSS.out
      clear hK K2
      try simp only [Act.put, List.setIfInBounds_toArray, List.set_cons_zero, List.set_cons_succ]
      refine wpAnyH_ready (rs := [6]) (by kernel_rfl) (by simp) ?_
      refine AllReadyH.cons (o := _) rfl (fun K2 hK => ?_) AllReadyH.nil
      go_simp
      refine (HIS.out _).mono ?_
      rintro e w7 ⟨rfl, hb7⟩
      replace HAA := Lib.hid (HAA.out.below hb7 HAA.out.lt)
      replace HSS := Lib.hid (show Below Wb.heap.size Wb w7 from HSS.out.trans (hb7.mono HSS.out.size))
      clear hb7
      unfold rcpV
      go_wp2_with fail
      refine hK.out _ _ ?_ (fun hHeld => ?_)
      · exact HSS.out
      clear hK K2
      try simp only [Act.put, List.setIfInBounds_toArray, List.set_cons_zero, List.set_cons_succ]
      have f0 := HAA.out.cell 0
      have g0 := HAA.out.free 0
      have f1 := HAA.out.cell 1
      have g1 := HAA.out.free 1
      have f2 := HAA.out.cell 2
      have g2 := HAA.out.free 2
      have f3 := HAA.out.cell 3
      have g3 := HAA.out.free 3
      have f4 := HAA.out.cell 4
      have g4 := HAA.out.free 4
      have f5 := HAA.out.cell 5
      have g5 := HAA.out.free 5
      have f6 := HAA.out.cell 6
      have g6 := HAA.out.free 6
      have fl := HAA.out.lt
      simp [rcZ] at f0 f1 f2 f3 f4 f5 f6
      refine wpAnyH_ready (rs := [8]) (by kernel_rfl) (by simp) ?_
      refine AllReadyH.cons (o := _) rfl (fun K2 hK => ?_) AllReadyH.nil
      go_simp
      obtain ⟨W8, hW8⟩ : ∃ W8, W8 = (((((((w7.setCell ⟨Wb.heap.size, 0, none⟩ (.string (nu t))).setCell ⟨Wb.heap.size, 1, none⟩ (.string nmB)).setCell ⟨Wb.heap.size, 2, none⟩ (.string (tx t.x t.y))).setCell ⟨Wb.heap.size, 3, none⟩ (.int .i64 (Tp.fst t.at_))).setCell ⟨Wb.heap.size, 4, none⟩ (.int .i64 200)).setCell ⟨Wb.heap.size, 5, none⟩ (.int .i64 t.at_)).setCell ⟨Wb.heap.size, 6, none⟩ (.int .u64 (sgI key (nu t) nmB (tx t.x t.y) (Tp.fst t.at_) 200 t.at_))) := ⟨_, rfl⟩
      rw [← hW8]
      have HRC := Lib.hid (show Cel W8 Wb.heap.size (rcC key t) 44 by
        rw [hW8]
        have := (((((((HAA.out.set 0 (.string (nu t))).set 1 (.string nmB)).set 2 (.string (tx t.x t.y))).set 3 (.int .i64 (Tp.fst t.at_))).set 4 (.int .i64 200)).set 5 (.int .i64 t.at_)).set 6 (.int .u64 (sgI key (nu t) nmB (tx t.x t.y) (Tp.fst t.at_) 200 t.at_)))
        simpa [rcC, rcZ] using this)
      have HS8 := Lib.hid (show Below Wb.heap.size Wb W8 by
        rw [hW8]
        exact (((((((HSS.out.setCell HAL.out (.string (nu t))).setCell HAL.out (.string nmB)).setCell HAL.out (.string (tx t.x t.y))).setCell HAL.out (.int .i64 (Tp.fst t.at_))).setCell HAL.out (.int .i64 200)).setCell HAL.out (.int .i64 t.at_)).setCell HAL.out (.int .u64 (sgI key (nu t) nmB (tx t.x t.y) (Tp.fst t.at_) 200 t.at_))))
      clear hW8 fl f0 g0 f1 g1 f2 g2 f3 g3 f4 g4 f5 g5 f6 g6
      refine hK.out _ _ ?_ (fun hHeld => ?_)
      · exact HS8.out
      clear hK K2 HSS HAA
      try simp only [Act.put, List.setIfInBounds_toArray, List.set_cons_zero, List.set_cons_succ]
      refine wpAnyH_done (by kernel_rfl) ?_ _
      replace HR := Lib.hid (HR.out.below HS8.out HR.out.lt)
      have HXB := Lib.hid HX.out.size
      replace HX := Lib.hid (HX.out.trans (HS8.out.mono HX.out.size))
      replace HO := Lib.hid (HO.out.below HS8.out)
      have HAN := Lib.hid (show w.heap.size ≤ Wb.heap.size from Nat.le_trans HXB.out HAL.out)
      have hbs : B ≤ W8.heap.size := Nat.le_trans hBw HX.out.size
      clear hl3 hlt HBB HIS HBF HL0 HXB
      go_wp2_with fail
      have hlr : ∀ y : World, y.rangeAt Wb.heap.size 0 (rcC key t).toList → y.rangeAt Wb.heap.size 0 (rcC key t).toList := fun y hy => hy
      have HRA := Lib.hid (show ∀ y, Below W8.heap.size W8 y → y.rangeAt Wb.heap.size 0 (rcC key t).toList from fun y hy j u hj => by
        rw [Nat.zero_add, (HRC.out.below hy HRC.out.lt).cell j, ← hj]
        exact (Array.getElem?_toList).symm)
      refine wp_region_held_drew (S := fun y => y.rangeAt Wb.heap.size 0 (rcC key t).toList) (by kernel_rfl) (HRA.out _ (Below.refl _ _).drew) (fun hHeld => ?_)
      refine wpAnyH_take (i := 0) (oi := _) (v := ?_) rfl (by kernel_rfl) (by kernel_rfl) (by kernel_rfl) (fun _ _ _ h => h) (Or.inl ⟨by rfl, ?_⟩) (by assumption) ?_
      rotate_left
      · (intro w hSw; (try dsimp only at hSw); go_simp; (try with_reducible rfl))
      simp only [Act.put, List.setIfInBounds_toArray, List.set_cons_zero, List.set_cons_succ]
      refine wpAnyH_take (i := 1) (oi := _) (v := ?_) rfl (by kernel_rfl) (by kernel_rfl) (by kernel_rfl) (fun _ _ _ h => h) (Or.inl ⟨by rfl, ?_⟩) (by assumption) ?_
      rotate_left
      · (intro w hSw; (try dsimp only at hSw); go_simp; (try with_reducible rfl))
      simp only [Act.put, List.setIfInBounds_toArray, List.set_cons_zero, List.set_cons_succ]
      refine wpAnyH_take (i := 2) (oi := _) (v := ?_) rfl (by kernel_rfl) (by kernel_rfl) (by kernel_rfl) (fun _ _ _ h => h) (Or.inl ⟨by rfl, ?_⟩) (by assumption) ?_
      rotate_left
      · (intro w hSw; (try dsimp only at hSw); go_simp; (try with_reducible rfl))
      simp only [Act.put, List.setIfInBounds_toArray, List.set_cons_zero, List.set_cons_succ]
      refine wpAnyH_take (i := 3) (oi := _) (v := ?_) rfl (by kernel_rfl) (by kernel_rfl) (by kernel_rfl) (fun _ _ _ h => h) (Or.inl ⟨by rfl, ?_⟩) (by assumption) ?_
      rotate_left
      · (intro w hSw; (try dsimp only at hSw); go_simp; (try with_reducible rfl))
      simp only [Act.put, List.setIfInBounds_toArray, List.set_cons_zero, List.set_cons_succ]
      refine wpAnyH_take (i := 5) (oi := _) (v := _) rfl (by kernel_rfl) (by kernel_rfl) (by kernel_rfl) (fun _ _ _ h => h) (yieldsIf_load_mid (by rfl) 44 _ rfl Wb.heap.size 0 rfl (rcC key t).toList _ hlr Tryz.underlying44 rfl (by kernel_rfl)) (by assumption) ?_
      simp only [Act.put, List.setIfInBounds_toArray, List.set_cons_zero, List.set_cons_succ]
      have p0 : W8.drew.cell? ⟨q, 6, none⟩ = some (.slice wa wt.length wk) := HO.out.cp.cell 6
      refine wpAnyH_ready (rs := [4, 6]) (by kernel_rfl) (by simp) ?_
      refine AllReadyH.cons (o := _) rfl (fun K2 hK => ?_) (AllReadyH.cons (o := _) rfl (fun K2 hK => ?_) AllReadyH.nil)
      · go_simp
        refine hK.out _ _ ?_ (fun hHeld => ?_)
        · exact HRA.out _ (Below.refl _ _).drew
        clear hK K2
        try simp only [Act.put, List.setIfInBounds_toArray, List.set_cons_zero, List.set_cons_succ]
        refine wpAnyH_ready (rs := [6]) (by kernel_rfl) (by simp) ?_
        refine AllReadyH.cons (o := _) rfl (fun K2 hK => ?_) AllReadyH.nil
        obtain ⟨i0, hi0, hz0, hz1, hz2⟩ := info_parts infoRe
        refine step_wp rfl (wp_buildSlice 48 44 1 _ rfl (rcC key t) i0 _ Tryz.underlying48 hi0 hz0 (by omega) (by omega) (by rw [hz1]; kernel_rfl) ?_)
        refine hK.out _ _ ?_ (fun hHeld => ?_)
        · exact HRA.out _ (((Below.refl _ _).alloc (Nat.le_refl _) _).drew)
        clear hK K2
        try simp only [Act.put, List.setIfInBounds_toArray, List.set_cons_zero, List.set_cons_succ]
        refine wpAnyH_ready (rs := [7]) (by kernel_rfl) (by simp) ?_
        refine AllReadyH.cons (o := _) rfl (fun K2 hK => ?_) AllReadyH.nil
        refine step_append_lies _ (by rfl) _ _ _ (by rfl) B 44 i0 _ 7 80 Tryz.underlying48 hi0 hz0 hz1 hz2 rfl (by omega) (.slice wa wt.length wk) wt.length (wt.flatMap fun t => (rcC key t).toList) (by rfl) ((HO.out.wr.alloc _).drew) ⟨W8.heap.size, 0, none⟩ 1 1 (rcC key t).toList (by rfl) (by kernel_rfl) (World.news_of_block (cs := rcC key t) (t := 44) (fr := (0, 0)) (heap_alloc_new W8 _)) (by simp [rcC, Value.oneCell']) (by omega) (by unfold maxLen; omega) (by omega) (by simp; omega) (W8.heap.size + 1) (by simp) ?_
        intro gg cap w9 hown hgrow hat hlt
        have hal : Below W8.heap.size W8 ((W8.alloc (.cells (rcC key t) 44)).drew) := ((Below.refl _ _).alloc (Nat.le_refl _) _).drew
        obtain ⟨hN, hF, hGr⟩ := HO.out.pushW t hal hgrow hown (hat.imp id (fun e => by omega)) hlt
        have hqc : Cel w9 q (teC q t.tm key t.sq on (.slice wa wt.length wk) (.slice pa wt.length pk)) 73 := (hgrow.block q (by have := HO.out.cp.lt; simp; omega) (fun e => by have := HO.out.wT q e.symm; rw [HO.out.tq] at this; cases this)).trans (hal.block q HO.out.cp.lt |>.trans HO.out.cp)
        have hrc : Cel w9 Wb.heap.size (rcC key t) 44 := (hgrow.block Wb.heap.size (by have := HRC.out.lt; simp; omega) (fun e => by have := HO.out.wT _ e.symm; have := HLOW.out _ (show σ Wb.heap.size ≠ none by rw [this]; simp); have := HAN.out; omega)).trans (hal.block Wb.heap.size HRC.out.lt |>.trans HRC.out)
        have hrr : Cel w9 (w.heap.size + 1) rcZ 44 := (hgrow.block (w.heap.size + 1) (by have := HR.out.lt; simp; omega) (fun e => by have := HO.out.wT _ e.symm; have := HLOW.out _ (show σ (w.heap.size + 1) ≠ none by rw [this]; simp); omega)).trans (hal.block (w.heap.size + 1) HR.out.lt |>.trans HR.out)
        refine hK.out _ _ ?_ (fun hHeld => ?_)
        · exact fun j u hj => by rw [Nat.zero_add, hrc.cell j, ← hj]; exact (Array.getElem?_toList).symm
        clear hK K2 p0
        try simp only [Act.put, List.setIfInBounds_toArray, List.set_cons_zero, List.set_cons_succ]
        refine wpAnyH_take (i := 8) (oi := _) (v := ?_) rfl (by kernel_rfl) (by kernel_rfl) (by kernel_rfl) (fun _ _ _ h => h) (Or.inl ⟨by rfl, ?_⟩) (by assumption) ?_
        rotate_left
        · (intro w hSw; (try dsimp only at hSw); go_simp; (try with_reducible rfl))
        simp only [Act.put, List.setIfInBounds_toArray, List.set_cons_zero, List.set_cons_succ]
        refine wpAnyH_take (i := 9) (oi := _) (v := ?_) rfl (by kernel_rfl) (by kernel_rfl) (by kernel_rfl) (fun _ _ _ h => h) (Or.inl ⟨by rfl, ?_⟩) (by assumption) ?_
        rotate_left
        · (intro w hSw; (try dsimp only at hSw); go_simp; (try with_reducible rfl))
        simp only [Act.put, List.setIfInBounds_toArray, List.set_cons_zero, List.set_cons_succ]
        have HN := Lib.hid hN
        have HF := Lib.hid hF
        have HGr := Lib.hid hGr
        have HRC9 := Lib.hid hrc
        have HS1 := Lib.hid (show ¬ tg σ gg (1, 0) Wb.heap.size ≠ none from fun hc => by
          rcases hGr _ hc with d | d
          · have := (HLOW.out _ d).2; have := HAN.out; omega
          · have := HRC.out.lt; omega)
        have HS2 := Lib.hid (show ¬ tg σ gg (1, 0) (w.heap.size + 1) ≠ none from fun hc => by
          rcases hGr _ hc with d | d
          · have := (HLOW.out _ d).2; omega
          · have := HR.out.lt; omega)
        have HRR9 := Lib.hid hrr
        have p0 : w9.cell? ⟨q, 6, none⟩ = some (.slice wa wt.length wk) := hqc.cell 6
        have p1 := hqc.free 6
        have p2 := hqc.lt
        have HAQ := Lib.hid (show Wb.heap.size ≠ q from fun e => by have := HAN.out; have := HLOW.out q (by rw [HO.out.tq]; simp); omega)
        have HRQ := Lib.hid (show w.heap.size + 1 ≠ q from fun e => by have := HLOW.out q (by rw [HO.out.tq]; simp); omega)
        clear hN hF hGr hrc hrr hqc hal hown hgrow hat hlt hi0 hz0 hz1 hz2
        refine wpAnyH_ready (rs := [10]) (by kernel_rfl) (by simp) ?_
        refine AllReadyH.cons (o := _) rfl (fun K2 hK => ?_) AllReadyH.nil
        go_simp
        obtain ⟨V9, hV9⟩ : ∃ V9, V9 = w9.setCell ⟨q, 6, none⟩ (.slice (some ⟨gg, 0, none⟩) (wt.length + 1) cap) := ⟨_, rfl⟩
        rw [← hV9] at HN HF ⊢
        have HRC0 := Lib.hid (show Cel V9 Wb.heap.size (rcC key t) 44 by rw [hV9]; exact HRC9.out.other (a := ⟨q, 6, none⟩) HAQ.out _)
        have HRR0 := Lib.hid (show Cel V9 (w.heap.size + 1) rcZ 44 by rw [hV9]; exact HRR9.out.other (a := ⟨q, 6, none⟩) HRQ.out _)
        clear hV9 HRC9 HRR9 p0 p1 p2
        refine hK.out _ _ ?_ (fun hHeld => ?_)
        · exact fun j u hj => by rw [Nat.zero_add, HRC0.out.cell j, ← hj]; exact (Array.getElem?_toList).symm
        clear hK K2
        try simp only [Act.put, List.setIfInBounds_toArray, List.set_cons_zero, List.set_cons_succ]
        refine wpAnyH_done (by kernel_rfl) ?_ _
        clear HRC HR HRA HO
        obtain ⟨i1, hi1, hy0, hy1, hy2⟩ := info_parts infoIn
        have p0 : V9.cell? ⟨q, 7, none⟩ = some (.slice pa wt.length pk) := HN.out.cp.cell 7
        have p1 := HN.out.cp.free 7
        have p2 := HN.out.cp.lt
        have hv9 : W8.heap.size ≤ V9.heap.size := HF.out.size
        have hal : Below V9.heap.size V9 (V9.alloc (.cells #[.int .i64 0] 3)) := (Below.refl _ _).alloc (Nat.le_refl _) _
        have HAL2 := Lib.hid hal
        clear hal
        go_wp2_with (first
          | (refine wpList_append_lies _ rfl _ _ _ rfl B 3 i1 _ 1 8 Tryz.underlying71 hi1 hy0 hy1 hy2 rfl (by omega) (.slice pa wt.length pk) wt.length (List.replicate wt.length (.int .i64 0)) rfl (HN.out.pr.alloc _) ⟨V9.heap.size, 0, none⟩ 1 1 [.int .i64 0] rfl rfl (World.news_of_block (cs := #[.int .i64 0]) (t := 3) (fr := (0, 0)) (heap_alloc_new V9 _)) (by simp [Value.oneCell']) (by omega) (by unfold maxLen; omega) (by omega) (by simp; omega) (V9.heap.size + 1) (by simp) ?_
             intro g2 cap2 w10 hown hgrow hat hlt
             obtain ⟨hN, hF, hGr⟩ := HN.out.pushP HAL2.out hgrow hown (hat.imp id (fun e => by omega)) hlt
             have hfar : ∀ b, b < V9.heap.size → some b ≠ (Value.slice pa wt.length pk).ownBlock → w10.heap[b]? = V9.heap[b]? := fun b hb hne => (hgrow.block b (by simp; omega) hne).trans (HAL2.out.block b hb)
             have hqc : Cel w10 q _ 73 := (hfar q HN.out.cp.lt (fun e => by have := HN.out.pT q e.symm; rw [HN.out.tq] at this; cases this)).trans HN.out.cp
             have hrc : Cel w10 Wb.heap.size (rcC key t) 44 := (hfar Wb.heap.size HRC0.out.lt (fun e => HS1.out (by have := HN.out.pT _ e.symm; rw [this]; simp))).trans HRC0.out
             have hrr : Cel w10 (w.heap.size + 1) rcZ 44 := (hfar _ HRR0.out.lt (fun e => HS2.out (by have := HN.out.pT _ e.symm; rw [this]; simp))).trans HRR0.out
             have HN2 := Lib.hid hN
             have HF2 := Lib.hid hF
             have HG2 := Lib.hid hGr
             have HRC1 := Lib.hid (show Cel (w10.setCell ⟨q, 7, none⟩ (.slice (some ⟨g2, 0, none⟩) (wt.length + 1) cap2)) Wb.heap.size (rcC key t) 44 from hrc.other (a := ⟨q, 7, none⟩) HAQ.out _)
             have HRR1 := Lib.hid (show Cel (w10.setCell ⟨q, 7, none⟩ (.slice (some ⟨g2, 0, none⟩) (wt.length + 1) cap2)) (w.heap.size + 1) rcZ 44 from hrr.other (a := ⟨q, 7, none⟩) HRQ.out _)
             clear p0 p1 p2
             have p0 : w10.cell? ⟨q, 7, none⟩ = some (.slice pa wt.length pk) := hqc.cell 7
             have p1 := hqc.free 7
             have p2 := hqc.lt
             clear hN hF hGr hfar hqc hrc hrr hown hgrow hat hlt hi1 hy0 hy1 hy2)
          | (refine wpList_load_row rfl 44 _ rfl Wb.heap.size rfl _ _ _ _ HRC1.out Tryz.underlying44 rfl (by kernel_rfl) ?_)
          | (refine wpList_store_row rfl 44 _ _ rfl (w.heap.size + 1) (rcC key t) rfl rfl 44 _ HRR1.out (by kernel_rfl) (by kernel_rfl) (by kernel_rfl) ?_)
          | fail)
        have hg1 : Gr σ (tg σ gg (1, 0)) w.heap.size := fun b hb => (HGr.out b hb).imp id (Nat.le_trans HX.out.size)
        have hg2 : Gr σ (tg (tg σ gg (1, 0)) g2 (2, 0)) w.heap.size := hg1.trans HG2.out (Nat.le_trans HX.out.size hv9)
        have hf : Fr σ w (w10.setCell ⟨q, 7, none⟩ (.slice (some ⟨g2, 0, none⟩) (wt.length + 1) cap2)) := ((Fr.of_below HX.out).trans (Gr.refl _ _) HF.out).trans hg1 HF2.out
        have hnr : tg (tg σ gg (1, 0)) g2 (2, 0) (w.heap.size + 1) = none := Classical.byContradiction fun hc => by
          rcases HG2.out _ hc with d | d
          · exact HS2.out d
          · have := HRR0.out.lt; omega
        refine bodyPost_ret (v := .tuple #[rcV key t, .int .i64 0]) (results_row_tmp Tryz.results21 _ _ (w.heap.size + 1) 44 (rcC key t) (0, 0) _ rfl (setRow_heap _ _ _ _ _ _ HRR1.out) Tryz.underlying44 rfl (by kernel_rfl)) rfl ?_
        refine .inr ⟨by simp [hfull], rfl, _, _, _, HN2.out.same (by rw [size_setRow]; exact Nat.le_refl _) (fun b hb => setRow_other _ _ _ _ (fun e => hb (by rw [e]; exact hnr))), ?_, hg2⟩
        exact ⟨hf.os, hf.tape, hf.output, by rw [size_setRow]; exact hf.size, fun b hb hn => (setRow_other _ _ _ _ (by omega)).trans (hf.block b hb hn)⟩
      · obtain ⟨i0, hi0, hz0, hz1, hz2⟩ := info_parts infoRe
        refine step_wp rfl (wp_buildSlice 48 44 1 _ rfl (rcC key t) i0 _ Tryz.underlying48 hi0 hz0 (by omega) (by omega) (by rw [hz1]; kernel_rfl) ?_)
        refine hK.out _ _ ?_ (fun hHeld => ?_)
        · exact HRA.out _ (((Below.refl _ _).alloc (Nat.le_refl _) _).drew)
        clear hK K2
        try simp only [Act.put, List.setIfInBounds_toArray, List.set_cons_zero, List.set_cons_succ]
        clear p0
        have p0 : (W8.alloc (.cells (rcC key t) 44)).drew.cell? ⟨q, 6, none⟩ = some (.slice wa wt.length wk) := (HO.out.below (((Below.refl _ _).alloc (Nat.le_refl _) (.cells (rcC key t) 44)).drew)).cp.cell 6
        refine wpAnyH_ready (rs := [4]) (by kernel_rfl) (by simp) ?_
        refine AllReadyH.cons (o := _) rfl (fun K2 hK => ?_) AllReadyH.nil
        go_simp
        refine hK.out _ _ ?_ (fun hHeld => ?_)
        · exact HRA.out _ (((Below.refl _ _).alloc (Nat.le_refl _) _).drew)
        clear hK K2
        try simp only [Act.put, List.setIfInBounds_toArray, List.set_cons_zero, List.set_cons_succ]
        refine wpAnyH_ready (rs := [7]) (by kernel_rfl) (by simp) ?_
        refine AllReadyH.cons (o := _) rfl (fun K2 hK => ?_) AllReadyH.nil
        refine step_append_lies _ (by rfl) _ _ _ (by rfl) B 44 i0 _ 7 80 Tryz.underlying48 hi0 hz0 hz1 hz2 rfl (by omega) (.slice wa wt.length wk) wt.length (wt.flatMap fun t => (rcC key t).toList) (by rfl) ((HO.out.wr.alloc _).drew) ⟨W8.heap.size, 0, none⟩ 1 1 (rcC key t).toList (by rfl) (by kernel_rfl) (World.news_of_block (cs := rcC key t) (t := 44) (fr := (0, 0)) (heap_alloc_new W8 _)) (by simp [rcC, Value.oneCell']) (by omega) (by unfold maxLen; omega) (by omega) (by simp; omega) (W8.heap.size + 1) (by simp) ?_
        intro gg cap w9 hown hgrow hat hlt
        have hal : Below W8.heap.size W8 ((W8.alloc (.cells (rcC key t) 44)).drew) := ((Below.refl _ _).alloc (Nat.le_refl _) _).drew
        obtain ⟨hN, hF, hGr⟩ := HO.out.pushW t hal hgrow hown (hat.imp id (fun e => by omega)) hlt
        have hqc : Cel w9 q (teC q t.tm key t.sq on (.slice wa wt.length wk) (.slice pa wt.length pk)) 73 := (hgrow.block q (by have := HO.out.cp.lt; simp; omega) (fun e => by have := HO.out.wT q e.symm; rw [HO.out.tq] at this; cases this)).trans (hal.block q HO.out.cp.lt |>.trans HO.out.cp)
        have hrc : Cel w9 Wb.heap.size (rcC key t) 44 := (hgrow.block Wb.heap.size (by have := HRC.out.lt; simp; omega) (fun e => by have := HO.out.wT _ e.symm; have := HLOW.out _ (show σ Wb.heap.size ≠ none by rw [this]; simp); have := HAN.out; omega)).trans (hal.block Wb.heap.size HRC.out.lt |>.trans HRC.out)
        have hrr : Cel w9 (w.heap.size + 1) rcZ 44 := (hgrow.block (w.heap.size + 1) (by have := HR.out.lt; simp; omega) (fun e => by have := HO.out.wT _ e.symm; have := HLOW.out _ (show σ (w.heap.size + 1) ≠ none by rw [this]; simp); omega)).trans (hal.block (w.heap.size + 1) HR.out.lt |>.trans HR.out)
        refine hK.out _ _ ?_ (fun hHeld => ?_)
        · exact fun j u hj => by rw [Nat.zero_add, hrc.cell j, ← hj]; exact (Array.getElem?_toList).symm
        clear hK K2 p0
        try simp only [Act.put, List.setIfInBounds_toArray, List.set_cons_zero, List.set_cons_succ]
        refine wpAnyH_take (i := 8) (oi := _) (v := ?_) rfl (by kernel_rfl) (by kernel_rfl) (by kernel_rfl) (fun _ _ _ h => h) (Or.inl ⟨by rfl, ?_⟩) (by assumption) ?_
        rotate_left
        · (intro w hSw; (try dsimp only at hSw); go_simp; (try with_reducible rfl))
        simp only [Act.put, List.setIfInBounds_toArray, List.set_cons_zero, List.set_cons_succ]
        refine wpAnyH_take (i := 9) (oi := _) (v := ?_) rfl (by kernel_rfl) (by kernel_rfl) (by kernel_rfl) (fun _ _ _ h => h) (Or.inl ⟨by rfl, ?_⟩) (by assumption) ?_
        rotate_left
        · (intro w hSw; (try dsimp only at hSw); go_simp; (try with_reducible rfl))
        simp only [Act.put, List.setIfInBounds_toArray, List.set_cons_zero, List.set_cons_succ]
        have HN := Lib.hid hN
        have HF := Lib.hid hF
        have HGr := Lib.hid hGr
        have HRC9 := Lib.hid hrc
        have HS1 := Lib.hid (show ¬ tg σ gg (1, 0) Wb.heap.size ≠ none from fun hc => by
          rcases hGr _ hc with d | d
          · have := (HLOW.out _ d).2; have := HAN.out; omega
          · have := HRC.out.lt; omega)
        have HS2 := Lib.hid (show ¬ tg σ gg (1, 0) (w.heap.size + 1) ≠ none from fun hc => by
          rcases hGr _ hc with d | d
          · have := (HLOW.out _ d).2; omega
          · have := HR.out.lt; omega)
        have HRR9 := Lib.hid hrr
        have p0 : w9.cell? ⟨q, 6, none⟩ = some (.slice wa wt.length wk) := hqc.cell 6
        have p1 := hqc.free 6
        have p2 := hqc.lt
        have HAQ := Lib.hid (show Wb.heap.size ≠ q from fun e => by have := HAN.out; have := HLOW.out q (by rw [HO.out.tq]; simp); omega)
        have HRQ := Lib.hid (show w.heap.size + 1 ≠ q from fun e => by have := HLOW.out q (by rw [HO.out.tq]; simp); omega)
        clear hN hF hGr hrc hrr hqc hal hown hgrow hat hlt hi0 hz0 hz1 hz2
        refine wpAnyH_ready (rs := [10]) (by kernel_rfl) (by simp) ?_
        refine AllReadyH.cons (o := _) rfl (fun K2 hK => ?_) AllReadyH.nil
        go_simp
        obtain ⟨V9, hV9⟩ : ∃ V9, V9 = w9.setCell ⟨q, 6, none⟩ (.slice (some ⟨gg, 0, none⟩) (wt.length + 1) cap) := ⟨_, rfl⟩
        rw [← hV9] at HN HF ⊢
        have HRC0 := Lib.hid (show Cel V9 Wb.heap.size (rcC key t) 44 by rw [hV9]; exact HRC9.out.other (a := ⟨q, 6, none⟩) HAQ.out _)
        have HRR0 := Lib.hid (show Cel V9 (w.heap.size + 1) rcZ 44 by rw [hV9]; exact HRR9.out.other (a := ⟨q, 6, none⟩) HRQ.out _)
        clear hV9 HRC9 HRR9 p0 p1 p2
        refine hK.out _ _ ?_ (fun hHeld => ?_)
        · exact fun j u hj => by rw [Nat.zero_add, HRC0.out.cell j, ← hj]; exact (Array.getElem?_toList).symm
        clear hK K2
        try simp only [Act.put, List.setIfInBounds_toArray, List.set_cons_zero, List.set_cons_succ]
        refine wpAnyH_done (by kernel_rfl) ?_ _
        clear HRC HR HRA HO
        obtain ⟨i1, hi1, hy0, hy1, hy2⟩ := info_parts infoIn
        have p0 : V9.cell? ⟨q, 7, none⟩ = some (.slice pa wt.length pk) := HN.out.cp.cell 7
        have p1 := HN.out.cp.free 7
        have p2 := HN.out.cp.lt
        have hv9 : W8.heap.size ≤ V9.heap.size := HF.out.size
        have hal : Below V9.heap.size V9 (V9.alloc (.cells #[.int .i64 0] 3)) := (Below.refl _ _).alloc (Nat.le_refl _) _
        have HAL2 := Lib.hid hal
        clear hal
        go_wp2_with (first
          | (refine wpList_append_lies _ rfl _ _ _ rfl B 3 i1 _ 1 8 Tryz.underlying71 hi1 hy0 hy1 hy2 rfl (by omega) (.slice pa wt.length pk) wt.length (List.replicate wt.length (.int .i64 0)) rfl (HN.out.pr.alloc _) ⟨V9.heap.size, 0, none⟩ 1 1 [.int .i64 0] rfl rfl (World.news_of_block (cs := #[.int .i64 0]) (t := 3) (fr := (0, 0)) (heap_alloc_new V9 _)) (by simp [Value.oneCell']) (by omega) (by unfold maxLen; omega) (by omega) (by simp; omega) (V9.heap.size + 1) (by simp) ?_
             intro g2 cap2 w10 hown hgrow hat hlt
             obtain ⟨hN, hF, hGr⟩ := HN.out.pushP HAL2.out hgrow hown (hat.imp id (fun e => by omega)) hlt
             have hfar : ∀ b, b < V9.heap.size → some b ≠ (Value.slice pa wt.length pk).ownBlock → w10.heap[b]? = V9.heap[b]? := fun b hb hne => (hgrow.block b (by simp; omega) hne).trans (HAL2.out.block b hb)
             have hqc : Cel w10 q _ 73 := (hfar q HN.out.cp.lt (fun e => by have := HN.out.pT q e.symm; rw [HN.out.tq] at this; cases this)).trans HN.out.cp
             have hrc : Cel w10 Wb.heap.size (rcC key t) 44 := (hfar Wb.heap.size HRC0.out.lt (fun e => HS1.out (by have := HN.out.pT _ e.symm; rw [this]; simp))).trans HRC0.out
             have hrr : Cel w10 (w.heap.size + 1) rcZ 44 := (hfar _ HRR0.out.lt (fun e => HS2.out (by have := HN.out.pT _ e.symm; rw [this]; simp))).trans HRR0.out
             have HN2 := Lib.hid hN
             have HF2 := Lib.hid hF
             have HG2 := Lib.hid hGr
             have HRC1 := Lib.hid (show Cel (w10.setCell ⟨q, 7, none⟩ (.slice (some ⟨g2, 0, none⟩) (wt.length + 1) cap2)) Wb.heap.size (rcC key t) 44 from hrc.other (a := ⟨q, 7, none⟩) HAQ.out _)
             have HRR1 := Lib.hid (show Cel (w10.setCell ⟨q, 7, none⟩ (.slice (some ⟨g2, 0, none⟩) (wt.length + 1) cap2)) (w.heap.size + 1) rcZ 44 from hrr.other (a := ⟨q, 7, none⟩) HRQ.out _)
             clear p0 p1 p2
             have p0 : w10.cell? ⟨q, 7, none⟩ = some (.slice pa wt.length pk) := hqc.cell 7
             have p1 := hqc.free 7
             have p2 := hqc.lt
             clear hN hF hGr hfar hqc hrc hrr hown hgrow hat hlt hi1 hy0 hy1 hy2)
          | (refine wpList_load_row rfl 44 _ rfl Wb.heap.size rfl _ _ _ _ HRC1.out Tryz.underlying44 rfl (by kernel_rfl) ?_)
          | (refine wpList_store_row rfl 44 _ _ rfl (w.heap.size + 1) (rcC key t) rfl rfl 44 _ HRR1.out (by kernel_rfl) (by kernel_rfl) (by kernel_rfl) ?_)
          | fail)
        have hg1 : Gr σ (tg σ gg (1, 0)) w.heap.size := fun b hb => (HGr.out b hb).imp id (Nat.le_trans HX.out.size)
        have hg2 : Gr σ (tg (tg σ gg (1, 0)) g2 (2, 0)) w.heap.size := hg1.trans HG2.out (Nat.le_trans HX.out.size hv9)
        have hf : Fr σ w (w10.setCell ⟨q, 7, none⟩ (.slice (some ⟨g2, 0, none⟩) (wt.length + 1) cap2)) := ((Fr.of_below HX.out).trans (Gr.refl _ _) HF.out).trans hg1 HF2.out
        have hnr : tg (tg σ gg (1, 0)) g2 (2, 0) (w.heap.size + 1) = none := Classical.byContradiction fun hc => by
          rcases HG2.out _ hc with d | d
          · exact HS2.out d
          · have := HRR0.out.lt; omega
        refine bodyPost_ret (v := .tuple #[rcV key t, .int .i64 0]) (results_row_tmp Tryz.results21 _ _ (w.heap.size + 1) 44 (rcC key t) (0, 0) _ rfl (setRow_heap _ _ _ _ _ _ HRR1.out) Tryz.underlying44 rfl (by kernel_rfl)) rfl ?_
        refine .inr ⟨by simp [hfull], rfl, _, _, _, HN2.out.same (by rw [size_setRow]; exact Nat.le_refl _) (fun b hb => setRow_other _ _ _ _ (fun e => hb (by rw [e]; exact hnr))), ?_, hg2⟩
        exact ⟨hf.os, hf.tape, hf.output, by rw [size_setRow]; exact hf.size, fun b hb hn => (setRow_other _ _ _ _ (by omega)).trans (hf.block b hb hn)⟩
end
end Go.Proofs.YtnnocbelgfhecaaGreatDoor
