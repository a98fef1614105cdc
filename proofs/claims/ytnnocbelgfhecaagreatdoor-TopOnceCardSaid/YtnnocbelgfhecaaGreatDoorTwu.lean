/- The terminals: Sell. -/
import Derived.Test.YtnnocbelgfhecaaGreatDoorTwq
set_option linter.unusedSimpArgs false
namespace Go.Proofs.YtnnocbelgfhecaaGreatDoor
open Go.ChangeShapes Go.WideShapes Go.ChangeAt Go.RowKit Go.Lott
theorem fnNil (fn : Nat) (a b : Array Value) (w : World) : (binOp .eql 46 (.func (.func fn) a b) .nilFunc).run Tryz.prog w = .ok (.bool false) w := by kernel_rfl
theorem cfOn (args : Array Value) (w : World) : (callFunc 40 args).run Tryz.prog w = .ok (.enter 40 args) w := by kernel_rfl
theorem cfOff (args : Array Value) (w : World) : (callFunc 21 args).run Tryz.prog w = .ok (.enter 21 args) w := by kernel_rfl
/-- What Sell turns behind its call: its own blocks and the terminal. -/
def seR (q n N : Nat) : Rl := fun b => if b = q ∨ (n ≤ b ∧ b < N) then some (0, 0) else none
def SellP (w : World) (q id : Nat) (key : Int) (nx : Nat) (on : Bool) (rc : Array Value) (er : Int) (P : World → World → Prop) (e : Ending) (w3 : World) : Prop :=
  e = .returned (.tuple #[.agg rc, .int .i64 er]) ∧ ∃ W w2, Below w.heap.size w W ∧ P W w2 ∧ Fr (seR q w.heap.size W.heap.size) w2 w3 ∧
    (er ≠ 0 → w3.heap[q]? = w2.heap[q]?) ∧ (er = 0 → ∀ wv pv, Cel w2 q (teC q id key nx on wv pv) 73 → Cel w3 q (teC q id key (nx + 1) on wv pv) 73)
section
variable {w : World} {q id : Nat} {key : Int} {nx : Nat} {on : Bool} {wv pv : Value}
set_option maxHeartbeats 8000000 in
set_option maxRecDepth 100000 in
theorem teSell_ok (hq : Cel w q (teC q id key nx on wv pv) 73) (p : Nat) (t : Tp.Tk) (g : Value) (hnx : nx ≤ 100000) (P : World → World → Prop)
    (hc : ∀ W, Below w.heap.size w W → Calls Tryz.prog (if on then 40 else 21) #[.pointer (some ⟨q, 0, none⟩), .pointer (some ⟨p, 0, none⟩), .agg (gcs g), .string (tx t.x t.y), .int .i64 0, .int .i64 t.at_] W fun e w' => e = .returned (.tuple #[.agg (rcC key t), .int .i64 0]) ∧ P W w')
    (hP : ∀ W w2, Below w.heap.size w W → P W w2 → W.heap.size ≤ w2.heap.size ∧ (∀ b, w.heap.size ≤ b → b < W.heap.size → w2.heap[b]? = W.heap[b]?) ∧ ∃ wv' pv', Cel w2 q (teC q id key nx on wv' pv') 73) :
    Calls Tryz.prog 10 #[.pointer (some ⟨q, 0, none⟩), .pointer (some ⟨p, 0, none⟩), .agg (gcs g), .string (tx t.x t.y), .int .i64 0, .int .i64 t.at_] w (SellP w q id key nx on (rcC key t) 0 P) := by
  obtain ⟨W1, hW1⟩ : ∃ W1, W1 = (w.alloc (.cells (gcs g) 27)).alloc (.cells #[.string ⟨#[]⟩, .string ⟨#[]⟩, .string ⟨#[]⟩, .int .i64 0, .int .i64 0, .int .i64 0, .int .u64 0] 44) := ⟨_, rfl⟩
  have hX : Below w.heap.size w W1 := by rw [hW1]; exact ((Below.refl _ _).alloc (Nat.le_refl _) _).alloc (by simp) _
  have HG := Lib.hid (show Cel W1 w.heap.size (gcs g) 27 by rw [hW1]; exact (Cel.new _ _ _).alloc _)
  have HR := Lib.hid (show Cel W1 (w.heap.size + 1) rcZ 44 by
    rw [hW1]
    have := Cel.new (w.alloc (.cells (gcs g) 27)) rcZ 44
    simpa [rcZ] using this)
  have HQ := Lib.hid (hq.below hX hq.lt)
  have q5 : ((w.alloc (.cells (gcs g) 27)).alloc (.cells #[.string ⟨#[]⟩, .string ⟨#[]⟩, .string ⟨#[]⟩, .int .i64 0, .int .i64 0, .int .i64 0, .int .u64 0] 44)).cell? ⟨q, 5, none⟩ = some (.func (.func (if on then 40 else 21)) #[.pointer (some ⟨q, 0, none⟩)] #[]) := by rw [← hW1]; exact HQ.out.cell 5
  have HX := Lib.hid hX
  have HW := Lib.hid hW1
  have HC := Lib.hid hc
  have HP := Lib.hid hP
  have HQ0 := Lib.hid hq.lt
  obtain ⟨fn, hfn⟩ : ∃ fn : Nat, fn = (if on then 40 else 21) := ⟨_, rfl⟩
  rw [← hfn] at HC q5
  have HFN := Lib.hid hfn
  clear hX hW1 hq hc hP hfn
  have hfe := fnNil fn
  have hcf : ∀ (args : Array Value) (w : World), (callFunc fn args).run Tryz.prog w = .ok (.enter fn args) w := by
    rw [HFN.out]
    cases on
    · exact cfOff
    · exact cfOn
  go_enter Tryz.func10, Tryz.ntmps10
  go_wp2
  clear q5
  rw [← HW.out]
  have HSS := Lib.hid (Below.refl W1.heap.size W1)
  have hl5 : ∀ y, Below W1.heap.size W1 y → y.cell? ⟨q, 5, none⟩ = some (.func (.func fn) #[.pointer (some ⟨q, 0, none⟩)] #[]) := fun y hy => by
    rw [HFN.out]
    exact (HQ.out.below hy HQ.out.lt).cell 5
  have hlg := fun y (hy : Below W1.heap.size W1 y) => show y.rangeAt w.heap.size 0 (gcs g).toList from fun j u hj => by
    rw [Nat.zero_add, (HG.out.below hy HG.out.lt).cell j, ← hj]
    exact (Array.getElem?_toList).symm
  refine wp_region_held_drew (S := fun y => y.cell? ⟨q, 5, none⟩ = some (.func (.func fn) #[.pointer (some ⟨q, 0, none⟩)] #[]) ∧ y.rangeAt w.heap.size 0 (gcs g).toList) (by kernel_rfl) ⟨hl5 _ HSS.out.drew, hlg _ HSS.out.drew⟩ (fun hHeld => ?_)
  have hlr : ∀ y : World, (y.cell? ⟨q, 5, none⟩ = some (.func (.func fn) #[.pointer (some ⟨q, 0, none⟩)] #[]) ∧ y.rangeAt w.heap.size 0 (gcs g).toList) → y.rangeAt w.heap.size 0 (gcs g).toList := fun y hy => hy.2
  refine wpAnyH_take (i := 0) (oi := _) (v := ?_) rfl (by kernel_rfl) (by kernel_rfl) (by kernel_rfl) (fun _ _ _ h => h) (Or.inl ⟨by rfl, ?_⟩) (by assumption) ?_
  rotate_left
  · (intro w hSw; (try dsimp only at hSw); go_simp; (try with_reducible rfl))
  simp only [Act.put, List.setIfInBounds_toArray, List.set_cons_zero, List.set_cons_succ]
  refine wpAnyH_take (i := 1) (oi := _) (v := ?_) rfl (by kernel_rfl) (by kernel_rfl) (by kernel_rfl) (fun _ _ _ h => h) (Or.inl ⟨by rfl, ?_⟩) (by assumption) ?_
  rotate_left
  · (intro w hSw; (try dsimp only at hSw); go_simp; (try with_reducible rfl))
  simp only [Act.put, List.setIfInBounds_toArray, List.set_cons_zero, List.set_cons_succ]
  refine wpAnyH_take (i := 2) (oi := _) (v := ?_) rfl (by kernel_rfl) (by kernel_rfl) (by kernel_rfl) (fun _ _ _ h => h) (Or.inl ⟨by rfl, ?_⟩) (by assumption) ?_
  rotate_left
  · (intro w hSw; (try dsimp only at hSw); go_simp; (try with_reducible rfl))
  simp only [Act.put, List.setIfInBounds_toArray, List.set_cons_zero, List.set_cons_succ]
  refine wpAnyH_take (i := 3) (oi := _) (v := ?_) rfl (by kernel_rfl) (by kernel_rfl) (by kernel_rfl) (fun _ _ _ h => h) (Or.inl ⟨by rfl, ?_⟩) (by assumption) ?_
  rotate_left
  · (intro w hSw; (try dsimp only at hSw); go_simp; (try with_reducible rfl))
  simp only [Act.put, List.setIfInBounds_toArray, List.set_cons_zero, List.set_cons_succ]
  refine wpAnyH_take (i := 4) (oi := _) (v := ?_) rfl (by kernel_rfl) (by kernel_rfl) (by kernel_rfl) (fun _ _ _ h => h) (Or.inl ⟨by rfl, ?_⟩) (by assumption) ?_
  rotate_left
  · (intro w hSw; (try dsimp only at hSw); go_simp; (try with_reducible rfl))
  simp only [Act.put, List.setIfInBounds_toArray, List.set_cons_zero, List.set_cons_succ]
  refine wpAnyH_take (i := 5) (oi := _) (v := _) rfl (by kernel_rfl) (by kernel_rfl) (by kernel_rfl) (fun _ _ _ h => h) (yieldsIf_load_mid (by rfl) 27 _ rfl w.heap.size 0 rfl (gcs g).toList _ hlr Tryz.underlying27 rfl (gcs_len g)) (by assumption) ?_
  simp only [Act.put, List.setIfInBounds_toArray, List.set_cons_zero, List.set_cons_succ]
  refine wpAnyH_take (i := 6) (oi := _) (v := ?_) rfl (by kernel_rfl) (by kernel_rfl) (by kernel_rfl) (fun _ _ _ h => h) (Or.inl ⟨by rfl, ?_⟩) (by assumption) ?_
  rotate_left
  · (intro w hSw; (try dsimp only at hSw); go_simp; (try with_reducible rfl))
  simp only [Act.put, List.setIfInBounds_toArray, List.set_cons_zero, List.set_cons_succ]
  refine wpAnyH_take (i := 7) (oi := _) (v := ?_) rfl (by kernel_rfl) (by kernel_rfl) (by kernel_rfl) (fun _ _ _ h => h) (Or.inl ⟨by rfl, ?_⟩) (by assumption) ?_
  rotate_left
  · (intro w hSw; (try dsimp only at hSw); go_simp; (try with_reducible rfl))
  simp only [Act.put, List.setIfInBounds_toArray, List.set_cons_zero, List.set_cons_succ]
  refine wpAnyH_take (i := 8) (oi := _) (v := ?_) rfl (by kernel_rfl) (by kernel_rfl) (by kernel_rfl) (fun _ _ _ h => h) (Or.inl ⟨by rfl, ?_⟩) (by assumption) ?_
  rotate_left
  · (intro w hSw; (try dsimp only at hSw); go_simp; (try with_reducible rfl))
  simp only [Act.put, List.setIfInBounds_toArray, List.set_cons_zero, List.set_cons_succ]
  refine wpAnyH_ready (rs := [9, 13]) (by kernel_rfl) (by simp) ?_
  refine AllReadyH.cons (o := _) rfl (fun K2 hK => ?_) (AllReadyH.cons (o := _) rfl (fun K2 hK => ?_) AllReadyH.nil)
  · go_simp
    obtain ⟨WC, hWC⟩ : ∃ WC, WC = W1.drew := ⟨_, rfl⟩
    rw [← hWC]
    have HXC := Lib.hid (show Below W1.heap.size W1 WC by rw [hWC]; exact HSS.out.drew)
    have HSC := Lib.hid (show W1.heap.size ≤ WC.heap.size from HXC.out.size)
    clear hWC
    refine (HC.out WC (HX.out.trans (HXC.out.mono HX.out.size))).mono ?_
    rintro e w2 ⟨rfl, hp2⟩
    obtain ⟨hps, hpk, wv', pv', hpq⟩ := HP.out WC w2 (HX.out.trans (HXC.out.mono HX.out.size)) hp2
    have HP2 := Lib.hid hp2
    have HQ2 := Lib.hid hpq
    have HG2 := Lib.hid (show Cel w2 w.heap.size (gcs g) 27 from (hpk _ (Nat.le_refl _) (Nat.lt_of_lt_of_le HG.out.lt HSC.out)).trans (HG.out.below HXC.out HG.out.lt))
    have HR2 := Lib.hid (show Cel w2 (w.heap.size + 1) rcZ 44 from (hpk _ (Nat.le_succ _) (Nat.lt_of_lt_of_le HR.out.lt HSC.out)).trans (HR.out.below HXC.out HR.out.lt))
    clear hp2 hpq hps
    unfold rcC
    go_wp2_with fail
    refine hK.out _ _ ?_ (fun hHeld => ?_)
    · exact ⟨by rw [HFN.out]; exact HQ2.out.cell 5, fun j u hj => by rw [Nat.zero_add, HG2.out.cell j, ← hj]; exact (Array.getElem?_toList).symm⟩
    clear hK K2
    try simp only [Act.put, List.setIfInBounds_toArray, List.set_cons_zero, List.set_cons_succ]
    refine wpAnyH_take (i := 10) (oi := _) (v := ?_) rfl (by kernel_rfl) (by kernel_rfl) (by kernel_rfl) (fun _ _ _ h => h) (Or.inl ⟨by rfl, ?_⟩) (by assumption) ?_
    rotate_left
    · (intro w hSw; (try dsimp only at hSw); go_simp; (try with_reducible rfl))
    simp only [Act.put, List.setIfInBounds_toArray, List.set_cons_zero, List.set_cons_succ]
    refine wpAnyH_take (i := 11) (oi := _) (v := ?_) rfl (by kernel_rfl) (by kernel_rfl) (by kernel_rfl) (fun _ _ _ h => h) (Or.inl ⟨by rfl, ?_⟩) (by assumption) ?_
    rotate_left
    · (intro w hSw; (try dsimp only at hSw); go_simp; (try with_reducible rfl))
    simp only [Act.put, List.setIfInBounds_toArray, List.set_cons_zero, List.set_cons_succ]
    refine wpAnyH_take (i := 12) (oi := _) (v := ?_) rfl (by kernel_rfl) (by kernel_rfl) (by kernel_rfl) (fun _ _ _ h => h) (Or.inl ⟨by rfl, ?_⟩) (by assumption) ?_
    rotate_left
    · (intro w hSw; (try dsimp only at hSw); go_simp; (try with_reducible rfl))
    simp only [Act.put, List.setIfInBounds_toArray, List.set_cons_zero, List.set_cons_succ]
    refine wpAnyH_ready (rs := [13]) (by kernel_rfl) (by simp) ?_
    refine AllReadyH.cons (o := _) rfl (fun K2 hK => ?_) AllReadyH.nil
    go_simp
    have HAS := Lib.hid (show seR q w.heap.size WC.heap.size w2.heap.size ≠ none ∨ w2.heap.size ≤ w2.heap.size from .inr (Nat.le_refl _))
    have HQA := Lib.hid (show q ≠ w2.heap.size from by have := HQ2.out.lt; omega)
    have HGA := Lib.hid (show w.heap.size ≠ w2.heap.size from by have := HG2.out.lt; omega)
    have HRA := Lib.hid (show w.heap.size + 1 ≠ w2.heap.size from by have := HR2.out.lt; omega)
    obtain ⟨W7, hW7⟩ : ∃ W7, W7 = w2.alloc (.cells #[.string ⟨#[]⟩, .string ⟨#[]⟩, .string ⟨#[]⟩, .int .i64 0, .int .i64 0, .int .i64 0, .int .u64 0] 44) := ⟨_, rfl⟩
    have HAA := Lib.hid (show Cel W7 w2.heap.size rcZ 44 by rw [hW7]; exact Cel.new w2 rcZ 44)
    have hal : Below w2.heap.size w2 W7 := by rw [hW7]; exact (Below.refl _ _).alloc (Nat.le_refl _) _
    have HF7 := Lib.hid (show Fr (seR q w.heap.size WC.heap.size) w2 W7 from Fr.of_below hal)
    have HQ7 := Lib.hid (HQ2.out.below hal HQ2.out.lt)
    have HG7 := Lib.hid (HG2.out.below hal HG2.out.lt)
    have HR7 := Lib.hid (HR2.out.below hal HR2.out.lt)
    rw [← hW7]
    clear hW7 hal
    refine hK.out _ _ ?_ (fun hHeld => ?_)
    · exact ⟨by rw [HFN.out]; exact HQ7.out.cell 5, fun j u hj => by rw [Nat.zero_add, HG7.out.cell j, ← hj]; exact (Array.getElem?_toList).symm⟩
    clear hK K2
    try simp only [Act.put, List.setIfInBounds_toArray, List.set_cons_zero, List.set_cons_succ]
    have f0 := HAA.out.cell 0
    have g0 := HAA.out.free 0
    have f1 := HAA.out.cell 1
    have g1 := HAA.out.free 1
    have f2 := HAA.out.cell 2
    have g2 := HAA.out.free 2
    have f3 := HAA.out.cell 3
    have g3 := HAA.out.free 3
    have f4 := HAA.out.cell 4
    have g4 := HAA.out.free 4
    have f5 := HAA.out.cell 5
    have g5 := HAA.out.free 5
    have f6 := HAA.out.cell 6
    have g6 := HAA.out.free 6
    have fl := HAA.out.lt
    simp [rcZ] at f0 f1 f2 f3 f4 f5 f6
    refine wpAnyH_ready (rs := [14]) (by kernel_rfl) (by simp) ?_
    refine AllReadyH.cons (o := _) rfl (fun K2 hK => ?_) AllReadyH.nil
    go_simp
    obtain ⟨W8, hW8⟩ : ∃ W8, W8 = (((((((W7.setCell ⟨w2.heap.size, 0, none⟩ (.string (nu t))).setCell ⟨w2.heap.size, 1, none⟩ (.string nmB)).setCell ⟨w2.heap.size, 2, none⟩ (.string (tx t.x t.y))).setCell ⟨w2.heap.size, 3, none⟩ (.int .i64 (Tp.fst t.at_))).setCell ⟨w2.heap.size, 4, none⟩ (.int .i64 200)).setCell ⟨w2.heap.size, 5, none⟩ (.int .i64 t.at_)).setCell ⟨w2.heap.size, 6, none⟩ (.int .u64 (sgI key (nu t) nmB (tx t.x t.y) (Tp.fst t.at_) 200 t.at_))) := ⟨_, rfl⟩
    rw [← hW8]
    have HRC := Lib.hid (show Cel W8 w2.heap.size (rcC key t) 44 by
      rw [hW8]
      have := (((((((HAA.out.set 0 (.string (nu t))).set 1 (.string nmB)).set 2 (.string (tx t.x t.y))).set 3 (.int .i64 (Tp.fst t.at_))).set 4 (.int .i64 200)).set 5 (.int .i64 t.at_)).set 6 (.int .u64 (sgI key (nu t) nmB (tx t.x t.y) (Tp.fst t.at_) 200 t.at_)))
      simpa [rcC, rcZ] using this)
    have HF8 := Lib.hid (show Fr (seR q w.heap.size WC.heap.size) w2 W8 by
      rw [hW8]
      have f := HF7.out
      repeat (first | (with_reducible exact f) | (refine Fr.setCell ?_ HAS.out _)))
    have hbk : ∀ b, b ≠ w2.heap.size → W8.heap[b]? = W7.heap[b]? := fun b hb => by
      rw [hW8]
      repeat rw [Below.heap_setCell _ _ _ _ (show b ≠ w2.heap.size from hb)]
    have HQ8 := Lib.hid (show Cel W8 q (teC q id key nx on wv' pv') 73 from (hbk q HQA.out).trans HQ7.out)
    have HG8 := Lib.hid (show Cel W8 w.heap.size (gcs g) 27 from (hbk _ HGA.out).trans HG7.out)
    have HR8 := Lib.hid (show Cel W8 (w.heap.size + 1) rcZ 44 from (hbk _ HRA.out).trans HR7.out)
    clear hW8 hbk fl f0 g0 f1 g1 f2 g2 f3 g3 f4 g4 f5 g5 f6 g6
    refine hK.out _ _ ?_ (fun hHeld => ?_)
    · exact ⟨by rw [HFN.out]; exact HQ8.out.cell 5, fun j u hj => by rw [Nat.zero_add, HG8.out.cell j, ← hj]; exact (Array.getElem?_toList).symm⟩
    clear hK K2 HAA
    try simp only [Act.put, List.setIfInBounds_toArray, List.set_cons_zero, List.set_cons_succ]
    refine wpAnyH_ready (rs := [15]) (by kernel_rfl) (by simp) ?_
    refine AllReadyH.cons (o := _) rfl (fun K2 hK => ?_) AllReadyH.nil
    go_simp
    refine hK.out _ _ ?_ (fun hHeld => ?_)
    · exact ⟨by rw [HFN.out]; exact HQ8.out.cell 5, fun j u hj => by rw [Nat.zero_add, HG8.out.cell j, ← hj]; exact (Array.getElem?_toList).symm⟩
    clear hK K2
    try simp only [Act.put, List.setIfInBounds_toArray, List.set_cons_zero, List.set_cons_succ]
    refine wpAnyH_done (by kernel_rfl) ?_ _
    have p0 : W8.cell? ⟨q, 2, none⟩ = some (.int .i64 nx) := HQ8.out.cell 2
    have p1 := HQ8.out.free 2
    have p2 := HQ8.out.lt
    have HRC9 := Lib.hid (show Cel (W8.setCell ⟨q, 2, none⟩ (.int .i64 ((nx : Int) + 1))) w2.heap.size (rcC key t) 44 from HRC.out.other (a := ⟨q, 2, none⟩) (fun e => HQA.out e.symm) _)
    have HR9 := Lib.hid (show Cel (W8.setCell ⟨q, 2, none⟩ (.int .i64 ((nx : Int) + 1))) (w.heap.size + 1) rcZ 44 from HR8.out.other (a := ⟨q, 2, none⟩) (show w.heap.size + 1 ≠ q by have := HQ0.out; omega) _)
    have HQ9 := Lib.hid (show Cel (W8.setCell ⟨q, 2, none⟩ (.int .i64 ((nx : Int) + 1))) q (teC q id key (nx + 1) on wv' pv') 73 from by
      have := HQ8.out.set 2 (.int .i64 ((nx : Int) + 1))
      simpa [teC] using this)
    have HF9 := Lib.hid (show Fr (seR q w.heap.size WC.heap.size) w2 (W8.setCell ⟨q, 2, none⟩ (.int .i64 ((nx : Int) + 1))) from HF8.out.setCell (.inl (by show seR q w.heap.size WC.heap.size q ≠ none; unfold seR; rw [if_pos (.inl rfl)]; simp)) _)
    go_wp2_with (first
      | (refine wpList_load_row rfl 44 _ rfl w2.heap.size rfl _ _ _ _ HRC9.out Tryz.underlying44 rfl (by kernel_rfl) ?_)
      | (refine wpList_store_row rfl 44 _ _ rfl (w.heap.size + 1) (rcC key t) rfl rfl 44 _ HR9.out (by kernel_rfl) (by kernel_rfl) (by kernel_rfl) ?_)
      | fail)
    refine bodyPost_ret (v := .tuple #[.agg (rcC key t), .int .i64 0]) (results_row_tmp Tryz.results10 _ _ (w.heap.size + 1) 44 (rcC key t) (0, 0) _ rfl (setRow_heap _ _ _ _ _ _ HR9.out) Tryz.underlying44 rfl (by kernel_rfl)) rfl ?_
    have hrl : w.heap.size + 1 < WC.heap.size := Nat.lt_of_lt_of_le HR.out.lt HSC.out
    have hqn : q ≠ w.heap.size + 1 := by have := HQ0.out; omega
    have hf := HF9.out
    refine ⟨rfl, WC, w2, HX.out.trans (HXC.out.mono HX.out.size), HP2.out, ⟨hf.os, hf.tape, hf.output, by rw [size_setRow]; exact hf.size, fun b hb hn => (setRow_other _ _ _ _ (fun e => by subst e; unfold seR at hn; rw [if_pos (.inr ⟨Nat.le_succ _, hrl⟩)] at hn; cases hn)).trans (hf.block b hb hn)⟩, fun h => absurd rfl h, fun _ wv1 pv1 h1 => ?_⟩
    have e := (show w2.heap[q]? = _ from HQ2.out).symm.trans (show w2.heap[q]? = _ from h1)
    simp [teC] at e
    obtain ⟨rfl, rfl⟩ := e
    exact (setRow_other _ _ _ _ hqn).trans HQ9.out
  · go_simp
    obtain ⟨WC, hWC⟩ : ∃ WC, WC = (W1.alloc (.cells #[.string ⟨#[]⟩, .string ⟨#[]⟩, .string ⟨#[]⟩, .int .i64 0, .int .i64 0, .int .i64 0, .int .u64 0] 44)).drew := ⟨_, rfl⟩
    have HXC := Lib.hid (show Below W1.heap.size W1 WC by rw [hWC]; exact ((Below.refl _ _).alloc (Nat.le_refl _) _).drew)
    have HAC := Lib.hid (show Cel WC W1.heap.size rcZ 44 by rw [hWC]; exact (Cel.new W1 rcZ 44).drew)
    have HSC := Lib.hid (show W1.heap.size ≤ WC.heap.size from HXC.out.size)
    rw [← hWC]
    clear hWC
    refine hK.out _ _ ?_ (fun hHeld => ?_)
    · exact ⟨hl5 _ HXC.out, hlg _ HXC.out⟩
    clear hK K2
    try simp only [Act.put, List.setIfInBounds_toArray, List.set_cons_zero, List.set_cons_succ]
    refine wpAnyH_ready (rs := [9]) (by kernel_rfl) (by simp) ?_
    refine AllReadyH.cons (o := _) rfl (fun K2 hK => ?_) AllReadyH.nil
    go_simp
    refine (HC.out WC (HX.out.trans (HXC.out.mono HX.out.size))).mono ?_
    rintro e w2 ⟨rfl, hp2⟩
    obtain ⟨hps, hpk, wv', pv', hpq⟩ := HP.out WC w2 (HX.out.trans (HXC.out.mono HX.out.size)) hp2
    have HP2 := Lib.hid hp2
    have HQ2 := Lib.hid hpq
    have HG2 := Lib.hid (show Cel w2 w.heap.size (gcs g) 27 from (hpk _ (Nat.le_refl _) (Nat.lt_of_lt_of_le HG.out.lt HSC.out)).trans (HG.out.below HXC.out HG.out.lt))
    have HR2 := Lib.hid (show Cel w2 (w.heap.size + 1) rcZ 44 from (hpk _ (Nat.le_succ _) (Nat.lt_of_lt_of_le HR.out.lt HSC.out)).trans (HR.out.below HXC.out HR.out.lt))
    clear hp2 hpq hps
    have HAA := Lib.hid (show Cel w2 W1.heap.size rcZ 44 from (hpk W1.heap.size HX.out.size HAC.out.lt).trans HAC.out)
    have HAS := Lib.hid (show seR q w.heap.size WC.heap.size W1.heap.size ≠ none ∨ w2.heap.size ≤ W1.heap.size from .inl (by unfold seR; rw [if_pos (.inr ⟨HX.out.size, HAC.out.lt⟩)]; simp))
    have HQA := Lib.hid (show q ≠ W1.heap.size from by have := HQ.out.lt; omega)
    have HGA := Lib.hid (show w.heap.size ≠ W1.heap.size from by have := HG.out.lt; omega)
    have HRA := Lib.hid (show w.heap.size + 1 ≠ W1.heap.size from by have := HR.out.lt; omega)
    have HF7 := Lib.hid (Fr.refl (seR q w.heap.size WC.heap.size) w2)
    have HQ7 := HQ2
    have HG7 := HG2
    have HR7 := HR2
    unfold rcC
    go_wp2_with fail
    refine hK.out _ _ ?_ (fun hHeld => ?_)
    · exact ⟨by rw [HFN.out]; exact HQ2.out.cell 5, fun j u hj => by rw [Nat.zero_add, HG2.out.cell j, ← hj]; exact (Array.getElem?_toList).symm⟩
    clear hK K2
    try simp only [Act.put, List.setIfInBounds_toArray, List.set_cons_zero, List.set_cons_succ]
    refine wpAnyH_take (i := 10) (oi := _) (v := ?_) rfl (by kernel_rfl) (by kernel_rfl) (by kernel_rfl) (fun _ _ _ h => h) (Or.inl ⟨by rfl, ?_⟩) (by assumption) ?_
    rotate_left
    · (intro w hSw; (try dsimp only at hSw); go_simp; (try with_reducible rfl))
    simp only [Act.put, List.setIfInBounds_toArray, List.set_cons_zero, List.set_cons_succ]
    refine wpAnyH_take (i := 11) (oi := _) (v := ?_) rfl (by kernel_rfl) (by kernel_rfl) (by kernel_rfl) (fun _ _ _ h => h) (Or.inl ⟨by rfl, ?_⟩) (by assumption) ?_
    rotate_left
    · (intro w hSw; (try dsimp only at hSw); go_simp; (try with_reducible rfl))
    simp only [Act.put, List.setIfInBounds_toArray, List.set_cons_zero, List.set_cons_succ]
    refine wpAnyH_take (i := 12) (oi := _) (v := ?_) rfl (by kernel_rfl) (by kernel_rfl) (by kernel_rfl) (fun _ _ _ h => h) (Or.inl ⟨by rfl, ?_⟩) (by assumption) ?_
    rotate_left
    · (intro w hSw; (try dsimp only at hSw); go_simp; (try with_reducible rfl))
    simp only [Act.put, List.setIfInBounds_toArray, List.set_cons_zero, List.set_cons_succ]
    have f0 := HAA.out.cell 0
    have g0 := HAA.out.free 0
    have f1 := HAA.out.cell 1
    have g1 := HAA.out.free 1
    have f2 := HAA.out.cell 2
    have g2 := HAA.out.free 2
    have f3 := HAA.out.cell 3
    have g3 := HAA.out.free 3
    have f4 := HAA.out.cell 4
    have g4 := HAA.out.free 4
    have f5 := HAA.out.cell 5
    have g5 := HAA.out.free 5
    have f6 := HAA.out.cell 6
    have g6 := HAA.out.free 6
    have fl := HAA.out.lt
    simp [rcZ] at f0 f1 f2 f3 f4 f5 f6
    refine wpAnyH_ready (rs := [14]) (by kernel_rfl) (by simp) ?_
    refine AllReadyH.cons (o := _) rfl (fun K2 hK => ?_) AllReadyH.nil
    go_simp
    obtain ⟨W8, hW8⟩ : ∃ W8, W8 = (((((((w2.setCell ⟨W1.heap.size, 0, none⟩ (.string (nu t))).setCell ⟨W1.heap.size, 1, none⟩ (.string nmB)).setCell ⟨W1.heap.size, 2, none⟩ (.string (tx t.x t.y))).setCell ⟨W1.heap.size, 3, none⟩ (.int .i64 (Tp.fst t.at_))).setCell ⟨W1.heap.size, 4, none⟩ (.int .i64 200)).setCell ⟨W1.heap.size, 5, none⟩ (.int .i64 t.at_)).setCell ⟨W1.heap.size, 6, none⟩ (.int .u64 (sgI key (nu t) nmB (tx t.x t.y) (Tp.fst t.at_) 200 t.at_))) := ⟨_, rfl⟩
    rw [← hW8]
    have HRC := Lib.hid (show Cel W8 W1.heap.size (rcC key t) 44 by
      rw [hW8]
      have := (((((((HAA.out.set 0 (.string (nu t))).set 1 (.string nmB)).set 2 (.string (tx t.x t.y))).set 3 (.int .i64 (Tp.fst t.at_))).set 4 (.int .i64 200)).set 5 (.int .i64 t.at_)).set 6 (.int .u64 (sgI key (nu t) nmB (tx t.x t.y) (Tp.fst t.at_) 200 t.at_)))
      simpa [rcC, rcZ] using this)
    have HF8 := Lib.hid (show Fr (seR q w.heap.size WC.heap.size) w2 W8 by
      rw [hW8]
      have f := HF7.out
      repeat (first | (with_reducible exact f) | (refine Fr.setCell ?_ HAS.out _)))
    have hbk : ∀ b, b ≠ W1.heap.size → W8.heap[b]? = w2.heap[b]? := fun b hb => by
      rw [hW8]
      repeat rw [Below.heap_setCell _ _ _ _ (show b ≠ W1.heap.size from hb)]
    have HQ8 := Lib.hid (show Cel W8 q (teC q id key nx on wv' pv') 73 from (hbk q HQA.out).trans HQ7.out)
    have HG8 := Lib.hid (show Cel W8 w.heap.size (gcs g) 27 from (hbk _ HGA.out).trans HG7.out)
    have HR8 := Lib.hid (show Cel W8 (w.heap.size + 1) rcZ 44 from (hbk _ HRA.out).trans HR7.out)
    clear hW8 hbk fl f0 g0 f1 g1 f2 g2 f3 g3 f4 g4 f5 g5 f6 g6
    refine hK.out _ _ ?_ (fun hHeld => ?_)
    · exact ⟨by rw [HFN.out]; exact HQ8.out.cell 5, fun j u hj => by rw [Nat.zero_add, HG8.out.cell j, ← hj]; exact (Array.getElem?_toList).symm⟩
    clear hK K2 HAA
    try simp only [Act.put, List.setIfInBounds_toArray, List.set_cons_zero, List.set_cons_succ]
    refine wpAnyH_ready (rs := [15]) (by kernel_rfl) (by simp) ?_
    refine AllReadyH.cons (o := _) rfl (fun K2 hK => ?_) AllReadyH.nil
    go_simp
    refine hK.out _ _ ?_ (fun hHeld => ?_)
    · exact ⟨by rw [HFN.out]; exact HQ8.out.cell 5, fun j u hj => by rw [Nat.zero_add, HG8.out.cell j, ← hj]; exact (Array.getElem?_toList).symm⟩
    clear hK K2
    try simp only [Act.put, List.setIfInBounds_toArray, List.set_cons_zero, List.set_cons_succ]
    refine wpAnyH_done (by kernel_rfl) ?_ _
    have p0 : W8.cell? ⟨q, 2, none⟩ = some (.int .i64 nx) := HQ8.out.cell 2
    have p1 := HQ8.out.free 2
    have p2 := HQ8.out.lt
    have HRC9 := Lib.hid (show Cel (W8.setCell ⟨q, 2, none⟩ (.int .i64 ((nx : Int) + 1))) W1.heap.size (rcC key t) 44 from HRC.out.other (a := ⟨q, 2, none⟩) (fun e => HQA.out e.symm) _)
    have HR9 := Lib.hid (show Cel (W8.setCell ⟨q, 2, none⟩ (.int .i64 ((nx : Int) + 1))) (w.heap.size + 1) rcZ 44 from HR8.out.other (a := ⟨q, 2, none⟩) (show w.heap.size + 1 ≠ q by have := HQ0.out; omega) _)
    have HQ9 := Lib.hid (show Cel (W8.setCell ⟨q, 2, none⟩ (.int .i64 ((nx : Int) + 1))) q (teC q id key (nx + 1) on wv' pv') 73 from by
      have := HQ8.out.set 2 (.int .i64 ((nx : Int) + 1))
      simpa [teC] using this)
    have HF9 := Lib.hid (show Fr (seR q w.heap.size WC.heap.size) w2 (W8.setCell ⟨q, 2, none⟩ (.int .i64 ((nx : Int) + 1))) from HF8.out.setCell (.inl (by show seR q w.heap.size WC.heap.size q ≠ none; unfold seR; rw [if_pos (.inl rfl)]; simp)) _)
    go_wp2_with (first
      | (refine wpList_load_row rfl 44 _ rfl W1.heap.size rfl _ _ _ _ HRC9.out Tryz.underlying44 rfl (by kernel_rfl) ?_)
      | (refine wpList_store_row rfl 44 _ _ rfl (w.heap.size + 1) (rcC key t) rfl rfl 44 _ HR9.out (by kernel_rfl) (by kernel_rfl) (by kernel_rfl) ?_)
      | fail)
    refine bodyPost_ret (v := .tuple #[.agg (rcC key t), .int .i64 0]) (results_row_tmp Tryz.results10 _ _ (w.heap.size + 1) 44 (rcC key t) (0, 0) _ rfl (setRow_heap _ _ _ _ _ _ HR9.out) Tryz.underlying44 rfl (by kernel_rfl)) rfl ?_
    have hrl : w.heap.size + 1 < WC.heap.size := Nat.lt_of_lt_of_le HR.out.lt HSC.out
    have hqn : q ≠ w.heap.size + 1 := by have := HQ0.out; omega
    have hf := HF9.out
    refine ⟨rfl, WC, w2, HX.out.trans (HXC.out.mono HX.out.size), HP2.out, ⟨hf.os, hf.tape, hf.output, by rw [size_setRow]; exact hf.size, fun b hb hn => (setRow_other _ _ _ _ (fun e => by subst e; unfold seR at hn; rw [if_pos (.inr ⟨Nat.le_succ _, hrl⟩)] at hn; cases hn)).trans (hf.block b hb hn)⟩, fun h => absurd rfl h, fun _ wv1 pv1 h1 => ?_⟩
    have e := (show w2.heap[q]? = _ from HQ2.out).symm.trans (show w2.heap[q]? = _ from h1)
    simp [teC] at e
    obtain ⟨rfl, rfl⟩ := e
    exact (setRow_other _ _ _ _ hqn).trans HQ9.out
end
end Go.Proofs.YtnnocbelgfhecaaGreatDoor
/- The terminals: Sell, refused. -/
set_option linter.unusedSimpArgs false
namespace Go.Proofs.YtnnocbelgfhecaaGreatDoor
open Go.ChangeShapes Go.WideShapes Go.ChangeAt Go.RowKit Go.Lott
section
variable {w : World} {q id : Nat} {key : Int} {nx : Nat} {on : Bool} {wv pv : Value}
set_option maxHeartbeats 8000000 in
set_option maxRecDepth 100000 in
theorem teSell_no (hq : Cel w q (teC q id key nx on wv pv) 73) (p : Nat) (t : Tp.Tk) (g : Value) (_hnx : nx ≤ 100000) (P : World → World → Prop)
    (hc : ∀ W, Below w.heap.size w W → Calls Tryz.prog (if on then 40 else 21) #[.pointer (some ⟨q, 0, none⟩), .pointer (some ⟨p, 0, none⟩), .agg (gcs g), .string (tx t.x t.y), .int .i64 0, .int .i64 t.at_] W fun e w' => e = .returned (.tuple #[.agg rcZ, .int .i64 25]) ∧ P W w')
    (hP : ∀ W w2, Below w.heap.size w W → P W w2 → W.heap.size ≤ w2.heap.size ∧ (∀ b, w.heap.size ≤ b → b < W.heap.size → w2.heap[b]? = W.heap[b]?) ∧ ∃ wv' pv', Cel w2 q (teC q id key nx on wv' pv') 73) :
    Calls Tryz.prog 10 #[.pointer (some ⟨q, 0, none⟩), .pointer (some ⟨p, 0, none⟩), .agg (gcs g), .string (tx t.x t.y), .int .i64 0, .int .i64 t.at_] w (SellP w q id key nx on rcZ 25 P) := by
  obtain ⟨W1, hW1⟩ : ∃ W1, W1 = (w.alloc (.cells (gcs g) 27)).alloc (.cells #[.string ⟨#[]⟩, .string ⟨#[]⟩, .string ⟨#[]⟩, .int .i64 0, .int .i64 0, .int .i64 0, .int .u64 0] 44) := ⟨_, rfl⟩
  have hX : Below w.heap.size w W1 := by rw [hW1]; exact ((Below.refl _ _).alloc (Nat.le_refl _) _).alloc (by simp) _
  have HG := Lib.hid (show Cel W1 w.heap.size (gcs g) 27 by rw [hW1]; exact (Cel.new _ _ _).alloc _)
  have HR := Lib.hid (show Cel W1 (w.heap.size + 1) rcZ 44 by
    rw [hW1]
    have := Cel.new (w.alloc (.cells (gcs g) 27)) rcZ 44
    simpa [rcZ] using this)
  have HQ := Lib.hid (hq.below hX hq.lt)
  have q5 : ((w.alloc (.cells (gcs g) 27)).alloc (.cells #[.string ⟨#[]⟩, .string ⟨#[]⟩, .string ⟨#[]⟩, .int .i64 0, .int .i64 0, .int .i64 0, .int .u64 0] 44)).cell? ⟨q, 5, none⟩ = some (.func (.func (if on then 40 else 21)) #[.pointer (some ⟨q, 0, none⟩)] #[]) := by rw [← hW1]; exact HQ.out.cell 5
  have HX := Lib.hid hX
  have HW := Lib.hid hW1
  have HC := Lib.hid hc
  have HP := Lib.hid hP
  have HQ0 := Lib.hid hq.lt
  obtain ⟨fn, hfn⟩ : ∃ fn : Nat, fn = (if on then 40 else 21) := ⟨_, rfl⟩
  rw [← hfn] at HC q5
  have HFN := Lib.hid hfn
  clear hX hW1 hq hc hP hfn
  have hfe := fnNil fn
  have hcf : ∀ (args : Array Value) (w : World), (callFunc fn args).run Tryz.prog w = .ok (.enter fn args) w := by
    rw [HFN.out]
    cases on
    · exact cfOff
    · exact cfOn
  go_enter Tryz.func10, Tryz.ntmps10
  go_wp2
  clear q5
  rw [← HW.out]
  have HSS := Lib.hid (Below.refl W1.heap.size W1)
  have hl5 : ∀ y, Below W1.heap.size W1 y → y.cell? ⟨q, 5, none⟩ = some (.func (.func fn) #[.pointer (some ⟨q, 0, none⟩)] #[]) := fun y hy => by
    rw [HFN.out]
    exact (HQ.out.below hy HQ.out.lt).cell 5
  have hlg := fun y (hy : Below W1.heap.size W1 y) => show y.rangeAt w.heap.size 0 (gcs g).toList from fun j u hj => by
    rw [Nat.zero_add, (HG.out.below hy HG.out.lt).cell j, ← hj]
    exact (Array.getElem?_toList).symm
  refine wp_region_held_drew (S := fun y => y.cell? ⟨q, 5, none⟩ = some (.func (.func fn) #[.pointer (some ⟨q, 0, none⟩)] #[]) ∧ y.rangeAt w.heap.size 0 (gcs g).toList) (by kernel_rfl) ⟨hl5 _ HSS.out.drew, hlg _ HSS.out.drew⟩ (fun hHeld => ?_)
  have hlr : ∀ y : World, (y.cell? ⟨q, 5, none⟩ = some (.func (.func fn) #[.pointer (some ⟨q, 0, none⟩)] #[]) ∧ y.rangeAt w.heap.size 0 (gcs g).toList) → y.rangeAt w.heap.size 0 (gcs g).toList := fun y hy => hy.2
  refine wpAnyH_take (i := 0) (oi := _) (v := ?_) rfl (by kernel_rfl) (by kernel_rfl) (by kernel_rfl) (fun _ _ _ h => h) (Or.inl ⟨by rfl, ?_⟩) (by assumption) ?_
  rotate_left
  · (intro w hSw; (try dsimp only at hSw); go_simp; (try with_reducible rfl))
  simp only [Act.put, List.setIfInBounds_toArray, List.set_cons_zero, List.set_cons_succ]
  refine wpAnyH_take (i := 1) (oi := _) (v := ?_) rfl (by kernel_rfl) (by kernel_rfl) (by kernel_rfl) (fun _ _ _ h => h) (Or.inl ⟨by rfl, ?_⟩) (by assumption) ?_
  rotate_left
  · (intro w hSw; (try dsimp only at hSw); go_simp; (try with_reducible rfl))
  simp only [Act.put, List.setIfInBounds_toArray, List.set_cons_zero, List.set_cons_succ]
  refine wpAnyH_take (i := 2) (oi := _) (v := ?_) rfl (by kernel_rfl) (by kernel_rfl) (by kernel_rfl) (fun _ _ _ h => h) (Or.inl ⟨by rfl, ?_⟩) (by assumption) ?_
  rotate_left
  · (intro w hSw; (try dsimp only at hSw); go_simp; (try with_reducible rfl))
  simp only [Act.put, List.setIfInBounds_toArray, List.set_cons_zero, List.set_cons_succ]
  refine wpAnyH_take (i := 3) (oi := _) (v := ?_) rfl (by kernel_rfl) (by kernel_rfl) (by kernel_rfl) (fun _ _ _ h => h) (Or.inl ⟨by rfl, ?_⟩) (by assumption) ?_
  rotate_left
  · (intro w hSw; (try dsimp only at hSw); go_simp; (try with_reducible rfl))
  simp only [Act.put, List.setIfInBounds_toArray, List.set_cons_zero, List.set_cons_succ]
  refine wpAnyH_take (i := 4) (oi := _) (v := ?_) rfl (by kernel_rfl) (by kernel_rfl) (by kernel_rfl) (fun _ _ _ h => h) (Or.inl ⟨by rfl, ?_⟩) (by assumption) ?_
  rotate_left
  · (intro w hSw; (try dsimp only at hSw); go_simp; (try with_reducible rfl))
  simp only [Act.put, List.setIfInBounds_toArray, List.set_cons_zero, List.set_cons_succ]
  refine wpAnyH_take (i := 5) (oi := _) (v := _) rfl (by kernel_rfl) (by kernel_rfl) (by kernel_rfl) (fun _ _ _ h => h) (yieldsIf_load_mid (by rfl) 27 _ rfl w.heap.size 0 rfl (gcs g).toList _ hlr Tryz.underlying27 rfl (gcs_len g)) (by assumption) ?_
  simp only [Act.put, List.setIfInBounds_toArray, List.set_cons_zero, List.set_cons_succ]
  refine wpAnyH_take (i := 6) (oi := _) (v := ?_) rfl (by kernel_rfl) (by kernel_rfl) (by kernel_rfl) (fun _ _ _ h => h) (Or.inl ⟨by rfl, ?_⟩) (by assumption) ?_
  rotate_left
  · (intro w hSw; (try dsimp only at hSw); go_simp; (try with_reducible rfl))
  simp only [Act.put, List.setIfInBounds_toArray, List.set_cons_zero, List.set_cons_succ]
  refine wpAnyH_take (i := 7) (oi := _) (v := ?_) rfl (by kernel_rfl) (by kernel_rfl) (by kernel_rfl) (fun _ _ _ h => h) (Or.inl ⟨by rfl, ?_⟩) (by assumption) ?_
  rotate_left
  · (intro w hSw; (try dsimp only at hSw); go_simp; (try with_reducible rfl))
  simp only [Act.put, List.setIfInBounds_toArray, List.set_cons_zero, List.set_cons_succ]
  refine wpAnyH_take (i := 8) (oi := _) (v := ?_) rfl (by kernel_rfl) (by kernel_rfl) (by kernel_rfl) (fun _ _ _ h => h) (Or.inl ⟨by rfl, ?_⟩) (by assumption) ?_
  rotate_left
  · (intro w hSw; (try dsimp only at hSw); go_simp; (try with_reducible rfl))
  simp only [Act.put, List.setIfInBounds_toArray, List.set_cons_zero, List.set_cons_succ]
  refine wpAnyH_ready (rs := [9, 13]) (by kernel_rfl) (by simp) ?_
  refine AllReadyH.cons (o := _) rfl (fun K2 hK => ?_) (AllReadyH.cons (o := _) rfl (fun K2 hK => ?_) AllReadyH.nil)
  · go_simp
    obtain ⟨WC, hWC⟩ : ∃ WC, WC = W1.drew := ⟨_, rfl⟩
    rw [← hWC]
    have HXC := Lib.hid (show Below W1.heap.size W1 WC by rw [hWC]; exact HSS.out.drew)
    have HSC := Lib.hid (show W1.heap.size ≤ WC.heap.size from HXC.out.size)
    clear hWC
    refine (HC.out WC (HX.out.trans (HXC.out.mono HX.out.size))).mono ?_
    rintro e w2 ⟨rfl, hp2⟩
    obtain ⟨hps, hpk, wv', pv', hpq⟩ := HP.out WC w2 (HX.out.trans (HXC.out.mono HX.out.size)) hp2
    have HP2 := Lib.hid hp2
    have HQ2 := Lib.hid hpq
    have HG2 := Lib.hid (show Cel w2 w.heap.size (gcs g) 27 from (hpk _ (Nat.le_refl _) (Nat.lt_of_lt_of_le HG.out.lt HSC.out)).trans (HG.out.below HXC.out HG.out.lt))
    have HR2 := Lib.hid (show Cel w2 (w.heap.size + 1) rcZ 44 from (hpk _ (Nat.le_succ _) (Nat.lt_of_lt_of_le HR.out.lt HSC.out)).trans (HR.out.below HXC.out HR.out.lt))
    clear hp2 hpq hps
    simp only [rcZ]
    go_wp2_with fail
    refine hK.out _ _ ?_ (fun hHeld => ?_)
    · exact ⟨by rw [HFN.out]; exact HQ2.out.cell 5, fun j u hj => by rw [Nat.zero_add, HG2.out.cell j, ← hj]; exact (Array.getElem?_toList).symm⟩
    clear hK K2
    try simp only [Act.put, List.setIfInBounds_toArray, List.set_cons_zero, List.set_cons_succ]
    refine wpAnyH_take (i := 10) (oi := _) (v := ?_) rfl (by kernel_rfl) (by kernel_rfl) (by kernel_rfl) (fun _ _ _ h => h) (Or.inl ⟨by rfl, ?_⟩) (by assumption) ?_
    rotate_left
    · (intro w hSw; (try dsimp only at hSw); go_simp; (try with_reducible rfl))
    simp only [Act.put, List.setIfInBounds_toArray, List.set_cons_zero, List.set_cons_succ]
    refine wpAnyH_take (i := 11) (oi := _) (v := ?_) rfl (by kernel_rfl) (by kernel_rfl) (by kernel_rfl) (fun _ _ _ h => h) (Or.inl ⟨by rfl, ?_⟩) (by assumption) ?_
    rotate_left
    · (intro w hSw; (try dsimp only at hSw); go_simp; (try with_reducible rfl))
    simp only [Act.put, List.setIfInBounds_toArray, List.set_cons_zero, List.set_cons_succ]
    refine wpAnyH_take (i := 12) (oi := _) (v := ?_) rfl (by kernel_rfl) (by kernel_rfl) (by kernel_rfl) (fun _ _ _ h => h) (Or.inl ⟨by rfl, ?_⟩) (by assumption) ?_
    rotate_left
    · (intro w hSw; (try dsimp only at hSw); go_simp; (try with_reducible rfl))
    simp only [Act.put, List.setIfInBounds_toArray, List.set_cons_zero, List.set_cons_succ]
    refine wpAnyH_ready (rs := [13]) (by kernel_rfl) (by simp) ?_
    refine AllReadyH.cons (o := _) rfl (fun K2 hK => ?_) AllReadyH.nil
    go_simp
    have HAS := Lib.hid (show seR q w.heap.size WC.heap.size w2.heap.size ≠ none ∨ w2.heap.size ≤ w2.heap.size from .inr (Nat.le_refl _))
    have HQA := Lib.hid (show q ≠ w2.heap.size from by have := HQ2.out.lt; omega)
    have HGA := Lib.hid (show w.heap.size ≠ w2.heap.size from by have := HG2.out.lt; omega)
    have HRA := Lib.hid (show w.heap.size + 1 ≠ w2.heap.size from by have := HR2.out.lt; omega)
    obtain ⟨W7, hW7⟩ : ∃ W7, W7 = w2.alloc (.cells #[.string ⟨#[]⟩, .string ⟨#[]⟩, .string ⟨#[]⟩, .int .i64 0, .int .i64 0, .int .i64 0, .int .u64 0] 44) := ⟨_, rfl⟩
    have HAA := Lib.hid (show Cel W7 w2.heap.size rcZ 44 by rw [hW7]; exact Cel.new w2 rcZ 44)
    have hal : Below w2.heap.size w2 W7 := by rw [hW7]; exact (Below.refl _ _).alloc (Nat.le_refl _) _
    have HF7 := Lib.hid (show Fr (seR q w.heap.size WC.heap.size) w2 W7 from Fr.of_below hal)
    have HQ7 := Lib.hid (HQ2.out.below hal HQ2.out.lt)
    have HG7 := Lib.hid (HG2.out.below hal HG2.out.lt)
    have HR7 := Lib.hid (HR2.out.below hal HR2.out.lt)
    rw [← hW7]
    clear hW7 hal
    refine hK.out _ _ ?_ (fun hHeld => ?_)
    · exact ⟨by rw [HFN.out]; exact HQ7.out.cell 5, fun j u hj => by rw [Nat.zero_add, HG7.out.cell j, ← hj]; exact (Array.getElem?_toList).symm⟩
    clear hK K2
    try simp only [Act.put, List.setIfInBounds_toArray, List.set_cons_zero, List.set_cons_succ]
    have f0 := HAA.out.cell 0
    have g0 := HAA.out.free 0
    have f1 := HAA.out.cell 1
    have g1 := HAA.out.free 1
    have f2 := HAA.out.cell 2
    have g2 := HAA.out.free 2
    have f3 := HAA.out.cell 3
    have g3 := HAA.out.free 3
    have f4 := HAA.out.cell 4
    have g4 := HAA.out.free 4
    have f5 := HAA.out.cell 5
    have g5 := HAA.out.free 5
    have f6 := HAA.out.cell 6
    have g6 := HAA.out.free 6
    have fl := HAA.out.lt
    simp [rcZ] at f0 f1 f2 f3 f4 f5 f6
    refine wpAnyH_ready (rs := [14]) (by kernel_rfl) (by simp) ?_
    refine AllReadyH.cons (o := _) rfl (fun K2 hK => ?_) AllReadyH.nil
    go_simp
    obtain ⟨W8, hW8⟩ : ∃ W8, W8 = (((((((W7.setCell ⟨w2.heap.size, 0, none⟩ (.string ⟨#[]⟩)).setCell ⟨w2.heap.size, 1, none⟩ (.string ⟨#[]⟩)).setCell ⟨w2.heap.size, 2, none⟩ (.string ⟨#[]⟩)).setCell ⟨w2.heap.size, 3, none⟩ (.int .i64 0)).setCell ⟨w2.heap.size, 4, none⟩ (.int .i64 0)).setCell ⟨w2.heap.size, 5, none⟩ (.int .i64 0)).setCell ⟨w2.heap.size, 6, none⟩ (.int .u64 0)) := ⟨_, rfl⟩
    rw [← hW8]
    have HRC := Lib.hid (show Cel W8 w2.heap.size rcZ 44 by
      rw [hW8]
      have := (((((((HAA.out.set 0 (.string ⟨#[]⟩)).set 1 (.string ⟨#[]⟩)).set 2 (.string ⟨#[]⟩)).set 3 (.int .i64 0)).set 4 (.int .i64 0)).set 5 (.int .i64 0)).set 6 (.int .u64 0))
      simpa [rcZ] using this)
    have HF8 := Lib.hid (show Fr (seR q w.heap.size WC.heap.size) w2 W8 by
      rw [hW8]
      have f := HF7.out
      repeat (first | (with_reducible exact f) | (refine Fr.setCell ?_ HAS.out _)))
    have hbk : ∀ b, b ≠ w2.heap.size → W8.heap[b]? = W7.heap[b]? := fun b hb => by
      rw [hW8]
      repeat rw [Below.heap_setCell _ _ _ _ (show b ≠ w2.heap.size from hb)]
    have HQ8 := Lib.hid (show Cel W8 q (teC q id key nx on wv' pv') 73 from (hbk q HQA.out).trans HQ7.out)
    have HG8 := Lib.hid (show Cel W8 w.heap.size (gcs g) 27 from (hbk _ HGA.out).trans HG7.out)
    have HR8 := Lib.hid (show Cel W8 (w.heap.size + 1) rcZ 44 from (hbk _ HRA.out).trans HR7.out)
    clear hW8 hbk fl f0 g0 f1 g1 f2 g2 f3 g3 f4 g4 f5 g5 f6 g6
    refine hK.out _ _ ?_ (fun hHeld => ?_)
    · exact ⟨by rw [HFN.out]; exact HQ8.out.cell 5, fun j u hj => by rw [Nat.zero_add, HG8.out.cell j, ← hj]; exact (Array.getElem?_toList).symm⟩
    clear hK K2 HAA
    try simp only [Act.put, List.setIfInBounds_toArray, List.set_cons_zero, List.set_cons_succ]
    refine wpAnyH_ready (rs := [15]) (by kernel_rfl) (by simp) ?_
    refine AllReadyH.cons (o := _) rfl (fun K2 hK => ?_) AllReadyH.nil
    go_simp
    refine hK.out _ _ ?_ (fun hHeld => ?_)
    · exact ⟨by rw [HFN.out]; exact HQ8.out.cell 5, fun j u hj => by rw [Nat.zero_add, HG8.out.cell j, ← hj]; exact (Array.getElem?_toList).symm⟩
    clear hK K2
    try simp only [Act.put, List.setIfInBounds_toArray, List.set_cons_zero, List.set_cons_succ]
    refine wpAnyH_done (by kernel_rfl) ?_ _
    have hf := HF8.out
    have HR9 := HR8
    go_wp2_with (first
      | (refine wpList_store_row rfl 44 _ _ rfl (w.heap.size + 1) rcZ rfl rfl 44 _ HR9.out (by kernel_rfl) (by kernel_rfl) (by kernel_rfl) ?_)
      | fail)
    refine bodyPost_ret (v := .tuple #[.agg rcZ, .int .i64 25]) (results_row_tmp Tryz.results10 _ _ (w.heap.size + 1) 44 rcZ (0, 0) _ rfl (setRow_heap _ _ _ _ _ _ HR9.out) Tryz.underlying44 rfl (by kernel_rfl)) rfl ?_
    have hrl : w.heap.size + 1 < WC.heap.size := Nat.lt_of_lt_of_le HR.out.lt HSC.out
    have hqn : q ≠ w.heap.size + 1 := by have := HQ0.out; omega
    have hqr : (W8.setRow (w.heap.size + 1) rcZ).heap[q]? = w2.heap[q]? := (setRow_other _ _ _ _ hqn).trans ((show W8.heap[q]? = _ from HQ8.out).trans (show w2.heap[q]? = _ from HQ2.out).symm)
    exact ⟨rfl, WC, w2, HX.out.trans (HXC.out.mono HX.out.size), HP2.out, ⟨hf.os, hf.tape, hf.output, by rw [size_setRow]; exact hf.size, fun b hb hn => (setRow_other _ _ _ _ (fun e => by subst e; unfold seR at hn; rw [if_pos (.inr ⟨Nat.le_succ _, hrl⟩)] at hn; cases hn)).trans (hf.block b hb hn)⟩, fun _ => hqr, fun h => absurd h (by decide)⟩
  · go_simp
    obtain ⟨WC, hWC⟩ : ∃ WC, WC = (W1.alloc (.cells #[.string ⟨#[]⟩, .string ⟨#[]⟩, .string ⟨#[]⟩, .int .i64 0, .int .i64 0, .int .i64 0, .int .u64 0] 44)).drew := ⟨_, rfl⟩
    have HXC := Lib.hid (show Below W1.heap.size W1 WC by rw [hWC]; exact ((Below.refl _ _).alloc (Nat.le_refl _) _).drew)
    have HAC := Lib.hid (show Cel WC W1.heap.size rcZ 44 by rw [hWC]; exact (Cel.new W1 rcZ 44).drew)
    have HSC := Lib.hid (show W1.heap.size ≤ WC.heap.size from HXC.out.size)
    rw [← hWC]
    clear hWC
    refine hK.out _ _ ?_ (fun hHeld => ?_)
    · exact ⟨hl5 _ HXC.out, hlg _ HXC.out⟩
    clear hK K2
    try simp only [Act.put, List.setIfInBounds_toArray, List.set_cons_zero, List.set_cons_succ]
    refine wpAnyH_ready (rs := [9]) (by kernel_rfl) (by simp) ?_
    refine AllReadyH.cons (o := _) rfl (fun K2 hK => ?_) AllReadyH.nil
    go_simp
    refine (HC.out WC (HX.out.trans (HXC.out.mono HX.out.size))).mono ?_
    rintro e w2 ⟨rfl, hp2⟩
    obtain ⟨hps, hpk, wv', pv', hpq⟩ := HP.out WC w2 (HX.out.trans (HXC.out.mono HX.out.size)) hp2
    have HP2 := Lib.hid hp2
    have HQ2 := Lib.hid hpq
    have HG2 := Lib.hid (show Cel w2 w.heap.size (gcs g) 27 from (hpk _ (Nat.le_refl _) (Nat.lt_of_lt_of_le HG.out.lt HSC.out)).trans (HG.out.below HXC.out HG.out.lt))
    have HR2 := Lib.hid (show Cel w2 (w.heap.size + 1) rcZ 44 from (hpk _ (Nat.le_succ _) (Nat.lt_of_lt_of_le HR.out.lt HSC.out)).trans (HR.out.below HXC.out HR.out.lt))
    clear hp2 hpq hps
    have HAA := Lib.hid (show Cel w2 W1.heap.size rcZ 44 from (hpk W1.heap.size HX.out.size HAC.out.lt).trans HAC.out)
    have HAS := Lib.hid (show seR q w.heap.size WC.heap.size W1.heap.size ≠ none ∨ w2.heap.size ≤ W1.heap.size from .inl (by unfold seR; rw [if_pos (.inr ⟨HX.out.size, HAC.out.lt⟩)]; simp))
    have HQA := Lib.hid (show q ≠ W1.heap.size from by have := HQ.out.lt; omega)
    have HGA := Lib.hid (show w.heap.size ≠ W1.heap.size from by have := HG.out.lt; omega)
    have HRA := Lib.hid (show w.heap.size + 1 ≠ W1.heap.size from by have := HR.out.lt; omega)
    have HF7 := Lib.hid (Fr.refl (seR q w.heap.size WC.heap.size) w2)
    have HQ7 := HQ2
    have HG7 := HG2
    have HR7 := HR2
    simp only [rcZ]
    go_wp2_with fail
    refine hK.out _ _ ?_ (fun hHeld => ?_)
    · exact ⟨by rw [HFN.out]; exact HQ2.out.cell 5, fun j u hj => by rw [Nat.zero_add, HG2.out.cell j, ← hj]; exact (Array.getElem?_toList).symm⟩
    clear hK K2
    try simp only [Act.put, List.setIfInBounds_toArray, List.set_cons_zero, List.set_cons_succ]
    refine wpAnyH_take (i := 10) (oi := _) (v := ?_) rfl (by kernel_rfl) (by kernel_rfl) (by kernel_rfl) (fun _ _ _ h => h) (Or.inl ⟨by rfl, ?_⟩) (by assumption) ?_
    rotate_left
    · (intro w hSw; (try dsimp only at hSw); go_simp; (try with_reducible rfl))
    simp only [Act.put, List.setIfInBounds_toArray, List.set_cons_zero, List.set_cons_succ]
    refine wpAnyH_take (i := 11) (oi := _) (v := ?_) rfl (by kernel_rfl) (by kernel_rfl) (by kernel_rfl) (fun _ _ _ h => h) (Or.inl ⟨by rfl, ?_⟩) (by assumption) ?_
    rotate_left
    · (intro w hSw; (try dsimp only at hSw); go_simp; (try with_reducible rfl))
    simp only [Act.put, List.setIfInBounds_toArray, List.set_cons_zero, List.set_cons_succ]
    refine wpAnyH_take (i := 12) (oi := _) (v := ?_) rfl (by kernel_rfl) (by kernel_rfl) (by kernel_rfl) (fun _ _ _ h => h) (Or.inl ⟨by rfl, ?_⟩) (by assumption) ?_
    rotate_left
    · (intro w hSw; (try dsimp only at hSw); go_simp; (try with_reducible rfl))
    simp only [Act.put, List.setIfInBounds_toArray, List.set_cons_zero, List.set_cons_succ]
    have f0 := HAA.out.cell 0
    have g0 := HAA.out.free 0
    have f1 := HAA.out.cell 1
    have g1 := HAA.out.free 1
    have f2 := HAA.out.cell 2
    have g2 := HAA.out.free 2
    have f3 := HAA.out.cell 3
    have g3 := HAA.out.free 3
    have f4 := HAA.out.cell 4
    have g4 := HAA.out.free 4
    have f5 := HAA.out.cell 5
    have g5 := HAA.out.free 5
    have f6 := HAA.out.cell 6
    have g6 := HAA.out.free 6
    have fl := HAA.out.lt
    simp [rcZ] at f0 f1 f2 f3 f4 f5 f6
    refine wpAnyH_ready (rs := [14]) (by kernel_rfl) (by simp) ?_
    refine AllReadyH.cons (o := _) rfl (fun K2 hK => ?_) AllReadyH.nil
    go_simp
    obtain ⟨W8, hW8⟩ : ∃ W8, W8 = (((((((w2.setCell ⟨W1.heap.size, 0, none⟩ (.string ⟨#[]⟩)).setCell ⟨W1.heap.size, 1, none⟩ (.string ⟨#[]⟩)).setCell ⟨W1.heap.size, 2, none⟩ (.string ⟨#[]⟩)).setCell ⟨W1.heap.size, 3, none⟩ (.int .i64 0)).setCell ⟨W1.heap.size, 4, none⟩ (.int .i64 0)).setCell ⟨W1.heap.size, 5, none⟩ (.int .i64 0)).setCell ⟨W1.heap.size, 6, none⟩ (.int .u64 0)) := ⟨_, rfl⟩
    rw [← hW8]
    have HRC := Lib.hid (show Cel W8 W1.heap.size rcZ 44 by
      rw [hW8]
      have := (((((((HAA.out.set 0 (.string ⟨#[]⟩)).set 1 (.string ⟨#[]⟩)).set 2 (.string ⟨#[]⟩)).set 3 (.int .i64 0)).set 4 (.int .i64 0)).set 5 (.int .i64 0)).set 6 (.int .u64 0))
      simpa [rcZ] using this)
    have HF8 := Lib.hid (show Fr (seR q w.heap.size WC.heap.size) w2 W8 by
      rw [hW8]
      have f := HF7.out
      repeat (first | (with_reducible exact f) | (refine Fr.setCell ?_ HAS.out _)))
    have hbk : ∀ b, b ≠ W1.heap.size → W8.heap[b]? = w2.heap[b]? := fun b hb => by
      rw [hW8]
      repeat rw [Below.heap_setCell _ _ _ _ (show b ≠ W1.heap.size from hb)]
    have HQ8 := Lib.hid (show Cel W8 q (teC q id key nx on wv' pv') 73 from (hbk q HQA.out).trans HQ7.out)
    have HG8 := Lib.hid (show Cel W8 w.heap.size (gcs g) 27 from (hbk _ HGA.out).trans HG7.out)
    have HR8 := Lib.hid (show Cel W8 (w.heap.size + 1) rcZ 44 from (hbk _ HRA.out).trans HR7.out)
    clear hW8 hbk fl f0 g0 f1 g1 f2 g2 f3 g3 f4 g4 f5 g5 f6 g6
    refine hK.out _ _ ?_ (fun hHeld => ?_)
    · exact ⟨by rw [HFN.out]; exact HQ8.out.cell 5, fun j u hj => by rw [Nat.zero_add, HG8.out.cell j, ← hj]; exact (Array.getElem?_toList).symm⟩
    clear hK K2 HAA
    try simp only [Act.put, List.setIfInBounds_toArray, List.set_cons_zero, List.set_cons_succ]
    refine wpAnyH_ready (rs := [15]) (by kernel_rfl) (by simp) ?_
    refine AllReadyH.cons (o := _) rfl (fun K2 hK => ?_) AllReadyH.nil
    go_simp
    refine hK.out _ _ ?_ (fun hHeld => ?_)
    · exact ⟨by rw [HFN.out]; exact HQ8.out.cell 5, fun j u hj => by rw [Nat.zero_add, HG8.out.cell j, ← hj]; exact (Array.getElem?_toList).symm⟩
    clear hK K2
    try simp only [Act.put, List.setIfInBounds_toArray, List.set_cons_zero, List.set_cons_succ]
    refine wpAnyH_done (by kernel_rfl) ?_ _
    have hf := HF8.out
    have HR9 := HR8
    go_wp2_with (first
      | (refine wpList_store_row rfl 44 _ _ rfl (w.heap.size + 1) rcZ rfl rfl 44 _ HR9.out (by kernel_rfl) (by kernel_rfl) (by kernel_rfl) ?_)
      | fail)
    refine bodyPost_ret (v := .tuple #[.agg rcZ, .int .i64 25]) (results_row_tmp Tryz.results10 _ _ (w.heap.size + 1) 44 rcZ (0, 0) _ rfl (setRow_heap _ _ _ _ _ _ HR9.out) Tryz.underlying44 rfl (by kernel_rfl)) rfl ?_
    have hrl : w.heap.size + 1 < WC.heap.size := Nat.lt_of_lt_of_le HR.out.lt HSC.out
    have hqn : q ≠ w.heap.size + 1 := by have := HQ0.out; omega
    have hqr : (W8.setRow (w.heap.size + 1) rcZ).heap[q]? = w2.heap[q]? := (setRow_other _ _ _ _ hqn).trans ((show W8.heap[q]? = _ from HQ8.out).trans (show w2.heap[q]? = _ from HQ2.out).symm)
    exact ⟨rfl, WC, w2, HX.out.trans (HXC.out.mono HX.out.size), HP2.out, ⟨hf.os, hf.tape, hf.output, by rw [size_setRow]; exact hf.size, fun b hb hn => (setRow_other _ _ _ _ (fun e => by subst e; unfold seR at hn; rw [if_pos (.inr ⟨Nat.le_succ _, hrl⟩)] at hn; cases hn)).trans (hf.block b hb hn)⟩, fun _ => hqr, fun h => absurd h (by decide)⟩
end
end Go.Proofs.YtnnocbelgfhecaaGreatDoor
/- The terminals: a sale, online and offline. -/
set_option linter.unusedSimpArgs false
namespace Go.Proofs.YtnnocbelgfhecaaGreatDoor
open Go.ChangeShapes Go.WideShapes Go.ChangeAt Go.RowKit Go.Lott
/-- The blocks with a role in one of two. -/
def un (τ σ : Rl) : Rl := fun b => if τ b = none then σ b else τ b
theorem un_none {τ σ : Rl} {b : Nat} (h : un τ σ b = none) : τ b = none ∧ σ b = none := by
  unfold un at h
  by_cases e : τ b = none
  · rw [if_pos e] at h; exact ⟨e, h⟩
  · rw [if_neg e] at h; exact absurd h e
theorem seR_none {q n N b : Nat} (h1 : b ≠ q) (h2 : b < n ∨ N ≤ b) : seR q n N b = none := by
  unfold seR
  rw [if_neg]
  omega
section
variable {w w2 w3 : World} {B p m c gb gc pm q id nx k n N : Nat} {τ σ : Rl} {key : Int} {v tv : Value} {ls : List (Tp.Tk × Value)} {U : Nat → Int → Prop} {cs : Array Value} {gs gm : Nat → Nat} {D : DataW Unit} {on : Bool} {wt : List Tp.Tk} {wv pv : Value}
theorem TObj.next (h : TObj w2 B σ q id key nx on wt k wv pv) (hf : Fr (seR q n N) w2 w3) (hl : ∀ b, σ b ≠ none → b < n ∨ N ≤ b) (hq : Cel w3 q (teC q id key (nx + 1) on wv pv) 73) : TObj w3 B σ q id key (nx + 1) on wt k wv pv := by
  have hb : ∀ b, σ b ≠ none → b ≠ q → w3.heap[b]? = w2.heap[b]? := fun b hb hne => hf.block b (h.low b hb).2 (seR_none hne (hl b hb))
  exact {
    low := fun b hb => ⟨(h.low b hb).1, Nat.lt_of_lt_of_le (h.low b hb).2 hf.size⟩
    tq := h.tq
    cp := hq
    wr := ownsRow_same h.wr (fun g hg => hb g (by rw [h.wT g hg]; simp) (fun e => by have := h.wT g hg; rw [e, h.tq] at this; cases this))
    pr := ownsRow_same h.pr (fun g hg => hb g (by rw [h.pT g hg]; simp) (fun e => by have := h.pT g hg; rw [e, h.tq] at this; cases this))
    wT := h.wT
    pT := h.pT }
set_option maxHeartbeats 1000000 in
theorem sellOn_any (h : RObj w B τ p key v ls m c U cs gb gc pm tv gs gm D) (hl : Lv B w) (t : Tp.Tk) (ht : TkOk t) (hU : ¬ U t.tm t.sq) (hm : m ≤ 1000) (hcc : c ≤ 1000) (hll : ls.length ≤ 1000) (g : Value)
    (hT : TObj w B σ q t.tm key t.sq true wt k wv pv) (hd : ∀ b, σ b ≠ none → τ b = none) :
    Calls Tryz.prog 10 #[.pointer (some ⟨q, 0, none⟩), .pointer (some ⟨p, 0, none⟩), .agg (gcs g), .string (tx t.x t.y), .int .i64 0, .int .i64 t.at_] w fun e w' => e = .returned (.tuple #[rcV key t, .int .i64 0]) ∧ ∃ τ' u cs' tv' D',
      RObj w' B τ' p key v (ls ++ [(t, u)]) (m + 1) (c + 1) (fun j q => U j q ∨ (j = t.tm ∧ q = t.sq)) cs' gb gc pm tv' gs gm D' ∧ TObj w' B σ q t.tm key (t.sq + 1) true wt k wv pv ∧ Fr (un τ σ) w w' ∧ Gr τ τ' w.heap.size := by
  have hτq : τ q = none := hd q (by rw [hT.tq]; simp)
  have hql := hT.cp.lt
  refine (teSell_ok hT.cp p t g (by have := ht.s2; omega) (fun W w2 => ∃ τ' u cs' tv' D', RObj w2 B τ' p key v (ls ++ [(t, u)]) (m + 1) (c + 1) (fun j q => U j q ∨ (j = t.tm ∧ q = t.sq)) cs' gb gc pm tv' gs gm D' ∧ Fr τ W w2 ∧ Gr τ τ' W.heap.size) (fun W hW => ?_) (fun W w2 hW hP => ?_)).mono ?_
  · have hBw : B ≤ w.heap.size := Nat.le_trans (h.low p (by rw [h.tp]; simp)).1 (Nat.le_of_lt (h.low p (by rw [h.tp]; simp)).2)
    exact teOn_any (h.below hW) (hl.below (hW.mono hBw)) t ht hU hm hcc hll g true wv pv (hT.cp.below hW hql) hτq
  · obtain ⟨τ', u, cs', tv', D', h7, hf7, hg7⟩ := hP
    have hno : ∀ b, w.heap.size ≤ b → τ b = none := fun b hb => Classical.byContradiction fun hc => by have := (h.low b hc).2; omega
    exact ⟨hf7.size, fun b h1 h2 => hf7.block b h2 (hno b h1), wv, pv, (hT.below hW |>.fr hf7 hd).cp⟩
  · rintro e w3 ⟨rfl, W, w2, hW, ⟨τ', u, cs', tv', D', h7, hf7, hg7⟩, hf3, _, hq3⟩
    have hWs := hW.size
    have hT2 := (hT.below hW).fr hf7 hd
    have hr : ∀ b, τ' b ≠ none → seR q w.heap.size W.heap.size b = none := fun b hb => by
      rcases hg7 b hb with d | d
      · have := (h.low b d).2
        exact seR_none (fun e => d (by rw [e]; exact hτq)) (.inl this)
      · exact seR_none (by omega) (.inr d)
    refine ⟨rfl, τ', u, cs', tv', D', h7.fr hf3 hr, hT2.next hf3 (fun b hb => .inl (hT.low b hb).2) (hq3 rfl _ _ hT2.cp), ?_, fun b hb => (hg7 b hb).imp id (Nat.le_trans hWs)⟩
    refine ⟨hf3.os.trans (hf7.os.trans hW.os), hf3.tape.trans (hf7.tape.trans hW.tape), hf3.output.trans (hf7.output.trans hW.output), Nat.le_trans hWs (Nat.le_trans hf7.size hf3.size), fun b hb hn => ?_⟩
    obtain ⟨n1, n2⟩ := un_none hn
    have hbq : b ≠ q := fun e => by rw [e, hT.tq] at n2; cases n2
    rw [hf3.block b (by have := hf7.size; omega) (seR_none hbq (.inl hb)), hf7.block b (by omega) n1]
    exact hW.block b hb
end
end Go.Proofs.YtnnocbelgfhecaaGreatDoor
/- The terminals: a sale offline. -/
set_option linter.unusedSimpArgs false
namespace Go.Proofs.YtnnocbelgfhecaaGreatDoor
open Go.ChangeShapes Go.WideShapes Go.ChangeAt Go.RowKit Go.Lott
section
variable {w w2 w3 : World} {B q nx k n N : Nat} {σ : Rl} {key : Int} {wt : List Tp.Tk} {wv pv : Value}
set_option maxHeartbeats 1000000 in
/-- There is room for one more. -/
theorem sellOff_any (p : Nat) (hl : Lv B w) (t : Tp.Tk) (ht : TkOk t) (g : Value) (hg : IsTier w g) (hT : TObj w B σ q t.tm key t.sq false wt wt.length wv pv) (h5 : wt.length < 5) :
    Calls Tryz.prog 10 #[.pointer (some ⟨q, 0, none⟩), .pointer (some ⟨p, 0, none⟩), .agg (gcs g), .string (tx t.x t.y), .int .i64 0, .int .i64 t.at_] w fun e w' => e = .returned (.tuple #[rcV key t, .int .i64 0]) ∧ ∃ σ' wv' pv',
      TObj w' B σ' q t.tm key (t.sq + 1) false (wt ++ [t]) (wt.length + 1) wv' pv' ∧ Fr σ w w' ∧ Gr σ σ' w.heap.size := by
  have hql := hT.cp.lt
  have hBw : B ≤ w.heap.size := Nat.le_trans (hT.low q (by rw [hT.tq]; simp)).1 (Nat.le_of_lt hql)
  refine (teSell_ok hT.cp p t g (by have := ht.s2; omega) (fun W w2 => ∃ σ' wv' pv', TObj w2 B σ' q t.tm key t.sq false (wt ++ [t]) (wt.length + 1) wv' pv' ∧ Fr σ W w2 ∧ Gr σ σ' W.heap.size) (fun W hW => ?_) (fun W w2 hW hP => ?_)).mono ?_
  · refine (teOff_any (.pointer (some ⟨p, 0, none⟩)) t (hT.below hW) (hl.below (hW.mono hBw)) ht (by omega) g (hg.below hW (Nat.le_refl _))).mono ?_
    rintro e w' hP
    rcases hP with ⟨c, _⟩ | ⟨_, he, r⟩
    · exact absurd c (by simp; omega)
    · exact ⟨he, r⟩
  · obtain ⟨σ', wv', pv', h7, hf7, hg7⟩ := hP
    have hno : ∀ b, w.heap.size ≤ b → σ b = none := fun b hb => Classical.byContradiction fun hc => by have := (hT.low b hc).2; omega
    exact ⟨hf7.size, fun b h1 h2 => hf7.block b h2 (hno b h1), wv', pv', h7.cp⟩
  · rintro e w3 ⟨rfl, W, w2, hW, ⟨σ', wv', pv', h7, hf7, hg7⟩, hf3, _, hq3⟩
    have hWs := hW.size
    refine ⟨rfl, σ', wv', pv', h7.next hf3 (fun b hb => (hg7 b hb).imp (fun d => (hT.low b d).2) id) (hq3 rfl _ _ h7.cp), ?_, fun b hb => (hg7 b hb).imp id (Nat.le_trans hWs)⟩
    refine ⟨hf3.os.trans (hf7.os.trans hW.os), hf3.tape.trans (hf7.tape.trans hW.tape), hf3.output.trans (hf7.output.trans hW.output), Nat.le_trans hWs (Nat.le_trans hf7.size hf3.size), fun b hb hn => ?_⟩
    have hbq : b ≠ q := fun e => by rw [e, hT.tq] at hn; cases hn
    rw [hf3.block b (by have := hf7.size; omega) (seR_none hbq (.inl hb)), hf7.block b (by omega) hn]
    exact hW.block b hb
set_option maxHeartbeats 1000000 in
/-- There is none. -/
theorem sellFull_any (p : Nat) (hl : Lv B w) (t : Tp.Tk) (ht : TkOk t) (g : Value) (hg : IsTier w g) (hT : TObj w B σ q t.tm key t.sq false wt wt.length wv pv) (h5 : wt.length = 5) :
    Calls Tryz.prog 10 #[.pointer (some ⟨q, 0, none⟩), .pointer (some ⟨p, 0, none⟩), .agg (gcs g), .string (tx t.x t.y), .int .i64 0, .int .i64 t.at_] w fun e w' => e = .returned (.tuple #[.agg rcZ, .int .i64 25]) ∧ Below w.heap.size w w' := by
  have hql := hT.cp.lt
  have hBw : B ≤ w.heap.size := Nat.le_trans (hT.low q (by rw [hT.tq]; simp)).1 (Nat.le_of_lt hql)
  refine (teSell_no hT.cp p t g (by have := ht.s2; omega) (fun W w2 => Below W.heap.size W w2) (fun W hW => ?_) (fun W w2 hW hP => ?_)).mono ?_
  · refine (teOff_any (.pointer (some ⟨p, 0, none⟩)) t (hT.below hW) (hl.below (hW.mono hBw)) ht (by omega) g (hg.below hW (Nat.le_refl _))).mono ?_
    rintro e w' hP
    rcases hP with ⟨_, he, r⟩ | ⟨c, _⟩
    · exact ⟨he, r⟩
    · exact absurd c (by simp; omega)
  · exact ⟨hP.size, fun b h1 h2 => hP.block b h2, wv, pv, ((hT.below hW).below hP).cp⟩
  · rintro e w3 ⟨rfl, W, w2, hW, hP, hf3, hq3, _⟩
    have hWs := hW.size
    have hPs := hP.size
    refine ⟨rfl, hf3.os.trans (hP.os.trans hW.os), hf3.tape.trans (hP.tape.trans hW.tape), hf3.output.trans (hP.output.trans hW.output), Nat.le_trans hWs (Nat.le_trans hPs hf3.size), fun b hb => ?_⟩
    by_cases hbq : b = q
    · subst hbq
      rw [hq3 (by decide), hP.block b (by omega)]
      exact hW.block b hb
    · rw [hf3.block b (by omega) (seR_none hbq (.inl hb)), hP.block b (by omega)]
      exact hW.block b hb
end
end Go.Proofs.YtnnocbelgfhecaaGreatDoor
