/- The register: Accept. -/
import Derived.Test.YtnnocbelgfhecaaGreatDoorTwg
set_option linter.unusedSimpArgs false
namespace Go.Proofs.YtnnocbelgfhecaaGreatDoor
open Go.ChangeShapes Go.WideShapes Go.ChangeAt Go.RowKit Go.Lott
/-- A ticket that may stand in the register. -/
structure TkOk (t : Tp.Tk) : Prop where
  m1 : 1 ≤ t.tm
  m2 : t.tm ≤ 32
  s1 : 1 ≤ t.sq
  s2 : t.sq ≤ 1000
  x1 : 1 ≤ t.x
  xy : t.x < t.y
  y2 : t.y ≤ 6
  at_ : t.at_ ≤ 160000
theorem TkOk.v {t : Tp.Tk} (h : TkOk t) : Num.tkV (t.tm : Int) (t.sq : Int) = true := by
  have h1 := h.m1; have h2 := h.m2; have h3 := h.s1; have h4 := h.s2
  exact (Num.tkV_iff _ _).2 ⟨by omega, by omega, by omega, by omega⟩
theorem parseNo_any {t : Tp.Tk} (h : TkOk t) (w : World) (hw : Wts w) : Calls Tryz.prog 46 #[.string (nu t)] w (RetB (.tuple #[.int .i64 t.tm, .int .i64 t.sq, .int .i64 0]) w) := by
  have h1 := tParse_any (nu t) w hw
  have h2 := Num.mk_fine h.v
  have h3 : (nu t).data.toList = Num.mkL t.tm t.sq := by unfold nu; rw [(mk_yes h.v).1, bsL_list]
  unfold tkVal at h1
  rw [h3, h2.1, h2.2.1, h2.2.2] at h1
  exact h1
def rcC (key : Int) (t : Tp.Tk) : Array Value := #[.string (nu t), .string nmB, .string (tx t.x t.y), .int .i64 (Tp.fst t.at_), .int .i64 200, .int .i64 t.at_, .int .u64 (sgI key (nu t) nmB (tx t.x t.y) (Tp.fst t.at_) 200 t.at_)]
theorem rcV_eq (key : Int) (t : Tp.Tk) : rcV key t = .agg (rcC key t) := rfl
section
variable {w w1 : World} {B p m c gb gc pm : Nat} {τ : Rl} {key : Int} {v tv : Value} {ls : List (Tp.Tk × Value)} {U : Nat → Int → Prop} {cs : Array Value} {gs gm : Nat → Nat} {D : DataW Unit}
/-- What Accept does. -/
def AccP (w : World) (B : Nat) (τ : Rl) (p : Nat) (key : Int) (v : Value) (ls : List (Tp.Tk × Value)) (m c : Nat) (U : Nat → Int → Prop) (gb gc pm : Nat) (gs gm : Nat → Nat) (t : Tp.Tk) (fr : Bool) (e : Ending) (w' : World) : Prop :=
  (fr = false ∧ e = .returned (.int .i64 12) ∧ Below w.heap.size w w') ∨
  (fr = true ∧ e = .returned (.int .i64 0) ∧ ∃ τ' u cs' tv' D', RObj w' B τ' p key v (ls ++ [(t, u)]) (m + 1) (c + 1) (fun j q => U j q ∨ (j = t.tm ∧ q = t.sq)) cs' gb gc pm tv' gs gm D' ∧ Fr τ w w' ∧ Gr τ τ' w.heap.size)
set_option maxHeartbeats 8000000 in
set_option maxRecDepth 100000 in
theorem accept_any (h : RObj w B τ p key v ls m c U cs gb gc pm tv gs gm D) (hl : Lv B w) (t : Tp.Tk) (ht : TkOk t) (hU : ¬ U t.tm t.sq) (hm : m ≤ 1000) (hcc : c ≤ 1000) (hll : ls.length ≤ 1000) (n : Nat) (hn0 : t.at_ ≤ n) (hn : n ≤ 160000) :
    Calls Tryz.prog 22 #[.pointer (some ⟨p, 0, none⟩), .agg (rcC key t), .int .i64 0, .int .i64 n] w (AccP w B τ p key v ls m c U gb gc pm gs gm t (decide (n < Tp.clo (Tp.fst t.at_)))) := by
  have hfl : Tp.fst t.at_ ≤ 18 := Tp.fst_le ht.at_
  have hf1 := Tp.fst_pos t.at_
  have hns := nu_size ht.m1 ht.m2 ht.s1 ht.s2
  have hat := ht.at_
  have HVF := Lib.hid fun W => verify_any key (nu t) nmB (tx t.x t.y) (Tp.fst t.at_) 200 t.at_ W (by omega) (by omega) (by decide) (by decide) (by rw [tx_size]; decide) (by rw [tx_size]; decide) (by omega) (by decide) (by omega)
  obtain ⟨V, hV⟩ : ∃ V, V = w.alloc (.cells (rcC key t) 44) := ⟨_, rfl⟩
  have hX : Below w.heap.size w V := by rw [hV]; exact (Below.refl _ _).alloc (Nat.le_refl _) _
  have HB := Lib.hid (show Cel V w.heap.size (rcC key t) 44 by rw [hV]; exact Cel.new _ _ _)
  have HLOW := Lib.hid (show ∀ b, τ b ≠ none → B ≤ b ∧ b < w.heap.size from h.low)
  have hBw : B ≤ w.heap.size := Nat.le_trans (h.low p (by rw [h.tp]; simp)).1 (Nat.le_of_lt (h.low p (by rw [h.tp]; simp)).2)
  have HO := Lib.hid h
  have HLV := Lib.hid hl
  have HX := Lib.hid hX
  have HW := Lib.hid hV
  have HUU := Lib.hid hU
  have HTK := Lib.hid ht
  have HGM := Lib.hid fun W h => game_any (w := W) (B := B) (p := p) (m := m) (c := c) (gb := gb) (gc := gc) (pm := pm) (τ := τ) (key := key) (v := v) (tv := tv) (ls := ls) (U := U) (cs := cs) (gs := gs) (gm := gm) (D := D) h
  have HPS := Lib.hid (show ∀ W, IsTier W v → Calls Tryz.prog 41 #[.agg (gcs v), .string (tx t.x t.y)] W fun e w' => ∃ u, e = .returned (.tuple #[u, .int .i64 0, .int .i64 0]) ∧ IsBetF W.heap.size w' u t.x t.y ∧ Below W.heap.size W w' from fun W h => parse_any v t.x t.y W h ht.x1 ht.xy ht.y2)
  have HOF := Lib.hid (show ∀ W vb, IsTier W v → IsBet W vb t.x t.y → Calls Tryz.prog 47 #[.agg (gcs v), vb, .int .i64 t.at_] W (RetB (.tuple #[.int .i64 (Tp.fst t.at_), .int .i64 200, .int .i64 0]) W) from fun W vb h1 h2 => offer_any v vb t.x t.y t.at_ W h1 h2 hat)
  have HCL := Lib.hid (show ∀ W, IsTier W v → Calls Tryz.prog 24 #[.agg (gcs v), .int .i64 (Tp.fst t.at_)] W (RetB (.tuple #[.int .i64 (Tp.clo (Tp.fst t.at_)), .int .i64 0]) W) from fun W h => by
    have := close_any v (Tp.fst t.at_ : Int) W h (by omega) (by omega)
    rw [show ((Tp.fst t.at_ : Int) - 1) * 10080 + 1200 = (Tp.clo (Tp.fst t.at_) : Int) by unfold Tp.clo; omega] at this
    exact this)
  have HPN := Lib.hid (parseNo_any ht)
  clear h hl hX hV hU ht hns
  go_enter Tryz.func22, Tryz.ntmps22
  go_wp2
  rw [← HW.out]
  have k3 : ∀ x : Sub V.heap.size V, x.w.cell? ⟨p, 3, none⟩ = some (.int .u64 key) := fun x => by
    have := (HO.out.below HX.out).below x.h
    rw [this.cp.cell]; exact this.c3
  have HLr := Lib.hid (show ∀ w', (∃ x : Sub V.heap.size V, w' = x.w) → (loadVar 44 ⟨w.heap.size, 0, none⟩).run Tryz.prog w' = .ok (.agg (rcC key t)) w' from fun w' ⟨x, hx⟩ => by
    rw [hx]; exact run_loadVar_row x.w w.heap.size 44 44 _ _ _ (HB.out.below x.h HB.out.lt) Tryz.underlying44 rfl (by kernel_rfl))
  refine wp_region_below (by kernel_rfl) (by kernel_rfl) ?_
  repeat (first
    | (go_big_quiet_want; refine quiet_load_const rfl HLr.out ?_; go_big_quiet_op; go_big_quiet_on)
    | go_big_quiet_step ((go_at_call 45; exact Sub.ofB _ (Nat.le_refl _) (HVF.out _))))
  refine wpQuiet_nil ?_
  rintro w2 ⟨⟨_, hb2⟩, rfl⟩
  have hb1 : Below V.heap.size V w2 := hb2
  replace HB := Lib.hid (HB.out.below hb1 HB.out.lt)
  replace HX := Lib.hid (HX.out.trans (hb1.mono HX.out.size))
  replace HO := Lib.hid (HO.out.below HX.out)
  clear hb1 hb2 HLr k3 HVF HW
  go_wp2
  have HLg := Lib.hid (show ∀ w', (∃ x : Sub w2.heap.size w2, w' = x.w) → (loadVar 27 ⟨gb, 0, none⟩).run Tryz.prog w' = .ok (.agg (gcs v)) w' from fun w' ⟨x, hx⟩ => by rw [hx]; exact load_game (HO.out.below x.h).gR)
  have b1 := Sub.cell (HB.out.cell 1) HB.out.lt
  refine wp_region_below (by kernel_rfl) (by kernel_rfl) ?_
  repeat (first
    | go_big_quiet_step ((go_at_call 18; exact Sub.ofB _ (Nat.le_refl _) (HGM.out _ (HO.out.below (Sub.h _))))))
  refine wpQuiet_nil ?_
  rintro w3 ⟨⟨_, hb3⟩, rfl⟩
  have hb1 : Below w2.heap.size w2 w3 := hb3
  replace HB := Lib.hid (HB.out.below hb1 HB.out.lt)
  replace HX := Lib.hid (HX.out.trans (hb1.mono HX.out.size))
  replace HO := Lib.hid (HO.out.below hb1)
  clear hb1 hb3 HLg b1
  go_wp2_with fail
  have HX0 := Lib.hid HX.out.size
  have HB0 := Lib.hid HB.out.lt
  have hS := Below.refl w3.heap.size w3
  have HSS := Lib.hid hS
  have hl2 : ∀ y, Below w3.heap.size w3 y → y.cell? ⟨w.heap.size, 2, none⟩ = some (.string (tx t.x t.y)) := fun y hy => (HB.out.below hy HB.out.lt).cell 2
  have hlg := fun y (hy : Below w3.heap.size w3 y) => (HO.out.below hy).gR
  clear hS
  refine wp_region_held_drew (S := fun w' => Below w3.heap.size w3 w') (by kernel_rfl) HSS.out.drew (fun hHeld => ?_)
  refine wpAnyH_take (i := 0) (oi := _) (v := ?_) rfl (by kernel_rfl) (by kernel_rfl) (by kernel_rfl) (fun _ _ _ h => h) (Or.inl ⟨by rfl, ?_⟩) (by assumption) ?_
  rotate_left
  · (intro w hSw; (try dsimp only at hSw); go_simp; (try with_reducible rfl))
  simp only [Act.put, List.setIfInBounds_toArray, List.set_cons_zero, List.set_cons_succ]
  refine wpAnyH_take (i := 1) (oi := _) (v := ?_) rfl (by kernel_rfl) (by kernel_rfl) (by kernel_rfl) (fun _ _ _ h => h) (Or.inl ⟨by rfl, ?_⟩) (by assumption) ?_
  rotate_left
  · (intro w hSw; (try dsimp only at hSw); go_simp; (try with_reducible rfl))
  simp only [Act.put, List.setIfInBounds_toArray, List.set_cons_zero, List.set_cons_succ]
  refine wpAnyH_take (i := 2) (oi := _) (v := _) rfl (by kernel_rfl) (by kernel_rfl) (by kernel_rfl) (fun _ _ _ h => h) (yieldsIf_load_mid (by rfl) 27 _ rfl gb 0 rfl (gcs v).toList _ hlg Tryz.underlying27 rfl (gcs_len v)) (by assumption) ?_
  simp only [Act.put, List.setIfInBounds_toArray, List.set_cons_zero, List.set_cons_succ]
  refine wpAnyH_take (i := 3) (oi := _) (v := ?_) rfl (by kernel_rfl) (by kernel_rfl) (by kernel_rfl) (fun _ _ _ h => h) (Or.inl ⟨by rfl, ?_⟩) (by assumption) ?_
  rotate_left
  · (intro w hSw; (try dsimp only at hSw); go_simp; (try with_reducible rfl))
  simp only [Act.put, List.setIfInBounds_toArray, List.set_cons_zero, List.set_cons_succ]
  refine wpAnyH_take (i := 4) (oi := _) (v := ?_) rfl (by kernel_rfl) (by kernel_rfl) (by kernel_rfl) (fun _ _ _ h => h) (Or.inl ⟨by rfl, ?_⟩) (by assumption) ?_
  rotate_left
  · (intro w hSw; (try dsimp only at hSw); go_simp; (try with_reducible rfl))
  simp only [Act.put, List.setIfInBounds_toArray, List.set_cons_zero, List.set_cons_succ]
  refine wpAnyH_ready (rs := [5, 10]) (by kernel_rfl) (by simp) ?_
  refine AllReadyH.cons (o := _) rfl (fun K2 hK => ?_) (AllReadyH.cons (o := _) rfl (fun K2 hK => ?_) AllReadyH.nil)
  · go_simp
    refine (HPS.out _ (HO.out.below HSS.out.drew).ti.tier).mono ?_
    rintro e w4 ⟨u, rfl, hbet, hb4⟩
    have HBF := Lib.hid hbet
    obtain ⟨ub, uo, uc, mb, mo, mc, heq, _⟩ := hbet
    obtain rfl : u = .agg #[.slice (some ⟨ub, uo, none⟩) 1 uc, .bool false, .int .i64 1, .int .i64 0] := by simpa using heq
    replace HSS := Lib.hid (show Below w3.heap.size w3 w4 from HSS.out.drew.trans (hb4.mono HSS.out.size))
    clear hb4 heq
    go_wp2_with fail
    refine hK.out _ _ ?_ (fun hHeld => ?_)
    · exact HSS.out
    clear hK K2
    try simp only [Act.put, List.setIfInBounds_toArray, List.set_cons_zero, List.set_cons_succ]
    refine wpAnyH_take (i := 6) (oi := _) (v := ?_) rfl (by kernel_rfl) (by kernel_rfl) (by kernel_rfl) (fun _ _ _ h => h) (Or.inl ⟨by rfl, ?_⟩) (by assumption) ?_
    rotate_left
    · (intro w hSw; (try dsimp only at hSw); go_simp; (try with_reducible rfl))
    simp only [Act.put, List.setIfInBounds_toArray, List.set_cons_zero, List.set_cons_succ]
    refine wpAnyH_take (i := 7) (oi := _) (v := ?_) rfl (by kernel_rfl) (by kernel_rfl) (by kernel_rfl) (fun _ _ _ h => h) (Or.inl ⟨by rfl, ?_⟩) (by assumption) ?_
    rotate_left
    · (intro w hSw; (try dsimp only at hSw); go_simp; (try with_reducible rfl))
    simp only [Act.put, List.setIfInBounds_toArray, List.set_cons_zero, List.set_cons_succ]
    refine wpAnyH_take (i := 8) (oi := _) (v := ?_) rfl (by kernel_rfl) (by kernel_rfl) (by kernel_rfl) (fun _ _ _ h => h) (Or.inl ⟨by rfl, ?_⟩) (by assumption) ?_
    rotate_left
    · (intro w hSw; (try dsimp only at hSw); go_simp; (try with_reducible rfl))
    simp only [Act.put, List.setIfInBounds_toArray, List.set_cons_zero, List.set_cons_succ]
    refine wpAnyH_take (i := 9) (oi := _) (v := ?_) rfl (by kernel_rfl) (by kernel_rfl) (by kernel_rfl) (fun _ _ _ h => h) (Or.inl ⟨by rfl, ?_⟩) (by assumption) ?_
    rotate_left
    · (intro w hSw; (try dsimp only at hSw); go_simp; (try with_reducible rfl))
    simp only [Act.put, List.setIfInBounds_toArray, List.set_cons_zero, List.set_cons_succ]
    refine wpAnyH_ready (rs := [10]) (by kernel_rfl) (by simp) ?_
    refine AllReadyH.cons (o := _) rfl (fun K2 hK => ?_) AllReadyH.nil
    go_simp
    obtain ⟨W5, hW5⟩ : ∃ W5, W5 = w4.alloc (.cells #[.slice none 0 0, .bool false, .int .i64 0, .int .i64 0] 79) := ⟨_, rfl⟩
    obtain ⟨a5, ha5⟩ : ∃ a5, a5 = w4.heap.size := ⟨_, rfl⟩
    have HF5 := Lib.hid (show Cel W5 a5 #[.slice none 0 0, .bool false, .int .i64 0, .int .i64 0] 79 by rw [hW5, ha5]; exact Cel.new _ _ _)
    have HA5 := Lib.hid (show w3.heap.size ≤ a5 by rw [ha5]; exact HSS.out.size)
    have HB5 := Lib.hid (show w3.heap.size ≤ W5.heap.size ∧ IsBetF w3.heap.size ((((W5.setCell ⟨a5, 0, none⟩ (.slice (some ⟨ub, uo, none⟩) 1 uc)).setCell ⟨a5, 1, none⟩ (.bool false)).setCell ⟨a5, 2, none⟩ (.int .i64 1)).setCell ⟨a5, 3, none⟩ (.int .i64 0)) (.agg #[.slice (some ⟨ub, uo, none⟩) 1 uc, .bool false, .int .i64 1, .int .i64 0]) t.x t.y by
      rw [hW5, ha5]
      have hb := (Below.refl w4.heap.size w4).alloc (Nat.le_refl _) (.cells #[.slice none 0 0, .bool false, .int .i64 0, .int .i64 0] 79)
      refine ⟨Nat.le_trans HSS.out.size hb.size, HBF.out.below ?_ (Nat.le_refl _)⟩
      exact (((hb.setCell (Nat.le_refl _) _).setCell (Nat.le_refl _) _).setCell (Nat.le_refl _) _).setCell (Nat.le_refl _) _)
    replace HSS := Lib.hid (show Below w3.heap.size w3 W5 by rw [hW5]; exact HSS.out.alloc HSS.out.size _)
    rw [← hW5, ← ha5]
    clear hW5 ha5 HBF
    refine hK.out _ _ ?_ (fun hHeld => ?_)
    · exact HSS.out
    clear hK K2
    try simp only [Act.put, List.setIfInBounds_toArray, List.set_cons_zero, List.set_cons_succ]
    have f0 := HF5.out.cell 0
    have e0 := HF5.out.free 0
    have f1 := HF5.out.cell 1
    have e1 := HF5.out.free 1
    have f2 := HF5.out.cell 2
    have e2 := HF5.out.free 2
    have f3 := HF5.out.cell 3
    have e3 := HF5.out.free 3
    have fl := HF5.out.lt
    simp at f0 f1 f2 f3
    refine wpAnyH_ready (rs := [11]) (by kernel_rfl) (by simp) ?_
    refine AllReadyH.cons (o := _) rfl (fun K2 hK => ?_) AllReadyH.nil
    go_simp
    obtain ⟨W6, hW6⟩ : ∃ W6, W6 = (((W5.setCell ⟨a5, 0, none⟩ (.slice (some ⟨ub, uo, none⟩) 1 uc)).setCell ⟨a5, 1, none⟩ (.bool false)).setCell ⟨a5, 2, none⟩ (.int .i64 1)).setCell ⟨a5, 3, none⟩ (.int .i64 0) := ⟨_, rfl⟩
    rw [← hW6]
    have HC6 := Lib.hid (show Cel W6 a5 #[.slice (some ⟨ub, uo, none⟩) 1 uc, .bool false, .int .i64 1, .int .i64 0] 79 by
      rw [hW6]
      have := (((HF5.out.set 0 (.slice (some ⟨ub, uo, none⟩) 1 uc)).set 1 (.bool false)).set 2 (.int .i64 1)).set 3 (.int .i64 0)
      simpa using this)
    have HX6 := Lib.hid (show Below w3.heap.size w3 W6 by
      rw [hW6]
      exact (((HSS.out.setCell HA5.out _).setCell HA5.out _).setCell HA5.out _).setCell HA5.out _)
    have HBF := Lib.hid (show IsBetF w3.heap.size W6 (.agg #[.slice (some ⟨ub, uo, none⟩) 1 uc, .bool false, .int .i64 1, .int .i64 0]) t.x t.y by rw [hW6]; exact HB5.out.2)
    clear hW6 f0 e0 f1 e1 f2 e2 f3 e3 fl HB5 HF5
    refine hK.out _ _ ?_ (fun hHeld => ?_)
    · exact HX6.out
    clear hK K2
    try simp only [Act.put, List.setIfInBounds_toArray, List.set_cons_zero, List.set_cons_succ]
    refine wpAnyH_ready (rs := [12]) (by kernel_rfl) (by simp) ?_
    refine AllReadyH.cons (o := _) rfl (fun K2 hK => ?_) AllReadyH.nil
    go_simp
    refine hK.out _ _ ?_ (fun hHeld => ?_)
    · exact HX6.out
    clear hK K2
    try simp only [Act.put, List.setIfInBounds_toArray, List.set_cons_zero, List.set_cons_succ]
    refine wpAnyH_ready (rs := [13]) (by kernel_rfl) (by simp) ?_
    refine AllReadyH.cons (o := _) rfl (fun K2 hK => ?_) AllReadyH.nil
    go_simp
    refine hK.out _ _ ?_ (fun hHeld => ?_)
    · exact HX6.out
    clear hK K2
    try simp only [Act.put, List.setIfInBounds_toArray, List.set_cons_zero, List.set_cons_succ]
    refine wpAnyH_done (by kernel_rfl) ?_ _
    have hNN : B ≤ w3.heap.size := Nat.le_trans hBw HX.out.size
    obtain ⟨τ1, hO1, hU1, hG1⟩ := (HO.out.below HX6.out).adoptU HBF.out (fun b hb => Nat.lt_of_lt_of_le (HLOW.out b hb).2 HX.out.size) hNN
    replace HX := Lib.hid (HX.out.trans (HX6.out.mono HX.out.size))
    replace HB := Lib.hid (HB.out.below HX6.out HB.out.lt)
    have HSZ := Lib.hid (show w.heap.size < a5 from Nat.lt_of_lt_of_le HB0.out HA5.out)
    have HO1 := Lib.hid hO1
    have HU1 := Lib.hid hU1
    have HG1 := Lib.hid (show Gr τ τ1 w.heap.size from fun b hb => (hG1 b hb).imp id (fun c => Nat.le_trans HX0.out c))
    have HT0 := Lib.hid (show τ1 w.heap.size = none from Classical.byContradiction fun c => by
      rcases hG1 _ c with d | d
      · have := (HLOW.out _ d).2; omega
      · have := HB0.out; omega)
    have HLV1 := Lib.hid (HLV.out.below (HX.out.mono hBw))
    have r0 : W6.cell? ⟨w.heap.size, 0, none⟩ = some (.string (nu t)) := HB.out.cell 0
    clear hO1 hU1 hG1 hNN HX6 HO HSS HA5 hl2 hlg
    go_wp2_with (first
      | (have hWW := HLV1.out.p.2
         go_at_call 46
         (with_reducible refine (HPN.out _ hWW).mono ?_)
         rintro e w7 ⟨rfl, hb7⟩
         replace HX := Lib.hid (HX.out.trans (hb7.mono HX.out.size))
         replace HB := Lib.hid (HB.out.below hb7 HB.out.lt)
         replace HC6 := Lib.hid (HC6.out.below hb7 HC6.out.lt)
         replace HBF := Lib.hid (HBF.out.below hb7 (Nat.le_refl _))
         replace HO1 := Lib.hid (HO1.out.below hb7)
         replace HU1 := Lib.hid (HU1.out.same hb7.size (fun b _ hb => hb7.block b hb))
         clear hb7 r0)
      | fail)
    have HLg := Lib.hid (show ∀ w', (∃ x : Sub w7.heap.size w7, w' = x.w) → (loadVar 27 ⟨gb, 0, none⟩).run Tryz.prog w' = .ok (.agg (gcs v)) w' from fun w' ⟨x, hx⟩ => by rw [hx]; exact load_game (HO1.out.below x.h).gR)
    have HTV := Lib.hid HO1.out.ti.tier
    have b5 := Sub.cell (HB.out.cell 5) HB.out.lt
    have b0 := Sub.cell (HC6.out.cell 0) HC6.out.lt
    have b1 := Sub.cell (HC6.out.cell 1) HC6.out.lt
    have b2 := Sub.cell (HC6.out.cell 2) HC6.out.lt
    have b3 := Sub.cell (HC6.out.cell 3) HC6.out.lt
    refine wp_region_below (by kernel_rfl) (by kernel_rfl) ?_
    repeat (first
      | (go_big_quiet_want; refine quiet_load_const rfl HLg.out ?_; go_big_quiet_op; go_big_quiet_on)
      | go_big_quiet_step ((go_at_call 47; exact Sub.ofB _ (Nat.le_refl _) (HOF.out _ _ (HTV.out.below (Sub.h _) (Nat.le_refl _)) (HBF.out.bet.below (Sub.h _) (Nat.le_refl _))))))
    refine wpQuiet_nil ?_
    rintro w8 ⟨⟨_, hb8⟩, rfl⟩
    have hb1 : Below w7.heap.size w7 w8 := hb8
    replace HX := Lib.hid (HX.out.trans (hb1.mono HX.out.size))
    replace HB := Lib.hid (HB.out.below hb1 HB.out.lt)
    replace HC6 := Lib.hid (HC6.out.below hb1 HC6.out.lt)
    replace HO1 := Lib.hid (HO1.out.below hb1)
    replace HU1 := Lib.hid (HU1.out.same hb1.size (fun b _ hb => hb1.block b hb))
    clear hb1 hb8 HLg HTV b5 b0 b1 b2 b3 HBF
    have r3 : w8.cell? ⟨w.heap.size, 3, none⟩ = some (.int .i64 (Tp.fst t.at_)) := HB.out.cell 3
    have r4 : w8.cell? ⟨w.heap.size, 4, none⟩ = some (.int .i64 200) := HB.out.cell 4
    have r5 : w8.cell? ⟨w.heap.size, 5, none⟩ = some (.int .i64 t.at_) := HB.out.cell 5
    have HGR := Lib.hid HO1.out.gR
    have hz0 : (t.at_ : Int) ≤ (n : Int) := by omega
    have hz1 : (n : Int) ≤ 160000 := by omega
    go_wp2_with (first
      | (go_at_call 26; (with_reducible refine (isPl_zero _).mono ?_); rintro e w' ⟨rfl, rfl⟩)
      | (refine wpList_load_mid rfl 27 _ rfl gb 0 rfl (gcs v).toList _ HGR.out Tryz.underlying27 rfl (gcs_len v) ?_)
      | fail)
    refine (HCL.out _ HO1.out.ti.tier).mono ?_
    rintro e w9 ⟨rfl, hb9⟩
    replace HX := Lib.hid (HX.out.trans (hb9.mono HX.out.size))
    replace HB := Lib.hid (HB.out.below hb9 HB.out.lt)
    replace HC6 := Lib.hid (HC6.out.below hb9 HC6.out.lt)
    replace HO1 := Lib.hid (HO1.out.below hb9)
    replace HU1 := Lib.hid (HU1.out.same hb9.size (fun b _ hb => hb9.block b hb))
    clear hb9 HGR r3 r4 r5 hz0
    by_cases hcl : n < Tp.clo (Tp.fst t.at_)
    case neg =>
      have hz0 : (Tp.clo (Tp.fst t.at_) : Int) ≤ (n : Int) := by omega
      go_wp2
      refine bodyPost_ret (v := .int .i64 12) (by simp [results, Tryz.results22, go_sem]) rfl ?_
      exact .inl ⟨by simp [hcl], rfl, HX.out⟩
    have hz0 : (n : Int) < (Tp.clo (Tp.fst t.at_) : Int) := by omega
    go_wp2_with fail
    have hS := Below.refl w9.heap.size w9
    have HSS := Lib.hid hS
    have hl5 : ∀ y, Below w9.heap.size w9 y → y.cell? ⟨w.heap.size, 5, none⟩ = some (.int .i64 t.at_) := fun y hy => (HB.out.below hy HB.out.lt).cell 5
    have hl0 : ∀ y, Below w9.heap.size w9 y → y.cell? ⟨gb, 0, none⟩ = some (.string nmB) := fun y hy => (HO1.out.below hy).gR 0 _ rfl
    have hlb := fun y (hy : Below w9.heap.size w9 y) => show y.rangeAt a5 0 [.slice (some ⟨ub, uo, none⟩) 1 uc, .bool false, .int .i64 1, .int .i64 0] from fun j u hj => by
      rw [Nat.zero_add]
      refine ((HC6.out.below hy HC6.out.lt).cell j).trans ?_
      rw [← hj]
      exact List.getElem?_toArray
    clear hS
    refine wp_region_held_drew (S := fun w' => Below w9.heap.size w9 w') (by kernel_rfl) HSS.out.drew (fun hHeld => ?_)
    refine wpAnyH_take (i := 0) (oi := _) (v := ?_) rfl (by kernel_rfl) (by kernel_rfl) (by kernel_rfl) (fun _ _ _ h => h) (Or.inl ⟨by rfl, ?_⟩) (by assumption) ?_
    rotate_left
    · (intro w hSw; (try dsimp only at hSw); go_simp; (try with_reducible rfl))
    simp only [Act.put, List.setIfInBounds_toArray, List.set_cons_zero, List.set_cons_succ]
    refine wpAnyH_take (i := 1) (oi := _) (v := ?_) rfl (by kernel_rfl) (by kernel_rfl) (by kernel_rfl) (fun _ _ _ h => h) (Or.inl ⟨by rfl, ?_⟩) (by assumption) ?_
    rotate_left
    · (intro w hSw; (try dsimp only at hSw); go_simp; (try with_reducible rfl))
    simp only [Act.put, List.setIfInBounds_toArray, List.set_cons_zero, List.set_cons_succ]
    refine wpAnyH_take (i := 2) (oi := _) (v := ?_) rfl (by kernel_rfl) (by kernel_rfl) (by kernel_rfl) (fun _ _ _ h => h) (Or.inl ⟨by rfl, ?_⟩) (by assumption) ?_
    rotate_left
    · (intro w hSw; (try dsimp only at hSw); go_simp; (try with_reducible rfl))
    simp only [Act.put, List.setIfInBounds_toArray, List.set_cons_zero, List.set_cons_succ]
    refine wpAnyH_take (i := 3) (oi := _) (v := ?_) rfl (by kernel_rfl) (by kernel_rfl) (by kernel_rfl) (fun _ _ _ h => h) (Or.inl ⟨by rfl, ?_⟩) (by assumption) ?_
    rotate_left
    · (intro w hSw; (try dsimp only at hSw); go_simp; (try with_reducible rfl))
    simp only [Act.put, List.setIfInBounds_toArray, List.set_cons_zero, List.set_cons_succ]
    refine wpAnyH_take (i := 4) (oi := _) (v := _) rfl (by kernel_rfl) (by kernel_rfl) (by kernel_rfl) (fun _ _ _ h => h) (yieldsIf_load_mid (by rfl) 79 _ rfl a5 0 rfl [.slice (some ⟨ub, uo, none⟩) 1 uc, .bool false, .int .i64 1, .int .i64 0] _ hlb Tryz.underlying79 rfl (by kernel_rfl)) (by assumption) ?_
    simp only [Act.put, List.setIfInBounds_toArray, List.set_cons_zero, List.set_cons_succ]
    refine wpAnyH_take (i := 5) (oi := _) (v := ?_) rfl (by kernel_rfl) (by kernel_rfl) (by kernel_rfl) (fun _ _ _ h => h) (Or.inl ⟨by rfl, ?_⟩) (by assumption) ?_
    rotate_left
    · (intro w hSw; (try dsimp only at hSw); go_simp; (try with_reducible rfl))
    simp only [Act.put, List.setIfInBounds_toArray, List.set_cons_zero, List.set_cons_succ]
    refine wpAnyH_take (i := 6) (oi := _) (v := ?_) rfl (by kernel_rfl) (by kernel_rfl) (by kernel_rfl) (fun _ _ _ h => h) (Or.inl ⟨by rfl, ?_⟩) (by assumption) ?_
    rotate_left
    · (intro w hSw; (try dsimp only at hSw); go_simp; (try with_reducible rfl))
    simp only [Act.put, List.setIfInBounds_toArray, List.set_cons_zero, List.set_cons_succ]
    refine wpAnyH_take (i := 7) (oi := _) (v := ?_) rfl (by kernel_rfl) (by kernel_rfl) (by kernel_rfl) (fun _ _ _ h => h) (Or.inl ⟨by rfl, ?_⟩) (by assumption) ?_
    rotate_left
    · (intro w hSw; (try dsimp only at hSw); go_simp; (try with_reducible rfl))
    simp only [Act.put, List.setIfInBounds_toArray, List.set_cons_zero, List.set_cons_succ]
    refine wpAnyH_take (i := 8) (oi := _) (v := ?_) rfl (by kernel_rfl) (by kernel_rfl) (by kernel_rfl) (fun _ _ _ h => h) (Or.inl ⟨by rfl, ?_⟩) (by assumption) ?_
    rotate_left
    · (intro w hSw; (try dsimp only at hSw); go_simp; (try with_reducible rfl))
    simp only [Act.put, List.setIfInBounds_toArray, List.set_cons_zero, List.set_cons_succ]
    refine wpAnyH_take (i := 9) (oi := _) (v := ?_) rfl (by kernel_rfl) (by kernel_rfl) (by kernel_rfl) (fun _ _ _ h => h) (Or.inl ⟨by rfl, ?_⟩) (by assumption) ?_
    rotate_left
    · (intro w hSw; (try dsimp only at hSw); go_simp; (try with_reducible rfl))
    simp only [Act.put, List.setIfInBounds_toArray, List.set_cons_zero, List.set_cons_succ]
    refine wpAnyH_ready (rs := [10]) (by kernel_rfl) (by simp) ?_
    refine AllReadyH.cons (o := _) rfl (fun K2 hK => ?_) AllReadyH.nil
    go_simp
    obtain ⟨Wa, hWa⟩ : ∃ Wa, Wa = (w9.alloc (.cells #[.string ⟨#[]⟩, .string ⟨#[]⟩, .slice none 0 0, .bool false, .int .i64 0, .int .i64 0, .string ⟨#[]⟩, .int .i64 0, .int .i64 0, .int .i64 0, .int .i64 0, .int .i64 0, .int .i64 0, .bool false] 81)).drew := ⟨_, rfl⟩
    have HAA := Lib.hid (show Cel Wa w9.heap.size #[.string ⟨#[]⟩, .string ⟨#[]⟩, .slice none 0 0, .bool false, .int .i64 0, .int .i64 0, .string ⟨#[]⟩, .int .i64 0, .int .i64 0, .int .i64 0, .int .i64 0, .int .i64 0, .int .i64 0, .bool false] 81 by rw [hWa]; exact (Cel.new w9 _ _).drew)
    replace HSS := Lib.hid (show Below w9.heap.size w9 Wa by rw [hWa]; exact ((Below.refl _ _).alloc (Nat.le_refl _) _).drew)
    rw [← hWa]
    clear hWa
    refine hK.out _ _ ?_ (fun hHeld => ?_)
    · exact HSS.out
    clear hK K2
    try simp only [Act.put, List.setIfInBounds_toArray, List.set_cons_zero, List.set_cons_succ]
    have f0 := HAA.out.cell 0
    have g0 := HAA.out.free 0
    have f1 := HAA.out.cell 1
    have g1 := HAA.out.free 1
    have f2 := HAA.out.cell 2
    have g2 := HAA.out.free 2
    have f3 := HAA.out.cell 3
    have g3 := HAA.out.free 3
    have f4 := HAA.out.cell 4
    have g4 := HAA.out.free 4
    have f5 := HAA.out.cell 5
    have g5 := HAA.out.free 5
    have f6 := HAA.out.cell 6
    have g6 := HAA.out.free 6
    have f7 := HAA.out.cell 7
    have g7 := HAA.out.free 7
    have f8 := HAA.out.cell 8
    have g8 := HAA.out.free 8
    have f9 := HAA.out.cell 9
    have g9 := HAA.out.free 9
    have f10 := HAA.out.cell 10
    have g10 := HAA.out.free 10
    have f11 := HAA.out.cell 11
    have g11 := HAA.out.free 11
    have f12 := HAA.out.cell 12
    have g12 := HAA.out.free 12
    have f13 := HAA.out.cell 13
    have g13 := HAA.out.free 13
    have fl := HAA.out.lt
    simp at f0 f1 f2 f3 f4 f5 f6 f7 f8 f9 f10 f11 f12 f13
    refine wpAnyH_ready (rs := [11]) (by kernel_rfl) (by simp) ?_
    refine AllReadyH.cons (o := _) rfl (fun K2 hK => ?_) AllReadyH.nil
    go_simp
    obtain ⟨Wb, hWb⟩ : ∃ Wb, Wb = ((((((((((((((Wa.setCell ⟨w9.heap.size, 0, none⟩ (.string ⟨#[]⟩)).setCell ⟨w9.heap.size, 1, none⟩ (.string nmB)).setCell ⟨w9.heap.size, 2, none⟩ (.slice (some ⟨ub, uo, none⟩) 1 uc)).setCell ⟨w9.heap.size, 3, none⟩ (.bool false)).setCell ⟨w9.heap.size, 4, none⟩ (.int .i64 1)).setCell ⟨w9.heap.size, 5, none⟩ (.int .i64 0)).setCell ⟨w9.heap.size, 6, none⟩ (.string ⟨#[]⟩)).setCell ⟨w9.heap.size, 7, none⟩ (.int .i64 (Tp.fst t.at_))).setCell ⟨w9.heap.size, 8, none⟩ (.int .i64 200)).setCell ⟨w9.heap.size, 9, none⟩ (.int .i64 t.at_)).setCell ⟨w9.heap.size, 10, none⟩ (.int .i64 0)).setCell ⟨w9.heap.size, 11, none⟩ (.int .i64 0)).setCell ⟨w9.heap.size, 12, none⟩ (.int .i64 0)).setCell ⟨w9.heap.size, 13, none⟩ (.bool false)) := ⟨_, rfl⟩
    rw [← hWb]
    have HBB := Lib.hid (show Cel Wb w9.heap.size #[.string ⟨#[]⟩, .string nmB, .slice (some ⟨ub, uo, none⟩) 1 uc, .bool false, .int .i64 1, .int .i64 0, .string ⟨#[]⟩, .int .i64 (Tp.fst t.at_), .int .i64 200, .int .i64 t.at_, .int .i64 0, .int .i64 0, .int .i64 0, .bool false] 81 by
      rw [hWb]
      have := ((((((((((((((HAA.out.set 0 (.string ⟨#[]⟩)).set 1 (.string nmB)).set 2 (.slice (some ⟨ub, uo, none⟩) 1 uc)).set 3 (.bool false)).set 4 (.int .i64 1)).set 5 (.int .i64 0)).set 6 (.string ⟨#[]⟩)).set 7 (.int .i64 (Tp.fst t.at_))).set 8 (.int .i64 200)).set 9 (.int .i64 t.at_)).set 10 (.int .i64 0)).set 11 (.int .i64 0)).set 12 (.int .i64 0)).set 13 (.bool false))
      simpa using this)
    replace HSS := Lib.hid (show Below w9.heap.size w9 Wb by
      rw [hWb]
      exact ((((((((((((((HSS.out.setCell (Nat.le_refl _) (.string ⟨#[]⟩)).setCell (Nat.le_refl _) (.string nmB)).setCell (Nat.le_refl _) (.slice (some ⟨ub, uo, none⟩) 1 uc)).setCell (Nat.le_refl _) (.bool false)).setCell (Nat.le_refl _) (.int .i64 1)).setCell (Nat.le_refl _) (.int .i64 0)).setCell (Nat.le_refl _) (.string ⟨#[]⟩)).setCell (Nat.le_refl _) (.int .i64 (Tp.fst t.at_))).setCell (Nat.le_refl _) (.int .i64 200)).setCell (Nat.le_refl _) (.int .i64 t.at_)).setCell (Nat.le_refl _) (.int .i64 0)).setCell (Nat.le_refl _) (.int .i64 0)).setCell (Nat.le_refl _) (.int .i64 0)).setCell (Nat.le_refl _) (.bool false)))
    clear hWb HAA fl f0 g0 f1 g1 f2 g2 f3 g3 f4 g4 f5 g5 f6 g6 f7 g7 f8 g8 f9 g9 f10 g10 f11 g11 f12 g12 f13 g13
    refine hK.out _ _ ?_ (fun hHeld => ?_)
    · exact HSS.out
    clear hK K2
    try simp only [Act.put, List.setIfInBounds_toArray, List.set_cons_zero, List.set_cons_succ]
    refine wpAnyH_done (by kernel_rfl) ?_ _
    replace HX := Lib.hid (HX.out.trans (HSS.out.mono HX.out.size))
    replace HO1 := Lib.hid (HO1.out.below HSS.out)
    replace HU1 := Lib.hid (HU1.out.same HSS.out.size (fun b _ hb => HSS.out.block b hb))
    have HLV2 := Lib.hid (HLV.out.below (HX.out.mono hBw))
    clear hl5 hl0 hlb HB HC6 HSS
    have z0 : Wb.cell? ⟨w9.heap.size, 0, none⟩ = some (.string ⟨#[]⟩) := HBB.out.cell 0
    have z1 : Wb.cell? ⟨w9.heap.size, 1, none⟩ = some (.string nmB) := HBB.out.cell 1
    have z2 : Wb.cell? ⟨w9.heap.size, 2, none⟩ = some (.slice (some ⟨ub, uo, none⟩) 1 uc) := HBB.out.cell 2
    have z3 : Wb.cell? ⟨w9.heap.size, 3, none⟩ = some (.bool false) := HBB.out.cell 3
    have z4 : Wb.cell? ⟨w9.heap.size, 4, none⟩ = some (.int .i64 1) := HBB.out.cell 4
    have z5 : Wb.cell? ⟨w9.heap.size, 5, none⟩ = some (.int .i64 0) := HBB.out.cell 5
    have z6 : Wb.cell? ⟨w9.heap.size, 6, none⟩ = some (.string ⟨#[]⟩) := HBB.out.cell 6
    have z7 : Wb.cell? ⟨w9.heap.size, 7, none⟩ = some (.int .i64 (Tp.fst t.at_)) := HBB.out.cell 7
    have z8 : Wb.cell? ⟨w9.heap.size, 8, none⟩ = some (.int .i64 200) := HBB.out.cell 8
    have z9 : Wb.cell? ⟨w9.heap.size, 9, none⟩ = some (.int .i64 t.at_) := HBB.out.cell 9
    have z10 : Wb.cell? ⟨w9.heap.size, 10, none⟩ = some (.int .i64 0) := HBB.out.cell 10
    have z11 : Wb.cell? ⟨w9.heap.size, 11, none⟩ = some (.int .i64 0) := HBB.out.cell 11
    have z12 : Wb.cell? ⟨w9.heap.size, 12, none⟩ = some (.int .i64 0) := HBB.out.cell 12
    have z13 : Wb.cell? ⟨w9.heap.size, 13, none⟩ = some (.bool false) := HBB.out.cell 13
    have zl := HBB.out.lt
    go_wp2_with (first
      | (go_at_call 28
         have htk := HTK.out
         refine (add_any HO1.out HLV2.out (.slice (some ⟨ub, uo, none⟩) 1 uc) t htk.m1 htk.m2 htk.s1 htk.s2 HUU.out hm hcc hll HU1.out).mono ?_
         rw [show (tkC (t, .slice (some ⟨ub, uo, none⟩) 1 uc)).toArray = #[.string (nu t), .string nmB, .slice (some ⟨ub, uo, none⟩) 1 uc, .bool false, .int .i64 1, .int .i64 0, .string ⟨#[]⟩, .int .i64 (Tp.fst t.at_), .int .i64 200, .int .i64 t.at_, .int .i64 t.tm, .int .i64 t.sq, .int .i64 0, .bool false] from rfl]
         rintro e wE ⟨τ', cs', tv', D', rfl, h7, hf7, hg7⟩)
      | fail)
    refine bodyPost_ret (v := .int .i64 0) (by simp [results, Tryz.results22, go_sem]) rfl ?_
    exact .inr ⟨by simp [hcl], rfl, τ', .slice (some ⟨ub, uo, none⟩) 1 uc, cs', tv', D', h7, (Fr.of_below HX.out).trans HG1.out hf7, HG1.out.trans hg7 HX.out.size⟩
  · go_simp
    obtain ⟨W5, hW5⟩ : ∃ W5, W5 = (w3.alloc (.cells #[.slice none 0 0, .bool false, .int .i64 0, .int .i64 0] 79)).drew := ⟨_, rfl⟩
    have HF5 := Lib.hid (show Cel W5 w3.heap.size #[.slice none 0 0, .bool false, .int .i64 0, .int .i64 0] 79 by rw [hW5]; exact (Cel.new w3 _ _).drew)
    have HA5 := Lib.hid (Nat.le_refl w3.heap.size)
    have HAL := Lib.hid HF5.out.lt
    replace HSS := Lib.hid (show Below w3.heap.size w3 W5 by rw [hW5]; exact ((Below.refl _ _).alloc (Nat.le_refl _) _).drew)
    have HAM := Lib.hid HSS.out.size
    rw [← hW5]
    clear hW5
    refine hK.out _ _ ?_ (fun hHeld => ?_)
    · exact HSS.out
    clear hK K2
    try simp only [Act.put, List.setIfInBounds_toArray, List.set_cons_zero, List.set_cons_succ]
    refine wpAnyH_ready (rs := [5]) (by kernel_rfl) (by simp) ?_
    refine AllReadyH.cons (o := _) rfl (fun K2 hK => ?_) AllReadyH.nil
    go_simp
    refine (HPS.out _ (HO.out.below HSS.out).ti.tier).mono ?_
    rintro e w4 ⟨u, rfl, hbet, hb4⟩
    have HBF := Lib.hid hbet
    obtain ⟨ub, uo, uc, mb, mo, mc, heq, _⟩ := hbet
    obtain rfl : u = .agg #[.slice (some ⟨ub, uo, none⟩) 1 uc, .bool false, .int .i64 1, .int .i64 0] := by simpa using heq
    replace HF5 := Lib.hid (HF5.out.below hb4 HF5.out.lt)
    replace HSS := Lib.hid (show Below w3.heap.size w3 w4 from HSS.out.trans (hb4.mono HSS.out.size))
    have HB5 := Lib.hid (show w3.heap.size ≤ w4.heap.size ∧ IsBetF w3.heap.size ((((w4.setCell ⟨w3.heap.size, 0, none⟩ (.slice (some ⟨ub, uo, none⟩) 1 uc)).setCell ⟨w3.heap.size, 1, none⟩ (.bool false)).setCell ⟨w3.heap.size, 2, none⟩ (.int .i64 1)).setCell ⟨w3.heap.size, 3, none⟩ (.int .i64 0)) (.agg #[.slice (some ⟨ub, uo, none⟩) 1 uc, .bool false, .int .i64 1, .int .i64 0]) t.x t.y from
      ⟨HSS.out.size, ((((HBF.out.st (HAL.out) _).st HAL.out _).st HAL.out _).st HAL.out _).mono HAM.out⟩)
    clear hb4 heq HBF
    go_wp2_with fail
    refine hK.out _ _ ?_ (fun hHeld => ?_)
    · exact HSS.out
    clear hK K2
    try simp only [Act.put, List.setIfInBounds_toArray, List.set_cons_zero, List.set_cons_succ]
    refine wpAnyH_take (i := 6) (oi := _) (v := ?_) rfl (by kernel_rfl) (by kernel_rfl) (by kernel_rfl) (fun _ _ _ h => h) (Or.inl ⟨by rfl, ?_⟩) (by assumption) ?_
    rotate_left
    · (intro w hSw; (try dsimp only at hSw); go_simp; (try with_reducible rfl))
    simp only [Act.put, List.setIfInBounds_toArray, List.set_cons_zero, List.set_cons_succ]
    refine wpAnyH_take (i := 7) (oi := _) (v := ?_) rfl (by kernel_rfl) (by kernel_rfl) (by kernel_rfl) (fun _ _ _ h => h) (Or.inl ⟨by rfl, ?_⟩) (by assumption) ?_
    rotate_left
    · (intro w hSw; (try dsimp only at hSw); go_simp; (try with_reducible rfl))
    simp only [Act.put, List.setIfInBounds_toArray, List.set_cons_zero, List.set_cons_succ]
    refine wpAnyH_take (i := 8) (oi := _) (v := ?_) rfl (by kernel_rfl) (by kernel_rfl) (by kernel_rfl) (fun _ _ _ h => h) (Or.inl ⟨by rfl, ?_⟩) (by assumption) ?_
    rotate_left
    · (intro w hSw; (try dsimp only at hSw); go_simp; (try with_reducible rfl))
    simp only [Act.put, List.setIfInBounds_toArray, List.set_cons_zero, List.set_cons_succ]
    refine wpAnyH_take (i := 9) (oi := _) (v := ?_) rfl (by kernel_rfl) (by kernel_rfl) (by kernel_rfl) (fun _ _ _ h => h) (Or.inl ⟨by rfl, ?_⟩) (by assumption) ?_
    rotate_left
    · (intro w hSw; (try dsimp only at hSw); go_simp; (try with_reducible rfl))
    simp only [Act.put, List.setIfInBounds_toArray, List.set_cons_zero, List.set_cons_succ]
    obtain ⟨W5, hW5⟩ : ∃ W5, W5 = w4 := ⟨_, rfl⟩
    rw [← hW5] at HF5 HSS HB5 ⊢
    clear hW5
    have f0 := HF5.out.cell 0
    have e0 := HF5.out.free 0
    have f1 := HF5.out.cell 1
    have e1 := HF5.out.free 1
    have f2 := HF5.out.cell 2
    have e2 := HF5.out.free 2
    have f3 := HF5.out.cell 3
    have e3 := HF5.out.free 3
    have fl := HF5.out.lt
    simp at f0 f1 f2 f3
    refine wpAnyH_ready (rs := [11]) (by kernel_rfl) (by simp) ?_
    refine AllReadyH.cons (o := _) rfl (fun K2 hK => ?_) AllReadyH.nil
    go_simp
    obtain ⟨W6, hW6⟩ : ∃ W6, W6 = (((W5.setCell ⟨w3.heap.size, 0, none⟩ (.slice (some ⟨ub, uo, none⟩) 1 uc)).setCell ⟨w3.heap.size, 1, none⟩ (.bool false)).setCell ⟨w3.heap.size, 2, none⟩ (.int .i64 1)).setCell ⟨w3.heap.size, 3, none⟩ (.int .i64 0) := ⟨_, rfl⟩
    rw [← hW6]
    have HC6 := Lib.hid (show Cel W6 w3.heap.size #[.slice (some ⟨ub, uo, none⟩) 1 uc, .bool false, .int .i64 1, .int .i64 0] 79 by
      rw [hW6]
      have := (((HF5.out.set 0 (.slice (some ⟨ub, uo, none⟩) 1 uc)).set 1 (.bool false)).set 2 (.int .i64 1)).set 3 (.int .i64 0)
      simpa using this)
    have HX6 := Lib.hid (show Below w3.heap.size w3 W6 by
      rw [hW6]
      exact (((HSS.out.setCell HA5.out _).setCell HA5.out _).setCell HA5.out _).setCell HA5.out _)
    have HBF := Lib.hid (show IsBetF w3.heap.size W6 (.agg #[.slice (some ⟨ub, uo, none⟩) 1 uc, .bool false, .int .i64 1, .int .i64 0]) t.x t.y by rw [hW6]; exact HB5.out.2)
    clear hW6 f0 e0 f1 e1 f2 e2 f3 e3 fl HB5 HF5
    refine hK.out _ _ ?_ (fun hHeld => ?_)
    · exact HX6.out
    clear hK K2
    try simp only [Act.put, List.setIfInBounds_toArray, List.set_cons_zero, List.set_cons_succ]
    refine wpAnyH_ready (rs := [12]) (by kernel_rfl) (by simp) ?_
    refine AllReadyH.cons (o := _) rfl (fun K2 hK => ?_) AllReadyH.nil
    go_simp
    refine hK.out _ _ ?_ (fun hHeld => ?_)
    · exact HX6.out
    clear hK K2
    try simp only [Act.put, List.setIfInBounds_toArray, List.set_cons_zero, List.set_cons_succ]
    refine wpAnyH_ready (rs := [13]) (by kernel_rfl) (by simp) ?_
    refine AllReadyH.cons (o := _) rfl (fun K2 hK => ?_) AllReadyH.nil
    go_simp
    refine hK.out _ _ ?_ (fun hHeld => ?_)
    · exact HX6.out
    clear hK K2
    try simp only [Act.put, List.setIfInBounds_toArray, List.set_cons_zero, List.set_cons_succ]
    refine wpAnyH_done (by kernel_rfl) ?_ _
    have hNN : B ≤ w3.heap.size := Nat.le_trans hBw HX.out.size
    obtain ⟨τ1, hO1, hU1, hG1⟩ := (HO.out.below HX6.out).adoptU HBF.out (fun b hb => Nat.lt_of_lt_of_le (HLOW.out b hb).2 HX.out.size) hNN
    replace HX := Lib.hid (HX.out.trans (HX6.out.mono HX.out.size))
    replace HB := Lib.hid (HB.out.below HX6.out HB.out.lt)
    have HSZ := Lib.hid (show w.heap.size < w3.heap.size from Nat.lt_of_lt_of_le HB0.out HA5.out)
    have HO1 := Lib.hid hO1
    have HU1 := Lib.hid hU1
    have HG1 := Lib.hid (show Gr τ τ1 w.heap.size from fun b hb => (hG1 b hb).imp id (fun c => Nat.le_trans HX0.out c))
    have HT0 := Lib.hid (show τ1 w.heap.size = none from Classical.byContradiction fun c => by
      rcases hG1 _ c with d | d
      · have := (HLOW.out _ d).2; omega
      · have := HB0.out; omega)
    have HLV1 := Lib.hid (HLV.out.below (HX.out.mono hBw))
    have r0 : W6.cell? ⟨w.heap.size, 0, none⟩ = some (.string (nu t)) := HB.out.cell 0
    clear hO1 hU1 hG1 hNN HX6 HO HSS HA5 hl2 hlg
    go_wp2_with (first
      | (have hWW := HLV1.out.p.2
         go_at_call 46
         (with_reducible refine (HPN.out _ hWW).mono ?_)
         rintro e w7 ⟨rfl, hb7⟩
         replace HX := Lib.hid (HX.out.trans (hb7.mono HX.out.size))
         replace HB := Lib.hid (HB.out.below hb7 HB.out.lt)
         replace HC6 := Lib.hid (HC6.out.below hb7 HC6.out.lt)
         replace HBF := Lib.hid (HBF.out.below hb7 (Nat.le_refl _))
         replace HO1 := Lib.hid (HO1.out.below hb7)
         replace HU1 := Lib.hid (HU1.out.same hb7.size (fun b _ hb => hb7.block b hb))
         clear hb7 r0)
      | fail)
    have HLg := Lib.hid (show ∀ w', (∃ x : Sub w7.heap.size w7, w' = x.w) → (loadVar 27 ⟨gb, 0, none⟩).run Tryz.prog w' = .ok (.agg (gcs v)) w' from fun w' ⟨x, hx⟩ => by rw [hx]; exact load_game (HO1.out.below x.h).gR)
    have HTV := Lib.hid HO1.out.ti.tier
    have b5 := Sub.cell (HB.out.cell 5) HB.out.lt
    have b0 := Sub.cell (HC6.out.cell 0) HC6.out.lt
    have b1 := Sub.cell (HC6.out.cell 1) HC6.out.lt
    have b2 := Sub.cell (HC6.out.cell 2) HC6.out.lt
    have b3 := Sub.cell (HC6.out.cell 3) HC6.out.lt
    refine wp_region_below (by kernel_rfl) (by kernel_rfl) ?_
    repeat (first
      | (go_big_quiet_want; refine quiet_load_const rfl HLg.out ?_; go_big_quiet_op; go_big_quiet_on)
      | go_big_quiet_step ((go_at_call 47; exact Sub.ofB _ (Nat.le_refl _) (HOF.out _ _ (HTV.out.below (Sub.h _) (Nat.le_refl _)) (HBF.out.bet.below (Sub.h _) (Nat.le_refl _))))))
    refine wpQuiet_nil ?_
    rintro w8 ⟨⟨_, hb8⟩, rfl⟩
    have hb1 : Below w7.heap.size w7 w8 := hb8
    replace HX := Lib.hid (HX.out.trans (hb1.mono HX.out.size))
    replace HB := Lib.hid (HB.out.below hb1 HB.out.lt)
    replace HC6 := Lib.hid (HC6.out.below hb1 HC6.out.lt)
    replace HO1 := Lib.hid (HO1.out.below hb1)
    replace HU1 := Lib.hid (HU1.out.same hb1.size (fun b _ hb => hb1.block b hb))
    clear hb1 hb8 HLg HTV b5 b0 b1 b2 b3 HBF
    have r3 : w8.cell? ⟨w.heap.size, 3, none⟩ = some (.int .i64 (Tp.fst t.at_)) := HB.out.cell 3
    have r4 : w8.cell? ⟨w.heap.size, 4, none⟩ = some (.int .i64 200) := HB.out.cell 4
    have r5 : w8.cell? ⟨w.heap.size, 5, none⟩ = some (.int .i64 t.at_) := HB.out.cell 5
    have HGR := Lib.hid HO1.out.gR
    have hz0 : (t.at_ : Int) ≤ (n : Int) := by omega
    have hz1 : (n : Int) ≤ 160000 := by omega
    go_wp2_with (first
      | (go_at_call 26; (with_reducible refine (isPl_zero _).mono ?_); rintro e w' ⟨rfl, rfl⟩)
      | (refine wpList_load_mid rfl 27 _ rfl gb 0 rfl (gcs v).toList _ HGR.out Tryz.underlying27 rfl (gcs_len v) ?_)
      | fail)
    refine (HCL.out _ HO1.out.ti.tier).mono ?_
    rintro e w9 ⟨rfl, hb9⟩
    replace HX := Lib.hid (HX.out.trans (hb9.mono HX.out.size))
    replace HB := Lib.hid (HB.out.below hb9 HB.out.lt)
    replace HC6 := Lib.hid (HC6.out.below hb9 HC6.out.lt)
    replace HO1 := Lib.hid (HO1.out.below hb9)
    replace HU1 := Lib.hid (HU1.out.same hb9.size (fun b _ hb => hb9.block b hb))
    clear hb9 HGR r3 r4 r5 hz0
    by_cases hcl : n < Tp.clo (Tp.fst t.at_)
    case neg =>
      have hz0 : (Tp.clo (Tp.fst t.at_) : Int) ≤ (n : Int) := by omega
      go_wp2
      refine bodyPost_ret (v := .int .i64 12) (by simp [results, Tryz.results22, go_sem]) rfl ?_
      exact .inl ⟨by simp [hcl], rfl, HX.out⟩
    have hz0 : (n : Int) < (Tp.clo (Tp.fst t.at_) : Int) := by omega
    go_wp2_with fail
    have hS := Below.refl w9.heap.size w9
    have HSS := Lib.hid hS
    have hl5 : ∀ y, Below w9.heap.size w9 y → y.cell? ⟨w.heap.size, 5, none⟩ = some (.int .i64 t.at_) := fun y hy => (HB.out.below hy HB.out.lt).cell 5
    have hl0 : ∀ y, Below w9.heap.size w9 y → y.cell? ⟨gb, 0, none⟩ = some (.string nmB) := fun y hy => (HO1.out.below hy).gR 0 _ rfl
    have hlb := fun y (hy : Below w9.heap.size w9 y) => show y.rangeAt w3.heap.size 0 [.slice (some ⟨ub, uo, none⟩) 1 uc, .bool false, .int .i64 1, .int .i64 0] from fun j u hj => by
      rw [Nat.zero_add]
      refine ((HC6.out.below hy HC6.out.lt).cell j).trans ?_
      rw [← hj]
      exact List.getElem?_toArray
    clear hS
    refine wp_region_held_drew (S := fun w' => Below w9.heap.size w9 w') (by kernel_rfl) HSS.out.drew (fun hHeld => ?_)
    refine wpAnyH_take (i := 0) (oi := _) (v := ?_) rfl (by kernel_rfl) (by kernel_rfl) (by kernel_rfl) (fun _ _ _ h => h) (Or.inl ⟨by rfl, ?_⟩) (by assumption) ?_
    rotate_left
    · (intro w hSw; (try dsimp only at hSw); go_simp; (try with_reducible rfl))
    simp only [Act.put, List.setIfInBounds_toArray, List.set_cons_zero, List.set_cons_succ]
    refine wpAnyH_take (i := 1) (oi := _) (v := ?_) rfl (by kernel_rfl) (by kernel_rfl) (by kernel_rfl) (fun _ _ _ h => h) (Or.inl ⟨by rfl, ?_⟩) (by assumption) ?_
    rotate_left
    · (intro w hSw; (try dsimp only at hSw); go_simp; (try with_reducible rfl))
    simp only [Act.put, List.setIfInBounds_toArray, List.set_cons_zero, List.set_cons_succ]
    refine wpAnyH_take (i := 2) (oi := _) (v := ?_) rfl (by kernel_rfl) (by kernel_rfl) (by kernel_rfl) (fun _ _ _ h => h) (Or.inl ⟨by rfl, ?_⟩) (by assumption) ?_
    rotate_left
    · (intro w hSw; (try dsimp only at hSw); go_simp; (try with_reducible rfl))
    simp only [Act.put, List.setIfInBounds_toArray, List.set_cons_zero, List.set_cons_succ]
    refine wpAnyH_take (i := 3) (oi := _) (v := ?_) rfl (by kernel_rfl) (by kernel_rfl) (by kernel_rfl) (fun _ _ _ h => h) (Or.inl ⟨by rfl, ?_⟩) (by assumption) ?_
    rotate_left
    · (intro w hSw; (try dsimp only at hSw); go_simp; (try with_reducible rfl))
    simp only [Act.put, List.setIfInBounds_toArray, List.set_cons_zero, List.set_cons_succ]
    refine wpAnyH_take (i := 4) (oi := _) (v := _) rfl (by kernel_rfl) (by kernel_rfl) (by kernel_rfl) (fun _ _ _ h => h) (yieldsIf_load_mid (by rfl) 79 _ rfl w3.heap.size 0 rfl [.slice (some ⟨ub, uo, none⟩) 1 uc, .bool false, .int .i64 1, .int .i64 0] _ hlb Tryz.underlying79 rfl (by kernel_rfl)) (by assumption) ?_
    simp only [Act.put, List.setIfInBounds_toArray, List.set_cons_zero, List.set_cons_succ]
    refine wpAnyH_take (i := 5) (oi := _) (v := ?_) rfl (by kernel_rfl) (by kernel_rfl) (by kernel_rfl) (fun _ _ _ h => h) (Or.inl ⟨by rfl, ?_⟩) (by assumption) ?_
    rotate_left
    · (intro w hSw; (try dsimp only at hSw); go_simp; (try with_reducible rfl))
    simp only [Act.put, List.setIfInBounds_toArray, List.set_cons_zero, List.set_cons_succ]
    refine wpAnyH_take (i := 6) (oi := _) (v := ?_) rfl (by kernel_rfl) (by kernel_rfl) (by kernel_rfl) (fun _ _ _ h => h) (Or.inl ⟨by rfl, ?_⟩) (by assumption) ?_
    rotate_left
    · (intro w hSw; (try dsimp only at hSw); go_simp; (try with_reducible rfl))
    simp only [Act.put, List.setIfInBounds_toArray, List.set_cons_zero, List.set_cons_succ]
    refine wpAnyH_take (i := 7) (oi := _) (v := ?_) rfl (by kernel_rfl) (by kernel_rfl) (by kernel_rfl) (fun _ _ _ h => h) (Or.inl ⟨by rfl, ?_⟩) (by assumption) ?_
    rotate_left
    · (intro w hSw; (try dsimp only at hSw); go_simp; (try with_reducible rfl))
    simp only [Act.put, List.setIfInBounds_toArray, List.set_cons_zero, List.set_cons_succ]
    refine wpAnyH_take (i := 8) (oi := _) (v := ?_) rfl (by kernel_rfl) (by kernel_rfl) (by kernel_rfl) (fun _ _ _ h => h) (Or.inl ⟨by rfl, ?_⟩) (by assumption) ?_
    rotate_left
    · (intro w hSw; (try dsimp only at hSw); go_simp; (try with_reducible rfl))
    simp only [Act.put, List.setIfInBounds_toArray, List.set_cons_zero, List.set_cons_succ]
    refine wpAnyH_take (i := 9) (oi := _) (v := ?_) rfl (by kernel_rfl) (by kernel_rfl) (by kernel_rfl) (fun _ _ _ h => h) (Or.inl ⟨by rfl, ?_⟩) (by assumption) ?_
    rotate_left
    · (intro w hSw; (try dsimp only at hSw); go_simp; (try with_reducible rfl))
    simp only [Act.put, List.setIfInBounds_toArray, List.set_cons_zero, List.set_cons_succ]
    refine wpAnyH_ready (rs := [10]) (by kernel_rfl) (by simp) ?_
    refine AllReadyH.cons (o := _) rfl (fun K2 hK => ?_) AllReadyH.nil
    go_simp
    obtain ⟨Wa, hWa⟩ : ∃ Wa, Wa = (w9.alloc (.cells #[.string ⟨#[]⟩, .string ⟨#[]⟩, .slice none 0 0, .bool false, .int .i64 0, .int .i64 0, .string ⟨#[]⟩, .int .i64 0, .int .i64 0, .int .i64 0, .int .i64 0, .int .i64 0, .int .i64 0, .bool false] 81)).drew := ⟨_, rfl⟩
    have HAA := Lib.hid (show Cel Wa w9.heap.size #[.string ⟨#[]⟩, .string ⟨#[]⟩, .slice none 0 0, .bool false, .int .i64 0, .int .i64 0, .string ⟨#[]⟩, .int .i64 0, .int .i64 0, .int .i64 0, .int .i64 0, .int .i64 0, .int .i64 0, .bool false] 81 by rw [hWa]; exact (Cel.new w9 _ _).drew)
    replace HSS := Lib.hid (show Below w9.heap.size w9 Wa by rw [hWa]; exact ((Below.refl _ _).alloc (Nat.le_refl _) _).drew)
    rw [← hWa]
    clear hWa
    refine hK.out _ _ ?_ (fun hHeld => ?_)
    · exact HSS.out
    clear hK K2
    try simp only [Act.put, List.setIfInBounds_toArray, List.set_cons_zero, List.set_cons_succ]
    have f0 := HAA.out.cell 0
    have g0 := HAA.out.free 0
    have f1 := HAA.out.cell 1
    have g1 := HAA.out.free 1
    have f2 := HAA.out.cell 2
    have g2 := HAA.out.free 2
    have f3 := HAA.out.cell 3
    have g3 := HAA.out.free 3
    have f4 := HAA.out.cell 4
    have g4 := HAA.out.free 4
    have f5 := HAA.out.cell 5
    have g5 := HAA.out.free 5
    have f6 := HAA.out.cell 6
    have g6 := HAA.out.free 6
    have f7 := HAA.out.cell 7
    have g7 := HAA.out.free 7
    have f8 := HAA.out.cell 8
    have g8 := HAA.out.free 8
    have f9 := HAA.out.cell 9
    have g9 := HAA.out.free 9
    have f10 := HAA.out.cell 10
    have g10 := HAA.out.free 10
    have f11 := HAA.out.cell 11
    have g11 := HAA.out.free 11
    have f12 := HAA.out.cell 12
    have g12 := HAA.out.free 12
    have f13 := HAA.out.cell 13
    have g13 := HAA.out.free 13
    have fl := HAA.out.lt
    simp at f0 f1 f2 f3 f4 f5 f6 f7 f8 f9 f10 f11 f12 f13
    refine wpAnyH_ready (rs := [11]) (by kernel_rfl) (by simp) ?_
    refine AllReadyH.cons (o := _) rfl (fun K2 hK => ?_) AllReadyH.nil
    go_simp
    obtain ⟨Wb, hWb⟩ : ∃ Wb, Wb = ((((((((((((((Wa.setCell ⟨w9.heap.size, 0, none⟩ (.string ⟨#[]⟩)).setCell ⟨w9.heap.size, 1, none⟩ (.string nmB)).setCell ⟨w9.heap.size, 2, none⟩ (.slice (some ⟨ub, uo, none⟩) 1 uc)).setCell ⟨w9.heap.size, 3, none⟩ (.bool false)).setCell ⟨w9.heap.size, 4, none⟩ (.int .i64 1)).setCell ⟨w9.heap.size, 5, none⟩ (.int .i64 0)).setCell ⟨w9.heap.size, 6, none⟩ (.string ⟨#[]⟩)).setCell ⟨w9.heap.size, 7, none⟩ (.int .i64 (Tp.fst t.at_))).setCell ⟨w9.heap.size, 8, none⟩ (.int .i64 200)).setCell ⟨w9.heap.size, 9, none⟩ (.int .i64 t.at_)).setCell ⟨w9.heap.size, 10, none⟩ (.int .i64 0)).setCell ⟨w9.heap.size, 11, none⟩ (.int .i64 0)).setCell ⟨w9.heap.size, 12, none⟩ (.int .i64 0)).setCell ⟨w9.heap.size, 13, none⟩ (.bool false)) := ⟨_, rfl⟩
    rw [← hWb]
    have HBB := Lib.hid (show Cel Wb w9.heap.size #[.string ⟨#[]⟩, .string nmB, .slice (some ⟨ub, uo, none⟩) 1 uc, .bool false, .int .i64 1, .int .i64 0, .string ⟨#[]⟩, .int .i64 (Tp.fst t.at_), .int .i64 200, .int .i64 t.at_, .int .i64 0, .int .i64 0, .int .i64 0, .bool false] 81 by
      rw [hWb]
      have := ((((((((((((((HAA.out.set 0 (.string ⟨#[]⟩)).set 1 (.string nmB)).set 2 (.slice (some ⟨ub, uo, none⟩) 1 uc)).set 3 (.bool false)).set 4 (.int .i64 1)).set 5 (.int .i64 0)).set 6 (.string ⟨#[]⟩)).set 7 (.int .i64 (Tp.fst t.at_))).set 8 (.int .i64 200)).set 9 (.int .i64 t.at_)).set 10 (.int .i64 0)).set 11 (.int .i64 0)).set 12 (.int .i64 0)).set 13 (.bool false))
      simpa using this)
    replace HSS := Lib.hid (show Below w9.heap.size w9 Wb by
      rw [hWb]
      exact ((((((((((((((HSS.out.setCell (Nat.le_refl _) (.string ⟨#[]⟩)).setCell (Nat.le_refl _) (.string nmB)).setCell (Nat.le_refl _) (.slice (some ⟨ub, uo, none⟩) 1 uc)).setCell (Nat.le_refl _) (.bool false)).setCell (Nat.le_refl _) (.int .i64 1)).setCell (Nat.le_refl _) (.int .i64 0)).setCell (Nat.le_refl _) (.string ⟨#[]⟩)).setCell (Nat.le_refl _) (.int .i64 (Tp.fst t.at_))).setCell (Nat.le_refl _) (.int .i64 200)).setCell (Nat.le_refl _) (.int .i64 t.at_)).setCell (Nat.le_refl _) (.int .i64 0)).setCell (Nat.le_refl _) (.int .i64 0)).setCell (Nat.le_refl _) (.int .i64 0)).setCell (Nat.le_refl _) (.bool false)))
    clear hWb HAA fl f0 g0 f1 g1 f2 g2 f3 g3 f4 g4 f5 g5 f6 g6 f7 g7 f8 g8 f9 g9 f10 g10 f11 g11 f12 g12 f13 g13
    refine hK.out _ _ ?_ (fun hHeld => ?_)
    · exact HSS.out
    clear hK K2
    try simp only [Act.put, List.setIfInBounds_toArray, List.set_cons_zero, List.set_cons_succ]
    refine wpAnyH_done (by kernel_rfl) ?_ _
    replace HX := Lib.hid (HX.out.trans (HSS.out.mono HX.out.size))
    replace HO1 := Lib.hid (HO1.out.below HSS.out)
    replace HU1 := Lib.hid (HU1.out.same HSS.out.size (fun b _ hb => HSS.out.block b hb))
    have HLV2 := Lib.hid (HLV.out.below (HX.out.mono hBw))
    clear hl5 hl0 hlb HB HC6 HSS
    have z0 : Wb.cell? ⟨w9.heap.size, 0, none⟩ = some (.string ⟨#[]⟩) := HBB.out.cell 0
    have z1 : Wb.cell? ⟨w9.heap.size, 1, none⟩ = some (.string nmB) := HBB.out.cell 1
    have z2 : Wb.cell? ⟨w9.heap.size, 2, none⟩ = some (.slice (some ⟨ub, uo, none⟩) 1 uc) := HBB.out.cell 2
    have z3 : Wb.cell? ⟨w9.heap.size, 3, none⟩ = some (.bool false) := HBB.out.cell 3
    have z4 : Wb.cell? ⟨w9.heap.size, 4, none⟩ = some (.int .i64 1) := HBB.out.cell 4
    have z5 : Wb.cell? ⟨w9.heap.size, 5, none⟩ = some (.int .i64 0) := HBB.out.cell 5
    have z6 : Wb.cell? ⟨w9.heap.size, 6, none⟩ = some (.string ⟨#[]⟩) := HBB.out.cell 6
    have z7 : Wb.cell? ⟨w9.heap.size, 7, none⟩ = some (.int .i64 (Tp.fst t.at_)) := HBB.out.cell 7
    have z8 : Wb.cell? ⟨w9.heap.size, 8, none⟩ = some (.int .i64 200) := HBB.out.cell 8
    have z9 : Wb.cell? ⟨w9.heap.size, 9, none⟩ = some (.int .i64 t.at_) := HBB.out.cell 9
    have z10 : Wb.cell? ⟨w9.heap.size, 10, none⟩ = some (.int .i64 0) := HBB.out.cell 10
    have z11 : Wb.cell? ⟨w9.heap.size, 11, none⟩ = some (.int .i64 0) := HBB.out.cell 11
    have z12 : Wb.cell? ⟨w9.heap.size, 12, none⟩ = some (.int .i64 0) := HBB.out.cell 12
    have z13 : Wb.cell? ⟨w9.heap.size, 13, none⟩ = some (.bool false) := HBB.out.cell 13
    have zl := HBB.out.lt
    go_wp2_with (first
      | (go_at_call 28
         have htk := HTK.out
         refine (add_any HO1.out HLV2.out (.slice (some ⟨ub, uo, none⟩) 1 uc) t htk.m1 htk.m2 htk.s1 htk.s2 HUU.out hm hcc hll HU1.out).mono ?_
         rw [show (tkC (t, .slice (some ⟨ub, uo, none⟩) 1 uc)).toArray = #[.string (nu t), .string nmB, .slice (some ⟨ub, uo, none⟩) 1 uc, .bool false, .int .i64 1, .int .i64 0, .string ⟨#[]⟩, .int .i64 (Tp.fst t.at_), .int .i64 200, .int .i64 t.at_, .int .i64 t.tm, .int .i64 t.sq, .int .i64 0, .bool false] from rfl]
         rintro e wE ⟨τ', cs', tv', D', rfl, h7, hf7, hg7⟩)
      | fail)
    refine bodyPost_ret (v := .int .i64 0) (by simp [results, Tryz.results22, go_sem]) rfl ?_
    exact .inr ⟨by simp [hcl], rfl, τ', .slice (some ⟨ub, uo, none⟩) 1 uc, cs', tv', D', h7, (Fr.of_below HX.out).trans HG1.out hf7, HG1.out.trans hg7 HX.out.size⟩
end
end Go.Proofs.YtnnocbelgfhecaaGreatDoor
