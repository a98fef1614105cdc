/- The register: full, serial, append. -/
import Derived.Test.YtnnocbelgfhecaaGreatDoorTwd
import Derived.Deep.RegionHeld3
set_option linter.unusedSimpArgs false
namespace Go.Proofs.YtnnocbelgfhecaaGreatDoor
open Go.ChangeShapes Go.WideShapes Go.ChangeAt Go.RowKit Go.Lott
theorem own_slice {w : World} {base : Nat} {e : TypeId} {size n : Nat} {v : Value} {xs : List Value} (h : w.ownsRow base e size v n xs) : ∃ a k, v = .slice a n k := by
  rcases h.2 with ⟨hv, hn⟩ | ⟨g, cap, cur, hv, _⟩
  · exact ⟨none, 0, by rw [hv, hn]⟩
  · exact ⟨_, _, hv⟩
theorem keyS : Go.Maps.Keyed Tryz.prog 9 := Go.Maps.string_keyed Tryz.underlying9
theorem infoT : (Tryz.prog.info? 81).map (fun i => (i.zero, i.size, i.bytes)) = some (some (.agg #[.string ⟨#[]⟩, .string ⟨#[]⟩, .slice none 0 0, .bool false, .int .i64 0, .int .i64 0, .string ⟨#[]⟩, .int .i64 0, .int .i64 0, .int .i64 0, .int .i64 0, .int .i64 0, .int .i64 0, .bool false]), 14, 152) := by kernel_rfl
section
variable {w : World} {B p m c gb gc pm : Nat} {τ : Rl} {key : Int} {v tv : Value} {ls : List (Tp.Tk × Value)} {U : Nat → Int → Prop} {cs : Array Value} {gs gm : Nat → Nat} {D : DataW Unit}
theorem full_any (h : RObj w B τ p key v ls m c U cs gb gc pm tv gs gm D) (hl : ls.length ≤ 1000) : Calls Tryz.prog 54 #[.pointer (some ⟨p, 0, none⟩)] w (RetS (.bool false) w) := by
  obtain ⟨a, k, htv⟩ := own_slice h.tk
  have c1 : w.cell? ⟨p, 1, none⟩ = some (.slice a ls.length k) := by rw [h.cp.cell, h.c1, htv]
  have pl := h.cp.lt
  clear h htv
  go_enter Tryz.func54, Tryz.ntmps54
  go_wp2
  go_ret
  exact ⟨ret_bool (by simp; omega), rfl⟩
set_option maxHeartbeats 1000000 in
set_option maxRecDepth 100000 in
theorem serial_any (tc : Array Value) (w : World) : Calls Tryz.prog 56 #[.pointer (some ⟨p, 0, none⟩), .agg (gcs v), .agg tc] w (RetB (.tuple #[.string ⟨#[]⟩, .int .i64 0]) w) := by
  have HG := Lib.hid ((Cel.new w (gcs v) 27).alloc (.cells tc 81))
  have HX := Lib.hid (((Below.refl w.heap.size w).alloc (Nat.le_refl _) (.cells (gcs v) 27)).alloc (by simp) (.cells tc 81))
  have g20 : ((w.alloc (.cells (gcs v) 27)).alloc (.cells tc 81)).cell? ⟨w.heap.size, 20, none⟩ = some (.slice none 0 0) := HG.out.cell 20
  have gl := HG.out.lt
  go_enter Tryz.func56, Tryz.ntmps56
  go_wp2
  refine wp_loop_rounds 1 ?_
  rw [rounds_succ]
  go_wp2
  go_ret2
  exact ⟨rfl, HX.out⟩
theorem store_s {D : DataW Unit} {s : ByteArray} {n : Nat} (h : w.ownsMap Tryz.prog 9 intR pm m D) (hm : m ≤ 1000000) (hs : s.size ≤ 1000) :
    ∃ w' D', (Instr.mapUpdate 58 (.map (some pm)) (.string s) (.int .i64 n)).run Tryz.prog w = .ok () w' ∧ w'.ownsMap Tryz.prog 9 intR pm (m + 1) D' ∧ w.grownBy w' (some pm) := by
  have hk : keyOf Tryz.prog 9 (.string s) = some (.string s.data.toList) := by
    have : s.size ≤ maxLen := by unfold maxLen; omega
    simp [keyOf, Tryz.underlying9, mapKey, this]
  obtain ⟨w', h1, h2, h3⟩ := h.store keyS Tryz.underlying58 (by unfold maxLen; omega) hk (val := .int .i64 n) (d := .lit (.int .i64 n)) (ps := []) rfl
  exact ⟨w', _, h1, h2, h3.grown⟩
set_option maxHeartbeats 4000000 in
set_option maxRecDepth 100000 in
theorem append_any (h : RObj w B τ p key v ls m c U cs gb gc pm tv gs gm D) (q : Tp.Tk × Value) (hq : UOk τ w q.2 q.1.x q.1.y) (hm : m ≤ 1000000) (hl : ls.length ≤ 1000) (hn : (nu q.1).size ≤ 1000) :
    Calls Tryz.prog 57 #[.pointer (some ⟨p, 0, none⟩), .agg (tkC q).toArray] w fun e w' => ∃ τ' cs' tv' D', e = .returned (.tuple #[]) ∧ RObj w' B τ' p key v (ls ++ [q]) (m + 1) c U cs' gb gc pm tv' gs gm D' ∧ Fr τ w w' ∧ Gr τ τ' w.heap.size := by
  obtain ⟨t, u⟩ := q
  obtain ⟨ub, uo, uc, _, _, _, hu, _⟩ := id hq
  obtain rfl : u = .slice (some ⟨ub, uo, none⟩) 1 uc := hu
  obtain ⟨a, k, htv⟩ := own_slice h.tk
  have hal := (Below.refl w.heap.size w).alloc (Nat.le_refl _) (.cells (tkC (t, .slice (some ⟨ub, uo, none⟩) 1 uc)).toArray 81)
  have h1 := h.below hal
  obtain ⟨W2, D2, hmu, hm2, hg2⟩ := store_s (s := nu t) (n := ls.length) (w := (w.alloc (.cells (tkC (t, .slice (some ⟨ub, uo, none⟩) 1 uc)).toArray 81)).drew) (h1.below ((Below.refl _ _).drew)).mp hm hn
  have c1 : (w.alloc (.cells (tkC (t, .slice (some ⟨ub, uo, none⟩) 1 uc)).toArray 81)).cell? ⟨p, 1, none⟩ = some (.slice a ls.length k) := by rw [h1.cp.cell, h1.c1, htv]
  have c2 : (w.alloc (.cells (tkC (t, .slice (some ⟨ub, uo, none⟩) 1 uc)).toArray 81)).cell? ⟨p, 2, none⟩ = some (.map (some pm)) := by rw [h1.cp.cell, h1.c2]
  have n0 : (w.alloc (.cells (tkC (t, .slice (some ⟨ub, uo, none⟩) 1 uc)).toArray 81)).cell? ⟨w.heap.size, 0, none⟩ = some (.string (nu t)) := (Cel.new w (tkC (t, .slice (some ⟨ub, uo, none⟩) 1 uc)).toArray 81).cell 0
  have pl := h1.cp.lt
  have HM := Lib.hid hm2
  have HGR := Lib.hid hg2
  have H1 := Lib.hid h1
  have HQ := Lib.hid hq
  have HPP := Lib.hid h.cp.lt
  have HLOW := Lib.hid (show ∀ b, τ b ≠ none → b < w.heap.size from fun b hb => (h.low b hb).2)
  have HPM := Lib.hid (h.low pm (by rw [h.tm]; simp)).2
  have HB := Lib.hid ((Cel.new w (tkC (t, .slice (some ⟨ub, uo, none⟩) 1 uc)).toArray 81))
  clear h hal h1 hm2 hg2 hq
  go_enter Tryz.func57, Tryz.ntmps57
  go_wp2
  refine wp_region_tail 11 (by kernel_rfl) (by kernel_rfl) ?_
  simp only [List.take_succ_cons, List.take_zero, List.drop_succ_cons, List.drop_zero]
  repeat (go_big_quiet_step (fail))
  refine wpQuiet_nil ?_
  go_wp2
  have h2 := (H1.out.below ((Below.refl _ _).drew)).mapped HGR.out HM.out
  have hpw : pm < w.heap.size := HPM.out
  have hpp : p < w.heap.size := HPP.out
  have hb2 : Cel W2 w.heap.size _ 81 := (HGR.out.block w.heap.size HB.out.lt (fun e => by cases e; omega)).trans HB.out
  obtain ⟨i0, hi0, hz0, hz1, hz2⟩ := info_parts infoT
  have z0 : W2.cell? ⟨w.heap.size, 0, none⟩ = some (.string (nu t)) := hb2.cell 0
  have z1 : W2.cell? ⟨w.heap.size, 1, none⟩ = some (.string nmB) := hb2.cell 1
  have z2 : W2.cell? ⟨w.heap.size, 2, none⟩ = some (.slice (some ⟨ub, uo, none⟩) 1 uc) := hb2.cell 2
  have z3 : W2.cell? ⟨w.heap.size, 3, none⟩ = some (.bool false) := hb2.cell 3
  have z4 : W2.cell? ⟨w.heap.size, 4, none⟩ = some (.int .i64 1) := hb2.cell 4
  have z5 : W2.cell? ⟨w.heap.size, 5, none⟩ = some (.int .i64 0) := hb2.cell 5
  have z6 : W2.cell? ⟨w.heap.size, 6, none⟩ = some (.string ⟨#[]⟩) := hb2.cell 6
  have z7 : W2.cell? ⟨w.heap.size, 7, none⟩ = some (.int .i64 (Tp.fst t.at_)) := hb2.cell 7
  have z8 : W2.cell? ⟨w.heap.size, 8, none⟩ = some (.int .i64 200) := hb2.cell 8
  have z9 : W2.cell? ⟨w.heap.size, 9, none⟩ = some (.int .i64 t.at_) := hb2.cell 9
  have z10 : W2.cell? ⟨w.heap.size, 10, none⟩ = some (.int .i64 t.tm) := hb2.cell 10
  have z11 : W2.cell? ⟨w.heap.size, 11, none⟩ = some (.int .i64 t.sq) := hb2.cell 11
  have z12 : W2.cell? ⟨w.heap.size, 12, none⟩ = some (.int .i64 0) := hb2.cell 12
  have z13 : W2.cell? ⟨w.heap.size, 13, none⟩ = some (.bool false) := hb2.cell 13
  have hbx := hb2.lt
  have HNP := Lib.hid (show w.heap.size ≠ p by omega)
  have c3 : W2.cell? ⟨p, 1, none⟩ = some (.slice a ls.length k) := by rw [h2.cp.cell, h2.c1, htv]
  have pl2 : p < W2.heap.size := h2.cp.lt
  have hpo : some p ≠ (Value.slice a ls.length k).ownBlock := fun e => by
    have := h2.tt p (by rw [htv]; exact e.symm)
    rw [h2.tp] at this; cases this
  have hwo : some w.heap.size ≠ (Value.slice a ls.length k).ownBlock := fun e => by
    have := h2.tt w.heap.size (by rw [htv]; exact e.symm)
    have := HLOW.out w.heap.size (by rw [this]; simp)
    omega
  have hp1 : p < (W2.alloc (.cells #[.string (nu t), .string nmB, .slice (some ⟨ub, uo, none⟩) 1 uc, .bool false, .int .i64 1, .int .i64 0, .string ⟨#[]⟩, .int .i64 (Tp.fst t.at_), .int .i64 200, .int .i64 t.at_, .int .i64 t.tm, .int .i64 t.sq, .int .i64 0, .bool false] 81)).heap.size := by simp; omega
  have hw1 : w.heap.size < (W2.alloc (.cells #[.string (nu t), .string nmB, .slice (some ⟨ub, uo, none⟩) 1 uc, .bool false, .int .i64 1, .int .i64 0, .string ⟨#[]⟩, .int .i64 (Tp.fst t.at_), .int .i64 200, .int .i64 t.at_, .int .i64 t.tm, .int .i64 t.sq, .int .i64 0, .bool false] 81)).heap.size := by simp; omega
  have HPC := Lib.hid (show ∀ V, (W2.alloc (.cells #[.string (nu t), .string nmB, .slice (some ⟨ub, uo, none⟩) 1 uc, .bool false, .int .i64 1, .int .i64 0, .string ⟨#[]⟩, .int .i64 (Tp.fst t.at_), .int .i64 200, .int .i64 t.at_, .int .i64 t.tm, .int .i64 t.sq, .int .i64 0, .bool false] 81)).drew.grownBy V (Value.slice a ls.length k).ownBlock → V.cell? ⟨p, 1, none⟩ = some (.slice a ls.length k) from fun V hg => (hg.cell_far ⟨p, 1, none⟩ hp1 hpo).trans ((cell_al _ pl2).trans c3))
  have HPF := Lib.hid (show ∀ V, (W2.alloc (.cells #[.string (nu t), .string nmB, .slice (some ⟨ub, uo, none⟩) 1 uc, .bool false, .int .i64 1, .int .i64 0, .string ⟨#[]⟩, .int .i64 (Tp.fst t.at_), .int .i64 200, .int .i64 t.at_, .int .i64 t.tm, .int .i64 t.sq, .int .i64 0, .bool false] 81)).drew.grownBy V (Value.slice a ls.length k).ownBlock → V.frozen? ⟨p, 1, none⟩ = false from fun V hg => (hg.frozen_far ⟨p, 1, none⟩ hp1 hpo).trans ((h2.cp.alloc _).free 1))
  have HPL := Lib.hid (show ∀ V, (W2.alloc (.cells #[.string (nu t), .string nmB, .slice (some ⟨ub, uo, none⟩) 1 uc, .bool false, .int .i64 1, .int .i64 0, .string ⟨#[]⟩, .int .i64 (Tp.fst t.at_), .int .i64 200, .int .i64 t.at_, .int .i64 t.tm, .int .i64 t.sq, .int .i64 0, .bool false] 81)).drew.grownBy V (Value.slice a ls.length k).ownBlock → p < V.heap.size from fun V hg => Nat.lt_of_lt_of_le hp1 hg.size)
  have HBC := Lib.hid (show ∀ j v, W2.cell? ⟨w.heap.size, j, none⟩ = some v → ∀ V, (W2.alloc (.cells #[.string (nu t), .string nmB, .slice (some ⟨ub, uo, none⟩) 1 uc, .bool false, .int .i64 1, .int .i64 0, .string ⟨#[]⟩, .int .i64 (Tp.fst t.at_), .int .i64 200, .int .i64 t.at_, .int .i64 t.tm, .int .i64 t.sq, .int .i64 0, .bool false] 81)).drew.grownBy V (Value.slice a ls.length k).ownBlock → V.cell? ⟨w.heap.size, j, none⟩ = some v from fun j v hv V hg => (hg.cell_far ⟨w.heap.size, j, none⟩ hw1 hwo).trans ((cell_al _ hbx).trans hv))
  have HRW := Lib.hid (show W2.ownsRow B 81 14 (.slice a ls.length k) ls.length (tkCs ls) by rw [← htv]; exact h2.tk)
  have hBW : B ≤ W2.heap.size := Nat.le_trans (h2.low p (by rw [h2.tp]; simp)).1 (Nat.le_of_lt pl2)
  have H2 := Lib.hid h2
  clear h2 hb2 hpw hpp hpo hwo hp1 hw1
  refine wp_region_held_drew (S := fun w' => w'.cell? ⟨w.heap.size, 0, none⟩ = some (.string (nu t)) ∧ w'.cell? ⟨w.heap.size, 1, none⟩ = some (.string nmB) ∧ w'.cell? ⟨w.heap.size, 2, none⟩ = some (.slice (some ⟨ub, uo, none⟩) 1 uc) ∧ w'.cell? ⟨w.heap.size, 3, none⟩ = some (.bool false) ∧ w'.cell? ⟨w.heap.size, 4, none⟩ = some (.int .i64 1) ∧ w'.cell? ⟨w.heap.size, 5, none⟩ = some (.int .i64 0) ∧ w'.cell? ⟨w.heap.size, 6, none⟩ = some (.string ⟨#[]⟩) ∧ w'.cell? ⟨w.heap.size, 7, none⟩ = some (.int .i64 (Tp.fst t.at_)) ∧ w'.cell? ⟨w.heap.size, 8, none⟩ = some (.int .i64 200) ∧ w'.cell? ⟨w.heap.size, 9, none⟩ = some (.int .i64 t.at_) ∧ w'.cell? ⟨w.heap.size, 10, none⟩ = some (.int .i64 t.tm) ∧ w'.cell? ⟨w.heap.size, 11, none⟩ = some (.int .i64 t.sq) ∧ w'.cell? ⟨w.heap.size, 12, none⟩ = some (.int .i64 0) ∧ w'.cell? ⟨w.heap.size, 13, none⟩ = some (.bool false)) (by kernel_rfl) ?_ (fun hHeld => ?_)
  · go_keep
  refine wpAnyH_take (i := 0) (oi := _) (v := ?_) rfl (by kernel_rfl) (by kernel_rfl) (by kernel_rfl) (fun _ _ _ h => h) (Or.inl ⟨by rfl, ?_⟩) (by assumption) ?_
  rotate_left
  · (intro w hSw; (try dsimp only at hSw); go_simp; (try with_reducible rfl))
  simp only [Act.put, List.setIfInBounds_toArray, List.set_cons_zero, List.set_cons_succ]
  refine wpAnyH_take (i := 1) (oi := _) (v := ?_) rfl (by kernel_rfl) (by kernel_rfl) (by kernel_rfl) (fun _ _ _ h => h) (Or.inl ⟨by rfl, ?_⟩) (by assumption) ?_
  rotate_left
  · (intro w hSw; (try dsimp only at hSw); go_simp; (try with_reducible rfl))
  simp only [Act.put, List.setIfInBounds_toArray, List.set_cons_zero, List.set_cons_succ]
  refine wpAnyH_take (i := 2) (oi := _) (v := ?_) rfl (by kernel_rfl) (by kernel_rfl) (by kernel_rfl) (fun _ _ _ h => h) (Or.inl ⟨by rfl, ?_⟩) (by assumption) ?_
  rotate_left
  · (intro w hSw; (try dsimp only at hSw); go_simp; (try with_reducible rfl))
  simp only [Act.put, List.setIfInBounds_toArray, List.set_cons_zero, List.set_cons_succ]
  refine wpAnyH_take (i := 3) (oi := _) (v := ?_) rfl (by kernel_rfl) (by kernel_rfl) (by kernel_rfl) (fun _ _ _ h => h) (Or.inl ⟨by rfl, ?_⟩) (by assumption) ?_
  rotate_left
  · (intro w hSw; (try dsimp only at hSw); go_simp; (try with_reducible rfl))
  simp only [Act.put, List.setIfInBounds_toArray, List.set_cons_zero, List.set_cons_succ]
  refine wpAnyH_take (i := 5) (oi := _) (v := ?_) rfl (by kernel_rfl) (by kernel_rfl) (by kernel_rfl) (fun _ _ _ h => h) (Or.inl ⟨by rfl, ?_⟩) (by assumption) ?_
  rotate_left
  · (intro w hSw; (try dsimp only at hSw); go_simp; (try with_reducible rfl))
  simp only [Act.put, List.setIfInBounds_toArray, List.set_cons_zero, List.set_cons_succ]
  refine wpAnyH_ready (rs := [4, 6]) (by kernel_rfl) (by simp) ?_
  refine AllReadyH.cons (o := _) rfl (fun K2 hK => ?_) (AllReadyH.cons (o := _) rfl (fun K2 hK => ?_) AllReadyH.nil)
  · go_simp
    refine hK.out _ _ ?_ (fun hHeld => ?_)
    · go_keep
    clear hK K2
    try simp only [Act.put, List.setIfInBounds_toArray, List.set_cons_zero, List.set_cons_succ]
    refine wpAnyH_ready (rs := [6]) (by kernel_rfl) (by simp) ?_
    refine AllReadyH.cons (o := _) rfl (fun K2 hK => ?_) AllReadyH.nil
    go_simp
    refine hK.out _ _ ?_ (fun hHeld => ?_)
    · go_keep
    clear hK K2
    try simp only [Act.put, List.setIfInBounds_toArray, List.set_cons_zero, List.set_cons_succ]
    refine wpAnyH_ready (rs := [7]) (by kernel_rfl) (by simp) ?_
    refine AllReadyH.cons (o := _) rfl (fun K2 hK => ?_) AllReadyH.nil
    ((refine step_append_lies _ (by rfl) _ _ _ (by rfl) B 81 i0 _ 14 152 Tryz.underlying57 hi0 hz0 hz1 hz2 rfl (by omega) _ ls.length (tkCs ls) (by rfl) ((HRW.out.alloc _).drew) ⟨W2.heap.size, 0, none⟩ 1 1 [.string (nu t), .string nmB, .slice (some ⟨ub, uo, none⟩) 1 uc, .bool false, .int .i64 1, .int .i64 0, .string ⟨#[]⟩, .int .i64 (Tp.fst t.at_), .int .i64 200, .int .i64 t.at_, .int .i64 t.tm, .int .i64 t.sq, .int .i64 0, .bool false] (by rfl) (by rfl) (World.news_of_block (cs := #[.string (nu t), .string nmB, .slice (some ⟨ub, uo, none⟩) 1 uc, .bool false, .int .i64 1, .int .i64 0, .string ⟨#[]⟩, .int .i64 (Tp.fst t.at_), .int .i64 200, .int .i64 t.at_, .int .i64 t.tm, .int .i64 t.sq, .int .i64 0, .bool false]) (t := 81) (fr := (0, 0)) (heap_alloc_new W2 _)) (by simp [Value.oneCell']) (by omega) (by unfold maxLen; omega) (by omega) (by simp; omega) (W2.heap.size + 1) (by simp) ?_; intro gg cap w4 hown1 hgrow hat hlt; have HG1 := Lib.hid hgrow; have HO1 := Lib.hid hown1; have HA1 := Lib.hid hat; have HL1 := Lib.hid hlt; clear hown1 hgrow hat hlt))
    refine hK.out _ _ ?_ (fun hHeld => ?_)
    · exact ⟨HBC.out 0 _ z0 _ HG1.out, HBC.out 1 _ z1 _ HG1.out, HBC.out 2 _ z2 _ HG1.out, HBC.out 3 _ z3 _ HG1.out, HBC.out 4 _ z4 _ HG1.out, HBC.out 5 _ z5 _ HG1.out, HBC.out 6 _ z6 _ HG1.out, HBC.out 7 _ z7 _ HG1.out, HBC.out 8 _ z8 _ HG1.out, HBC.out 9 _ z9 _ HG1.out, HBC.out 10 _ z10 _ HG1.out, HBC.out 11 _ z11 _ HG1.out, HBC.out 12 _ z12 _ HG1.out, HBC.out 13 _ z13 _ HG1.out⟩
    clear hK K2
    try simp only [Act.put, List.setIfInBounds_toArray, List.set_cons_zero, List.set_cons_succ]
    have y0 := HBC.out 0 _ z0 _ HG1.out
    have y1 := HBC.out 1 _ z1 _ HG1.out
    have y2 := HBC.out 2 _ z2 _ HG1.out
    have y3 := HBC.out 3 _ z3 _ HG1.out
    have y4 := HBC.out 4 _ z4 _ HG1.out
    have y5 := HBC.out 5 _ z5 _ HG1.out
    have y6 := HBC.out 6 _ z6 _ HG1.out
    have y7 := HBC.out 7 _ z7 _ HG1.out
    have y8 := HBC.out 8 _ z8 _ HG1.out
    have y9 := HBC.out 9 _ z9 _ HG1.out
    have y10 := HBC.out 10 _ z10 _ HG1.out
    have y11 := HBC.out 11 _ z11 _ HG1.out
    have y12 := HBC.out 12 _ z12 _ HG1.out
    have y13 := HBC.out 13 _ z13 _ HG1.out
    refine wpAnyH_take (i := 8) (oi := _) (v := ?_) rfl (by kernel_rfl) (by kernel_rfl) (by kernel_rfl) (fun _ _ _ h => h) (Or.inl ⟨by rfl, ?_⟩) (by assumption) ?_
    rotate_left
    · (intro w hSw; (try dsimp only at hSw); go_simp; (try with_reducible rfl))
    simp only [Act.put, List.setIfInBounds_toArray, List.set_cons_zero, List.set_cons_succ]
    refine wpAnyH_take (i := 9) (oi := _) (v := ?_) rfl (by kernel_rfl) (by kernel_rfl) (by kernel_rfl) (fun _ _ _ h => h) (Or.inl ⟨by rfl, ?_⟩) (by assumption) ?_
    rotate_left
    · (intro w hSw; (try dsimp only at hSw); go_simp; (try with_reducible rfl))
    simp only [Act.put, List.setIfInBounds_toArray, List.set_cons_zero, List.set_cons_succ]
    have p1 := HPC.out _ HG1.out
    have p2 := HPF.out _ HG1.out
    have p3 := HPL.out _ HG1.out
    refine wpAnyH_ready (rs := [10]) (by kernel_rfl) (by simp) ?_
    refine AllReadyH.cons (o := _) rfl (fun K2 hK => ?_) AllReadyH.nil
    go_simp
    refine hK.out _ _ ?_ (fun hHeld => ?_)
    · exact ⟨(cell_st HNP.out _).trans y0, (cell_st HNP.out _).trans y1, (cell_st HNP.out _).trans y2, (cell_st HNP.out _).trans y3, (cell_st HNP.out _).trans y4, (cell_st HNP.out _).trans y5, (cell_st HNP.out _).trans y6, (cell_st HNP.out _).trans y7, (cell_st HNP.out _).trans y8, (cell_st HNP.out _).trans y9, (cell_st HNP.out _).trans y10, (cell_st HNP.out _).trans y11, (cell_st HNP.out _).trans y12, (cell_st HNP.out _).trans y13⟩
    clear hK K2
    try simp only [Act.put, List.setIfInBounds_toArray, List.set_cons_zero, List.set_cons_succ]
    refine wpAnyH_done (by kernel_rfl) ?_ _
    go_wp2
    refine bodyPost_end (v := .tuple #[]) (by simp [results, Tryz.results57, go_sem]) rfl ?_
    have hal2 : Below W2.heap.size W2 (W2.alloc (.cells #[.string (nu t), .string nmB, .slice (some ⟨ub, uo, none⟩) 1 uc, .bool false, .int .i64 1, .int .i64 0, .string ⟨#[]⟩, .int .i64 (Tp.fst t.at_), .int .i64 200, .int .i64 t.at_, .int .i64 t.tm, .int .i64 t.sq, .int .i64 0, .bool false] 81)).drew := ((Below.refl W2.heap.size W2).alloc (Nat.le_refl _) _).drew
    have h3 := H2.out.below hal2
    have hs2 : w.heap.size ≤ W2.heap.size := by omega
    have hq3 : UOk τ (W2.alloc (.cells #[.string (nu t), .string nmB, .slice (some ⟨ub, uo, none⟩) 1 uc, .bool false, .int .i64 1, .int .i64 0, .string ⟨#[]⟩, .int .i64 (Tp.fst t.at_), .int .i64 200, .int .i64 t.at_, .int .i64 t.tm, .int .i64 t.sq, .int .i64 0, .bool false] 81)).drew (.slice (some ⟨ub, uo, none⟩) 1 uc) t.x t.y := by
      refine HQ.out.same (by simp; omega) (fun b hb hlt => ?_)
      have hne : b ≠ pm := fun e => by rw [e, H2.out.tm] at hb; cases hb
      rw [hal2.block b (by omega), HGR.out.block b (by show b < (w.alloc _).heap.size; simp; omega) (fun e => hne (by cases e; rfl))]
      exact Below.heap_alloc _ _ _ hlt
    have ho := HO1.out
    rw [htv] at h3
    have hat : (Value.slice a ls.length k).ownBlock = some gg ∨ (W2.alloc (.cells #[.string (nu t), .string nmB, .slice (some ⟨ub, uo, none⟩) 1 uc, .bool false, .int .i64 1, .int .i64 0, .string ⟨#[]⟩, .int .i64 (Tp.fst t.at_), .int .i64 200, .int .i64 t.at_, .int .i64 t.tm, .int .i64 t.sq, .int .i64 0, .bool false] 81)).drew.heap.size ≤ gg := by
      rcases HA1.out with hc | hc
      · exact .inl hc
      · right; rw [hc]; simp
    have h5 := h3.push (q := (t, .slice (some ⟨ub, uo, none⟩) 1 uc)) (g := gg) (cap := cap) hq3 HG1.out hat HL1.out (by rw [List.length_append, tkCs_snoc]; exact ho)
    have e1 : (ls ++ [(t, Value.slice (some ⟨ub, uo, none⟩) 1 uc)]).length = ls.length + 1 := by simp
    rw [e1] at h5
    have f1 : Fr τ w W2 := (Fr.drewN ((Fr.refl τ w).alloc _) 1).grown HGR.out (fun j hj => .inl (by cases hj; rw [H2.out.tm]; simp))
    have f2 : Fr τ w w4 := (f1.then hal2).grown HG1.out (fun j hj => .inl (by have := H2.out.tt j (by rw [htv]; exact hj); rw [this]; simp))
    refine ⟨_, _, _, _, rfl, h5, f2.setCell (.inl (by rw [H2.out.tp]; simp)) _, Gr.tg ?_⟩
    rcases HA1.out with hc | hc
    · left
      have := H2.out.tt gg (by rw [htv]; exact hc)
      rw [this]; simp
    · right; omega
  · go_simp
    refine hK.out _ _ ?_ (fun hHeld => ?_)
    · go_keep
    clear hK K2
    try simp only [Act.put, List.setIfInBounds_toArray, List.set_cons_zero, List.set_cons_succ]
    refine wpAnyH_ready (rs := [4]) (by kernel_rfl) (by simp) ?_
    refine AllReadyH.cons (o := _) rfl (fun K2 hK => ?_) AllReadyH.nil
    go_simp
    refine hK.out _ _ ?_ (fun hHeld => ?_)
    · go_keep
    clear hK K2
    try simp only [Act.put, List.setIfInBounds_toArray, List.set_cons_zero, List.set_cons_succ]
    refine wpAnyH_ready (rs := [7]) (by kernel_rfl) (by simp) ?_
    refine AllReadyH.cons (o := _) rfl (fun K2 hK => ?_) AllReadyH.nil
    ((refine step_append_lies _ (by rfl) _ _ _ (by rfl) B 81 i0 _ 14 152 Tryz.underlying57 hi0 hz0 hz1 hz2 rfl (by omega) _ ls.length (tkCs ls) (by rfl) ((HRW.out.alloc _).drew) ⟨W2.heap.size, 0, none⟩ 1 1 [.string (nu t), .string nmB, .slice (some ⟨ub, uo, none⟩) 1 uc, .bool false, .int .i64 1, .int .i64 0, .string ⟨#[]⟩, .int .i64 (Tp.fst t.at_), .int .i64 200, .int .i64 t.at_, .int .i64 t.tm, .int .i64 t.sq, .int .i64 0, .bool false] (by rfl) (by rfl) (World.news_of_block (cs := #[.string (nu t), .string nmB, .slice (some ⟨ub, uo, none⟩) 1 uc, .bool false, .int .i64 1, .int .i64 0, .string ⟨#[]⟩, .int .i64 (Tp.fst t.at_), .int .i64 200, .int .i64 t.at_, .int .i64 t.tm, .int .i64 t.sq, .int .i64 0, .bool false]) (t := 81) (fr := (0, 0)) (heap_alloc_new W2 _)) (by simp [Value.oneCell']) (by omega) (by unfold maxLen; omega) (by omega) (by simp; omega) (W2.heap.size + 1) (by simp) ?_; intro gg cap w4 hown1 hgrow hat hlt; have HG1 := Lib.hid hgrow; have HO1 := Lib.hid hown1; have HA1 := Lib.hid hat; have HL1 := Lib.hid hlt; clear hown1 hgrow hat hlt))
    refine hK.out _ _ ?_ (fun hHeld => ?_)
    · exact ⟨HBC.out 0 _ z0 _ HG1.out, HBC.out 1 _ z1 _ HG1.out, HBC.out 2 _ z2 _ HG1.out, HBC.out 3 _ z3 _ HG1.out, HBC.out 4 _ z4 _ HG1.out, HBC.out 5 _ z5 _ HG1.out, HBC.out 6 _ z6 _ HG1.out, HBC.out 7 _ z7 _ HG1.out, HBC.out 8 _ z8 _ HG1.out, HBC.out 9 _ z9 _ HG1.out, HBC.out 10 _ z10 _ HG1.out, HBC.out 11 _ z11 _ HG1.out, HBC.out 12 _ z12 _ HG1.out, HBC.out 13 _ z13 _ HG1.out⟩
    clear hK K2
    try simp only [Act.put, List.setIfInBounds_toArray, List.set_cons_zero, List.set_cons_succ]
    have y0 := HBC.out 0 _ z0 _ HG1.out
    have y1 := HBC.out 1 _ z1 _ HG1.out
    have y2 := HBC.out 2 _ z2 _ HG1.out
    have y3 := HBC.out 3 _ z3 _ HG1.out
    have y4 := HBC.out 4 _ z4 _ HG1.out
    have y5 := HBC.out 5 _ z5 _ HG1.out
    have y6 := HBC.out 6 _ z6 _ HG1.out
    have y7 := HBC.out 7 _ z7 _ HG1.out
    have y8 := HBC.out 8 _ z8 _ HG1.out
    have y9 := HBC.out 9 _ z9 _ HG1.out
    have y10 := HBC.out 10 _ z10 _ HG1.out
    have y11 := HBC.out 11 _ z11 _ HG1.out
    have y12 := HBC.out 12 _ z12 _ HG1.out
    have y13 := HBC.out 13 _ z13 _ HG1.out
    refine wpAnyH_take (i := 8) (oi := _) (v := ?_) rfl (by kernel_rfl) (by kernel_rfl) (by kernel_rfl) (fun _ _ _ h => h) (Or.inl ⟨by rfl, ?_⟩) (by assumption) ?_
    rotate_left
    · (intro w hSw; (try dsimp only at hSw); go_simp; (try with_reducible rfl))
    simp only [Act.put, List.setIfInBounds_toArray, List.set_cons_zero, List.set_cons_succ]
    refine wpAnyH_take (i := 9) (oi := _) (v := ?_) rfl (by kernel_rfl) (by kernel_rfl) (by kernel_rfl) (fun _ _ _ h => h) (Or.inl ⟨by rfl, ?_⟩) (by assumption) ?_
    rotate_left
    · (intro w hSw; (try dsimp only at hSw); go_simp; (try with_reducible rfl))
    simp only [Act.put, List.setIfInBounds_toArray, List.set_cons_zero, List.set_cons_succ]
    have p1 := HPC.out _ HG1.out
    have p2 := HPF.out _ HG1.out
    have p3 := HPL.out _ HG1.out
    refine wpAnyH_ready (rs := [10]) (by kernel_rfl) (by simp) ?_
    refine AllReadyH.cons (o := _) rfl (fun K2 hK => ?_) AllReadyH.nil
    go_simp
    refine hK.out _ _ ?_ (fun hHeld => ?_)
    · exact ⟨(cell_st HNP.out _).trans y0, (cell_st HNP.out _).trans y1, (cell_st HNP.out _).trans y2, (cell_st HNP.out _).trans y3, (cell_st HNP.out _).trans y4, (cell_st HNP.out _).trans y5, (cell_st HNP.out _).trans y6, (cell_st HNP.out _).trans y7, (cell_st HNP.out _).trans y8, (cell_st HNP.out _).trans y9, (cell_st HNP.out _).trans y10, (cell_st HNP.out _).trans y11, (cell_st HNP.out _).trans y12, (cell_st HNP.out _).trans y13⟩
    clear hK K2
    try simp only [Act.put, List.setIfInBounds_toArray, List.set_cons_zero, List.set_cons_succ]
    refine wpAnyH_done (by kernel_rfl) ?_ _
    go_wp2
    refine bodyPost_end (v := .tuple #[]) (by simp [results, Tryz.results57, go_sem]) rfl ?_
    have hal2 : Below W2.heap.size W2 (W2.alloc (.cells #[.string (nu t), .string nmB, .slice (some ⟨ub, uo, none⟩) 1 uc, .bool false, .int .i64 1, .int .i64 0, .string ⟨#[]⟩, .int .i64 (Tp.fst t.at_), .int .i64 200, .int .i64 t.at_, .int .i64 t.tm, .int .i64 t.sq, .int .i64 0, .bool false] 81)).drew := ((Below.refl W2.heap.size W2).alloc (Nat.le_refl _) _).drew
    have h3 := H2.out.below hal2
    have hs2 : w.heap.size ≤ W2.heap.size := by omega
    have hq3 : UOk τ (W2.alloc (.cells #[.string (nu t), .string nmB, .slice (some ⟨ub, uo, none⟩) 1 uc, .bool false, .int .i64 1, .int .i64 0, .string ⟨#[]⟩, .int .i64 (Tp.fst t.at_), .int .i64 200, .int .i64 t.at_, .int .i64 t.tm, .int .i64 t.sq, .int .i64 0, .bool false] 81)).drew (.slice (some ⟨ub, uo, none⟩) 1 uc) t.x t.y := by
      refine HQ.out.same (by simp; omega) (fun b hb hlt => ?_)
      have hne : b ≠ pm := fun e => by rw [e, H2.out.tm] at hb; cases hb
      rw [hal2.block b (by omega), HGR.out.block b (by show b < (w.alloc _).heap.size; simp; omega) (fun e => hne (by cases e; rfl))]
      exact Below.heap_alloc _ _ _ hlt
    have ho := HO1.out
    rw [htv] at h3
    have hat : (Value.slice a ls.length k).ownBlock = some gg ∨ (W2.alloc (.cells #[.string (nu t), .string nmB, .slice (some ⟨ub, uo, none⟩) 1 uc, .bool false, .int .i64 1, .int .i64 0, .string ⟨#[]⟩, .int .i64 (Tp.fst t.at_), .int .i64 200, .int .i64 t.at_, .int .i64 t.tm, .int .i64 t.sq, .int .i64 0, .bool false] 81)).drew.heap.size ≤ gg := by
      rcases HA1.out with hc | hc
      · exact .inl hc
      · right; rw [hc]; simp
    have h5 := h3.push (q := (t, .slice (some ⟨ub, uo, none⟩) 1 uc)) (g := gg) (cap := cap) hq3 HG1.out hat HL1.out (by rw [List.length_append, tkCs_snoc]; exact ho)
    have e1 : (ls ++ [(t, Value.slice (some ⟨ub, uo, none⟩) 1 uc)]).length = ls.length + 1 := by simp
    rw [e1] at h5
    have f1 : Fr τ w W2 := (Fr.drewN ((Fr.refl τ w).alloc _) 1).grown HGR.out (fun j hj => .inl (by cases hj; rw [H2.out.tm]; simp))
    have f2 : Fr τ w w4 := (f1.then hal2).grown HG1.out (fun j hj => .inl (by have := H2.out.tt j (by rw [htv]; exact hj); rw [this]; simp))
    refine ⟨_, _, _, _, rfl, h5, f2.setCell (.inl (by rw [H2.out.tp]; simp)) _, Gr.tg ?_⟩
    rcases HA1.out with hc | hc
    · left
      have := H2.out.tt gg (by rw [htv]; exact hc)
      rw [this]; simp
    · right; omega
end
end Go.Proofs.YtnnocbelgfhecaaGreatDoor
/- The register: add. -/
set_option linter.unusedSimpArgs false
namespace Go.Proofs.YtnnocbelgfhecaaGreatDoor
open Go.ChangeShapes Go.WideShapes Go.ChangeAt Go.RowKit Go.Lott
/-- The library's tables lie below block B. -/
def Lv (B : Nat) (w : World) : Prop := ∃ W0, P10W W0 ∧ W0.heap.size ≤ B ∧ Below B W0 w
theorem Lv.p {B : Nat} {w : World} (h : Lv B w) : P10W w := by
  obtain ⟨W0, h1, h2, h3⟩ := h
  exact h1.grow (h3.mono h2)
theorem Lv.below {B : Nat} {w w1 : World} (h : Lv B w) (hb : Below B w w1) : Lv B w1 := by
  obtain ⟨W0, h1, h2, h3⟩ := h
  exact ⟨W0, h1, h2, h3.trans hb⟩
theorem Lv.fr {B : Nat} {w w1 : World} {τ : Rl} (h : Lv B w) (hf : Fr τ w w1) (hB : B ≤ w.heap.size) (ht : ∀ b, τ b ≠ none → B ≤ b) : Lv B w1 := h.below (hf.below hB ht)
theorem setCell_self {w : World} {b i : Nat} {u : Value} (h : w.cell? ⟨b, i, none⟩ = some u) : w.setCell ⟨b, i, none⟩ u = w := by
  have hh : (w.setCell ⟨b, i, none⟩ u).heap = w.heap := by
    apply Array.ext_getElem?
    intro k
    by_cases hk : k = b
    · subst hk
      cases hb : w.heap[k]? with
      | none => simp [World.cell?, hb] at h
      | some o =>
        cases o with
        | cells cs t fr =>
          have hc : cs[i]? = some u := by simpa [World.cell?, hb] using h
          have hlt := lt_of_block hb
          have h' : w.heap[k] = .cells cs t fr := by simpa [Array.getElem?_eq_getElem hlt] using hb
          show (w.heap.modify k _)[k]? = _
          rw [Array.getElem?_eq_getElem (by simpa using hlt), Array.getElem_modify_self, h']
          have e : cs.setIfInBounds i u = cs := by
            apply Array.ext_getElem?
            intro j
            rw [Array.getElem?_setIfInBounds]
            split
            · subst_vars; split
              · exact hc.symm
              · rename_i hj; rw [Array.getElem?_eq_none (by omega)] at hc; cases hc
            · rfl
          show some (Obj.cells (cs.setIfInBounds i u) t fr) = _
          rw [e]
        | _ => simp [World.cell?, hb] at h
    · exact Below.heap_setCell _ _ _ _ hk
  show { w with heap := (w.setCell ⟨b, i, none⟩ u).heap } = w
  rw [hh]
theorem fr_weak {σ τ : Rl} {w w1 : World} (h : Fr σ w w1) (ht : ∀ b, σ b ≠ none → τ b ≠ none) : Fr τ w w1 :=
  ⟨h.os, h.tape, h.output, h.size, fun k hk hn => h.block k hk (Classical.byContradiction fun c => ht k c hn)⟩
theorem mk_num {t q : Int} (h : Num.tkV t q = true) : mkE t q = 0 := (mk_yes h).2
theorem nu_size {t : Tp.Tk} (h1 : 1 ≤ t.tm) (h2 : t.tm ≤ 32) (h3 : 1 ≤ t.sq) (h4 : t.sq ≤ 1000) : (nu t).size = 14 := by
  unfold nu
  rw [(mk_yes ((Num.tkV_iff _ _).2 ⟨by omega, by omega, by omega, by omega⟩)).1, bsL_size, Num.mk_len]
theorem make_any {tm sq : Nat} (h1 : 1 ≤ tm) (h2 : tm ≤ 32) (h3 : 1 ≤ sq) (h4 : sq ≤ 1000) (w : World) (hp : P10W w) : Calls Tryz.prog 44 #[.int .i64 tm, .int .i64 sq] w (RetB (.tuple #[.string (mkB tm sq), .int .i64 0]) w) := by
  have h := tMake_any tm sq w hp
  rw [mk_num ((Num.tkV_iff _ _).2 ⟨by omega, by omega, by omega, by omega⟩)] at h
  exact h
section
variable {w : World} {B p m c gb gc pm : Nat} {τ : Rl} {key : Int} {v tv : Value} {ls : List (Tp.Tk × Value)} {U : Nat → Int → Prop} {cs : Array Value} {gs gm : Nat → Nat} {D : DataW Unit}
set_option maxHeartbeats 4000000 in
set_option maxRecDepth 100000 in
theorem add_any (h : RObj w B τ p key v ls m c U cs gb gc pm tv gs gm D) (hl : Lv B w) (u : Value) (t : Tp.Tk) (h1 : 1 ≤ t.tm) (h2 : t.tm ≤ 32) (h3 : 1 ≤ t.sq) (h4 : t.sq ≤ 1000) (hU : ¬ U t.tm t.sq) (hm : m ≤ 1000) (hcc : c ≤ 1000) (hll : ls.length ≤ 1000) (hq : UOk τ w u t.x t.y) :
    Calls Tryz.prog 28 #[.pointer (some ⟨p, 0, none⟩), .agg (drC u t.at_), .int .i64 t.tm, .int .i64 t.sq, .int .i64 0] w fun e w' => ∃ τ' cs' tv' D', e = .returned (.tuple #[.agg (tkC (t, u)).toArray, .int .i64 0]) ∧
      RObj w' B τ' p key v (ls ++ [(t, u)]) (m + 1) (c + 1) (fun j q => U j q ∨ (j = t.tm ∧ q = t.sq)) cs' gb gc pm tv' gs gm D' ∧ Fr τ w w' ∧ Gr τ τ' w.heap.size := by
  obtain ⟨ub, uo, uc, _, _, _, hu, _⟩ := id hq
  obtain rfl : u = .slice (some ⟨ub, uo, none⟩) 1 uc := hu
  obtain ⟨W1, hW1⟩ : ∃ W1, W1 = (w.alloc (.cells (drC (.slice (some ⟨ub, uo, none⟩) 1 uc) t.at_) 81)).alloc (.cells #[.string ⟨#[]⟩, .string ⟨#[]⟩, .slice none 0 0, .bool false, .int .i64 0, .int .i64 0, .string ⟨#[]⟩, .int .i64 0, .int .i64 0, .int .i64 0, .int .i64 0, .int .i64 0, .int .i64 0, .bool false] 81) := ⟨_, rfl⟩
  have hX : Below w.heap.size w W1 := by rw [hW1]; exact ((Below.refl _ _).alloc (Nat.le_refl _) _).alloc (by simp) _
  have HA := Lib.hid (show Cel W1 w.heap.size (drC (.slice (some ⟨ub, uo, none⟩) 1 uc) t.at_) 81 by rw [hW1]; exact (Cel.new _ _ _).alloc _)
  have HR := Lib.hid (show Cel W1 (w.heap.size + 1) #[.string ⟨#[]⟩, .string ⟨#[]⟩, .slice none 0 0, .bool false, .int .i64 0, .int .i64 0, .string ⟨#[]⟩, .int .i64 0, .int .i64 0, .int .i64 0, .int .i64 0, .int .i64 0, .int .i64 0, .bool false] 81 by
    rw [hW1]
    have := Cel.new (w.alloc (.cells (drC (.slice (some ⟨ub, uo, none⟩) 1 uc) t.at_) 81)) #[.string ⟨#[]⟩, .string ⟨#[]⟩, .slice none 0 0, .bool false, .int .i64 0, .int .i64 0, .string ⟨#[]⟩, .int .i64 0, .int .i64 0, .int .i64 0, .int .i64 0, .int .i64 0, .int .i64 0, .bool false] 81
    simpa using this)
  have HO1 := Lib.hid (h.below hX)
  have HFU := Lib.hid (full_any (h.below hX) hll)
  have HTK := Lib.hid (take_any (gs t.tm) (gm t.tm) c (U t.tm) t.sq W1 ((h.below hX).gr t.tm (by omega)) (by omega) (by omega) hU (fun e => by have := h.gt t.tm (by omega); rw [e, this.2] at this; have := this.1; simp at this) (by omega))
  have HW := Lib.hid hW1
  have HLOW := Lib.hid (show ∀ b, τ b ≠ none → B ≤ b ∧ b < w.heap.size from h.low)
  have HX := Lib.hid hX
  have HLV := Lib.hid hl
  have HQ := Lib.hid hq
  have g0 : W1.cell? ⟨p, 4 + t.tm, none⟩ = some (.pointer (some ⟨gs t.tm, 0, none⟩)) := by rw [(h.below hX).cp.cell, h.cg t.tm (by omega)]
  have pl := (h.below hX).cp.lt
  clear hW1 hX h hl hq hU
  go_enter Tryz.func28, Tryz.ntmps28
  go_wp2_with fail
  rw [← HW.out]
  have hi1 : (0 : Int) ≤ (t.tm : Int) := by omega
  have hi2 : (t.tm : Int) < 33 := by omega
  refine HFU.out.mono ?_
  rintro e w' ⟨rfl, rfl⟩
  go_wp2_with (first
    | (go_at_call 55; (with_reducible refine HTK.out.mono ?_)
       rintro e w2 ⟨rfl, hgr, hfr⟩
       have HGR := Lib.hid hgr
       have HFR := Lib.hid hfr
       clear hgr hfr)
    | fail)
  have hgs := HO1.out.gt t.tm (by omega)
  have hno : ∀ b, w.heap.size ≤ b → gRl (gs t.tm) (gm t.tm) b = none := fun b hb => by
    unfold gRl
    rw [if_neg]
    rintro (e | e)
    · have := (HLOW.out b (by rw [e, hgs.1]; simp)).2; omega
    · have := (HLOW.out b (by rw [e, hgs.2]; simp)).2; omega
  have hq2 : UOk τ w2 (.slice (some ⟨ub, uo, none⟩) 1 uc) t.x t.y := by
    refine (HQ.out.same HX.out.size (fun b _ hb => HX.out.block b hb)).same HFR.out.size (fun b hb hlt => HFR.out.block b hlt ?_)
    unfold gRl
    rw [if_neg]
    rintro (e | e)
    · rw [e, hgs.1] at hb; simp at hb
    · rw [e, hgs.2] at hb; simp at hb
  have h2' := HO1.out.take (k := t.tm) (by omega) HGR.out HFR.out
  have HA2 := Lib.hid (HA.out.fr HFR.out (hno _ (Nat.le_refl _)))
  have HR2 := Lib.hid (HR.out.fr HFR.out (hno _ (Nat.le_succ _)))
  have hB0 : B ≤ w.heap.size := Nat.le_trans (HLOW.out p (by rw [HO1.out.tp]; simp)).1 (Nat.le_of_lt (HLOW.out p (by rw [HO1.out.tp]; simp)).2)
  have HF2 := Lib.hid (show Fr τ w w2 from (Fr.of_below HX.out).trans (Gr.refl _ _) (fr_weak HFR.out (fun b hb => by
    unfold gRl at hb
    split at hb
    · rename_i e
      rcases e with e | e
      · rw [e, hgs.1]; simp
      · rw [e, hgs.2]; simp
    · exact absurd rfl hb)))
  have HLV2 := Lib.hid (HLV.out.fr HF2.out hB0 (fun b hb => (HLOW.out b hb).1))
  have H2 := Lib.hid h2'
  clear hgs hno h2' g0 pl
  refine (make_any h1 h2 h3 h4 _ HLV2.out.p).mono ?_
  rintro e w3 ⟨rfl, hb3⟩
  have H3 := Lib.hid (H2.out.below hb3)
  have HQ3 := Lib.hid (hq2.same hb3.size (fun b _ hb => hb3.block b hb))
  have HA3 := Lib.hid (HA2.out.below hb3 HA2.out.lt)
  have HR3 := Lib.hid (HR2.out.below hb3 HR2.out.lt)
  have HF3 := Lib.hid (HF2.out.then hb3)
  have a0 := HA3.out.cell 0
  have a10 := HA3.out.cell 10
  have a11 := HA3.out.cell 11
  have a12 := HA3.out.cell 12
  have af0 := HA3.out.free 0
  have af10 := HA3.out.free 10
  have af11 := HA3.out.free 11
  have af12 := HA3.out.free 12
  have al := HA3.out.lt
  simp [drC] at a0 a10 a11 a12
  clear hb3 HGR HFR HTK HFU hq2
  go_wp2
  obtain ⟨W4, hW4⟩ : ∃ W4, W4 = (((w3.setCell ⟨w.heap.size, 0, none⟩ (.string (mkB t.tm t.sq))).setCell ⟨w.heap.size, 10, none⟩ (.int .i64 t.tm)).setCell ⟨w.heap.size, 11, none⟩ (.int .i64 t.sq)).setCell ⟨w.heap.size, 12, none⟩ (.int .i64 0) := ⟨_, rfl⟩
  rw [← hW4]
  have HA4 := Lib.hid (show Cel W4 w.heap.size #[.string (mkB t.tm t.sq), .string nmB, .slice (some ⟨ub, uo, none⟩) 1 uc, .bool false, .int .i64 1, .int .i64 0, .string ⟨#[]⟩, .int .i64 (Tp.fst t.at_), .int .i64 200, .int .i64 t.at_, .int .i64 t.tm, .int .i64 t.sq, .int .i64 0, .bool false] 81 by
    rw [hW4]
    have := (((HA3.out.set 0 (.string (mkB t.tm t.sq))).set 10 (.int .i64 t.tm)).set 11 (.int .i64 t.sq)).set 12 (.int .i64 0)
    simpa [drC] using this)
  have HR4 := Lib.hid (show Cel W4 (w.heap.size + 1) _ 81 by
    rw [hW4]
    have hne : w.heap.size + 1 ≠ w.heap.size := by omega
    exact (((HR3.out.other (a := ⟨w.heap.size, 0, none⟩) hne _).other (a := ⟨w.heap.size, 10, none⟩) hne _).other (a := ⟨w.heap.size, 11, none⟩) hne _).other (a := ⟨w.heap.size, 12, none⟩) hne _)
  have hsz : W4.heap.size = w3.heap.size := by rw [hW4]; simp only [sz_set]
  have hbk : ∀ b, b ≠ w.heap.size → W4.heap[b]? = w3.heap[b]? := fun b hb => by
    rw [hW4, Below.heap_setCell _ _ _ _ (by exact hb), Below.heap_setCell _ _ _ _ (by exact hb), Below.heap_setCell _ _ _ _ (by exact hb), Below.heap_setCell _ _ _ _ (by exact hb)]
  have HQ4 := Lib.hid (HQ3.out.same (w1 := W4) (by omega) (fun b hb _ => hbk b (by have := (HLOW.out b (by rw [hb]; simp)).2; omega)))
  have H4 := Lib.hid (H3.out.same (w1 := W4) (by omega) (fun b hb => hbk b (by have := (HLOW.out b hb).2; omega)))
  have HF4 := Lib.hid (show Fr τ w W4 by
    rw [hW4]
    exact (((HF3.out.setCell (a := ⟨w.heap.size, 0, none⟩) (.inr (Nat.le_refl _)) _).setCell (a := ⟨w.heap.size, 10, none⟩) (.inr (Nat.le_refl _)) _).setCell (a := ⟨w.heap.size, 11, none⟩) (.inr (Nat.le_refl _)) _).setCell (a := ⟨w.heap.size, 12, none⟩) (.inr (Nat.le_refl _)) _)
  clear hW4 hsz hbk a0 a10 a11 a12 af0 af10 af11 af12 al
  have HGM := Lib.hid fun W h => game_any (w := W) (B := B) (p := p) (m := m) (c := c + 1) (gb := gb) (gc := gc) (pm := pm) (τ := τ) (key := key) (v := v) (tv := tv) (ls := ls) (U := fun j q => U j q ∨ (j = t.tm ∧ q = t.sq)) (cs := cs) (gs := gs) (gm := gm) (D := D) h
  have hS := Below.refl W4.heap.size W4
  have HSS := Lib.hid hS
  have hl1 : ∀ y, Below W4.heap.size W4 y → y.cell? ⟨w.heap.size, 1, none⟩ = some (.string nmB) := fun y hy => (HA4.out.below hy HA4.out.lt).cell 1
  have hl6 : ∀ y, Below W4.heap.size W4 y → y.cell? ⟨w.heap.size, 6, none⟩ = some (.string ⟨#[]⟩) := fun y hy => (HA4.out.below hy HA4.out.lt).cell 6
  clear hS
  have hlt := fun y (hy : Below W4.heap.size W4 y) => show y.rangeAt w.heap.size 0 (tkC (t, .slice (some ⟨ub, uo, none⟩) 1 uc)) from fun j u hj => by
    rw [Nat.zero_add]
    refine ((HA4.out.below hy HA4.out.lt).cell j).trans ?_
    rw [← hj]
    exact List.getElem?_toArray
  have hlg := fun y (hy : Below W4.heap.size W4 y) => (H4.out.below hy).gR
  refine wp_region_held_drew (S := fun w' => Below W4.heap.size W4 w') (by kernel_rfl) HSS.out.drew (fun hHeld => ?_)
  refine wpAnyH_take (i := 0) (oi := _) (v := ?_) rfl (by kernel_rfl) (by kernel_rfl) (by kernel_rfl) (fun _ _ _ h => h) (Or.inl ⟨by rfl, ?_⟩) (by assumption) ?_
  rotate_left
  · (intro w hSw; (try dsimp only at hSw); go_simp; (try with_reducible rfl))
  simp only [Act.put, List.setIfInBounds_toArray, List.set_cons_zero, List.set_cons_succ]
  refine wpAnyH_take (i := 1) (oi := _) (v := ?_) rfl (by kernel_rfl) (by kernel_rfl) (by kernel_rfl) (fun _ _ _ h => h) (Or.inl ⟨by rfl, ?_⟩) (by assumption) ?_
  rotate_left
  · (intro w hSw; (try dsimp only at hSw); go_simp; (try with_reducible rfl))
  simp only [Act.put, List.setIfInBounds_toArray, List.set_cons_zero, List.set_cons_succ]
  refine wpAnyH_take (i := 2) (oi := _) (v := ?_) rfl (by kernel_rfl) (by kernel_rfl) (by kernel_rfl) (fun _ _ _ h => h) (Or.inl ⟨by rfl, ?_⟩) (by assumption) ?_
  rotate_left
  · (intro w hSw; (try dsimp only at hSw); go_simp; (try with_reducible rfl))
  simp only [Act.put, List.setIfInBounds_toArray, List.set_cons_zero, List.set_cons_succ]
  refine wpAnyH_take (i := 3) (oi := _) (v := ?_) rfl (by kernel_rfl) (by kernel_rfl) (by kernel_rfl) (fun _ _ _ h => h) (Or.inl ⟨by rfl, ?_⟩) (by assumption) ?_
  rotate_left
  · (intro w hSw; (try dsimp only at hSw); go_simp; (try with_reducible rfl))
  simp only [Act.put, List.setIfInBounds_toArray, List.set_cons_zero, List.set_cons_succ]
  refine wpAnyH_take (i := 4) (oi := _) (v := ?_) rfl (by kernel_rfl) (by kernel_rfl) (by kernel_rfl) (fun _ _ _ h => h) (Or.inl ⟨by rfl, ?_⟩) (by assumption) ?_
  rotate_left
  · (intro w hSw; (try dsimp only at hSw); go_simp; (try with_reducible rfl))
  simp only [Act.put, List.setIfInBounds_toArray, List.set_cons_zero, List.set_cons_succ]
  refine wpAnyH_take (i := 5) (oi := _) (v := ?_) rfl (by kernel_rfl) (by kernel_rfl) (by kernel_rfl) (fun _ _ _ h => h) (Or.inl ⟨by rfl, ?_⟩) (by assumption) ?_
  rotate_left
  · (intro w hSw; (try dsimp only at hSw); go_simp; (try with_reducible rfl))
  simp only [Act.put, List.setIfInBounds_toArray, List.set_cons_zero, List.set_cons_succ]
  refine wpAnyH_take (i := 9) (oi := _) (v := _) rfl (by kernel_rfl) (by kernel_rfl) (by kernel_rfl) (fun _ _ _ h => h) (yieldsIf_load_mid (by rfl) 81 _ rfl w.heap.size 0 rfl (tkC (t, .slice (some ⟨ub, uo, none⟩) 1 uc)) _ hlt Tryz.underlying81 rfl (by kernel_rfl)) (by assumption) ?_
  simp only [Act.put, List.setIfInBounds_toArray, List.set_cons_zero, List.set_cons_succ]
  refine wpAnyH_ready (rs := [6]) (by kernel_rfl) (by simp) ?_
  refine AllReadyH.cons (o := _) rfl (fun K2 hK => ?_) AllReadyH.nil
  go_simp
  refine (HGM.out _ (H4.out.below HSS.out.drew)).mono ?_
  rintro e w5 ⟨rfl, hb5⟩
  replace HSS := Lib.hid (show Below W4.heap.size W4 w5 from HSS.out.drew.trans (hb5.mono HSS.out.size))
  clear hb5
  go_wp2_with fail
  refine hK.out _ _ ?_ (fun hHeld => ?_)
  · exact HSS.out
  clear hK K2
  try simp only [Act.put, List.setIfInBounds_toArray, List.set_cons_zero, List.set_cons_succ]
  refine wpAnyH_take (i := 7) (oi := _) (v := ?_) rfl (by kernel_rfl) (by kernel_rfl) (by kernel_rfl) (fun _ _ _ h => h) (Or.inl ⟨by rfl, ?_⟩) (by assumption) ?_
  rotate_left
  · (intro w hSw; (try dsimp only at hSw); go_simp; (try with_reducible rfl))
  simp only [Act.put, List.setIfInBounds_toArray, List.set_cons_zero, List.set_cons_succ]
  refine wpAnyH_take (i := 8) (oi := _) (v := _) rfl (by kernel_rfl) (by kernel_rfl) (by kernel_rfl) (fun _ _ _ h => h) (yieldsIf_load_mid (by rfl) 27 _ rfl gb 0 rfl (gcs v).toList _ hlg Tryz.underlying27 rfl (gcs_len v)) (by assumption) ?_
  simp only [Act.put, List.setIfInBounds_toArray, List.set_cons_zero, List.set_cons_succ]
  refine wpAnyH_ready (rs := [10]) (by kernel_rfl) (by simp) ?_
  refine AllReadyH.cons (o := _) rfl (fun K2 hK => ?_) AllReadyH.nil
  go_simp
  refine (serial_any _ _).mono ?_
  rintro e w6 ⟨rfl, hb6⟩
  replace HSS := Lib.hid (show Below W4.heap.size W4 w6 from HSS.out.trans (hb6.mono HSS.out.size))
  have d6 : w6.cell? ⟨w.heap.size, 6, none⟩ = some (.string ⟨#[]⟩) := hl6 _ HSS.out
  have d7 : w6.frozen? ⟨w.heap.size, 6, none⟩ = false := (HA4.out.below HSS.out HA4.out.lt).free 6
  have d8 : w.heap.size < w6.heap.size := (HA4.out.below HSS.out HA4.out.lt).lt
  clear hb6
  go_wp2_with fail
  refine hK.out _ _ ?_ (fun hHeld => ?_)
  · exact HSS.out
  clear hK K2
  try simp only [Act.put, List.setIfInBounds_toArray, List.set_cons_zero, List.set_cons_succ]
  refine wpAnyH_take (i := 11) (oi := _) (v := ?_) rfl (by kernel_rfl) (by kernel_rfl) (by kernel_rfl) (fun _ _ _ h => h) (Or.inl ⟨by rfl, ?_⟩) (by assumption) ?_
  rotate_left
  · (intro w hSw; (try dsimp only at hSw); go_simp; (try with_reducible rfl))
  simp only [Act.put, List.setIfInBounds_toArray, List.set_cons_zero, List.set_cons_succ]
  refine wpAnyH_take (i := 12) (oi := _) (v := ?_) rfl (by kernel_rfl) (by kernel_rfl) (by kernel_rfl) (fun _ _ _ h => h) (Or.inl ⟨by rfl, ?_⟩) (by assumption) ?_
  rotate_left
  · (intro w hSw; (try dsimp only at hSw); go_simp; (try with_reducible rfl))
  simp only [Act.put, List.setIfInBounds_toArray, List.set_cons_zero, List.set_cons_succ]
  refine wpAnyH_take (i := 13) (oi := _) (v := ?_) rfl (by kernel_rfl) (by kernel_rfl) (by kernel_rfl) (fun _ _ _ h => h) (Or.inl ⟨by rfl, ?_⟩) (by assumption) ?_
  rotate_left
  · (intro w hSw; (try dsimp only at hSw); go_simp; (try with_reducible rfl))
  simp only [Act.put, List.setIfInBounds_toArray, List.set_cons_zero, List.set_cons_succ]
  refine wpAnyH_take (i := 14) (oi := _) (v := ?_) rfl (by kernel_rfl) (by kernel_rfl) (by kernel_rfl) (fun _ _ _ h => h) (Or.inl ⟨by rfl, ?_⟩) (by assumption) ?_
  rotate_left
  · (intro w hSw; (try dsimp only at hSw); go_simp; (try with_reducible rfl))
  simp only [Act.put, List.setIfInBounds_toArray, List.set_cons_zero, List.set_cons_succ]
  refine wpAnyH_ready (rs := [15]) (by kernel_rfl) (by simp) ?_
  refine AllReadyH.cons (o := _) rfl (fun K2 hK => ?_) AllReadyH.nil
  go_simp
  refine hK.out _ _ ?_ (fun hHeld => ?_)
  · rw [setCell_self d6]; exact HSS.out
  clear hK K2
  try simp only [Act.put, List.setIfInBounds_toArray, List.set_cons_zero, List.set_cons_succ]
  refine wpAnyH_done (by kernel_rfl) ?_ _
  rw [setCell_self d6]
  clear d6 d7 d8 hl1 hl6 hlt hlg
  have H6 := Lib.hid (H4.out.below (HSS.out.drew (a := W4)))
  have HQ6 := Lib.hid (HQ4.out.same HSS.out.size (fun b _ hb => HSS.out.block b hb))
  have hb6 := HA4.out.below HSS.out HA4.out.lt
  have z0 : w6.cell? ⟨w.heap.size, 0, none⟩ = some (.string (mkB t.tm t.sq)) := hb6.cell 0
  have z1 : w6.cell? ⟨w.heap.size, 1, none⟩ = some (.string nmB) := hb6.cell 1
  have z2 : w6.cell? ⟨w.heap.size, 2, none⟩ = some (.slice (some ⟨ub, uo, none⟩) 1 uc) := hb6.cell 2
  have z3 : w6.cell? ⟨w.heap.size, 3, none⟩ = some (.bool false) := hb6.cell 3
  have z4 : w6.cell? ⟨w.heap.size, 4, none⟩ = some (.int .i64 1) := hb6.cell 4
  have z5 : w6.cell? ⟨w.heap.size, 5, none⟩ = some (.int .i64 0) := hb6.cell 5
  have z6 : w6.cell? ⟨w.heap.size, 6, none⟩ = some (.string ⟨#[]⟩) := hb6.cell 6
  have z7 : w6.cell? ⟨w.heap.size, 7, none⟩ = some (.int .i64 (Tp.fst t.at_)) := hb6.cell 7
  have z8 : w6.cell? ⟨w.heap.size, 8, none⟩ = some (.int .i64 200) := hb6.cell 8
  have z9 : w6.cell? ⟨w.heap.size, 9, none⟩ = some (.int .i64 t.at_) := hb6.cell 9
  have z10 : w6.cell? ⟨w.heap.size, 10, none⟩ = some (.int .i64 t.tm) := hb6.cell 10
  have z11 : w6.cell? ⟨w.heap.size, 11, none⟩ = some (.int .i64 t.sq) := hb6.cell 11
  have z12 : w6.cell? ⟨w.heap.size, 12, none⟩ = some (.int .i64 0) := hb6.cell 12
  have z13 : w6.cell? ⟨w.heap.size, 13, none⟩ = some (.bool false) := hb6.cell 13
  have bl := hb6.lt
  have HB6 := Lib.hid hb6
  have HR6 := Lib.hid (HR4.out.below HSS.out HR4.out.lt)
  have HF6 := Lib.hid (Fr.drewN (HF4.out.then HSS.out) 1)
  clear hb6
  go_wp2
  refine wp_region_tail 4 (by kernel_rfl) (by kernel_rfl) ?_
  simp only [List.take_succ_cons, List.take_zero, List.drop_succ_cons, List.drop_zero]
  repeat (go_big_quiet_step (fail))
  refine wpQuiet_nil ?_
  go_wp2_with fail
  refine (append_any H6.out (t, .slice (some ⟨ub, uo, none⟩) 1 uc) HQ6.out (by omega) hll (by show (nu t).size ≤ 1000; rw [nu_size h1 h2 h3 h4]; decide)).mono ?_
  rintro e w7 ⟨τ', cs', tv', D', rfl, h7, hf7, hg7⟩
  have H7 := Lib.hid h7
  have HG7 := Lib.hid hg7
  have HF7 := Lib.hid hf7
  have hn0 : τ w.heap.size = none := by
    cases hc : τ w.heap.size with
    | none => rfl
    | some r => have := (HLOW.out w.heap.size (by rw [hc]; simp)).2; omega
  have hn1 : τ (w.heap.size + 1) = none := by
    cases hc : τ (w.heap.size + 1) with
    | none => rfl
    | some r => have := (HLOW.out (w.heap.size + 1) (by rw [hc]; simp)).2; omega
  have hr6 := HR6.out.lt
  have hn7 : τ' (w.heap.size + 1) = none := Classical.byContradiction fun hc => by
    rcases hg7 (w.heap.size + 1) hc with hd | hd
    · exact hd hn1
    · have : w6.heap.size ≤ w.heap.size + 1 := hd
      omega
  have HN7 := Lib.hid hn7
  have hb7 : Cel w7 w.heap.size _ 81 := Cel.fr HB6.out.drew hf7 hn0
  have HR7 := Lib.hid (show Cel w7 (w.heap.size + 1) _ 81 from Cel.fr HR6.out.drew hf7 hn1)
  have HF8 := Lib.hid (show Fr τ w w7 from HF6.out.trans (Gr.refl _ _) hf7)
  have HG8 := Lib.hid (show Gr τ τ' w.heap.size from (Gr.refl τ w.heap.size).trans hg7 (by have := HF6.out.size; exact this))
  clear z0 z1 z2 z3 z4 z5 z6 z7 z8 z9 z10 z11 z12 z13 bl hr6
  have z0 : w7.cell? ⟨w.heap.size, 0, none⟩ = some (.string (nu t)) := hb7.cell 0
  have z1 : w7.cell? ⟨w.heap.size, 1, none⟩ = some (.string nmB) := hb7.cell 1
  have z2 : w7.cell? ⟨w.heap.size, 2, none⟩ = some (.slice (some ⟨ub, uo, none⟩) 1 uc) := hb7.cell 2
  have z3 : w7.cell? ⟨w.heap.size, 3, none⟩ = some (.bool false) := hb7.cell 3
  have z4 : w7.cell? ⟨w.heap.size, 4, none⟩ = some (.int .i64 1) := hb7.cell 4
  have z5 : w7.cell? ⟨w.heap.size, 5, none⟩ = some (.int .i64 0) := hb7.cell 5
  have z6 : w7.cell? ⟨w.heap.size, 6, none⟩ = some (.string ⟨#[]⟩) := hb7.cell 6
  have z7 : w7.cell? ⟨w.heap.size, 7, none⟩ = some (.int .i64 (Tp.fst t.at_)) := hb7.cell 7
  have z8 : w7.cell? ⟨w.heap.size, 8, none⟩ = some (.int .i64 200) := hb7.cell 8
  have z9 : w7.cell? ⟨w.heap.size, 9, none⟩ = some (.int .i64 t.at_) := hb7.cell 9
  have z10 : w7.cell? ⟨w.heap.size, 10, none⟩ = some (.int .i64 t.tm) := hb7.cell 10
  have z11 : w7.cell? ⟨w.heap.size, 11, none⟩ = some (.int .i64 t.sq) := hb7.cell 11
  have z12 : w7.cell? ⟨w.heap.size, 12, none⟩ = some (.int .i64 0) := hb7.cell 12
  have z13 : w7.cell? ⟨w.heap.size, 13, none⟩ = some (.bool false) := hb7.cell 13
  have r0 := HR7.out.cell 0
  have f0 := HR7.out.free 0
  have r1 := HR7.out.cell 1
  have f1 := HR7.out.free 1
  have r2 := HR7.out.cell 2
  have f2 := HR7.out.free 2
  have r3 := HR7.out.cell 3
  have f3 := HR7.out.free 3
  have r4 := HR7.out.cell 4
  have f4 := HR7.out.free 4
  have r5 := HR7.out.cell 5
  have f5 := HR7.out.free 5
  have r6 := HR7.out.cell 6
  have f6 := HR7.out.free 6
  have r7 := HR7.out.cell 7
  have f7 := HR7.out.free 7
  have r8 := HR7.out.cell 8
  have f8 := HR7.out.free 8
  have r9 := HR7.out.cell 9
  have f9 := HR7.out.free 9
  have r10 := HR7.out.cell 10
  have f10 := HR7.out.free 10
  have r11 := HR7.out.cell 11
  have f11 := HR7.out.free 11
  have r12 := HR7.out.cell 12
  have f12 := HR7.out.free 12
  have r13 := HR7.out.cell 13
  have f13 := HR7.out.free 13
  have bl := hb7.lt
  have rl := HR7.out.lt
  simp at r0 r1 r2 r3 r4 r5 r6 r7 r8 r9 r10 r11 r12 r13
  clear h7 hf7 hg7 hb7 hn0 hn1 hn7
  go_wp2
  refine bodyPost_ret (v := .tuple #[.agg (tkC (t, .slice (some ⟨ub, uo, none⟩) 1 uc)).toArray, .int .i64 0]) (by simp [results, Tryz.results28, go_sem, tkC, r0, r1, r2, r3, r4, r5, r6, r7, r8, r9, r10, r11, r12, r13]) rfl ⟨τ', cs', tv', D', rfl, ?_, ?_, HG8.out⟩
  · refine H7.out.same ?_ (fun b hb => ?_)
    · simp only [sz_set]; exact Nat.le_refl _
    · have hne : b ≠ w.heap.size + 1 := fun e => hb (by rw [e]; exact HN7.out)
      repeat rw [Below.heap_setCell _ _ _ _ (show b ≠ w.heap.size + 1 from hne)]
  · repeat (first | (with_reducible exact HF8.out) | (refine Fr.setCell ?_ (.inr (Nat.le_succ w.heap.size)) _))
end
end Go.Proofs.YtnnocbelgfhecaaGreatDoor
/- The register: Sell. -/
set_option linter.unusedSimpArgs false
namespace Go.Proofs.YtnnocbelgfhecaaGreatDoor
open Go.ChangeShapes Go.WideShapes Go.ChangeAt Go.RowKit Go.Lott
/-- The receipt of a ticket. -/
def rcV (key : Int) (t : Tp.Tk) : Value := rcpV (nu t) nmB (tx t.x t.y) (Tp.fst t.at_) 200 t.at_ (sgI key (nu t) nmB (tx t.x t.y) (Tp.fst t.at_) 200 t.at_)
theorem isPl_zero (w : World) : Calls Tryz.prog 26 #[.int .i64 0] w (RetS (.bool true) w) := by
  go_enter Tryz.func26, Tryz.ntmps26
  go_wp2
  go_ret
  exact ⟨rfl, rfl⟩
section
variable {w w1 : World} {B p m c gb gc pm : Nat} {τ : Rl} {key : Int} {v tv : Value} {ls : List (Tp.Tk × Value)} {U : Nat → Int → Prop} {cs : Array Value} {gs gm : Nat → Nat} {D : DataW Unit}
/-- The blocks of a new bet get their role. -/
theorem RObj.adoptU (h : RObj w B τ p key v ls m c U cs gb gc pm tv gs gm D) {N : Nat} {u : Value} {x y : Int} (hb : IsBetF N w (.agg #[u, .bool false, .int .i64 1, .int .i64 0]) x y) (hN : ∀ b, τ b ≠ none → b < N) (hB : B ≤ N) :
    ∃ τ1, RObj w B τ1 p key v ls m c U cs gb gc pm tv gs gm D ∧ UOk τ1 w u x y ∧ Gr τ τ1 N := by
  obtain ⟨b, o, k, mb, mo, mc, heq, h1, hb1, hb2, h2, h3, h4, h5⟩ := hb
  obtain rfl : u = .slice (some ⟨b, o, none⟩) 1 k := by simpa using heq
  have n1 : τ b = none := Classical.byContradiction fun c => by have := hN b c; omega
  have a1 := h.adopt n1 (by omega) h2
  by_cases e : mb = b
  · subst e
    exact ⟨_, a1, ⟨mb, o, k, mb, mo, mc, rfl, h1, tg_same _ _ _, tg_same _ _ _, h2, h3, h4, h5⟩, Gr.tg (.inr hb1)⟩
  · have n2 : tg τ b (9, 0) mb = none := by rw [tg_ne _ e]; exact Classical.byContradiction fun c => by have := hN mb c; omega
    have a2 := a1.adopt n2 (by omega) h5.lt
    refine ⟨_, a2, ⟨b, o, k, mb, mo, mc, rfl, h1, ?_, tg_same _ _ _, h2, h3, h4, h5⟩, fun x hx => ?_⟩
    · rw [tg_ne _ (fun c => e c.symm)]; exact tg_same _ _ _
    · by_cases c : x = mb
      · subst c; exact .inr hb2
      · rw [tg_ne _ c] at hx
        by_cases c2 : x = b
        · subst c2; exact .inr hb1
        · rw [tg_ne _ c2] at hx; exact .inl hx
set_option maxHeartbeats 4000000 in
set_option maxRecDepth 100000 in
theorem sell_any (h : RObj w B τ p key v ls m c U cs gb gc pm tv gs gm D) (hl : Lv B w) (t : Tp.Tk) (h1 : 1 ≤ t.tm) (h2 : t.tm ≤ 32) (h3 : 1 ≤ t.sq) (h4 : t.sq ≤ 1000) (hU : ¬ U t.tm t.sq) (hm : m ≤ 1000) (hcc : c ≤ 1000) (hll : ls.length ≤ 1000) (hx1 : 1 ≤ t.x) (hxy : t.x < t.y) (hy2 : t.y ≤ 6) (hat : t.at_ ≤ 160000) :
    Calls Tryz.prog 15 #[.pointer (some ⟨p, 0, none⟩), .string nmB, .string (tx t.x t.y), .int .i64 t.tm, .int .i64 t.sq, .int .i64 0, .int .i64 t.at_] w fun e w' => ∃ τ' u cs' tv' D', e = .returned (.tuple #[rcV key t, .int .i64 0]) ∧
      RObj w' B τ' p key v (ls ++ [(t, u)]) (m + 1) (c + 1) (fun j q => U j q ∨ (j = t.tm ∧ q = t.sq)) cs' gb gc pm tv' gs gm D' ∧ Fr τ w w' ∧ Gr τ τ' w.heap.size := by
  obtain ⟨W1, hW1⟩ : ∃ W1, W1 = w.alloc (.cells #[.string ⟨#[]⟩, .string ⟨#[]⟩, .string ⟨#[]⟩, .int .i64 0, .int .i64 0, .int .i64 0, .int .u64 0] 44) := ⟨_, rfl⟩
  have hX : Below w.heap.size w W1 := by rw [hW1]; exact (Below.refl _ _).alloc (Nat.le_refl _) _
  have HR := Lib.hid (show Cel W1 w.heap.size _ _ by rw [hW1]; exact Cel.new _ _ _)
  have HDR := Lib.hid (draft_any (h.below hX) t.x t.y t.at_ hx1 hxy hy2 hat)
  have HLOW := Lib.hid (show ∀ b, τ b ≠ none → B ≤ b ∧ b < w.heap.size from h.low)
  have HO := Lib.hid h
  have HLV := Lib.hid hl
  have HX := Lib.hid hX
  have HW := Lib.hid hW1
  have HUU := Lib.hid hU
  have hi1 : (1 : Int) ≤ (t.tm : Int) := by omega
  have hi2 : (t.tm : Int) ≤ 32 := by omega
  clear h hl hX hW1 hU
  go_enter Tryz.func15, Tryz.ntmps15
  go_wp2_with fail
  rw [← HW.out]
  refine HDR.out.mono ?_
  rintro e w1 ⟨u, rfl, hbet, hb1⟩
  have HBF := Lib.hid hbet
  have HWL := Lib.hid (show w.heap.size < W1.heap.size from HR.out.lt)
  obtain ⟨ub, uo, uc, mb, mo, mc, heq, _⟩ := hbet
  obtain rfl : u = .slice (some ⟨ub, uo, none⟩) 1 uc := by simpa using heq
  replace HR := Lib.hid (HR.out.below hb1 HR.out.lt)
  replace HX := Lib.hid (HX.out.trans (hb1.mono HX.out.size))
  have hBw : B ≤ w.heap.size := Nat.le_trans (HLOW.out p (by rw [HO.out.tp]; simp)).1 (Nat.le_of_lt (HLOW.out p (by rw [HO.out.tp]; simp)).2)
  obtain ⟨τ1, hO1, hU1, hG1⟩ := (HO.out.below HX.out).adoptU HBF.out (fun b hb => by have := (HLOW.out b hb).2; have := HWL.out; omega) (by have := HWL.out; omega)
  have HO1 := Lib.hid hO1
  have HU1 := Lib.hid hU1
  have HG1 := Lib.hid (show Gr τ τ1 w.heap.size from fun b hb => by rcases hG1 b hb with c | c; exact .inl c; exact .inr (by have := HWL.out; omega))
  have hr0 : τ1 w.heap.size = none := Classical.byContradiction fun c => by
    rcases hG1 _ c with d | d
    · have := (HLOW.out _ d).2; omega
    · have := HWL.out; omega
  have HR0 := Lib.hid hr0
  have HRL := Lib.hid (show w.heap.size < w1.heap.size from HR.out.lt)
  have HT0 := Lib.hid (show τ1 w1.heap.size = none from Classical.byContradiction fun c => by have := (HO1.out.low _ c).2; omega)
  have HGM := Lib.hid fun W h => game_any (w := W) (B := B) (p := p) (m := m) (c := c) (gb := gb) (gc := gc) (pm := pm) (τ := τ1) (key := key) (v := v) (tv := tv) (ls := ls) (U := U) (cs := cs) (gs := gs) (gm := gm) (D := D) h
  clear hb1 heq HDR HW hO1 hU1 hG1 hr0
  unfold drC
  go_wp2_with (go_at_call 26; (with_reducible refine (isPl_zero _).mono ?_); rintro e w' ⟨rfl, rfl⟩)
  obtain ⟨V, hV⟩ : ∃ V, V = w1.alloc (.cells #[.string ⟨#[]⟩, .string nmB, .slice (some ⟨ub, uo, none⟩) 1 uc, .bool false, .int .i64 1, .int .i64 0, .string ⟨#[]⟩, .int .i64 (Tp.fst t.at_), .int .i64 200, .int .i64 t.at_, .int .i64 0, .int .i64 0, .int .i64 0, .bool false] 81) := ⟨_, rfl⟩
  have hal : Below w1.heap.size w1 V := by rw [hV]; exact (Below.refl _ _).alloc (Nat.le_refl _) _
  have HB := Lib.hid (show Cel V w1.heap.size #[.string ⟨#[]⟩, .string nmB, .slice (some ⟨ub, uo, none⟩) 1 uc, .bool false, .int .i64 1, .int .i64 0, .string ⟨#[]⟩, .int .i64 (Tp.fst t.at_), .int .i64 200, .int .i64 t.at_, .int .i64 0, .int .i64 0, .int .i64 0, .bool false] 81 by rw [hV]; exact Cel.new _ _ _)
  replace HX := Lib.hid (HX.out.trans (hal.mono HX.out.size))
  replace HR := Lib.hid (HR.out.below hal HR.out.lt)
  replace HBF := Lib.hid (HBF.out.below hal (Nat.le_refl _))
  rw [← hV]
  have HOV := Lib.hid (HO1.out.below hal)
  have HUV := Lib.hid (HU1.out.same hal.size (fun b _ hb => hal.block b hb))
  clear hal hV
  have HLg := Lib.hid (show ∀ w', (∃ x : Sub V.heap.size V, w' = x.w) → (loadVar 27 ⟨gb, 0, none⟩).run Tryz.prog w' = .ok (.agg (gcs v)) w' from fun w' ⟨x, hx⟩ => by rw [hx]; exact load_game (HOV.out.below x.h).gR)
  have HLVV := Lib.hid (HLV.out.below (HX.out.mono hBw))
  have HPR := Lib.hid (show ∀ W vb, IsTier W v → IsBet W vb t.x t.y → P10 W → Calls Tryz.prog 27 #[.agg (gcs v), vb] W (RetB (.tuple #[.string (tx t.x t.y), .int .i64 0]) W) from fun W vb a b c => print_any v vb t.x t.y W a b c)
  have HPP := Lib.hid (show ∀ x : Sub V.heap.size V, P10 x.w from fun x => (HLVV.out.below (x.h.mono (Nat.le_trans hBw HX.out.size))).p.p)
  have b2 := Sub.cell (HB.out.cell 2) HB.out.lt
  have b3 := Sub.cell (HB.out.cell 3) HB.out.lt
  have b4 := Sub.cell (HB.out.cell 4) HB.out.lt
  have b5 := Sub.cell (HB.out.cell 5) HB.out.lt
  refine wp_region_below (by kernel_rfl) (by kernel_rfl) ?_
  repeat (first
    | (go_big_quiet_want; refine quiet_load_const rfl HLg.out ?_; go_big_quiet_op; go_big_quiet_on)
    | go_big_quiet_step (first
        | (go_at_call 18; exact Sub.ofB _ (Nat.le_refl _) (HGM.out _ (HOV.out.below (Sub.h _))))
        | (go_at_call 27; exact Sub.ofB _ (Nat.le_refl _) (HPR.out _ _ (HOV.out.ti.tier.below (Sub.h _) (Nat.le_refl _)) (HBF.out.bet.below (Sub.h _) (Nat.le_refl _)) (HPP.out _)))))
  refine wpQuiet_nil ?_
  rintro w3 ⟨⟨_, hb3⟩, rfl⟩
  have hb1 : Below V.heap.size V w3 := hb3
  replace HB := Lib.hid (HB.out.below hb1 HB.out.lt)
  replace HR := Lib.hid (HR.out.below hb1 HR.out.lt)
  replace HX := Lib.hid (HX.out.trans (hb1.mono HX.out.size))
  replace HOV := Lib.hid (HOV.out.below hb1)
  replace HUV := Lib.hid (HUV.out.same hb1.size (fun b _ hb => hb1.block b hb))
  have HLV3 := Lib.hid (HLV.out.below (HX.out.mono hBw))
  clear hb1 hb3 HLg HLVV HPR HPP b2 b3 b4 b5 HBF
  have z0 : w3.cell? ⟨w1.heap.size, 0, none⟩ = some (.string ⟨#[]⟩) := HB.out.cell 0
  have z1 : w3.cell? ⟨w1.heap.size, 1, none⟩ = some (.string nmB) := HB.out.cell 1
  have z2 : w3.cell? ⟨w1.heap.size, 2, none⟩ = some (.slice (some ⟨ub, uo, none⟩) 1 uc) := HB.out.cell 2
  have z3 : w3.cell? ⟨w1.heap.size, 3, none⟩ = some (.bool false) := HB.out.cell 3
  have z4 : w3.cell? ⟨w1.heap.size, 4, none⟩ = some (.int .i64 1) := HB.out.cell 4
  have z5 : w3.cell? ⟨w1.heap.size, 5, none⟩ = some (.int .i64 0) := HB.out.cell 5
  have z6 : w3.cell? ⟨w1.heap.size, 6, none⟩ = some (.string ⟨#[]⟩) := HB.out.cell 6
  have z7 : w3.cell? ⟨w1.heap.size, 7, none⟩ = some (.int .i64 (Tp.fst t.at_)) := HB.out.cell 7
  have z8 : w3.cell? ⟨w1.heap.size, 8, none⟩ = some (.int .i64 200) := HB.out.cell 8
  have z9 : w3.cell? ⟨w1.heap.size, 9, none⟩ = some (.int .i64 t.at_) := HB.out.cell 9
  have z10 : w3.cell? ⟨w1.heap.size, 10, none⟩ = some (.int .i64 0) := HB.out.cell 10
  have z11 : w3.cell? ⟨w1.heap.size, 11, none⟩ = some (.int .i64 0) := HB.out.cell 11
  have z12 : w3.cell? ⟨w1.heap.size, 12, none⟩ = some (.int .i64 0) := HB.out.cell 12
  have z13 : w3.cell? ⟨w1.heap.size, 13, none⟩ = some (.bool false) := HB.out.cell 13
  have zl := HB.out.lt
  go_wp2_with (first
    | (go_at_call 28
       refine (add_any HOV.out HLV3.out (.slice (some ⟨ub, uo, none⟩) 1 uc) t h1 h2 h3 h4 HUU.out hm hcc hll HUV.out).mono ?_
       rw [show (tkC (t, .slice (some ⟨ub, uo, none⟩) 1 uc)).toArray = #[.string (nu t), .string nmB, .slice (some ⟨ub, uo, none⟩) 1 uc, .bool false, .int .i64 1, .int .i64 0, .string ⟨#[]⟩, .int .i64 (Tp.fst t.at_), .int .i64 200, .int .i64 t.at_, .int .i64 t.tm, .int .i64 t.sq, .int .i64 0, .bool false] from rfl]
       rintro e w4 ⟨τ', cs', tv', D', rfl, h7, hf7, hg7⟩
       have H7 := Lib.hid h7
       have HG7 := Lib.hid hg7
       have HF7 := Lib.hid hf7
       have hb7 := Cel.fr HB.out hf7 HT0.out
       have hr7 := Cel.fr HR.out hf7 HR0.out
       have HB7 := Lib.hid hb7
       have HR7 := Lib.hid hr7
       clear h7 hf7 hg7 z0 z1 z2 z3 z4 z5 z6 z7 z8 z9 z10 z11 z12 z13 zl hr7
       have z0 : w4.cell? ⟨w1.heap.size, 0, none⟩ = some (.string ⟨#[]⟩) := hb7.cell 0
       have zf0 := hb7.free 0
       have z1 : w4.cell? ⟨w1.heap.size, 1, none⟩ = some (.string nmB) := hb7.cell 1
       have zf1 := hb7.free 1
       have z2 : w4.cell? ⟨w1.heap.size, 2, none⟩ = some (.slice (some ⟨ub, uo, none⟩) 1 uc) := hb7.cell 2
       have zf2 := hb7.free 2
       have z3 : w4.cell? ⟨w1.heap.size, 3, none⟩ = some (.bool false) := hb7.cell 3
       have zf3 := hb7.free 3
       have z4 : w4.cell? ⟨w1.heap.size, 4, none⟩ = some (.int .i64 1) := hb7.cell 4
       have zf4 := hb7.free 4
       have z5 : w4.cell? ⟨w1.heap.size, 5, none⟩ = some (.int .i64 0) := hb7.cell 5
       have zf5 := hb7.free 5
       have z6 : w4.cell? ⟨w1.heap.size, 6, none⟩ = some (.string ⟨#[]⟩) := hb7.cell 6
       have zf6 := hb7.free 6
       have z7 : w4.cell? ⟨w1.heap.size, 7, none⟩ = some (.int .i64 (Tp.fst t.at_)) := hb7.cell 7
       have zf7 := hb7.free 7
       have z8 : w4.cell? ⟨w1.heap.size, 8, none⟩ = some (.int .i64 200) := hb7.cell 8
       have zf8 := hb7.free 8
       have z9 : w4.cell? ⟨w1.heap.size, 9, none⟩ = some (.int .i64 t.at_) := hb7.cell 9
       have zf9 := hb7.free 9
       have z10 : w4.cell? ⟨w1.heap.size, 10, none⟩ = some (.int .i64 0) := hb7.cell 10
       have zf10 := hb7.free 10
       have z11 : w4.cell? ⟨w1.heap.size, 11, none⟩ = some (.int .i64 0) := hb7.cell 11
       have zf11 := hb7.free 11
       have z12 : w4.cell? ⟨w1.heap.size, 12, none⟩ = some (.int .i64 0) := hb7.cell 12
       have zf12 := hb7.free 12
       have z13 : w4.cell? ⟨w1.heap.size, 13, none⟩ = some (.bool false) := hb7.cell 13
       have zf13 := hb7.free 13
       have zl := hb7.lt
       clear hb7)
    | fail)
  obtain ⟨W5, hW5⟩ : ∃ W5, W5 = ((((((((((((((w4.setCell ⟨w1.heap.size, 0, none⟩ (.string (nu t))).setCell ⟨w1.heap.size, 1, none⟩ (.string nmB)).setCell ⟨w1.heap.size, 2, none⟩ (.slice (some ⟨ub, uo, none⟩) 1 uc)).setCell ⟨w1.heap.size, 3, none⟩ (.bool false)).setCell ⟨w1.heap.size, 4, none⟩ (.int .i64 1)).setCell ⟨w1.heap.size, 5, none⟩ (.int .i64 0)).setCell ⟨w1.heap.size, 6, none⟩ (.string ⟨#[]⟩)).setCell ⟨w1.heap.size, 7, none⟩ (.int .i64 (Tp.fst t.at_))).setCell ⟨w1.heap.size, 8, none⟩ (.int .i64 200)).setCell ⟨w1.heap.size, 9, none⟩ (.int .i64 t.at_)).setCell ⟨w1.heap.size, 10, none⟩ (.int .i64 t.tm)).setCell ⟨w1.heap.size, 11, none⟩ (.int .i64 t.sq)).setCell ⟨w1.heap.size, 12, none⟩ (.int .i64 0)).setCell ⟨w1.heap.size, 13, none⟩ (.bool false)) := ⟨_, rfl⟩
  rw [← hW5]
  have HB5 := Lib.hid (show Cel W5 w1.heap.size #[.string (nu t), .string nmB, .slice (some ⟨ub, uo, none⟩) 1 uc, .bool false, .int .i64 1, .int .i64 0, .string ⟨#[]⟩, .int .i64 (Tp.fst t.at_), .int .i64 200, .int .i64 t.at_, .int .i64 t.tm, .int .i64 t.sq, .int .i64 0, .bool false] 81 by
    rw [hW5]
    have := ((((((((((((((HB7.out.set 0 (.string (nu t))).set 1 (.string nmB)).set 2 (.slice (some ⟨ub, uo, none⟩) 1 uc)).set 3 (.bool false)).set 4 (.int .i64 1)).set 5 (.int .i64 0)).set 6 (.string ⟨#[]⟩)).set 7 (.int .i64 (Tp.fst t.at_))).set 8 (.int .i64 200)).set 9 (.int .i64 t.at_)).set 10 (.int .i64 t.tm)).set 11 (.int .i64 t.sq)).set 12 (.int .i64 0)).set 13 (.bool false))
    simpa using this)
  have hsz : W5.heap.size = w4.heap.size := by rw [hW5]; simp only [sz_set]
  have hbk : ∀ b, b ≠ w1.heap.size → W5.heap[b]? = w4.heap[b]? := fun b hb => by
    rw [hW5]
    repeat rw [Below.heap_setCell _ _ _ _ (show b ≠ w1.heap.size from hb)]
  have hx7 : τ' w1.heap.size = none := Classical.byContradiction fun hc => by
    rcases HG7.out _ hc with d | d
    · exact d HT0.out
    · have := HB.out.lt; omega
  have H5 := Lib.hid (H7.out.same (w1 := W5) (by omega) (fun b hb => hbk b (fun e => hb (by rw [e]; exact hx7))))
  have HR5 := Lib.hid (show Cel W5 w.heap.size _ _ from (hbk _ (by have := HRL.out; omega)).trans HR7.out)
  have HF5 := Lib.hid (show Fr τ w W5 by
    have f := ((Fr.of_below (τ := τ) HX.out).trans HG1.out HF7.out)
    rw [hW5]
    repeat (first | (with_reducible exact f) | (refine Fr.setCell ?_ (.inr (Nat.le_of_lt HRL.out)) _)))
  have HG5 := Lib.hid (show Gr τ τ' w.heap.size from HG1.out.trans HG7.out HX.out.size)
  have HR1 := Lib.hid (show τ' w.heap.size = none from Classical.byContradiction fun hc => by
    rcases HG7.out _ hc with d | d
    · exact d HR0.out
    · have := HR.out.lt; omega)
  clear hW5 hsz hbk hx7 z0 z1 z2 z3 z4 z5 z6 z7 z8 z9 z10 z11 z12 z13 zf0 zf1 zf2 zf3 zf4 zf5 zf6 zf7 zf8 zf9 zf10 zf11 zf12 zf13 zl
  go_wp2
  have hfl : Tp.fst t.at_ ≤ 18 := Tp.fst_le hat
  have hns := nu_size h1 h2 h3 h4
  have HIS := Lib.hid fun W => issue_any key (nu t) (tx t.x t.y) (.slice (some ⟨ub, uo, none⟩) 1 uc) (Tp.fst t.at_) t.at_ t.tm t.sq W ⟨_, _, _, rfl⟩ (by omega) (by omega) (by rw [tx_size]; decide) (by rw [tx_size]; decide) (by omega) (by omega)
  have hne1 : w1.heap.size ≠ w.heap.size := by have := HRL.out; omega
  have hnp : p ≠ w.heap.size := fun e => by have := HR1.out; rw [← e, H5.out.tp] at this; cases this
  have hk3 : ∀ y, W5.grownBy y (some w.heap.size) → y.cell? ⟨p, 3, none⟩ = some (.int .u64 key) := fun y hy => by
    rw [(cel_gb H5.out.cp hy hnp).cell]; exact H5.out.c3
  have hlt := fun y (hy : W5.grownBy y (some w.heap.size)) => show y.rangeAt w1.heap.size 0 (tkC (t, .slice (some ⟨ub, uo, none⟩) 1 uc)) from fun j u hj => by
    rw [Nat.zero_add]
    refine ((cel_gb HB5.out hy hne1).cell j).trans ?_
    rw [← hj]
    exact List.getElem?_toArray
  have HS5 := Lib.hid (gb_drew (gb_refl W5 w.heap.size))
  clear hfl hns hne1 hnp
  refine wp_region_held_drew (S := fun y => W5.grownBy y (some w.heap.size)) (by kernel_rfl) HS5.out (fun hHeld => ?_)
  refine wpAnyH_take (i := 0) (oi := _) (v := ?_) rfl (by kernel_rfl) (by kernel_rfl) (by kernel_rfl) (fun _ _ _ h => h) (Or.inl ⟨by rfl, ?_⟩) (by assumption) ?_
  rotate_left
  · (intro w hSw; (try dsimp only at hSw); go_simp; (try with_reducible rfl))
  simp only [Act.put, List.setIfInBounds_toArray, List.set_cons_zero, List.set_cons_succ]
  refine wpAnyH_take (i := 1) (oi := _) (v := ?_) rfl (by kernel_rfl) (by kernel_rfl) (by kernel_rfl) (fun _ _ _ h => h) (Or.inl ⟨by rfl, ?_⟩) (by assumption) ?_
  rotate_left
  · (intro w hSw; (try dsimp only at hSw); go_simp; (try with_reducible rfl))
  simp only [Act.put, List.setIfInBounds_toArray, List.set_cons_zero, List.set_cons_succ]
  refine wpAnyH_take (i := 2) (oi := _) (v := ?_) rfl (by kernel_rfl) (by kernel_rfl) (by kernel_rfl) (fun _ _ _ h => h) (Or.inl ⟨by rfl, ?_⟩) (by assumption) ?_
  rotate_left
  · (intro w hSw; (try dsimp only at hSw); go_simp; (try with_reducible rfl))
  simp only [Act.put, List.setIfInBounds_toArray, List.set_cons_zero, List.set_cons_succ]
  refine wpAnyH_take (i := 3) (oi := _) (v := ?_) rfl (by kernel_rfl) (by kernel_rfl) (by kernel_rfl) (fun _ _ _ h => h) (Or.inl ⟨by rfl, ?_⟩) (by assumption) ?_
  rotate_left
  · (intro w hSw; (try dsimp only at hSw); go_simp; (try with_reducible rfl))
  simp only [Act.put, List.setIfInBounds_toArray, List.set_cons_zero, List.set_cons_succ]
  refine wpAnyH_take (i := 4) (oi := _) (v := _) rfl (by kernel_rfl) (by kernel_rfl) (by kernel_rfl) (fun _ _ _ h => h) (yieldsIf_load_mid (by rfl) 81 _ rfl w1.heap.size 0 rfl (tkC (t, .slice (some ⟨ub, uo, none⟩) 1 uc)) _ hlt Tryz.underlying81 rfl (by kernel_rfl)) (by assumption) ?_
  simp only [Act.put, List.setIfInBounds_toArray, List.set_cons_zero, List.set_cons_succ]
  refine wpAnyH_take (i := 5) (oi := _) (v := ?_) rfl (by kernel_rfl) (by kernel_rfl) (by kernel_rfl) (fun _ _ _ h => h) (Or.inl ⟨by rfl, ?_⟩) (by assumption) ?_
  rotate_left
  · (intro w hSw; (try dsimp only at hSw); go_simp; (try with_reducible rfl))
  simp only [Act.put, List.setIfInBounds_toArray, List.set_cons_zero, List.set_cons_succ]
  refine wpAnyH_ready (rs := [6]) (by kernel_rfl) (by simp) ?_
  refine AllReadyH.cons (o := _) rfl (fun K2 hK => ?_) AllReadyH.nil
  go_simp
  refine (HIS.out _).mono ?_
  rintro e w6 ⟨rfl, hb6⟩
  have HS6 := Lib.hid (gb_of_below HS5.out hb6)
  have HR6 := Lib.hid (HR5.out.drew.below hb6 (show _ < W5.drew.heap.size from HR5.out.lt))
  have HB6 := Lib.hid (show Below W5.heap.size W5 w6 from (Below.refl W5.heap.size W5).drew.trans hb6)
  have r0 := HR6.out.cell 0
  have f0 := HR6.out.free 0
  have r1 := HR6.out.cell 1
  have f1 := HR6.out.free 1
  have r2 := HR6.out.cell 2
  have f2 := HR6.out.free 2
  have r3 := HR6.out.cell 3
  have f3 := HR6.out.free 3
  have r4 := HR6.out.cell 4
  have f4 := HR6.out.free 4
  have r5 := HR6.out.cell 5
  have f5 := HR6.out.free 5
  have r6 := HR6.out.cell 6
  have f6 := HR6.out.free 6
  have rl := HR6.out.lt
  simp at r0 r1 r2 r3 r4 r5 r6
  clear hb6
  unfold rcpV
  go_wp2_with fail
  refine hK.out _ _ ?_ (fun hHeld => ?_)
  · exact HS6.out
  clear hK K2
  try simp only [Act.put, List.setIfInBounds_toArray, List.set_cons_zero, List.set_cons_succ]
  refine wpAnyH_ready (rs := [7]) (by kernel_rfl) (by simp) ?_
  refine AllReadyH.cons (o := _) rfl (fun K2 hK => ?_) AllReadyH.nil
  go_simp
  refine hK.out _ _ ?_ (fun hHeld => ?_)
  · exact gb_set (gb_set (gb_set (gb_set (gb_set (gb_set (gb_set HS6.out _ _) _ _) _ _) _ _) _ _) _ _) _ _
  clear hK K2
  try simp only [Act.put, List.setIfInBounds_toArray, List.set_cons_zero, List.set_cons_succ]
  refine wpAnyH_ready (rs := [8]) (by kernel_rfl) (by simp) ?_
  refine AllReadyH.cons (o := _) rfl (fun K2 hK => ?_) AllReadyH.nil
  go_simp
  refine hK.out _ _ ?_ (fun hHeld => ?_)
  · exact gb_set (gb_set (gb_set (gb_set (gb_set (gb_set (gb_set HS6.out _ _) _ _) _ _) _ _) _ _) _ _) _ _
  clear hK K2
  try simp only [Act.put, List.setIfInBounds_toArray, List.set_cons_zero, List.set_cons_succ]
  refine wpAnyH_done (by kernel_rfl) ?_ _
  clear hk3 hlt
  go_wp2
  refine bodyPost_ret (v := .tuple #[rcV key t, .int .i64 0]) (by simp [results, Tryz.results15, go_sem, rcV, rcpV, r0, r1, r2, r3, r4, r5, r6]) rfl ⟨τ', .slice (some ⟨ub, uo, none⟩) 1 uc, cs', tv', D', rfl, ?_, ?_, HG5.out⟩
  · refine (H5.out.below HB6.out).same ?_ (fun b hb => ?_)
    · simp only [sz_set]; exact Nat.le_refl _
    · have hne : b ≠ w.heap.size := fun e => hb (by rw [e]; exact HR1.out)
      repeat rw [Below.heap_setCell _ _ _ _ (show b ≠ w.heap.size from hne)]
  · have f := HF5.out.then HB6.out
    repeat (first | (with_reducible exact f) | (refine Fr.setCell ?_ (.inr (Nat.le_refl w.heap.size)) _))
end
end Go.Proofs.YtnnocbelgfhecaaGreatDoor
