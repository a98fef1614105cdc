/- The register: Add. -/
import Derived.Test.YtnnocbelgfhecaaGreatDoorTwl
import Derived.Test.YtnnocbelgfhecaaGreatDoorTrf
import Derived.Great.BuildSlice
set_option linter.unusedSimpArgs false
namespace Go.Proofs.YtnnocbelgfhecaaGreatDoor
open Go.ChangeShapes Go.WideShapes Go.ChangeAt Go.RowKit Go.Lott
theorem step_wp {P : Program} {w : World} {ops : Array Oper} {o : Oper} {a : Act} {K : Act → World → Prop} {Q : Exit → Act → World → Prop} {E : Prop} (hgd : o.guard = none) (h : Oper.wp P o a w K Q) : if Region.wanted o (yielded ops a.tmps) = true then Oper.wp P o a w K Q else E := by
  have hw : Region.wanted o (yielded ops a.tmps) = true := by simp [Region.wanted, hgd]
  rw [if_pos hw]
  exact h
theorem idx_none (b : Nat) (w : World) : Calls Tryz.prog 35 #[.slice none 0 0, .func (.func 36) #[] #[.pointer (some ⟨b, 0, none⟩)]] w (RetS (.int .i64 (-1)) w) := by
  go_enter Tryz.func35, Tryz.ntmps35
  go_wp2
  refine wp_loop_rounds 1 ?_
  rw [rounds_succ]
  go_wp2
  go_ret
  exact ⟨rfl, rfl⟩
theorem game_none (p : Nat) (s : ByteArray) (w : World) (h : w.cell? ⟨p, 0, none⟩ = some (.slice none 0 0)) (hp : p < w.heap.size) : Calls Tryz.prog 18 #[.pointer (some ⟨p, 0, none⟩), .string s] w (RetB (.pointer none) w) := by
  have c0 : (w.alloc (.cells #[.string s] 9)).cell? ⟨p, 0, none⟩ = some (.slice none 0 0) := (cell_al _ hp).trans h
  have HX := Lib.hid ((Below.refl w.heap.size w).alloc (Nat.le_refl _) (.cells #[.string s] 9))
  clear h
  go_enter Tryz.func18, Tryz.ntmps18
  go_wp2_with (go_at_call 35; (with_reducible refine (idx_none _ _).mono ?_); rintro e w1 ⟨rfl, rfl⟩)
  go_ret
  exact ⟨rfl, HX.out⟩
theorem infoGa : (Tryz.prog.info? 27).map (fun i => (i.zero, i.size, i.bytes)) = some (some (.agg #[.string ⟨#[]⟩, .int .i64 0, .int .i64 0, .int .i64 0, .int .i64 0, .int .i64 0, .int .i64 0, .int .i64 0, .int .i64 0, .int .i64 0, .int .i64 0, .int .i64 0, .int .i64 0, .int .i64 0, .int .i64 0, .int .i64 0, .int .i64 0, .int .i64 0, .int .i64 0, .int .i64 0, .slice none 0 0, .slice none 0 0]), 22, 216) := by kernel_rfl
theorem ownsRow_range {w : World} {B g n cap : Nat} {e : TypeId} {size : Nat} {xs : List Value} (h : w.ownsRow B e size (.slice (some ⟨g, 0, none⟩) n cap) n xs) : w.rangeAt g 0 xs ∧ (0 < n → n ≤ cap) ∧ B ≤ g ∧ g < w.heap.size := by
  obtain ⟨h0, h | ⟨g', cap', cur, hv, hg, hh, h1, h2, h3, h4⟩⟩ := h
  · cases h.1
  · simp at hv
    obtain ⟨rfl, rfl⟩ := hv
    have hc : Cel w g cur e := hh
    refine ⟨fun j u hj => ?_, fun _ => h1, hg, hc.lt⟩
    rw [Nat.zero_add, hc.cell j, ← hj, ← h4, List.getElem?_take]
    have hjl : j < xs.length := (List.getElem?_eq_some_iff.1 hj).1
    rw [if_pos (by omega)]
    exact (Array.getElem?_toList).symm
def addTau (p pm N gg vb : Nat) : Rl := fun b => if b = p then some (0, 0) else if b = pm then some (1, 0) else if b = gg ∨ b = vb then some (9, 0) else if N ≤ b ∧ b < N + 66 then (if (b - N) % 2 = 1 then some (3, (b - N) / 2) else some (4, (b - N) / 2)) else none
theorem add_obj {w w5 : World} {B p pm N gg cap n0 : Nat} {key : Int} {cs : Array Value} {v' : Value} (h : RNew w N p pm key cs 33) (hB : B ≤ p) (hX : Below w.heap.size w w5)
    (hown : w5.ownsRow p 27 22 (.slice (some ⟨gg, 0, none⟩) (0 + 1) cap) (0 + 1) ([] ++ (gcs v').toList)) (hgg : n0 ≤ gg) (_hn0 : w.heap.size ≤ n0) (ht : IsTierF w.heap.size w5 v') (hvb : ∀ b, v'.ownBlock = some b → b < n0) :
    ∃ τ cs' gc gs gm D, RObj (w5.setCell ⟨p, 0, none⟩ (.slice (some ⟨gg, 0, none⟩) 1 cap)) B τ p key v' [] 0 0 (fun _ _ => False) cs' gg gc pm (.slice none 0 0) gs gm D ∧ (∀ b, τ b ≠ none → p ≤ b) := by
  obtain ⟨vb, vo, vc, rfl, tc, tB, tl, t0, t1, t2, t3, t4, t5⟩ := ht
  have hv := hvb vb rfl
  obtain ⟨hr, hcap, hg1, hgl⟩ := ownsRow_range hown
  have hpN := h.pN
  have hpm := h.pm_
  have hws := h.ws
  have hz := h.sz
  have hne : gg ≠ p ∧ vb ≠ p ∧ gg ≠ pm ∧ vb ≠ pm ∧ vb ≠ gg := by omega
  have hsz : (w5.setCell ⟨p, 0, none⟩ (.slice (some ⟨gg, 0, none⟩) 1 cap)).heap.size = w5.heap.size := sz_set _ _ _
  have hbk : ∀ b, b ≠ p → (w5.setCell ⟨p, 0, none⟩ (.slice (some ⟨gg, 0, none⟩) 1 cap)).heap[b]? = w5.heap[b]? := fun b hb => Below.heap_setCell _ _ _ _ (show b ≠ p from hb)
  have hbw : ∀ b, b ≠ p → b < w.heap.size → (w5.setCell ⟨p, 0, none⟩ (.slice (some ⟨gg, 0, none⟩) 1 cap)).heap[b]? = w.heap[b]? := fun b hb hl => (hbk b hb).trans (hX.block b hl)
  have hxs := hX.size
  have tg3 : ∀ k, k < 33 → addTau p pm N gg vb (N + 2 * k + 1) = some (3, k) := fun k hk => by
    unfold addTau
    rw [if_neg (by omega), if_neg (by omega), if_neg (by omega), if_pos (by omega), if_pos (by omega), show (N + 2 * k + 1 - N) / 2 = k by omega]
  have tg4 : ∀ k, k < 33 → addTau p pm N gg vb (N + 2 * k) = some (4, k) := fun k hk => by
    unfold addTau
    rw [if_neg (by omega), if_neg (by omega), if_neg (by omega), if_pos (by omega), if_neg (by omega), show (N + 2 * k - N) / 2 = k by omega]
  have tv : addTau p pm N gg vb vb = some (9, 0) := by
    unfold addTau
    rw [if_neg (by omega), if_neg (by omega), if_pos (by omega)]
  have hk9 : ∀ i, (w5.setCell ⟨p, 0, none⟩ (.slice (some ⟨gg, 0, none⟩) 1 cap)).cell? ⟨vb, i, none⟩ = w5.cell? ⟨vb, i, none⟩ := fun i => cell_same (hbk vb (by omega)) i
  have hcs : ∀ i, 0 < i → (cs.setIfInBounds 0 (.slice (some ⟨gg, 0, none⟩) 1 cap))[i]? = cs[i]? := fun i hi => Array.getElem?_setIfInBounds_ne (by omega)
  have hlow : ∀ b, addTau p pm N gg vb b ≠ none → p ≤ b ∧ b < w5.heap.size := fun b hb => by
    unfold addTau at hb
    split at hb
    · omega
    split at hb
    · omega
    split at hb
    · omega
    split at hb
    · omega
    · exact absurd rfl hb
  refine ⟨addTau p pm N gg vb, cs.setIfInBounds 0 (.slice (some ⟨gg, 0, none⟩) 1 cap), cap, fun k => N + 2 * k + 1, fun k => N + 2 * k, .map [], ?_, fun b hb => (hlow b hb).1⟩
  exact {
    low := fun b hb => by have := hlow b hb; omega
    tp := by unfold addTau; rw [if_pos rfl]
    cp := (h.cp.below hX h.cp.lt).set 0 _
    sz := by simp [hz]
    c0 := by rw [Array.getElem?_setIfInBounds_self_of_lt (by omega)]
    c1 := (hcs 1 (by omega)).trans h.c1
    c2 := (hcs 2 (by omega)).trans h.c2
    c3 := (hcs 3 (by omega)).trans h.c3
    cg := fun k hk => (hcs _ (by omega)).trans (h.cg k hk)
    g1 := hcap (by omega)
    gT := by unfold addTau; rw [if_neg (by omega), if_neg (by omega), if_pos (by omega)]
    gR := range_same (by simpa using hr) (hbk gg (by omega))
    ti := ⟨vb, vo, vc, rfl, tc, tv, by omega, (hk9 _).trans t0, (hk9 _).trans t1, (hk9 _).trans t2, (hk9 _).trans t3, (hk9 _).trans t4, (hk9 _).trans t5⟩
    tm := by unfold addTau; rw [if_neg (by omega), if_pos rfl]
    mp := by
      have hm := (hbw pm (by omega) (by omega)).trans h.mp
      have h0 := World.ownsMap_made w Tryz.prog 9 intR
      obtain ⟨es, clock, he, r⟩ := h0
      have : (w.alloc (.map #[] 0)).heap[w.heap.size]? = some (.map #[] 0) := heap_alloc_new w _
      rw [this] at he
      cases he
      exact ⟨_, _, hm, r⟩
    tk := ⟨rfl, .inl ⟨rfl, rfl⟩⟩
    tt := fun g hg => by cases hg
    ut := fun q hq => by cases hq
    gt := fun k hk => ⟨tg3 k hk, tg4 k hk⟩
    gr := fun k hk => (h.gr k hk).same (hbw _ (by omega) (by omega)) (hbw _ (by omega) (by omega)) }
set_option maxHeartbeats 4000000 in
set_option maxRecDepth 100000 in
theorem addR_any (v : Value) (w : World) (B p pm N : Nat) (key : Int) (cs : Array Value) (h : RNew w N p pm key cs 33) (hB : B ≤ p) (hv : IsTier w v) :
    Calls Tryz.prog 6 #[.pointer (some ⟨p, 0, none⟩), .agg (gcs v)] w fun e w' => e = .returned (.int .i64 0) ∧ ∃ τ v' cs' gb gc gs gm D, RObj w' B τ p key v' [] 0 0 (fun _ _ => False) cs' gb gc pm (.slice none 0 0) gs gm D ∧ (∀ b, τ b ≠ none → p ≤ b) ∧ Below p w w' := by
  have hX : Below w.heap.size w (w.alloc (.cells (gcs v) 27)) := (Below.refl _ _).alloc (Nat.le_refl _) _
  have HX := Lib.hid hX
  have HG0 := Lib.hid (show Cel (w.alloc (.cells (gcs v) 27)) w.heap.size (gcs v) 27 from Cel.new _ _ _)
  have HV := Lib.hid (hv.below hX (Nat.le_refl _))
  have HN := Lib.hid h
  have HCK := Lib.hid (show Calls Tryz.prog 17 #[.agg (gcs v)] (w.alloc (.cells (gcs v) 27)) (RetB (.tuple #[.int .i64 0, .string ⟨#[]⟩]) (w.alloc (.cells (gcs v) 27))) from check_any v _ HV.out)
  clear h hX hv
  go_enter Tryz.func6, Tryz.ntmps6
  go_wp2_with (first
    | (refine wpList_load_row rfl 27 _ rfl w.heap.size rfl _ _ _ _ HG0.out Tryz.underlying27 rfl (by kernel_rfl) ?_)
    | (go_at_call 17; (with_reducible refine HCK.out.mono ?_); rintro e w1 ⟨rfl, hb1⟩; have HB1 := Lib.hid hb1; clear hb1)
    | fail)
  replace HX := Lib.hid (HX.out.trans (HB1.out.mono HX.out.size))
  have HG := Lib.hid (HG0.out.below HB1.out HG0.out.lt)
  replace HV := Lib.hid (HV.out.below HB1.out (Nat.le_refl _))
  have hcp := HN.out.cp.below HX.out HN.out.cp.lt
  have HCP := Lib.hid hcp
  have HR0 := Lib.hid (show Cel w1 p cs 64 from hcp)
  clear hcp HB1 HG0 HCK
  have p0 : w1.cell? ⟨p, 0, none⟩ = some (.slice none 0 0) := by rw [HR0.out.cell, HN.out.c0]
  have q0 := Sub.cell p0 HR0.out.lt
  have b0 := Sub.cell (show w1.cell? ⟨w.heap.size, 0, none⟩ = some (.string nmB) from HG.out.cell 0) HG.out.lt
  have HGM := Lib.hid (show ∀ x : Sub w1.heap.size w1, Calls Tryz.prog 18 #[.pointer (some ⟨p, 0, none⟩), .string nmB] x.w (RetB (.pointer none) x.w) from fun x => game_none p nmB x.w ((x.h.cell (p := ⟨p, 0, none⟩) HR0.out.lt).trans p0) (Nat.lt_of_lt_of_le HR0.out.lt x.h.size))
  refine wp_region_below (by kernel_rfl) (by kernel_rfl) ?_
  repeat (first
    | go_big_quiet_step ((go_at_call 18; exact Sub.ofB _ (Nat.le_refl _) (HGM.out _))))
  refine wpQuiet_nil ?_
  rintro w2 ⟨⟨_, hb2⟩, rfl⟩
  have hb1 : Below w1.heap.size w1 w2 := hb2
  replace HG := Lib.hid (HG.out.below hb1 HG.out.lt)
  replace HX := Lib.hid (HX.out.trans (hb1.mono HX.out.size))
  replace HV := Lib.hid (HV.out.below hb1 (Nat.le_refl _))
  replace HR0 := Lib.hid (HR0.out.below hb1 HR0.out.lt)
  clear hb1 hb2 p0 q0 b0 HGM HCP
  have p0 : w2.cell? ⟨p, 0, none⟩ = some (.slice none 0 0) := by rw [HR0.out.cell, HN.out.c0]
  go_wp2
  have hS := Below.refl w2.heap.size w2
  have HSS := Lib.hid hS
  have hl0 : ∀ y, Below w2.heap.size w2 y → y.cell? ⟨p, 0, none⟩ = some (.slice none 0 0) := fun y hy => (hy.cell (p := ⟨p, 0, none⟩) HR0.out.lt).trans p0
  have hlg := fun y (hy : Below w2.heap.size w2 y) => show y.rangeAt w.heap.size 0 (gcs v).toList from fun j u hj => by
    rw [Nat.zero_add]
    refine ((HG.out.below hy HG.out.lt).cell j).trans ?_
    rw [← hj]
    exact (Array.getElem?_toList).symm
  clear hS p0
  have HLG := Lib.hid hlg
  refine wp_region_held_drew (S := fun y => y.rangeAt w.heap.size 0 (gcs v).toList) (by kernel_rfl) (hlg _ HSS.out.drew) (fun hHeld => ?_)
  replace hlg : ∀ y : World, y.rangeAt w.heap.size 0 (gcs v).toList → y.rangeAt w.heap.size 0 (gcs v).toList := fun y hy => hy
  refine wpAnyH_take (i := 0) (oi := _) (v := ?_) rfl (by kernel_rfl) (by kernel_rfl) (by kernel_rfl) (fun _ _ _ h => h) (Or.inl ⟨by rfl, ?_⟩) (by assumption) ?_
  rotate_left
  · (intro w hSw; (try dsimp only at hSw); go_simp; (try with_reducible rfl))
  simp only [Act.put, List.setIfInBounds_toArray, List.set_cons_zero, List.set_cons_succ]
  refine wpAnyH_take (i := 1) (oi := _) (v := ?_) rfl (by kernel_rfl) (by kernel_rfl) (by kernel_rfl) (fun _ _ _ h => h) (Or.inl ⟨by rfl, ?_⟩) (by assumption) ?_
  rotate_left
  · (intro w hSw; (try dsimp only at hSw); go_simp; (try with_reducible rfl))
  simp only [Act.put, List.setIfInBounds_toArray, List.set_cons_zero, List.set_cons_succ]
  refine wpAnyH_take (i := 2) (oi := _) (v := ?_) rfl (by kernel_rfl) (by kernel_rfl) (by kernel_rfl) (fun _ _ _ h => h) (Or.inl ⟨by rfl, ?_⟩) (by assumption) ?_
  rotate_left
  · (intro w hSw; (try dsimp only at hSw); go_simp; (try with_reducible rfl))
  simp only [Act.put, List.setIfInBounds_toArray, List.set_cons_zero, List.set_cons_succ]
  refine wpAnyH_take (i := 3) (oi := _) (v := ?_) rfl (by kernel_rfl) (by kernel_rfl) (by kernel_rfl) (fun _ _ _ h => h) (Or.inl ⟨by rfl, ?_⟩) (by assumption) ?_
  rotate_left
  · (intro w hSw; (try dsimp only at hSw); go_simp; (try with_reducible rfl))
  simp only [Act.put, List.setIfInBounds_toArray, List.set_cons_zero, List.set_cons_succ]
  refine wpAnyH_take (i := 4) (oi := _) (v := ?_) rfl (by kernel_rfl) (by kernel_rfl) (by kernel_rfl) (fun _ _ _ h => h) (Or.inl ⟨by rfl, ?_⟩) (by assumption) ?_
  rotate_left
  · (intro w hSw; (try dsimp only at hSw); go_simp; (try with_reducible rfl))
  simp only [Act.put, List.setIfInBounds_toArray, List.set_cons_zero, List.set_cons_succ]
  refine wpAnyH_take (i := 6) (oi := _) (v := _) rfl (by kernel_rfl) (by kernel_rfl) (by kernel_rfl) (fun _ _ _ h => h) (yieldsIf_load_mid (by rfl) 27 _ rfl w.heap.size 0 rfl (gcs v).toList _ hlg Tryz.underlying27 rfl (gcs_len v)) (by assumption) ?_
  simp only [Act.put, List.setIfInBounds_toArray, List.set_cons_zero, List.set_cons_succ]
  have p0 := hl0 _ HSS.out.drew
  have HPW := Lib.hid (show p < w.heap.size from by have := HN.out.ws; have := HN.out.pN; omega)
  refine wpAnyH_ready (rs := [5, 7]) (by kernel_rfl) (by simp) ?_
  refine AllReadyH.cons (o := _) rfl (fun K2 hK => ?_) (AllReadyH.cons (o := _) rfl (fun K2 hK => ?_) AllReadyH.nil)
  · go_simp
    refine hK.out _ _ ?_ (fun hHeld => ?_)
    · exact HLG.out _ HSS.out.drew
    clear hK K2
    try simp only [Act.put, List.setIfInBounds_toArray, List.set_cons_zero, List.set_cons_succ]
    refine wpAnyH_ready (rs := [7]) (by kernel_rfl) (by simp) ?_
    refine AllReadyH.cons (o := _) rfl (fun K2 hK => ?_) AllReadyH.nil
    go_simp
    refine (copyG_any _ _ (HV.out.below HSS.out.drew (Nat.le_refl _))).mono ?_
    rintro e w3 ⟨v', rfl, ht3, hb3⟩
    have HT3 := Lib.hid ht3
    obtain ⟨vb, vo, vc, rfl, _⟩ := ht3
    replace HSS := Lib.hid (show Below w2.heap.size w2 w3 from HSS.out.drew.trans (hb3.mono HSS.out.size))
    clear hb3
    go_wp2_with fail
    refine hK.out _ _ ?_ (fun hHeld => ?_)
    · exact HLG.out _ HSS.out
    clear hK K2
    try simp only [Act.put, List.setIfInBounds_toArray, List.set_cons_zero, List.set_cons_succ]
    refine wpAnyH_ready (rs := [8]) (by kernel_rfl) (by simp) ?_
    refine AllReadyH.cons (o := _) rfl (fun K2 hK => ?_) AllReadyH.nil
    obtain ⟨i0, hi0, hz0, hz1, hz2⟩ := info_parts infoGa
    refine step_wp rfl (wp_buildSlice 56 27 1 _ rfl (gcs (.slice (some ⟨vb, vo, none⟩) 1 vc)) i0 _ Tryz.underlying56 hi0 hz0 (by omega) (by omega) (by rw [hz1]; kernel_rfl) ?_)
    have hal := (Below.refl w3.heap.size w3).alloc (Nat.le_refl _) (.cells (gcs (.slice (some ⟨vb, vo, none⟩) 1 vc)) 27)
    refine hK.out _ _ ?_ (fun hHeld => ?_)
    · exact HLG.out _ (HSS.out.trans (hal.mono HSS.out.size))
    clear hK K2
    try simp only [Act.put, List.setIfInBounds_toArray, List.set_cons_zero, List.set_cons_succ]
    have hps : p ≤ w3.heap.size := by have := HR0.out.lt; have := HSS.out.size; omega
    refine wpAnyH_ready (rs := [9]) (by kernel_rfl) (by simp) ?_
    refine AllReadyH.cons (o := _) rfl (fun K2 hK => ?_) AllReadyH.nil
    refine step_append_lies _ (by rfl) _ _ _ (by rfl) p 27 i0 _ 22 216 Tryz.underlying56 hi0 hz0 hz1 hz2 rfl (by omega) (.slice none 0 0) 0 [] (by rfl) ⟨rfl, .inl ⟨rfl, rfl⟩⟩ ⟨w3.heap.size, 0, none⟩ 1 1 (gcs (.slice (some ⟨vb, vo, none⟩) 1 vc)).toList (by rfl) (by kernel_rfl) (World.news_of_block (cs := gcs (.slice (some ⟨vb, vo, none⟩) 1 vc)) (t := 27) (fr := (0, 0)) (heap_alloc_new w3 _)) (by simp [gcs, Value.oneCell']) (by omega) (by unfold maxLen; omega) (by omega) (by simp; omega) (w3.heap.size + 1) (by simp) ?_
    intro gg cap w5 hown hgrow hat hlt
    have hb5 : Below w2.heap.size w2 w5 := HSS.out.trans ((hal.grown hgrow (by simp) (by intro k hk; cases hk)).mono HSS.out.size)
    refine hK.out _ _ ?_ (fun hHeld => ?_)
    · exact HLG.out _ hb5
    clear hK K2 p0
    try simp only [Act.put, List.setIfInBounds_toArray, List.set_cons_zero, List.set_cons_succ]
    refine wpAnyH_take (i := 10) (oi := _) (v := ?_) rfl (by kernel_rfl) (by kernel_rfl) (by kernel_rfl) (fun _ _ _ h => h) (Or.inl ⟨by rfl, ?_⟩) (by assumption) ?_
    rotate_left
    · (intro w hSw; (try dsimp only at hSw); go_simp; (try with_reducible rfl))
    simp only [Act.put, List.setIfInBounds_toArray, List.set_cons_zero, List.set_cons_succ]
    refine wpAnyH_take (i := 11) (oi := _) (v := ?_) rfl (by kernel_rfl) (by kernel_rfl) (by kernel_rfl) (fun _ _ _ h => h) (Or.inl ⟨by rfl, ?_⟩) (by assumption) ?_
    rotate_left
    · (intro w hSw; (try dsimp only at hSw); go_simp; (try with_reducible rfl))
    simp only [Act.put, List.setIfInBounds_toArray, List.set_cons_zero, List.set_cons_succ]
    refine wpAnyH_take (i := 12) (oi := _) (v := ?_) rfl (by kernel_rfl) (by kernel_rfl) (by kernel_rfl) (fun _ _ _ h => h) (Or.inl ⟨by rfl, ?_⟩) (by assumption) ?_
    rotate_left
    · (intro w hSw; (try dsimp only at hSw); go_simp; (try with_reducible rfl))
    simp only [Act.put, List.setIfInBounds_toArray, List.set_cons_zero, List.set_cons_succ]
    have HB5 := Lib.hid hb5
    have HOW := Lib.hid hown
    have HGG := Lib.hid (show gg = w3.heap.size + 1 from hat.elim (fun e => by cases e) id)
    have HT5 := Lib.hid (HT3.out.below ((hal.grown hgrow (by simp) (by intro k hk; cases hk))))
    have HR5 := Lib.hid (HR0.out.below hb5 HR0.out.lt)
    have HGL := Lib.hid hlt
    have HS3 := Lib.hid HSS.out.size
    have p0 := hl0 _ hb5
    have p1 := HR5.out.free 0
    have p2 := HR5.out.lt
    clear hal hown hgrow hat hlt hb5 hps hi0 hz0 hz1 hz2
    refine wpAnyH_ready (rs := [13]) (by kernel_rfl) (by simp) ?_
    refine AllReadyH.cons (o := _) rfl (fun K2 hK => ?_) AllReadyH.nil
    go_simp
    refine hK.out _ _ ?_ (fun hHeld => ?_)
    · exact fun j u hj => (cell_st (show w.heap.size ≠ p by have := HPW.out; omega) _).trans (HLG.out _ HB5.out j u hj)
    clear hK K2
    try simp only [Act.put, List.setIfInBounds_toArray, List.set_cons_zero, List.set_cons_succ]
    refine wpAnyH_done (by kernel_rfl) ?_ _
    clear p0 p1 p2
    go_wp2
    obtain ⟨τ, cs', gc, gs, gm, D, HRO, HLO⟩ := add_obj (gg := gg) (cap := cap) (n0 := w3.heap.size) (v' := .slice (some ⟨vb, vo, none⟩) 1 vc) HN.out hB (HX.out.trans (HB5.out.mono HX.out.size)) HOW.out (by rw [HGG.out]; omega) (Nat.le_trans HX.out.size HS3.out) (HT5.out.mono HX.out.size) (fun b hb => by cases hb; obtain ⟨_, _, _, e, _, _, hl, _⟩ := HT3.out; cases e; exact hl)
    refine bodyPost_ret (v := .int .i64 0) (by simp [results, Tryz.results6, go_sem]) rfl ⟨rfl, τ, _, cs', gg, gc, gs, gm, D, HRO, HLO, ?_⟩
    exact ((HX.out.mono (Nat.le_of_lt HPW.out)).trans (HB5.out.mono (by have := HX.out.size; have := HPW.out; omega))).setCell (Nat.le_refl p) _
  · go_simp
    refine (copyG_any _ _ (HV.out.below HSS.out.drew (Nat.le_refl _))).mono ?_
    rintro e w3 ⟨v', rfl, ht3, hb3⟩
    have HT3 := Lib.hid ht3
    obtain ⟨vb, vo, vc, rfl, _⟩ := ht3
    replace HSS := Lib.hid (show Below w2.heap.size w2 w3 from HSS.out.drew.trans (hb3.mono HSS.out.size))
    clear hb3
    go_wp2_with fail
    refine hK.out _ _ ?_ (fun hHeld => ?_)
    · exact HLG.out _ HSS.out
    clear hK K2 p0
    try simp only [Act.put, List.setIfInBounds_toArray, List.set_cons_zero, List.set_cons_succ]
    have p0 := hl0 _ HSS.out
    refine wpAnyH_ready (rs := [5, 8]) (by kernel_rfl) (by simp) ?_
    refine AllReadyH.cons (o := _) rfl (fun K2 hK => ?_) (AllReadyH.cons (o := _) rfl (fun K2 hK => ?_) AllReadyH.nil)
    · go_simp
      refine hK.out _ _ ?_ (fun hHeld => ?_)
      · exact HLG.out _ HSS.out
      clear hK K2
      try simp only [Act.put, List.setIfInBounds_toArray, List.set_cons_zero, List.set_cons_succ]
      refine wpAnyH_ready (rs := [8]) (by kernel_rfl) (by simp) ?_
      refine AllReadyH.cons (o := _) rfl (fun K2 hK => ?_) AllReadyH.nil
      obtain ⟨i0, hi0, hz0, hz1, hz2⟩ := info_parts infoGa
      refine step_wp rfl (wp_buildSlice 56 27 1 _ rfl (gcs (.slice (some ⟨vb, vo, none⟩) 1 vc)) i0 _ Tryz.underlying56 hi0 hz0 (by omega) (by omega) (by rw [hz1]; kernel_rfl) ?_)
      have hal := (Below.refl w3.heap.size w3).alloc (Nat.le_refl _) (.cells (gcs (.slice (some ⟨vb, vo, none⟩) 1 vc)) 27)
      refine hK.out _ _ ?_ (fun hHeld => ?_)
      · exact HLG.out _ (HSS.out.trans (hal.mono HSS.out.size))
      clear hK K2
      try simp only [Act.put, List.setIfInBounds_toArray, List.set_cons_zero, List.set_cons_succ]
      have hps : p ≤ w3.heap.size := by have := HR0.out.lt; have := HSS.out.size; omega
      refine wpAnyH_ready (rs := [9]) (by kernel_rfl) (by simp) ?_
      refine AllReadyH.cons (o := _) rfl (fun K2 hK => ?_) AllReadyH.nil
      refine step_append_lies _ (by rfl) _ _ _ (by rfl) p 27 i0 _ 22 216 Tryz.underlying56 hi0 hz0 hz1 hz2 rfl (by omega) (.slice none 0 0) 0 [] (by rfl) ⟨rfl, .inl ⟨rfl, rfl⟩⟩ ⟨w3.heap.size, 0, none⟩ 1 1 (gcs (.slice (some ⟨vb, vo, none⟩) 1 vc)).toList (by rfl) (by kernel_rfl) (World.news_of_block (cs := gcs (.slice (some ⟨vb, vo, none⟩) 1 vc)) (t := 27) (fr := (0, 0)) (heap_alloc_new w3 _)) (by simp [gcs, Value.oneCell']) (by omega) (by unfold maxLen; omega) (by omega) (by simp; omega) (w3.heap.size + 1) (by simp) ?_
      intro gg cap w5 hown hgrow hat hlt
      have hb5 : Below w2.heap.size w2 w5 := HSS.out.trans ((hal.grown hgrow (by simp) (by intro k hk; cases hk)).mono HSS.out.size)
      refine hK.out _ _ ?_ (fun hHeld => ?_)
      · exact HLG.out _ hb5
      clear hK K2 p0
      try simp only [Act.put, List.setIfInBounds_toArray, List.set_cons_zero, List.set_cons_succ]
      refine wpAnyH_take (i := 10) (oi := _) (v := ?_) rfl (by kernel_rfl) (by kernel_rfl) (by kernel_rfl) (fun _ _ _ h => h) (Or.inl ⟨by rfl, ?_⟩) (by assumption) ?_
      rotate_left
      · (intro w hSw; (try dsimp only at hSw); go_simp; (try with_reducible rfl))
      simp only [Act.put, List.setIfInBounds_toArray, List.set_cons_zero, List.set_cons_succ]
      refine wpAnyH_take (i := 11) (oi := _) (v := ?_) rfl (by kernel_rfl) (by kernel_rfl) (by kernel_rfl) (fun _ _ _ h => h) (Or.inl ⟨by rfl, ?_⟩) (by assumption) ?_
      rotate_left
      · (intro w hSw; (try dsimp only at hSw); go_simp; (try with_reducible rfl))
      simp only [Act.put, List.setIfInBounds_toArray, List.set_cons_zero, List.set_cons_succ]
      refine wpAnyH_take (i := 12) (oi := _) (v := ?_) rfl (by kernel_rfl) (by kernel_rfl) (by kernel_rfl) (fun _ _ _ h => h) (Or.inl ⟨by rfl, ?_⟩) (by assumption) ?_
      rotate_left
      · (intro w hSw; (try dsimp only at hSw); go_simp; (try with_reducible rfl))
      simp only [Act.put, List.setIfInBounds_toArray, List.set_cons_zero, List.set_cons_succ]
      have HB5 := Lib.hid hb5
      have HOW := Lib.hid hown
      have HGG := Lib.hid (show gg = w3.heap.size + 1 from hat.elim (fun e => by cases e) id)
      have HT5 := Lib.hid (HT3.out.below ((hal.grown hgrow (by simp) (by intro k hk; cases hk))))
      have HR5 := Lib.hid (HR0.out.below hb5 HR0.out.lt)
      have HGL := Lib.hid hlt
      have HS3 := Lib.hid HSS.out.size
      have p0 := hl0 _ hb5
      have p1 := HR5.out.free 0
      have p2 := HR5.out.lt
      clear hal hown hgrow hat hlt hb5 hps hi0 hz0 hz1 hz2
      refine wpAnyH_ready (rs := [13]) (by kernel_rfl) (by simp) ?_
      refine AllReadyH.cons (o := _) rfl (fun K2 hK => ?_) AllReadyH.nil
      go_simp
      refine hK.out _ _ ?_ (fun hHeld => ?_)
      · exact fun j u hj => (cell_st (show w.heap.size ≠ p by have := HPW.out; omega) _).trans (HLG.out _ HB5.out j u hj)
      clear hK K2
      try simp only [Act.put, List.setIfInBounds_toArray, List.set_cons_zero, List.set_cons_succ]
      refine wpAnyH_done (by kernel_rfl) ?_ _
      clear p0 p1 p2
      go_wp2
      obtain ⟨τ, cs', gc, gs, gm, D, HRO, HLO⟩ := add_obj (gg := gg) (cap := cap) (n0 := w3.heap.size) (v' := .slice (some ⟨vb, vo, none⟩) 1 vc) HN.out hB (HX.out.trans (HB5.out.mono HX.out.size)) HOW.out (by rw [HGG.out]; omega) (Nat.le_trans HX.out.size HS3.out) (HT5.out.mono HX.out.size) (fun b hb => by cases hb; obtain ⟨_, _, _, e, _, _, hl, _⟩ := HT3.out; cases e; exact hl)
      refine bodyPost_ret (v := .int .i64 0) (by simp [results, Tryz.results6, go_sem]) rfl ⟨rfl, τ, _, cs', gg, gc, gs, gm, D, HRO, HLO, ?_⟩
      exact ((HX.out.mono (Nat.le_of_lt HPW.out)).trans (HB5.out.mono (by have := HX.out.size; have := HPW.out; omega))).setCell (Nat.le_refl p) _
    · obtain ⟨i0, hi0, hz0, hz1, hz2⟩ := info_parts infoGa
      refine step_wp rfl (wp_buildSlice 56 27 1 _ rfl (gcs (.slice (some ⟨vb, vo, none⟩) 1 vc)) i0 _ Tryz.underlying56 hi0 hz0 (by omega) (by omega) (by rw [hz1]; kernel_rfl) ?_)
      have hal := (Below.refl w3.heap.size w3).alloc (Nat.le_refl _) (.cells (gcs (.slice (some ⟨vb, vo, none⟩) 1 vc)) 27)
      refine hK.out _ _ ?_ (fun hHeld => ?_)
      · exact HLG.out _ (HSS.out.trans (hal.mono HSS.out.size))
      clear hK K2
      try simp only [Act.put, List.setIfInBounds_toArray, List.set_cons_zero, List.set_cons_succ]
      clear p0
      have p0 := hl0 _ (HSS.out.trans (hal.mono HSS.out.size))
      refine wpAnyH_ready (rs := [5]) (by kernel_rfl) (by simp) ?_
      refine AllReadyH.cons (o := _) rfl (fun K2 hK => ?_) AllReadyH.nil
      go_simp
      refine hK.out _ _ ?_ (fun hHeld => ?_)
      · exact HLG.out _ (HSS.out.trans (hal.mono HSS.out.size))
      clear hK K2
      try simp only [Act.put, List.setIfInBounds_toArray, List.set_cons_zero, List.set_cons_succ]
      have hps : p ≤ w3.heap.size := by have := HR0.out.lt; have := HSS.out.size; omega
      refine wpAnyH_ready (rs := [9]) (by kernel_rfl) (by simp) ?_
      refine AllReadyH.cons (o := _) rfl (fun K2 hK => ?_) AllReadyH.nil
      refine step_append_lies _ (by rfl) _ _ _ (by rfl) p 27 i0 _ 22 216 Tryz.underlying56 hi0 hz0 hz1 hz2 rfl (by omega) (.slice none 0 0) 0 [] (by rfl) ⟨rfl, .inl ⟨rfl, rfl⟩⟩ ⟨w3.heap.size, 0, none⟩ 1 1 (gcs (.slice (some ⟨vb, vo, none⟩) 1 vc)).toList (by rfl) (by kernel_rfl) (World.news_of_block (cs := gcs (.slice (some ⟨vb, vo, none⟩) 1 vc)) (t := 27) (fr := (0, 0)) (heap_alloc_new w3 _)) (by simp [gcs, Value.oneCell']) (by omega) (by unfold maxLen; omega) (by omega) (by simp; omega) (w3.heap.size + 1) (by simp) ?_
      intro gg cap w5 hown hgrow hat hlt
      have hb5 : Below w2.heap.size w2 w5 := HSS.out.trans ((hal.grown hgrow (by simp) (by intro k hk; cases hk)).mono HSS.out.size)
      refine hK.out _ _ ?_ (fun hHeld => ?_)
      · exact HLG.out _ hb5
      clear hK K2 p0
      try simp only [Act.put, List.setIfInBounds_toArray, List.set_cons_zero, List.set_cons_succ]
      refine wpAnyH_take (i := 10) (oi := _) (v := ?_) rfl (by kernel_rfl) (by kernel_rfl) (by kernel_rfl) (fun _ _ _ h => h) (Or.inl ⟨by rfl, ?_⟩) (by assumption) ?_
      rotate_left
      · (intro w hSw; (try dsimp only at hSw); go_simp; (try with_reducible rfl))
      simp only [Act.put, List.setIfInBounds_toArray, List.set_cons_zero, List.set_cons_succ]
      refine wpAnyH_take (i := 11) (oi := _) (v := ?_) rfl (by kernel_rfl) (by kernel_rfl) (by kernel_rfl) (fun _ _ _ h => h) (Or.inl ⟨by rfl, ?_⟩) (by assumption) ?_
      rotate_left
      · (intro w hSw; (try dsimp only at hSw); go_simp; (try with_reducible rfl))
      simp only [Act.put, List.setIfInBounds_toArray, List.set_cons_zero, List.set_cons_succ]
      refine wpAnyH_take (i := 12) (oi := _) (v := ?_) rfl (by kernel_rfl) (by kernel_rfl) (by kernel_rfl) (fun _ _ _ h => h) (Or.inl ⟨by rfl, ?_⟩) (by assumption) ?_
      rotate_left
      · (intro w hSw; (try dsimp only at hSw); go_simp; (try with_reducible rfl))
      simp only [Act.put, List.setIfInBounds_toArray, List.set_cons_zero, List.set_cons_succ]
      have HB5 := Lib.hid hb5
      have HOW := Lib.hid hown
      have HGG := Lib.hid (show gg = w3.heap.size + 1 from hat.elim (fun e => by cases e) id)
      have HT5 := Lib.hid (HT3.out.below ((hal.grown hgrow (by simp) (by intro k hk; cases hk))))
      have HR5 := Lib.hid (HR0.out.below hb5 HR0.out.lt)
      have HGL := Lib.hid hlt
      have HS3 := Lib.hid HSS.out.size
      have p0 := hl0 _ hb5
      have p1 := HR5.out.free 0
      have p2 := HR5.out.lt
      clear hal hown hgrow hat hlt hb5 hps hi0 hz0 hz1 hz2
      refine wpAnyH_ready (rs := [13]) (by kernel_rfl) (by simp) ?_
      refine AllReadyH.cons (o := _) rfl (fun K2 hK => ?_) AllReadyH.nil
      go_simp
      refine hK.out _ _ ?_ (fun hHeld => ?_)
      · exact fun j u hj => (cell_st (show w.heap.size ≠ p by have := HPW.out; omega) _).trans (HLG.out _ HB5.out j u hj)
      clear hK K2
      try simp only [Act.put, List.setIfInBounds_toArray, List.set_cons_zero, List.set_cons_succ]
      refine wpAnyH_done (by kernel_rfl) ?_ _
      clear p0 p1 p2
      go_wp2
      obtain ⟨τ, cs', gc, gs, gm, D, HRO, HLO⟩ := add_obj (gg := gg) (cap := cap) (n0 := w3.heap.size) (v' := .slice (some ⟨vb, vo, none⟩) 1 vc) HN.out hB (HX.out.trans (HB5.out.mono HX.out.size)) HOW.out (by rw [HGG.out]; omega) (Nat.le_trans HX.out.size HS3.out) (HT5.out.mono HX.out.size) (fun b hb => by cases hb; obtain ⟨_, _, _, e, _, _, hl, _⟩ := HT3.out; cases e; exact hl)
      refine bodyPost_ret (v := .int .i64 0) (by simp [results, Tryz.results6, go_sem]) rfl ⟨rfl, τ, _, cs', gg, gc, gs, gm, D, HRO, HLO, ?_⟩
      exact ((HX.out.mono (Nat.le_of_lt HPW.out)).trans (HB5.out.mono (by have := HX.out.size; have := HPW.out; omega))).setCell (Nat.le_refl p) _
end Go.Proofs.YtnnocbelgfhecaaGreatDoor
/- The game itself; the slips of the law. -/
set_option linter.unusedSimpArgs false
namespace Go.Proofs.YtnnocbelgfhecaaGreatDoor
open Go.ChangeShapes Go.WideShapes Go.ChangeAt Go.RowKit Go.Lott
set_option maxHeartbeats 4000000 in
set_option maxRecDepth 100000 in
theorem lotto_any (w : World) : Calls Tryz.prog 4 #[] w fun e w' => ∃ v, e = .returned (.agg (gcs v)) ∧ IsTierF w.heap.size w' v ∧ Below w.heap.size w w' := by
  have HR := Lib.hid (show Cel ((w.alloc (.cells #[.string ⟨#[]⟩, .int .i64 0, .int .i64 0, .int .i64 0, .int .i64 0, .int .i64 0, .int .i64 0, .int .i64 0, .int .i64 0, .int .i64 0, .int .i64 0, .int .i64 0, .int .i64 0, .int .i64 0, .int .i64 0, .int .i64 0, .int .i64 0, .int .i64 0, .int .i64 0, .int .i64 0, .slice none 0 0, .slice none 0 0] 27)).alloc (.cells #[.int .i64 2, .int .i64 0, .int .i64 0, .int .i64 0, .int .i64 3, .int .i64 1] 55)) w.heap.size #[.string ⟨#[]⟩, .int .i64 0, .int .i64 0, .int .i64 0, .int .i64 0, .int .i64 0, .int .i64 0, .int .i64 0, .int .i64 0, .int .i64 0, .int .i64 0, .int .i64 0, .int .i64 0, .int .i64 0, .int .i64 0, .int .i64 0, .int .i64 0, .int .i64 0, .int .i64 0, .int .i64 0, .slice none 0 0, .slice none 0 0] 27 from (Cel.new _ _ _).alloc _)
  have HT := Lib.hid (show Cel ((w.alloc (.cells #[.string ⟨#[]⟩, .int .i64 0, .int .i64 0, .int .i64 0, .int .i64 0, .int .i64 0, .int .i64 0, .int .i64 0, .int .i64 0, .int .i64 0, .int .i64 0, .int .i64 0, .int .i64 0, .int .i64 0, .int .i64 0, .int .i64 0, .int .i64 0, .int .i64 0, .int .i64 0, .int .i64 0, .slice none 0 0, .slice none 0 0] 27)).alloc (.cells #[.int .i64 2, .int .i64 0, .int .i64 0, .int .i64 0, .int .i64 3, .int .i64 1] 55)) (w.heap.size + 1) #[.int .i64 2, .int .i64 0, .int .i64 0, .int .i64 0, .int .i64 3, .int .i64 1] 55 by
    have := Cel.new (w.alloc (.cells #[.string ⟨#[]⟩, .int .i64 0, .int .i64 0, .int .i64 0, .int .i64 0, .int .i64 0, .int .i64 0, .int .i64 0, .int .i64 0, .int .i64 0, .int .i64 0, .int .i64 0, .int .i64 0, .int .i64 0, .int .i64 0, .int .i64 0, .int .i64 0, .int .i64 0, .int .i64 0, .int .i64 0, .slice none 0 0, .slice none 0 0] 27)) #[.int .i64 2, .int .i64 0, .int .i64 0, .int .i64 0, .int .i64 3, .int .i64 1] 55
    simpa using this)
  go_enter Tryz.func4, Tryz.ntmps4
  go_wp2_with (first
    | (refine wpList_store_row rfl 27 _ _ rfl w.heap.size (gcs (.slice (some ⟨w.heap.size + 1, 0, none⟩) 1 1)) rfl rfl 27 _ HR.out (by kernel_rfl) (by kernel_rfl) (by kernel_rfl) ?_)
    | fail)
  have HT2 := Lib.hid (HT.out.lt)
  have HB := Lib.hid (Below.row (((Below.refl w.heap.size w).alloc (Nat.le_refl _) (.cells #[.string ⟨#[]⟩, .int .i64 0, .int .i64 0, .int .i64 0, .int .i64 0, .int .i64 0, .int .i64 0, .int .i64 0, .int .i64 0, .int .i64 0, .int .i64 0, .int .i64 0, .int .i64 0, .int .i64 0, .int .i64 0, .int .i64 0, .int .i64 0, .int .i64 0, .int .i64 0, .int .i64 0, .slice none 0 0, .slice none 0 0] 27)).alloc (by simp) (.cells #[.int .i64 2, .int .i64 0, .int .i64 0, .int .i64 0, .int .i64 3, .int .i64 1] 55)) (Nat.le_refl _) (gcs (.slice (some ⟨w.heap.size + 1, 0, none⟩) 1 1)))
  refine bodyPost_ret (v := .agg (gcs (.slice (some ⟨w.heap.size + 1, 0, none⟩) 1 1))) (results_cell_row Tryz.results4 _ _ w.heap.size 27 _ (0, 0) _ rfl (setRow_heap _ w.heap.size _ _ 27 (0, 0) HR.out) Tryz.underlying27 rfl (by kernel_rfl)) rfl ⟨_, rfl, ?_, HB.out⟩
  have k := fun i => (cell_same (setRow_other ((w.alloc (.cells #[.string ⟨#[]⟩, .int .i64 0, .int .i64 0, .int .i64 0, .int .i64 0, .int .i64 0, .int .i64 0, .int .i64 0, .int .i64 0, .int .i64 0, .int .i64 0, .int .i64 0, .int .i64 0, .int .i64 0, .int .i64 0, .int .i64 0, .int .i64 0, .int .i64 0, .int .i64 0, .int .i64 0, .slice none 0 0, .slice none 0 0] 27)).alloc (.cells #[.int .i64 2, .int .i64 0, .int .i64 0, .int .i64 0, .int .i64 3, .int .i64 1] 55)) w.heap.size (w.heap.size + 1) (gcs (.slice (some ⟨w.heap.size + 1, 0, none⟩) 1 1)) (by omega)) i).trans (HT.out.cell i)
  exact ⟨w.heap.size + 1, 0, 1, rfl, Nat.le_refl _, Nat.le_succ _, by rw [size_setRow]; exact HT2.out, k 0, k 1, k 2, k 3, k 4, k 5⟩
theorem len_any {w : World} {B p m c gb gc pm : Nat} {τ : Rl} {key : Int} {v tv : Value} {ls : List (Tp.Tk × Value)} {U : Nat → Int → Prop} {cs : Array Value} {gs gm : Nat → Nat} {D : DataW Unit} (h : RObj w B τ p key v ls m c U cs gb gc pm tv gs gm D) :
    Calls Tryz.prog 14 #[.pointer (some ⟨p, 0, none⟩)] w (RetS (.int .i64 ls.length) w) := by
  obtain ⟨a, k, htv⟩ := own_slice h.tk
  have c1 : w.cell? ⟨p, 1, none⟩ = some (.slice a ls.length k) := by rw [h.cp.cell, h.c1, htv]
  have pl := h.cp.lt
  clear h
  go_enter Tryz.func14, Tryz.ntmps14
  go_wp2
  go_ret
  exact ⟨rfl, rfl⟩
theorem conv3 (a b c : Int) (w : World) : (convert 75 9 (.slice (some ⟨w.heap.size, 0, none⟩) 3 3)).run Tryz.prog (w.alloc (.cells #[.int .u8 a, .int .u8 b, .int .u8 c] 5)) = .ok (.string (strOfNums [a, b, c])) (w.alloc (.cells #[.int .u8 a, .int .u8 b, .int .u8 c] 5)) :=
  run_convert_bytes_arg _ 75 5 Tryz.underlying75 Tryz.underlying5 _ 0 3 3 [a, b, c] rfl (fun i hi => by
    rcases (show i = 0 ∨ i = 1 ∨ i = 2 by have : i < 3 := hi; omega) with rfl | rfl | rfl <;> simp) 9 Tryz.underlying9
theorem tx_of {x y : Nat} (hx : x ≤ 5) (hy : y ≤ 5) : strOfNums [49 + (x : Int), 32, 49 + (y : Int)] = tx (x + 1) (y + 1) := by
  rcases (show x = 0 ∨ x = 1 ∨ x = 2 ∨ x = 3 ∨ x = 4 ∨ x = 5 by omega) with rfl | rfl | rfl | rfl | rfl | rfl <;> rcases (show y = 0 ∨ y = 1 ∨ y = 2 ∨ y = 3 ∨ y = 4 ∨ y = 5 by omega) with rfl | rfl | rfl | rfl | rfl | rfl <;> rfl
set_option maxRecDepth 100000 in
theorem slip_any (a b : Int) (w : World) (ha : 0 ≤ a) (ha2 : a ≤ 255) (hb : 0 ≤ b) (hb2 : b ≤ 255) : Calls Tryz.prog 11 #[.agg #[.int .u8 a, .int .u8 b]] w fun e w' => ∃ x y : Nat, e = .returned (.string (tx x y)) ∧ 1 ≤ x ∧ x < y ∧ y ≤ 6 ∧ Below w.heap.size w w' := by
  have hb1 : Below w.heap.size w (w.alloc (.cells #[.int .u8 a, .int .u8 b] 38)) := (Below.refl _ _).alloc (Nat.le_refl _) _
  have HX := Lib.hid hb1
  have HC := Lib.hid (Cel.new w #[.int .u8 a, .int .u8 b] 38)
  have b0 := Sub.cell (HC.out.cell 0) HC.out.lt
  have b1 := Sub.cell (HC.out.cell 1) HC.out.lt
  simp at b0 b1
  clear hb1
  go_enter Tryz.func11, Tryz.ntmps11
  go_wp2
  refine wp_region_below (by kernel_rfl) (by kernel_rfl) ?_
  repeat (first
    | go_big_quiet_step (fail))
  refine wpQuiet_nil ?_
  rintro w3 ⟨⟨_, hb3⟩, rfl⟩
  obtain ⟨r, hr⟩ : ∃ r : Nat, (r : Int) = a % 6 := ⟨(a % 6).toNat, by omega⟩
  obtain ⟨q, hq⟩ : ∃ q : Nat, (q : Int) = b % 5 := ⟨(b % 5).toNat, by omega⟩
  rw [← hr, ← hq]
  have hr5 : r ≤ 5 := by omega
  have hq4 : q ≤ 4 := by omega
  replace HX := Lib.hid (HX.out.trans ((show Below _ _ w3 from hb3).mono HX.out.size))
  clear hb3 b0 b1 hr hq
  have hcv := fun x y => conv3 x 32 y
  by_cases hc : (r : Int) ≤ (q : Int)
  · have e1 : min (r : Int) ((q : Int) + 1) = r := by omega
    have e2 : max (r : Int) ((q : Int) + 1) = (q : Int) + 1 := by omega
    go_wp2
    go_ret
    refine ⟨r + 1, q + 1 + 1, ?_, by omega, by omega, by omega, HX.out.alloc HX.out.size _⟩
    rw [← tx_of hr5 (show q + 1 ≤ 5 by omega)]
    simp
  · have hc' : (q : Int) < (r : Int) := by omega
    have e1 : min (r : Int) (q : Int) = q := by omega
    have e2 : max (r : Int) (q : Int) = r := by omega
    go_wp2
    go_ret
    refine ⟨q + 1, r + 1, ?_, by omega, by omega, by omega, HX.out.alloc HX.out.size _⟩
    rw [← tx_of (show q ≤ 5 by omega) hr5]
    rfl
end Go.Proofs.YtnnocbelgfhecaaGreatDoor
