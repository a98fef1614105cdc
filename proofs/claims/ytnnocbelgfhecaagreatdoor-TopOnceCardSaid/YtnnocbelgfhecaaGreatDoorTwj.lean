/- The register: New. -/
import Derived.Test.YtnnocbelgfhecaaGreatDoorTwg
set_option linter.unusedSimpArgs false
namespace Go.Proofs.YtnnocbelgfhecaaGreatDoor
open Go.ChangeShapes Go.WideShapes Go.ChangeAt Go.RowKit Go.Lott
/-- A register with nothing in it. -/
structure RNew (w : World) (N p pm : Nat) (key : Int) (cs : Array Value) (k : Nat) : Prop where
  pN : p + 1 < N
  pm_ : pm = p + 1
  cp : Cel w p cs 64
  sz : cs.size = 37
  c0 : cs[0]? = some (.slice none 0 0)
  c1 : cs[1]? = some (.slice none 0 0)
  c2 : cs[2]? = some (.map (some pm))
  c3 : cs[3]? = some (.int .u64 key)
  ws : w.heap.size = N + 2 * k
  cg : ∀ j, j < k → cs[4 + j]? = some (.pointer (some ⟨N + 2 * j + 1, 0, none⟩))
  gr : ∀ j, j < k → Grd w (N + 2 * j + 1) (N + 2 * j) 0 (fun _ => False)
  mp : w.heap[pm]? = some (.map #[] 0)
theorem RNew.step {w w2 : World} {N p pm k : Nat} {key : Int} {cs : Array Value} (h : RNew w N p pm key cs k) (hk : k < 33) (hg : Grd w2 (w.heap.size + 1) w.heap.size 0 (fun _ => False)) (hb : Below w.heap.size w w2) (hs : w2.heap.size = w.heap.size + 2) :
    RNew (w2.setCell ⟨p, 4 + k, none⟩ (.pointer (some ⟨w.heap.size + 1, 0, none⟩))) N p pm key (cs.setIfInBounds (4 + k) (.pointer (some ⟨w.heap.size + 1, 0, none⟩))) (k + 1) := by
  have hw := h.ws
  have hp := h.pN
  have hz := h.sz
  have hb2 : ∀ b, b ≠ p → b < w.heap.size → (w2.setCell ⟨p, 4 + k, none⟩ (.pointer (some ⟨w.heap.size + 1, 0, none⟩))).heap[b]? = w.heap[b]? := fun b hne hlt => by
    rw [Below.heap_setCell _ _ _ _ (show b ≠ p from hne)]
    exact hb.block b hlt
  exact {
    pN := h.pN
    pm_ := h.pm_
    cp := (h.cp.below hb h.cp.lt).set (4 + k) _
    sz := by simp [h.sz]
    c0 := by rw [Array.getElem?_setIfInBounds_ne (by omega)]; exact h.c0
    c1 := by rw [Array.getElem?_setIfInBounds_ne (by omega)]; exact h.c1
    c2 := by rw [Array.getElem?_setIfInBounds_ne (by omega)]; exact h.c2
    c3 := by rw [Array.getElem?_setIfInBounds_ne (by omega)]; exact h.c3
    ws := by rw [sz_set]; omega
    cg := fun j hj => by
      by_cases e : j = k
      · subst e
        rw [Array.getElem?_setIfInBounds_self_of_lt (by omega), hw]
      · rw [Array.getElem?_setIfInBounds_ne (by omega)]; exact h.cg j (by omega)
    gr := fun j hj => by
      by_cases e : j = k
      · subst e
        rw [← hw]
        exact hg.same (Below.heap_setCell _ _ _ _ (show _ ≠ p by omega)) (Below.heap_setCell _ _ _ _ (show _ ≠ p by omega))
      · exact (h.gr j (by omega)).same (hb2 _ (by omega) (by omega)) (hb2 _ (by omega) (by omega))
    mp := by
      have := h.pm_
      have hl : pm < w.heap.size := by
        have := h.mp
        exact (Array.getElem?_eq_some_iff.1 this).1
      exact (hb2 pm (by omega) hl).trans h.mp }
theorem sz_two (w : World) (a b : Obj) : ((w.alloc a).alloc b).heap.size = w.heap.size + 2 + 2 * 0 := by simp
theorem at_two (w : World) (a b : Obj) : ((w.alloc a).alloc b).heap[w.heap.size + 1]? = some b := by
  show ((w.heap.push a).push b)[w.heap.size + 1]? = some b
  rw [show w.heap.size + 1 = (w.heap.push a).size from (Array.size_push _).symm]
  exact Array.getElem?_push_size
set_option maxHeartbeats 4000000 in
set_option maxRecDepth 100000 in
theorem new_any (w : World) (key : Int) : Calls Tryz.prog 5 #[.int .u64 key] w fun e w' => ∃ cs, e = .returned (.pointer (some ⟨w.heap.size, 0, none⟩)) ∧ RNew w' (w.heap.size + 2) w.heap.size (w.heap.size + 1) key cs 33 ∧ Below w.heap.size w w' := by
  have hmm := @run_makeMap Tryz.prog
  go_enter Tryz.func5, Tryz.ntmps5
  go_wp2
  obtain ⟨W, hW⟩ : ∃ W, W = (w.alloc (.cells #[.slice none 0 0, .slice none 0 0, .map (some (w.heap.size + 1)), .int .u64 key, .pointer none, .pointer none, .pointer none, .pointer none, .pointer none, .pointer none, .pointer none, .pointer none, .pointer none, .pointer none, .pointer none, .pointer none, .pointer none, .pointer none, .pointer none, .pointer none, .pointer none, .pointer none, .pointer none, .pointer none, .pointer none, .pointer none, .pointer none, .pointer none, .pointer none, .pointer none, .pointer none, .pointer none, .pointer none, .pointer none, .pointer none, .pointer none, .pointer none] 64)).alloc (.map #[] 0) := ⟨_, rfl⟩
  rw [← hW]
  have HN := Lib.hid (show ∃ cs, RNew W (w.heap.size + 2) w.heap.size (w.heap.size + 1) key cs 0 from
    ⟨#[.slice none 0 0, .slice none 0 0, .map (some (w.heap.size + 1)), .int .u64 key, .pointer none, .pointer none, .pointer none, .pointer none, .pointer none, .pointer none, .pointer none, .pointer none, .pointer none, .pointer none, .pointer none, .pointer none, .pointer none, .pointer none, .pointer none, .pointer none, .pointer none, .pointer none, .pointer none, .pointer none, .pointer none, .pointer none, .pointer none, .pointer none, .pointer none, .pointer none, .pointer none, .pointer none, .pointer none, .pointer none, .pointer none, .pointer none, .pointer none], by omega, rfl, by rw [hW]; exact (Cel.new _ _ _).alloc _, rfl, rfl, rfl, rfl, rfl, by rw [hW]; exact sz_two _ _ _, fun j hj => absurd hj (by omega), fun j hj => absurd hj (by omega), by rw [hW]; exact at_two _ _ _⟩)
  have HX := Lib.hid (show Below w.heap.size w W by rw [hW]; exact ((Below.refl _ _).alloc (Nat.le_refl _) _).alloc (by simp) _)
  clear hW
  go_loopw [13] (fun i wr => ∃ (k : Nat) (cs : Array Value), k ≤ 33 ∧ i = .int .i64 k ∧ RNew wr (w.heap.size + 2) w.heap.size (w.heap.size + 1) key cs k ∧ Below w.heap.size w wr) (fun i _ => 33 - (intOf i).toNat)
  case atStart =>
    obtain ⟨cs, h⟩ := HN.out
    exact ⟨0, cs, by omega, rfl, h, HX.out⟩
  case round =>
    obtain ⟨k, cs, hk, rfl, h, hb⟩ := hrel
    clear HN HX
    by_cases hlt : k < 33
    case neg =>
      have hk33 : k = 33 := by omega
      subst hk33
      have H := Lib.hid h
      have HB := Lib.hid hb
      clear h hb
      go_wp2
      refine bodyPost_ret (v := .pointer (some ⟨w.heap.size, 0, none⟩)) (by simp [results, Tryz.results5, go_sem]) rfl ⟨cs, rfl, H.out, HB.out⟩
    have hi1 : (k : Int) < 33 := by omega
    have hi0 : (0 : Int) ≤ (k : Int) := by omega
    have H := Lib.hid h
    have HB := Lib.hid hb
    clear h hb
    go_wp2
    refine wp_region_held_drew (S := fun _ => True) (by kernel_rfl) trivial (fun hHeld => ?_)
    refine wpAnyH_take (i := 0) (oi := _) (v := ?_) rfl (by kernel_rfl) (by kernel_rfl) (by kernel_rfl) (fun _ _ _ h => h) (Or.inl ⟨by rfl, ?_⟩) (by assumption) ?_
    rotate_left
    · (intro w hSw; (try dsimp only at hSw); go_simp; (try with_reducible rfl))
    simp only [Act.put, List.setIfInBounds_toArray, List.set_cons_zero, List.set_cons_succ]
    refine wpAnyH_take (i := 1) (oi := _) (v := ?_) rfl (by kernel_rfl) (by kernel_rfl) (by kernel_rfl) (fun _ _ _ h => h) (Or.inl ⟨by rfl, ?_⟩) (by assumption) ?_
    rotate_left
    · (intro w hSw; (try dsimp only at hSw); go_simp; (try with_reducible rfl))
    simp only [Act.put, List.setIfInBounds_toArray, List.set_cons_zero, List.set_cons_succ]
    refine wpAnyH_take (i := 3) (oi := _) (v := ?_) rfl (by kernel_rfl) (by kernel_rfl) (by kernel_rfl) (fun _ _ _ h => h) (Or.inl ⟨by rfl, ?_⟩) (by assumption) ?_
    rotate_left
    · (intro w hSw; (try dsimp only at hSw); go_simp; (try with_reducible rfl))
    simp only [Act.put, List.setIfInBounds_toArray, List.set_cons_zero, List.set_cons_succ]
    refine wpAnyH_take (i := 4) (oi := _) (v := ?_) rfl (by kernel_rfl) (by kernel_rfl) (by kernel_rfl) (fun _ _ _ h => h) (Or.inl ⟨by rfl, ?_⟩) (by assumption) ?_
    rotate_left
    · (intro w hSw; (try dsimp only at hSw); go_simp; (try with_reducible rfl))
    simp only [Act.put, List.setIfInBounds_toArray, List.set_cons_zero, List.set_cons_succ]
    refine wpAnyH_ready (rs := [2]) (by kernel_rfl) (by simp) ?_
    refine AllReadyH.cons (o := _) rfl (fun K2 hK => ?_) AllReadyH.nil
    go_simp
    refine (newGuard_any _).mono ?_
    have hd : wr.drew.heap.size = wr.heap.size := rfl
    rw [hd]
    rintro e w2 ⟨rfl, hg2, hb2, hs2⟩
    have HG2 := Lib.hid hg2
    have HB2 := Lib.hid (show Below wr.heap.size wr w2 from (Below.refl wr.heap.size wr).drew.trans hb2)
    have HS2 := Lib.hid hs2
    clear hd hg2 hb2 hs2
    go_wp2_with fail
    refine hK.out _ _ ?_ (fun hHeld => ?_)
    · trivial
    clear hK K2
    try simp only [Act.put, List.setIfInBounds_toArray, List.set_cons_zero, List.set_cons_succ]
    refine wpAnyH_take (i := 5) (oi := _) (v := ?_) rfl (by kernel_rfl) (by kernel_rfl) (by kernel_rfl) (fun _ _ _ h => h) (Or.inl ⟨by rfl, ?_⟩) (by assumption) ?_
    rotate_left
    · (intro w hSw; (try dsimp only at hSw); go_simp; (try with_reducible rfl))
    simp only [Act.put, List.setIfInBounds_toArray, List.set_cons_zero, List.set_cons_succ]
    have HC2 := Lib.hid (H.out.cp.below HB2.out H.out.cp.lt)
    have hsz := H.out.sz
    have z0 := HC2.out.cell (4 + k)
    rw [Array.getElem?_eq_getElem (show 4 + k < cs.size by omega)] at z0
    have z1 := HC2.out.free (4 + k)
    have z2 := HC2.out.lt
    refine wpAnyH_ready (rs := [6]) (by kernel_rfl) (by simp) ?_
    refine AllReadyH.cons (o := _) rfl (fun K2 hK => ?_) AllReadyH.nil
    go_simp
    have HN := Lib.hid (H.out.step (by omega) HG2.out HB2.out HS2.out)
    have HBN := Lib.hid (show Below w.heap.size w (w2.setCell ⟨w.heap.size, 4 + k, none⟩ (.pointer (some ⟨wr.heap.size + 1, 0, none⟩))) from (HB.out.trans (HB2.out.mono HB.out.size)).setCell (Nat.le_refl w.heap.size) _)
    refine hK.out _ _ ?_ (fun hHeld => ?_)
    · trivial
    clear hK K2 z0 z1 z2
    try simp only [Act.put, List.setIfInBounds_toArray, List.set_cons_zero, List.set_cons_succ]
    refine wpAnyH_done (by kernel_rfl) ?_ _
    go_wp2
    refine ⟨⟨k + 1, _, by omega, by simp, HN.out, HBN.out⟩, ?_⟩
    simp only [intOf]
    omega
end Go.Proofs.YtnnocbelgfhecaaGreatDoor
