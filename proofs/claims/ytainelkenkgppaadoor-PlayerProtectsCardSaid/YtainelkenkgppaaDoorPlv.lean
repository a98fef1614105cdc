/- A call of a nil object; which kinds change an object; the laws PlayerNobody's and PlayerAges' walks. -/
import Derived.Test.YtainelkenkgppaaDoorPlu
namespace Go.Proofs.YtainelkenkgppaaDoor
open Go.ChangeShapes Go.WideShapes Go.ChangeAt Go.RowKit Go.Lott
open Go.Sort Go.Lott.Stb Go.Lott.Srt Go.Lott.Lm
theorem act_s {w : World} {B p : Nat} {τ : Rl} {S : PSt} (h : PO w B τ p S) (hT : Tab w) (hB : B ≤ w.heap.size) (hsz : Sz S 300) (k id t x y z : Int) {E a b c : Int} (hE : errD S ⟨k, id, t, x, y, z⟩ = E) (ha : limD S ⟨k, id, t, x, y, z⟩ 1 = a) (hb : limD S ⟨k, id, t, x, y, z⟩ 2 = b) (hc : limD S ⟨k, id, t, x, y, z⟩ 3 = c) :
    Calls Tryd.prog 21 #[.pointer (some ⟨p, 0, none⟩), .agg #[.int .i64 k, .int .i64 id, .int .i64 t, .int .i64 x, .int .i64 y, .int .i64 z]] w (Lv (fun w τ S => PO w B τ p S) w τ (stpD S ⟨k, id, t, x, y, z⟩) (.tuple #[.int .i64 E, .agg #[.int .i64 a, .int .i64 b, .int .i64 c]])) :=
  act_t h hT hB hsz ⟨k, id, t, x, y, z⟩ hE ha hb hc
theorem flatDo : FlatInts Tryd.prog 46 6 := FlatInts.struct Tryd.underlying46 (by kernel_rfl) (fun j hj => by
  rcases (show j = 0 ∨ j = 1 ∨ j = 2 ∨ j = 3 ∨ j = 4 ∨ j = 5 by omega) with rfl | rfl | rfl | rfl | rfl | rfl
  · exact ⟨0, _, 1, rfl, flatInt, by decide, by decide⟩
  · exact ⟨1, _, 1, rfl, flatInt, by decide, by decide⟩
  · exact ⟨2, _, 1, rfl, flatInt, by decide, by decide⟩
  · exact ⟨3, _, 1, rfl, flatInt, by decide, by decide⟩
  · exact ⟨4, _, 1, rfl, flatInt, by decide, by decide⟩
  · exact ⟨5, _, 1, rfl, flatInt, by decide, by decide⟩)
def chB (k : Int) : Bool := decide (k = 0 ∨ k = 1 ∨ k = 2 ∨ k = 4 ∨ k = 5)
theorem changes_any (k : Int) (w : World) : Calls Tryd.prog 28 #[.int .i64 k] w (RetS (.bool (chB k)) w) := by
  go_enter Tryd.func28, Tryd.ntmps28
  go_wp2
  all_goals
    go_ret
    refine ⟨ret_bool ?_, rfl⟩
    rw [Bool.eq_iff_iff]
    simp [chB]
    try omega
set_option maxHeartbeats 8000000 in
set_option maxRecDepth 100000 in
theorem act_nil (k id t x y z : Int) (w : World) :
    Calls Tryd.prog 21 #[.pointer none, .agg #[.int .i64 k, .int .i64 id, .int .i64 t, .int .i64 x, .int .i64 y, .int .i64 z]] w (RetB (.tuple #[.int .i64 5, .agg #[.int .i64 0, .int .i64 0, .int .i64 0]]) w) := by
  obtain ⟨W0, hW0⟩ : ∃ W0, W0 = (w.alloc (.cells #[.int .i64 k, .int .i64 id, .int .i64 t, .int .i64 x, .int .i64 y, .int .i64 z] 46)).alloc (.cells #[.int .i64 0, .int .i64 0, .int .i64 0] 28) := ⟨_, rfl⟩
  have hb0 : Below w.heap.size w W0 := by rw [hW0]; exact ((Below.refl _ _).alloc (Nat.le_refl _) _).alloc (by simp) _
  have hs0 : W0.heap.size = w.heap.size + 2 := by rw [hW0]; simp
  have hd : Cel W0 w.heap.size #[.int .i64 k, .int .i64 id, .int .i64 t, .int .i64 x, .int .i64 y, .int .i64 z] 46 := by rw [hW0]; exact (Cel.new _ _ _).alloc _
  have hbox : Cel W0 (w.heap.size + 1) #[.int .i64 0, .int .i64 0, .int .i64 0] 28 := by
    rw [hW0]
    have := Cel.new (w.alloc (.cells #[.int .i64 k, .int .i64 id, .int .i64 t, .int .i64 x, .int .i64 y, .int .i64 z] 46)) #[.int .i64 0, .int .i64 0, .int .i64 0] 28
    simpa using this
  have d0 := hd.cell 0
  have d1 := hd.cell 1
  have d2 := hd.cell 2
  have d3 := hd.cell 3
  have d4 := hd.cell 4
  have d5 := hd.cell 5
  simp at d0 d1 d2 d3 d4 d5
  have HBX := Lib.hid hbox
  have HW := Lib.hid hW0
  have HB0 := Lib.hid hb0
  have HS0 := Lib.hid hs0
  by_cases hk : k = 0
  · subst hk
    clear hd hbox hW0 hb0 hs0
    go_enter Tryd.func21, Tryd.ntmps21
    go_wp2_with fail
    rw [← HW.out]
    go_wp2_with (go_at_call 25; refine (pRegister_nil _ _ _ _).mono ?_; rintro e w1 ⟨rfl, hb1⟩; have HB1 := Lib.hid hb1; have C1 := HBX.out.below hb1 HBX.out.lt; have l0 := C1.cell 0; have l1 := C1.cell 1; have l2 := C1.cell 2; have f0 := C1.free 0; have f1 := C1.free 1; have f2 := C1.free 2; simp at l0 l1 l2; clear hb1 C1)
    refine bodyPost_ret (v := .tuple #[.int .i64 5, .agg #[.int .i64 0, .int .i64 0, .int .i64 0]]) (by simp [results, Tryd.results21, go_sem, l0, l1, l2]) rfl ⟨rfl, ?_⟩
    have hx := HB0.out.trans (HB1.out.mono HB0.out.size)
    exact ((hx.setCell (by simp) _).setCell (by simp) _).setCell (by simp) _
  have k0 : (k == 0) = false := beq_eq_false_iff_ne.2 hk
  clear hk
  by_cases hk : k = 1
  · subst hk
    clear hd hbox hW0 hb0 hs0
    go_enter Tryd.func21, Tryd.ntmps21
    go_wp2_with fail
    rw [← HW.out]
    go_wp2_with (go_at_call 45; refine (pSetLimits_nil _ _ _ _ _ _).mono ?_; rintro e w1 ⟨rfl, hb1⟩; have HB1 := Lib.hid hb1; have C1 := HBX.out.below hb1 HBX.out.lt; have l0 := C1.cell 0; have l1 := C1.cell 1; have l2 := C1.cell 2; have f0 := C1.free 0; have f1 := C1.free 1; have f2 := C1.free 2; simp at l0 l1 l2; clear hb1 C1)
    refine bodyPost_ret (v := .tuple #[.int .i64 5, .agg #[.int .i64 0, .int .i64 0, .int .i64 0]]) (by simp [results, Tryd.results21, go_sem, l0, l1, l2]) rfl ⟨rfl, ?_⟩
    have hx := HB0.out.trans (HB1.out.mono HB0.out.size)
    exact ((hx.setCell (by simp) _).setCell (by simp) _).setCell (by simp) _
  have k1 : (k == 1) = false := beq_eq_false_iff_ne.2 hk
  clear hk
  by_cases hk : k = 2
  · subst hk
    clear hd hbox hW0 hb0 hs0
    go_enter Tryd.func21, Tryd.ntmps21
    go_wp2_with fail
    rw [← HW.out]
    go_wp2_with (go_at_call 46; refine (pExclude_nil _ _ _ _ _).mono ?_; rintro e w1 ⟨rfl, hb1⟩; have HB1 := Lib.hid hb1; have C1 := HBX.out.below hb1 HBX.out.lt; have l0 := C1.cell 0; have l1 := C1.cell 1; have l2 := C1.cell 2; have f0 := C1.free 0; have f1 := C1.free 1; have f2 := C1.free 2; simp at l0 l1 l2; clear hb1 C1)
    refine bodyPost_ret (v := .tuple #[.int .i64 5, .agg #[.int .i64 0, .int .i64 0, .int .i64 0]]) (by simp [results, Tryd.results21, go_sem, l0, l1, l2]) rfl ⟨rfl, ?_⟩
    have hx := HB0.out.trans (HB1.out.mono HB0.out.size)
    exact ((hx.setCell (by simp) _).setCell (by simp) _).setCell (by simp) _
  have k2 : (k == 2) = false := beq_eq_false_iff_ne.2 hk
  clear hk
  by_cases hk : k = 3
  · subst hk
    clear hd hbox hW0 hb0 hs0
    go_enter Tryd.func21, Tryd.ntmps21
    go_wp2_with fail
    rw [← HW.out]
    go_wp2_with (go_at_call 47; refine (pAllow_nil _ _ _ _).mono ?_; rintro e w1 ⟨rfl, hb1⟩; have HB1 := Lib.hid hb1; have C1 := HBX.out.below hb1 HBX.out.lt; have l0 := C1.cell 0; have l1 := C1.cell 1; have l2 := C1.cell 2; have f0 := C1.free 0; have f1 := C1.free 1; have f2 := C1.free 2; simp at l0 l1 l2; clear hb1 C1)
    refine bodyPost_ret (v := .tuple #[.int .i64 5, .agg #[.int .i64 0, .int .i64 0, .int .i64 0]]) (by simp [results, Tryd.results21, go_sem, l0, l1, l2]) rfl ⟨rfl, ?_⟩
    have hx := HB0.out.trans (HB1.out.mono HB0.out.size)
    exact ((hx.setCell (by simp) _).setCell (by simp) _).setCell (by simp) _
  have k3 : (k == 3) = false := beq_eq_false_iff_ne.2 hk
  clear hk
  by_cases hk : k = 4
  · subst hk
    clear hd hbox hW0 hb0 hs0
    go_enter Tryd.func21, Tryd.ntmps21
    go_wp2_with fail
    rw [← HW.out]
    go_wp2_with (go_at_call 48; refine (pCharge_nil _ _ _ _).mono ?_; rintro e w1 ⟨rfl, hb1⟩; have HB1 := Lib.hid hb1; have C1 := HBX.out.below hb1 HBX.out.lt; have l0 := C1.cell 0; have l1 := C1.cell 1; have l2 := C1.cell 2; have f0 := C1.free 0; have f1 := C1.free 1; have f2 := C1.free 2; simp at l0 l1 l2; clear hb1 C1)
    refine bodyPost_ret (v := .tuple #[.int .i64 5, .agg #[.int .i64 0, .int .i64 0, .int .i64 0]]) (by simp [results, Tryd.results21, go_sem, l0, l1, l2]) rfl ⟨rfl, ?_⟩
    have hx := HB0.out.trans (HB1.out.mono HB0.out.size)
    exact ((hx.setCell (by simp) _).setCell (by simp) _).setCell (by simp) _
  have k4 : (k == 4) = false := beq_eq_false_iff_ne.2 hk
  clear hk
  by_cases hk : k = 5
  · subst hk
    clear hd hbox hW0 hb0 hs0
    go_enter Tryd.func21, Tryd.ntmps21
    go_wp2_with fail
    rw [← HW.out]
    go_wp2_with (go_at_call 49; refine (pRefund_nil _ _ _ _).mono ?_; rintro e w1 ⟨rfl, hb1⟩; have HB1 := Lib.hid hb1; have C1 := HBX.out.below hb1 HBX.out.lt; have l0 := C1.cell 0; have l1 := C1.cell 1; have l2 := C1.cell 2; have f0 := C1.free 0; have f1 := C1.free 1; have f2 := C1.free 2; simp at l0 l1 l2; clear hb1 C1)
    refine bodyPost_ret (v := .tuple #[.int .i64 5, .agg #[.int .i64 0, .int .i64 0, .int .i64 0]]) (by simp [results, Tryd.results21, go_sem, l0, l1, l2]) rfl ⟨rfl, ?_⟩
    have hx := HB0.out.trans (HB1.out.mono HB0.out.size)
    exact ((hx.setCell (by simp) _).setCell (by simp) _).setCell (by simp) _
  have k5 : (k == 5) = false := beq_eq_false_iff_ne.2 hk
  clear hk
  clear hd hbox hW0 hb0 hs0
  go_enter Tryd.func21, Tryd.ntmps21
  go_wp2_with fail
  rw [← HW.out]
  go_wp2_with (go_at_call 27; refine (pSpent_nil _ _ _).mono ?_; rintro e w1 ⟨rfl, hb1⟩; have HB1 := Lib.hid hb1; have C1 := HBX.out.below hb1 HBX.out.lt; have l0 := C1.cell 0; have l1 := C1.cell 1; have l2 := C1.cell 2; have f0 := C1.free 0; have f1 := C1.free 1; have f2 := C1.free 2; simp at l0 l1 l2; clear hb1 C1)
  obtain ⟨W1, hW1⟩ : ∃ W1, W1 = w1.alloc (.cells #[.int .i64 0, .int .i64 0, .int .i64 0] 28) := ⟨_, rfl⟩
  have hbw : Below W0.heap.size W0 W1 := by rw [hW1]; exact HB1.out.alloc HB1.out.size _
  have CB := HBX.out.below hbw HBX.out.lt
  have CA : Cel W1 w1.heap.size #[.int .i64 0, .int .i64 0, .int .i64 0] 28 := by rw [hW1]; exact Cel.new _ _ _
  have hq : w1.heap.size ≠ w.heap.size + 1 := by have := HB1.out.size; have := HS0.out; omega
  have HBW := Lib.hid hbw
  rw [← hW1]
  generalize w1.heap.size = q at *
  have m0 := CA.cell 0
  have m1 := CA.cell 1
  have m2 := CA.cell 2
  have o0 := CB.cell 0
  have o1 := CB.cell 1
  have o2 := CB.cell 2
  have p0 := CB.free 0
  have p1 := CB.free 1
  have p2 := CB.free 2
  simp at m0 m1 m2 o0 o1 o2
  clear l0 l1 l2 f0 f1 f2 CA CB hbw hW1
  go_region
  all_goals
    go_wp2
    refine bodyPost_ret (v := .tuple #[.int .i64 5, .agg #[.int .i64 0, .int .i64 0, .int .i64 0]]) (by simp [results, Tryd.results21, go_sem, o0, o1, o2]) rfl ⟨rfl, ?_⟩
    have hx := HB0.out.trans (HBW.out.mono HB0.out.size)
    exact (((hx.drew).setCell (by simp) _).setCell (by simp) _).setCell (by simp) _
/-! The law PlayerNobody. -/
theorem ps0_err (d : PDo) : errD ps0 d = errL (basE d.id d.t 0) (basE d.id d.t 0) false rec0 d := rfl
theorem ps0_lim (d : PDo) (j : Int) : limD ps0 d j = limL (basE d.id d.t 0) false rec0 d j := rfl
theorem knE_f (b : Int) : knE b false ≠ 0 := by unfold knE; split <;> simp
theorem lim_0 (b : Int) (d : PDo) (j : Int) : limL b false rec0 d j = 0 := by
  unfold limL spL
  rw [if_neg (knE_f b)]
  simp
theorem nob_out {d : PDo} (h : basE d.id d.t 0 = 2) : errD ps0 d = 2 := by
  have e : knE 2 false = 2 := rfl
  rw [ps0_err, h]
  unfold errL regE setE excE alE rfE
  rw [e]
  simp
theorem nob_in {d : PDo} (h : basE d.id d.t 0 = 0) (hk : d.k ≠ 0) : errD ps0 d = 5 := by
  have e : knE 0 false = 5 := rfl
  rw [ps0_err, h]
  unfold errL setE excE alE rfE
  rw [e, if_neg hk]
  simp
set_option maxHeartbeats 8000000 in
set_option maxRecDepth 100000 in
theorem nobody_core (k id t x y z : Int) (w : World) (ht : Tab w) :
    Calls Tryd.prog 10 #[.agg #[.int .i64 k, .int .i64 id, .int .i64 t, .int .i64 x, .int .i64 y, .int .i64 z]] w (RetB (.bool true) w) := by
  have HT := Lib.hid ht
  obtain ⟨W0, hW0⟩ : ∃ W0, W0 = w.alloc (.cells #[.int .i64 k, .int .i64 id, .int .i64 t, .int .i64 x, .int .i64 y, .int .i64 z] 46) := ⟨_, rfl⟩
  have hb0 : Below w.heap.size w W0 := by rw [hW0]; exact (Below.refl _ _).alloc (Nat.le_refl _) _
  have hd : Cel W0 w.heap.size #[.int .i64 k, .int .i64 id, .int .i64 t, .int .i64 x, .int .i64 y, .int .i64 z] 46 := by rw [hW0]; exact Cel.new _ _ _
  have d0 := hd.cell 0
  have d1 := hd.cell 1
  have d2 := hd.cell 2
  have d3 := hd.cell 3
  have d4 := hd.cell 4
  have d5 := hd.cell 5
  simp at d0 d1 d2 d3 d4 d5
  have HW := Lib.hid hW0
  have HBX0 := Lib.hid hb0
  have HDO := Lib.hid hd
  have HL1 := Lib.hid (lim_0 (basE id t 0) ⟨k, id, t, x, y, z⟩ 1)
  have HL2 := Lib.hid (lim_0 (basE id t 0) ⟨k, id, t, x, y, z⟩ 2)
  have HL3 := Lib.hid (lim_0 (basE id t 0) ⟨k, id, t, x, y, z⟩ 3)
  clear hb0 hd hW0 ht
  by_cases hb : basE id t 0 = 0
  · obtain ⟨⟨g1, g2⟩, ⟨g3, g4⟩, _⟩ := basE_iff.1 hb
    by_cases hk : k = 0
    · have k0 : (k == 0) = true := beq_iff_eq.2 hk
      obtain ⟨E, hE⟩ : ∃ E, errD ps0 ⟨k, id, t, x, y, z⟩ = E := ⟨_, rfl⟩
      have HE := Lib.hid hE
      clear hb hk hE
      go_enter Tryd.func10, Tryd.ntmps10
      go_wp2_with fail
      rw [← HW.out]
      go_wp2_with (first
        | (go_at_call 19
           with_reducible refine (pNew_any _).mono ?_
           rintro e w1 ⟨p, τ, rfl, hO, hb1, hp⟩
           have HO := Lib.hid hO
           have HX1 := Lib.hid (HBX0.out.trans (hb1.mono HBX0.out.size))
           have HX1Z := Lib.hid hb1.size
           have HLO := Lib.hid (fun b hb => Nat.le_trans HBX0.out.size ((hO.low b hb).1))
           have HD := Lib.hid (HDO.out.below hb1 HDO.out.lt)
           have HTN := Lib.hid (show τ w.heap.size = none from Classical.byContradiction fun c => by have := (hO.low _ c).1; have := HDO.out.lt; omega)
           have hd1 := HDO.out.below hb1 HDO.out.lt
           have d0 := hd1.cell 0
           have d1 := hd1.cell 1
           have d2 := hd1.cell 2
           have d3 := hd1.cell 3
           have d4 := hd1.cell 4
           have d5 := hd1.cell 5
           simp at d0 d1 d2 d3 d4 d5
           clear hO hb1 hp hd1)
        | (go_at_call 21
           with_reducible refine (act_nil _ _ _ _ _ _ _).mono ?_
           rintro e w2 ⟨rfl, hb2⟩
           have HO2 := Lib.hid (HO.out.below hb2)
           have HX2 := Lib.hid (HX1.out.trans (hb2.mono HX1.out.size))
           have HX2Z := Lib.hid (Nat.le_trans HX1Z.out hb2.size)
           have hd2 := HD.out.below hb2 HD.out.lt
           have HD2 := Lib.hid hd2
           have hdl := hd2.lt
           have d0 := hd2.cell 0
           have d1 := hd2.cell 1
           have d2 := hd2.cell 2
           have d3 := hd2.cell 3
           have d4 := hd2.cell 4
           have d5 := hd2.cell 5
           simp at d0 d1 d2 d3 d4 d5
           clear hb2 hd2)
        | (go_at_call 23; (with_reducible refine (pCount_nil _).mono ?_); rintro e w' ⟨rfl, rfl⟩)
        | (go_at_call 23; have hcn := pCount_any (HO2.out.below ((Below.refl _ _).alloc (Nat.le_refl _) (.cells #[.int .i64 0, .int .i64 0, .int .i64 0] 28))); (with_reducible refine hcn.mono ?_); rintro e w' ⟨rfl, rfl⟩)
        | (go_at_call 21
           have hac := act_s (HO2.out.below ((Below.refl _ _).alloc (Nat.le_refl _) (.cells #[.int .i64 0, .int .i64 0, .int .i64 0] 28))) (HT.out.grow (HX2.out.alloc HX2.out.size _)) (Nat.le_trans HX2Z.out (by simp)) (sz0.mono (by omega)) k id t x y z HE.out HL1.out HL2.out HL3.out
           with_reducible refine hac.mono ?_
           rintro e w3 ⟨rfl, τ3, hO3, hF3, hG3⟩
           have HX := Lib.hid (((HX2.out.alloc HX2.out.size (.cells #[.int .i64 0, .int .i64 0, .int .i64 0] 28)).trans (hF3.below (Nat.le_trans HX2.out.size (by simp)) HLO.out)).alloc (Nat.le_trans HX2.out.size (Nat.le_trans (by simp) hF3.size)) (.cells #[.int .i64 0, .int .i64 0, .int .i64 0] 28))
           have hd3 := (HD2.out.alloc (.cells #[.int .i64 0, .int .i64 0, .int .i64 0] 28)).fr hF3 HTN.out
           have hdl3 := hd3.lt
           have d0 := hd3.cell 0
           have d1 := hd3.cell 1
           have d2 := hd3.cell 2
           have d3 := hd3.cell 3
           have d4 := hd3.cell 4
           have d5 := hd3.cell 5
           simp at d0 d1 d2 d3 d4 d5
           clear hO3 hF3 hG3 hd3 hac)
        | (go_at_call 18; refine (awake_any _ (HT.out.grow HX.out)).mono ?_; rintro e9 w9 ⟨rfl, hb9⟩; replace HX := Lib.hid (HX.out.trans (hb9.mono HX.out.size)); clear hb9))
      go_ret
      exact ⟨rfl, HX.out⟩
    · have k0 : (k == 0) = false := beq_eq_false_iff_ne.2 hk
      have HE := Lib.hid (nob_in (d := ⟨k, id, t, x, y, z⟩) hb hk)
      clear hb hk
      go_enter Tryd.func10, Tryd.ntmps10
      go_wp2_with fail
      rw [← HW.out]
      go_wp2_with (first
        | (go_at_call 19
           with_reducible refine (pNew_any _).mono ?_
           rintro e w1 ⟨p, τ, rfl, hO, hb1, hp⟩
           have HO := Lib.hid hO
           have HX1 := Lib.hid (HBX0.out.trans (hb1.mono HBX0.out.size))
           have HX1Z := Lib.hid hb1.size
           have HLO := Lib.hid (fun b hb => Nat.le_trans HBX0.out.size ((hO.low b hb).1))
           have HD := Lib.hid (HDO.out.below hb1 HDO.out.lt)
           have HTN := Lib.hid (show τ w.heap.size = none from Classical.byContradiction fun c => by have := (hO.low _ c).1; have := HDO.out.lt; omega)
           have hd1 := HDO.out.below hb1 HDO.out.lt
           have d0 := hd1.cell 0
           have d1 := hd1.cell 1
           have d2 := hd1.cell 2
           have d3 := hd1.cell 3
           have d4 := hd1.cell 4
           have d5 := hd1.cell 5
           simp at d0 d1 d2 d3 d4 d5
           clear hO hb1 hp hd1)
        | (go_at_call 21
           with_reducible refine (act_nil _ _ _ _ _ _ _).mono ?_
           rintro e w2 ⟨rfl, hb2⟩
           have HO2 := Lib.hid (HO.out.below hb2)
           have HX2 := Lib.hid (HX1.out.trans (hb2.mono HX1.out.size))
           have HX2Z := Lib.hid (Nat.le_trans HX1Z.out hb2.size)
           have hd2 := HD.out.below hb2 HD.out.lt
           have HD2 := Lib.hid hd2
           have hdl := hd2.lt
           have d0 := hd2.cell 0
           have d1 := hd2.cell 1
           have d2 := hd2.cell 2
           have d3 := hd2.cell 3
           have d4 := hd2.cell 4
           have d5 := hd2.cell 5
           simp at d0 d1 d2 d3 d4 d5
           clear hb2 hd2)
        | (go_at_call 23; (with_reducible refine (pCount_nil _).mono ?_); rintro e w' ⟨rfl, rfl⟩)
        | (go_at_call 23; have hcn := pCount_any (HO2.out.below ((Below.refl _ _).alloc (Nat.le_refl _) (.cells #[.int .i64 0, .int .i64 0, .int .i64 0] 28))); (with_reducible refine hcn.mono ?_); rintro e w' ⟨rfl, rfl⟩)
        | (go_at_call 21
           have hac := act_s (HO2.out.below ((Below.refl _ _).alloc (Nat.le_refl _) (.cells #[.int .i64 0, .int .i64 0, .int .i64 0] 28))) (HT.out.grow (HX2.out.alloc HX2.out.size _)) (Nat.le_trans HX2Z.out (by simp)) (sz0.mono (by omega)) k id t x y z HE.out HL1.out HL2.out HL3.out
           with_reducible refine hac.mono ?_
           rintro e w3 ⟨rfl, τ3, hO3, hF3, hG3⟩
           have HX := Lib.hid (((HX2.out.alloc HX2.out.size (.cells #[.int .i64 0, .int .i64 0, .int .i64 0] 28)).trans (hF3.below (Nat.le_trans HX2.out.size (by simp)) HLO.out)).alloc (Nat.le_trans HX2.out.size (Nat.le_trans (by simp) hF3.size)) (.cells #[.int .i64 0, .int .i64 0, .int .i64 0] 28))
           have hd3 := (HD2.out.alloc (.cells #[.int .i64 0, .int .i64 0, .int .i64 0] 28)).fr hF3 HTN.out
           have hdl3 := hd3.lt
           have d0 := hd3.cell 0
           have d1 := hd3.cell 1
           have d2 := hd3.cell 2
           have d3 := hd3.cell 3
           have d4 := hd3.cell 4
           have d5 := hd3.cell 5
           simp at d0 d1 d2 d3 d4 d5
           clear hO3 hF3 hG3 hd3 hac)
        | (go_at_call 18; refine (awake_any _ (HT.out.grow HX.out)).mono ?_; rintro e9 w9 ⟨rfl, hb9⟩; replace HX := Lib.hid (HX.out.trans (hb9.mono HX.out.size)); clear hb9))
      go_ret
      exact ⟨rfl, HX.out⟩
  · have hb2 : basE id t 0 = 2 := (basE_two id t 0).resolve_left hb
    have HE := Lib.hid (nob_out (d := ⟨k, id, t, x, y, z⟩) hb2)
    have hw : id < 1 ∨ (1 ≤ id ∧ 128 < id) ∨ (1 ≤ id ∧ id ≤ 128 ∧ t < 0) ∨ (1 ≤ id ∧ id ≤ 128 ∧ 0 ≤ t ∧ 1073741824 < t) := by
      have h' : ¬ ((1 ≤ id ∧ id ≤ 128) ∧ (0 ≤ t ∧ t ≤ 1073741824) ∧ 0 ≤ t) := fun c => hb (basE_iff.2 c)
      omega
    clear hb hb2
    rcases hw with g1 | ⟨g1, g2⟩ | ⟨g1, g2, g3⟩ | ⟨g1, g2, g3, g4⟩
    · go_enter Tryd.func10, Tryd.ntmps10
      go_wp2_with fail
      rw [← HW.out]
      go_wp2_with (first
        | (go_at_call 19
           with_reducible refine (pNew_any _).mono ?_
           rintro e w1 ⟨p, τ, rfl, hO, hb1, hp⟩
           have HO := Lib.hid hO
           have HX1 := Lib.hid (HBX0.out.trans (hb1.mono HBX0.out.size))
           have HX1Z := Lib.hid hb1.size
           have HLO := Lib.hid (fun b hb => Nat.le_trans HBX0.out.size ((hO.low b hb).1))
           have HD := Lib.hid (HDO.out.below hb1 HDO.out.lt)
           have HTN := Lib.hid (show τ w.heap.size = none from Classical.byContradiction fun c => by have := (hO.low _ c).1; have := HDO.out.lt; omega)
           have hd1 := HDO.out.below hb1 HDO.out.lt
           have d0 := hd1.cell 0
           have d1 := hd1.cell 1
           have d2 := hd1.cell 2
           have d3 := hd1.cell 3
           have d4 := hd1.cell 4
           have d5 := hd1.cell 5
           simp at d0 d1 d2 d3 d4 d5
           clear hO hb1 hp hd1)
        | (go_at_call 21
           with_reducible refine (act_nil _ _ _ _ _ _ _).mono ?_
           rintro e w2 ⟨rfl, hb2⟩
           have HO2 := Lib.hid (HO.out.below hb2)
           have HX2 := Lib.hid (HX1.out.trans (hb2.mono HX1.out.size))
           have HX2Z := Lib.hid (Nat.le_trans HX1Z.out hb2.size)
           have hd2 := HD.out.below hb2 HD.out.lt
           have HD2 := Lib.hid hd2
           have hdl := hd2.lt
           have d0 := hd2.cell 0
           have d1 := hd2.cell 1
           have d2 := hd2.cell 2
           have d3 := hd2.cell 3
           have d4 := hd2.cell 4
           have d5 := hd2.cell 5
           simp at d0 d1 d2 d3 d4 d5
           clear hb2 hd2)
        | (go_at_call 23; (with_reducible refine (pCount_nil _).mono ?_); rintro e w' ⟨rfl, rfl⟩)
        | (go_at_call 23; have hcn := pCount_any (HO2.out.below ((Below.refl _ _).alloc (Nat.le_refl _) (.cells #[.int .i64 0, .int .i64 0, .int .i64 0] 28))); (with_reducible refine hcn.mono ?_); rintro e w' ⟨rfl, rfl⟩)
        | (go_at_call 21
           have hac := act_s (HO2.out.below ((Below.refl _ _).alloc (Nat.le_refl _) (.cells #[.int .i64 0, .int .i64 0, .int .i64 0] 28))) (HT.out.grow (HX2.out.alloc HX2.out.size _)) (Nat.le_trans HX2Z.out (by simp)) (sz0.mono (by omega)) k id t x y z HE.out HL1.out HL2.out HL3.out
           with_reducible refine hac.mono ?_
           rintro e w3 ⟨rfl, τ3, hO3, hF3, hG3⟩
           have HX := Lib.hid (((HX2.out.alloc HX2.out.size (.cells #[.int .i64 0, .int .i64 0, .int .i64 0] 28)).trans (hF3.below (Nat.le_trans HX2.out.size (by simp)) HLO.out)).alloc (Nat.le_trans HX2.out.size (Nat.le_trans (by simp) hF3.size)) (.cells #[.int .i64 0, .int .i64 0, .int .i64 0] 28))
           have hd3 := (HD2.out.alloc (.cells #[.int .i64 0, .int .i64 0, .int .i64 0] 28)).fr hF3 HTN.out
           have hdl3 := hd3.lt
           have d0 := hd3.cell 0
           have d1 := hd3.cell 1
           have d2 := hd3.cell 2
           have d3 := hd3.cell 3
           have d4 := hd3.cell 4
           have d5 := hd3.cell 5
           simp at d0 d1 d2 d3 d4 d5
           clear hO3 hF3 hG3 hd3 hac)
        | (go_at_call 18; refine (awake_any _ (HT.out.grow HX.out)).mono ?_; rintro e9 w9 ⟨rfl, hb9⟩; replace HX := Lib.hid (HX.out.trans (hb9.mono HX.out.size)); clear hb9))
      go_ret
      exact ⟨rfl, HX.out⟩
    · go_enter Tryd.func10, Tryd.ntmps10
      go_wp2_with fail
      rw [← HW.out]
      go_wp2_with (first
        | (go_at_call 19
           with_reducible refine (pNew_any _).mono ?_
           rintro e w1 ⟨p, τ, rfl, hO, hb1, hp⟩
           have HO := Lib.hid hO
           have HX1 := Lib.hid (HBX0.out.trans (hb1.mono HBX0.out.size))
           have HX1Z := Lib.hid hb1.size
           have HLO := Lib.hid (fun b hb => Nat.le_trans HBX0.out.size ((hO.low b hb).1))
           have HD := Lib.hid (HDO.out.below hb1 HDO.out.lt)
           have HTN := Lib.hid (show τ w.heap.size = none from Classical.byContradiction fun c => by have := (hO.low _ c).1; have := HDO.out.lt; omega)
           have hd1 := HDO.out.below hb1 HDO.out.lt
           have d0 := hd1.cell 0
           have d1 := hd1.cell 1
           have d2 := hd1.cell 2
           have d3 := hd1.cell 3
           have d4 := hd1.cell 4
           have d5 := hd1.cell 5
           simp at d0 d1 d2 d3 d4 d5
           clear hO hb1 hp hd1)
        | (go_at_call 21
           with_reducible refine (act_nil _ _ _ _ _ _ _).mono ?_
           rintro e w2 ⟨rfl, hb2⟩
           have HO2 := Lib.hid (HO.out.below hb2)
           have HX2 := Lib.hid (HX1.out.trans (hb2.mono HX1.out.size))
           have HX2Z := Lib.hid (Nat.le_trans HX1Z.out hb2.size)
           have hd2 := HD.out.below hb2 HD.out.lt
           have HD2 := Lib.hid hd2
           have hdl := hd2.lt
           have d0 := hd2.cell 0
           have d1 := hd2.cell 1
           have d2 := hd2.cell 2
           have d3 := hd2.cell 3
           have d4 := hd2.cell 4
           have d5 := hd2.cell 5
           simp at d0 d1 d2 d3 d4 d5
           clear hb2 hd2)
        | (go_at_call 23; (with_reducible refine (pCount_nil _).mono ?_); rintro e w' ⟨rfl, rfl⟩)
        | (go_at_call 23; have hcn := pCount_any (HO2.out.below ((Below.refl _ _).alloc (Nat.le_refl _) (.cells #[.int .i64 0, .int .i64 0, .int .i64 0] 28))); (with_reducible refine hcn.mono ?_); rintro e w' ⟨rfl, rfl⟩)
        | (go_at_call 21
           have hac := act_s (HO2.out.below ((Below.refl _ _).alloc (Nat.le_refl _) (.cells #[.int .i64 0, .int .i64 0, .int .i64 0] 28))) (HT.out.grow (HX2.out.alloc HX2.out.size _)) (Nat.le_trans HX2Z.out (by simp)) (sz0.mono (by omega)) k id t x y z HE.out HL1.out HL2.out HL3.out
           with_reducible refine hac.mono ?_
           rintro e w3 ⟨rfl, τ3, hO3, hF3, hG3⟩
           have HX := Lib.hid (((HX2.out.alloc HX2.out.size (.cells #[.int .i64 0, .int .i64 0, .int .i64 0] 28)).trans (hF3.below (Nat.le_trans HX2.out.size (by simp)) HLO.out)).alloc (Nat.le_trans HX2.out.size (Nat.le_trans (by simp) hF3.size)) (.cells #[.int .i64 0, .int .i64 0, .int .i64 0] 28))
           have hd3 := (HD2.out.alloc (.cells #[.int .i64 0, .int .i64 0, .int .i64 0] 28)).fr hF3 HTN.out
           have hdl3 := hd3.lt
           have d0 := hd3.cell 0
           have d1 := hd3.cell 1
           have d2 := hd3.cell 2
           have d3 := hd3.cell 3
           have d4 := hd3.cell 4
           have d5 := hd3.cell 5
           simp at d0 d1 d2 d3 d4 d5
           clear hO3 hF3 hG3 hd3 hac)
        | (go_at_call 18; refine (awake_any _ (HT.out.grow HX.out)).mono ?_; rintro e9 w9 ⟨rfl, hb9⟩; replace HX := Lib.hid (HX.out.trans (hb9.mono HX.out.size)); clear hb9))
      go_ret
      exact ⟨rfl, HX.out⟩
    · go_enter Tryd.func10, Tryd.ntmps10
      go_wp2_with fail
      rw [← HW.out]
      go_wp2_with (first
        | (go_at_call 19
           with_reducible refine (pNew_any _).mono ?_
           rintro e w1 ⟨p, τ, rfl, hO, hb1, hp⟩
           have HO := Lib.hid hO
           have HX1 := Lib.hid (HBX0.out.trans (hb1.mono HBX0.out.size))
           have HX1Z := Lib.hid hb1.size
           have HLO := Lib.hid (fun b hb => Nat.le_trans HBX0.out.size ((hO.low b hb).1))
           have HD := Lib.hid (HDO.out.below hb1 HDO.out.lt)
           have HTN := Lib.hid (show τ w.heap.size = none from Classical.byContradiction fun c => by have := (hO.low _ c).1; have := HDO.out.lt; omega)
           have hd1 := HDO.out.below hb1 HDO.out.lt
           have d0 := hd1.cell 0
           have d1 := hd1.cell 1
           have d2 := hd1.cell 2
           have d3 := hd1.cell 3
           have d4 := hd1.cell 4
           have d5 := hd1.cell 5
           simp at d0 d1 d2 d3 d4 d5
           clear hO hb1 hp hd1)
        | (go_at_call 21
           with_reducible refine (act_nil _ _ _ _ _ _ _).mono ?_
           rintro e w2 ⟨rfl, hb2⟩
           have HO2 := Lib.hid (HO.out.below hb2)
           have HX2 := Lib.hid (HX1.out.trans (hb2.mono HX1.out.size))
           have HX2Z := Lib.hid (Nat.le_trans HX1Z.out hb2.size)
           have hd2 := HD.out.below hb2 HD.out.lt
           have HD2 := Lib.hid hd2
           have hdl := hd2.lt
           have d0 := hd2.cell 0
           have d1 := hd2.cell 1
           have d2 := hd2.cell 2
           have d3 := hd2.cell 3
           have d4 := hd2.cell 4
           have d5 := hd2.cell 5
           simp at d0 d1 d2 d3 d4 d5
           clear hb2 hd2)
        | (go_at_call 23; (with_reducible refine (pCount_nil _).mono ?_); rintro e w' ⟨rfl, rfl⟩)
        | (go_at_call 23; have hcn := pCount_any (HO2.out.below ((Below.refl _ _).alloc (Nat.le_refl _) (.cells #[.int .i64 0, .int .i64 0, .int .i64 0] 28))); (with_reducible refine hcn.mono ?_); rintro e w' ⟨rfl, rfl⟩)
        | (go_at_call 21
           have hac := act_s (HO2.out.below ((Below.refl _ _).alloc (Nat.le_refl _) (.cells #[.int .i64 0, .int .i64 0, .int .i64 0] 28))) (HT.out.grow (HX2.out.alloc HX2.out.size _)) (Nat.le_trans HX2Z.out (by simp)) (sz0.mono (by omega)) k id t x y z HE.out HL1.out HL2.out HL3.out
           with_reducible refine hac.mono ?_
           rintro e w3 ⟨rfl, τ3, hO3, hF3, hG3⟩
           have HX := Lib.hid (((HX2.out.alloc HX2.out.size (.cells #[.int .i64 0, .int .i64 0, .int .i64 0] 28)).trans (hF3.below (Nat.le_trans HX2.out.size (by simp)) HLO.out)).alloc (Nat.le_trans HX2.out.size (Nat.le_trans (by simp) hF3.size)) (.cells #[.int .i64 0, .int .i64 0, .int .i64 0] 28))
           have hd3 := (HD2.out.alloc (.cells #[.int .i64 0, .int .i64 0, .int .i64 0] 28)).fr hF3 HTN.out
           have hdl3 := hd3.lt
           have d0 := hd3.cell 0
           have d1 := hd3.cell 1
           have d2 := hd3.cell 2
           have d3 := hd3.cell 3
           have d4 := hd3.cell 4
           have d5 := hd3.cell 5
           simp at d0 d1 d2 d3 d4 d5
           clear hO3 hF3 hG3 hd3 hac)
        | (go_at_call 18; refine (awake_any _ (HT.out.grow HX.out)).mono ?_; rintro e9 w9 ⟨rfl, hb9⟩; replace HX := Lib.hid (HX.out.trans (hb9.mono HX.out.size)); clear hb9))
      go_ret
      exact ⟨rfl, HX.out⟩
    · go_enter Tryd.func10, Tryd.ntmps10
      go_wp2_with fail
      rw [← HW.out]
      go_wp2_with (first
        | (go_at_call 19
           with_reducible refine (pNew_any _).mono ?_
           rintro e w1 ⟨p, τ, rfl, hO, hb1, hp⟩
           have HO := Lib.hid hO
           have HX1 := Lib.hid (HBX0.out.trans (hb1.mono HBX0.out.size))
           have HX1Z := Lib.hid hb1.size
           have HLO := Lib.hid (fun b hb => Nat.le_trans HBX0.out.size ((hO.low b hb).1))
           have HD := Lib.hid (HDO.out.below hb1 HDO.out.lt)
           have HTN := Lib.hid (show τ w.heap.size = none from Classical.byContradiction fun c => by have := (hO.low _ c).1; have := HDO.out.lt; omega)
           have hd1 := HDO.out.below hb1 HDO.out.lt
           have d0 := hd1.cell 0
           have d1 := hd1.cell 1
           have d2 := hd1.cell 2
           have d3 := hd1.cell 3
           have d4 := hd1.cell 4
           have d5 := hd1.cell 5
           simp at d0 d1 d2 d3 d4 d5
           clear hO hb1 hp hd1)
        | (go_at_call 21
           with_reducible refine (act_nil _ _ _ _ _ _ _).mono ?_
           rintro e w2 ⟨rfl, hb2⟩
           have HO2 := Lib.hid (HO.out.below hb2)
           have HX2 := Lib.hid (HX1.out.trans (hb2.mono HX1.out.size))
           have HX2Z := Lib.hid (Nat.le_trans HX1Z.out hb2.size)
           have hd2 := HD.out.below hb2 HD.out.lt
           have HD2 := Lib.hid hd2
           have hdl := hd2.lt
           have d0 := hd2.cell 0
           have d1 := hd2.cell 1
           have d2 := hd2.cell 2
           have d3 := hd2.cell 3
           have d4 := hd2.cell 4
           have d5 := hd2.cell 5
           simp at d0 d1 d2 d3 d4 d5
           clear hb2 hd2)
        | (go_at_call 23; (with_reducible refine (pCount_nil _).mono ?_); rintro e w' ⟨rfl, rfl⟩)
        | (go_at_call 23; have hcn := pCount_any (HO2.out.below ((Below.refl _ _).alloc (Nat.le_refl _) (.cells #[.int .i64 0, .int .i64 0, .int .i64 0] 28))); (with_reducible refine hcn.mono ?_); rintro e w' ⟨rfl, rfl⟩)
        | (go_at_call 21
           have hac := act_s (HO2.out.below ((Below.refl _ _).alloc (Nat.le_refl _) (.cells #[.int .i64 0, .int .i64 0, .int .i64 0] 28))) (HT.out.grow (HX2.out.alloc HX2.out.size _)) (Nat.le_trans HX2Z.out (by simp)) (sz0.mono (by omega)) k id t x y z HE.out HL1.out HL2.out HL3.out
           with_reducible refine hac.mono ?_
           rintro e w3 ⟨rfl, τ3, hO3, hF3, hG3⟩
           have HX := Lib.hid (((HX2.out.alloc HX2.out.size (.cells #[.int .i64 0, .int .i64 0, .int .i64 0] 28)).trans (hF3.below (Nat.le_trans HX2.out.size (by simp)) HLO.out)).alloc (Nat.le_trans HX2.out.size (Nat.le_trans (by simp) hF3.size)) (.cells #[.int .i64 0, .int .i64 0, .int .i64 0] 28))
           have hd3 := (HD2.out.alloc (.cells #[.int .i64 0, .int .i64 0, .int .i64 0] 28)).fr hF3 HTN.out
           have hdl3 := hd3.lt
           have d0 := hd3.cell 0
           have d1 := hd3.cell 1
           have d2 := hd3.cell 2
           have d3 := hd3.cell 3
           have d4 := hd3.cell 4
           have d5 := hd3.cell 5
           simp at d0 d1 d2 d3 d4 d5
           clear hO3 hF3 hG3 hd3 hac)
        | (go_at_call 18; refine (awake_any _ (HT.out.grow HX.out)).mono ?_; rintro e9 w9 ⟨rfl, hb9⟩; replace HX := Lib.hid (HX.out.trans (hb9.mono HX.out.size)); clear hb9))
      go_ret
      exact ⟨rfl, HX.out⟩
end Go.Proofs.YtainelkenkgppaaDoor
