/- A call of the program's object. -/
import Derived.Test.YtainelkenkgppaaDoorPls
namespace Go.Proofs.YtainelkenkgppaaDoor
open Go.ChangeShapes Go.WideShapes Go.ChangeAt Go.RowKit Go.Lott
open Go.Sort Go.Lott.Stb Go.Lott.Srt Go.Lott.Lm
/-- What a call answers. -/
def acV (S : PSt) (d : PDo) : Value := .tuple #[.int .i64 (errD S d), .agg #[.int .i64 (limD S d 1), .int .i64 (limD S d 2), .int .i64 (limD S d 3)]]
theorem acV_0 {S : PSt} {d : PDo} (h : d.k = 0 ∨ d.k = 1 ∨ d.k = 2 ∨ d.k = 3 ∨ d.k = 4 ∨ d.k = 5) : Value.tuple #[.int .i64 (errD S d), .agg #[.int .i64 0, .int .i64 0, .int .i64 0]] = acV S d := by
  have : ∀ j, limD S d j = 0 := fun j => by
    unfold limD limL
    rcases h with h | h | h | h | h | h <;> rw [h] <;> simp
  unfold acV
  rw [this, this, this]
theorem acV_6 {S : PSt} {d : PDo} (n0 : d.k ≠ 0) (n1 : d.k ≠ 1) (n2 : d.k ≠ 2) (n3 : d.k ≠ 3) (n4 : d.k ≠ 4) (n5 : d.k ≠ 5) :
    Value.tuple #[.int .i64 (knE (basE d.id d.t 0) (knw S d.id)), .agg #[.int .i64 (spL (basE d.id d.t 0) (knw S d.id) (thr S d.id) d.t 1), .int .i64 (spL (basE d.id d.t 0) (knw S d.id) (thr S d.id) d.t 2), .int .i64 (spL (basE d.id d.t 0) (knw S d.id) (thr S d.id) d.t 3)]] = acV S d := by
  unfold acV errD errL limD limL
  simp only [if_neg n0, if_neg n1, if_neg n2, if_neg n3, if_neg n4, if_neg n5]
theorem PO.box {w : World} {B p c i : Nat} {τ : Rl} {S : PSt} (h : PO w B τ p S) (hc : τ c = none) (u : Value) : PO (w.setCell ⟨c, i, none⟩ u) B τ p S :=
  h.fr (σ := tg (fun _ => none) c (0, 0)) (Fr.setCell (Fr.refl _ _) (.inl (by rw [tg_same]; simp)) _) (fun b hb => tg_ne _ (fun e => by rw [e] at hb; exact hb hc))
/-- The end of such a function: the answer's limits lie in a box of the call's own. -/
theorem lv_box {O : World → Rl → PSt → Prop} {w W0 w1 : World} {c : Nat} {τ : Rl} {S : PSt} {v v' x y z : Value} {e : Ending} (hbox : ∀ (w : World) (τ : Rl) (S : PSt) (i : Nat) (u : Value), O w τ S → τ c = none → O (w.setCell ⟨c, i, none⟩ u) τ S)
    (h : Lv O W0 τ S v' (.returned v') w1) (hb : Below w.heap.size w W0) (h1 : w.heap.size ≤ c) (h2 : c < W0.heap.size) (hτ : τ c = none) (he : e = .returned v) :
    Lv O w τ S v e (((w1.setCell ⟨c, 0, none⟩ x).setCell ⟨c, 1, none⟩ y).setCell ⟨c, 2, none⟩ z) := by
  obtain ⟨_, τ', hO, hF, hG⟩ := h
  have hc : τ' c = none := Classical.byContradiction fun d => by rcases hG c d with d | d; exact d hτ; omega
  refine ⟨he, τ', hbox _ _ _ _ _ (hbox _ _ _ _ _ (hbox _ _ _ _ _ hO hc) hc) hc, ?_, fun b hb' => ?_⟩
  · exact Fr.setCell (Fr.setCell (Fr.setCell ((Fr.of_below hb).trans (Gr.refl _ _) hF) (.inr h1) _) (.inr h1) _) (.inr h1) _
  · rcases hG b hb' with d | d
    · exact .inl d
    · exact .inr (by have := hb.size; omega)
theorem Lv.cel {O : World → Rl → PSt → Prop} {W0 w1 : World} {c : Nat} {τ : Rl} {S : PSt} {v : Value} {e : Ending} {cs : Array Value} {T : TypeId} (h : Lv O W0 τ S v e w1) (hc : Cel W0 c cs T) (hτ : τ c = none) : Cel w1 c cs T := by
  obtain ⟨_, τ', hO, hF, hG⟩ := h
  exact hc.fr hF hτ
theorem po_box (B p c : Nat) : ∀ (w : World) (τ : Rl) (S : PSt) (i : Nat) (u : Value), PO w B τ p S → τ c = none → PO (w.setCell ⟨c, i, none⟩ u) B τ p S := fun _ _ _ _ u h hc => h.box hc u
set_option maxHeartbeats 8000000 in
set_option maxRecDepth 100000 in
theorem act_any {w : World} {B p : Nat} {τ : Rl} {S : PSt} (h : PO w B τ p S) (hT : Tab w) (hB : B ≤ w.heap.size) (hsz : Sz S 300) (k id t x y z : Int) :
    Calls Tryd.prog 21 #[.pointer (some ⟨p, 0, none⟩), .agg #[.int .i64 k, .int .i64 id, .int .i64 t, .int .i64 x, .int .i64 y, .int .i64 z]] w (Lv (fun w τ S => PO w B τ p S) w τ (stpD S ⟨k, id, t, x, y, z⟩) (acV S ⟨k, id, t, x, y, z⟩)) := by
  obtain ⟨W0, hW0⟩ : ∃ W0, W0 = (w.alloc (.cells #[.int .i64 k, .int .i64 id, .int .i64 t, .int .i64 x, .int .i64 y, .int .i64 z] 46)).alloc (.cells #[.int .i64 0, .int .i64 0, .int .i64 0] 28) := ⟨_, rfl⟩
  have hb0 : Below w.heap.size w W0 := by rw [hW0]; exact ((Below.refl _ _).alloc (Nat.le_refl _) _).alloc (by simp) _
  have hs0 : W0.heap.size = w.heap.size + 2 := by rw [hW0]; simp
  have hd : Cel W0 w.heap.size #[.int .i64 k, .int .i64 id, .int .i64 t, .int .i64 x, .int .i64 y, .int .i64 z] 46 := by rw [hW0]; exact (Cel.new _ _ _).alloc _
  have hbox : Cel W0 (w.heap.size + 1) #[.int .i64 0, .int .i64 0, .int .i64 0] 28 := by
    rw [hW0]
    have := Cel.new (w.alloc (.cells #[.int .i64 k, .int .i64 id, .int .i64 t, .int .i64 x, .int .i64 y, .int .i64 z] 46)) #[.int .i64 0, .int .i64 0, .int .i64 0] 28
    simpa using this
  have d0 := hd.cell 0
  have d1 := hd.cell 1
  have d2 := hd.cell 2
  have d3 := hd.cell 3
  have d4 := hd.cell 4
  have d5 := hd.cell 5
  simp at d0 d1 d2 d3 d4 d5
  have HBX := Lib.hid hbox
  have HW := Lib.hid hW0
  have HB0 := Lib.hid hb0
  have HS0 := Lib.hid hs0
  have h0 := h.below hb0
  have hT0 := hT.grow hb0
  have HT := Lib.hid (show τ (w.heap.size + 1) = none from Classical.byContradiction fun c => by have := (h.low _ c).2; omega)
  have hB0 : B ≤ W0.heap.size := by omega
  by_cases hk : k = 0
  · subst hk
    have HC := Lib.hid (pRegister_any h0 hT0 hB0 hsz.1 id t x y z)
    have HV := Lib.hid (acV_0 (S := S) (d := ⟨0, id, t, x, y, z⟩) (by simp))
    obtain ⟨E, hE⟩ : ∃ E, E = errD S ⟨0, id, t, x, y, z⟩ := ⟨_, rfl⟩
    rw [← hE] at HC HV
    clear h hT hsz hE h0
    clear hd hbox hW0 hb0 hs0
    go_enter Tryd.func21, Tryd.ntmps21
    go_wp2_with fail
    rw [← HW.out]
    go_wp2_with (go_at_call 25; (with_reducible refine HC.out.mono ?_); intro e w1 hlv; obtain rfl := hlv.1; have HL := Lib.hid hlv; have C1 := hlv.cel HBX.out HT.out; have l0 := C1.cell 0; have l1 := C1.cell 1; have l2 := C1.cell 2; have f0 := C1.free 0; have f1 := C1.free 1; have f2 := C1.free 2; simp at l0 l1 l2; clear hlv C1)
    refine bodyPost_ret (v := .tuple #[.int .i64 E, .agg #[.int .i64 0, .int .i64 0, .int .i64 0]]) (by simp [results, Tryd.results21, go_sem, l0, l1, l2]) rfl ?_
    exact lv_box (po_box B p _) HL.out HB0.out (by omega) (by rw [HS0.out]; omega) HT.out (congrArg _ HV.out)
  have n0 := Lib.hid hk
  have k0 : (k == 0) = false := beq_eq_false_iff_ne.2 hk
  clear hk
  by_cases hk : k = 1
  · subst hk
    have HC := Lib.hid (pSetLimits_any h0 hB0 hsz id t x y z)
    have HV := Lib.hid (acV_0 (S := S) (d := ⟨1, id, t, x, y, z⟩) (by simp))
    obtain ⟨E, hE⟩ : ∃ E, E = errD S ⟨1, id, t, x, y, z⟩ := ⟨_, rfl⟩
    rw [← hE] at HC HV
    clear h hT hsz hE h0
    clear hd hbox hW0 hb0 hs0
    go_enter Tryd.func21, Tryd.ntmps21
    go_wp2_with fail
    rw [← HW.out]
    go_wp2_with (go_at_call 45; (with_reducible refine HC.out.mono ?_); intro e w1 hlv; obtain rfl := hlv.1; have HL := Lib.hid hlv; have C1 := hlv.cel HBX.out HT.out; have l0 := C1.cell 0; have l1 := C1.cell 1; have l2 := C1.cell 2; have f0 := C1.free 0; have f1 := C1.free 1; have f2 := C1.free 2; simp at l0 l1 l2; clear hlv C1)
    refine bodyPost_ret (v := .tuple #[.int .i64 E, .agg #[.int .i64 0, .int .i64 0, .int .i64 0]]) (by simp [results, Tryd.results21, go_sem, l0, l1, l2]) rfl ?_
    exact lv_box (po_box B p _) HL.out HB0.out (by omega) (by rw [HS0.out]; omega) HT.out (congrArg _ HV.out)
  have n1 := Lib.hid hk
  have k1 : (k == 1) = false := beq_eq_false_iff_ne.2 hk
  clear hk
  by_cases hk : k = 2
  · subst hk
    have HC := Lib.hid (pExclude_any h0 hB0 hsz id t x y z)
    have HV := Lib.hid (acV_0 (S := S) (d := ⟨2, id, t, x, y, z⟩) (by simp))
    obtain ⟨E, hE⟩ : ∃ E, E = errD S ⟨2, id, t, x, y, z⟩ := ⟨_, rfl⟩
    rw [← hE] at HC HV
    clear h hT hsz hE h0
    clear hd hbox hW0 hb0 hs0
    go_enter Tryd.func21, Tryd.ntmps21
    go_wp2_with fail
    rw [← HW.out]
    go_wp2_with (go_at_call 46; (with_reducible refine HC.out.mono ?_); intro e w1 hlv; obtain rfl := hlv.1; have HL := Lib.hid hlv; have C1 := hlv.cel HBX.out HT.out; have l0 := C1.cell 0; have l1 := C1.cell 1; have l2 := C1.cell 2; have f0 := C1.free 0; have f1 := C1.free 1; have f2 := C1.free 2; simp at l0 l1 l2; clear hlv C1)
    refine bodyPost_ret (v := .tuple #[.int .i64 E, .agg #[.int .i64 0, .int .i64 0, .int .i64 0]]) (by simp [results, Tryd.results21, go_sem, l0, l1, l2]) rfl ?_
    exact lv_box (po_box B p _) HL.out HB0.out (by omega) (by rw [HS0.out]; omega) HT.out (congrArg _ HV.out)
  have n2 := Lib.hid hk
  have k2 : (k == 2) = false := beq_eq_false_iff_ne.2 hk
  clear hk
  by_cases hk : k = 3
  · subst hk
    have HC := Lib.hid (pAllow_any h0 hT0 hsz id t x y z)
    have HV := Lib.hid (acV_0 (S := S) (d := ⟨3, id, t, x, y, z⟩) (by simp))
    obtain ⟨E, hE⟩ : ∃ E, E = errD S ⟨3, id, t, x, y, z⟩ := ⟨_, rfl⟩
    rw [← hE] at HC HV
    clear h hT hsz hE h0
    clear hd hbox hW0 hb0 hs0
    go_enter Tryd.func21, Tryd.ntmps21
    go_wp2_with fail
    rw [← HW.out]
    go_wp2_with (go_at_call 47; (with_reducible refine HC.out.mono ?_); intro e w1 hlv; obtain rfl := hlv.1; have HL := Lib.hid hlv; have C1 := hlv.cel HBX.out HT.out; have l0 := C1.cell 0; have l1 := C1.cell 1; have l2 := C1.cell 2; have f0 := C1.free 0; have f1 := C1.free 1; have f2 := C1.free 2; simp at l0 l1 l2; clear hlv C1)
    refine bodyPost_ret (v := .tuple #[.int .i64 E, .agg #[.int .i64 0, .int .i64 0, .int .i64 0]]) (by simp [results, Tryd.results21, go_sem, l0, l1, l2]) rfl ?_
    exact lv_box (po_box B p _) HL.out HB0.out (by omega) (by rw [HS0.out]; omega) HT.out (congrArg _ HV.out)
  have n3 := Lib.hid hk
  have k3 : (k == 3) = false := beq_eq_false_iff_ne.2 hk
  clear hk
  by_cases hk : k = 4
  · subst hk
    have HC := Lib.hid (pCharge_any h0 hT0 hB0 hsz id t x y z)
    have HV := Lib.hid (acV_0 (S := S) (d := ⟨4, id, t, x, y, z⟩) (by simp))
    obtain ⟨E, hE⟩ : ∃ E, E = errD S ⟨4, id, t, x, y, z⟩ := ⟨_, rfl⟩
    rw [← hE] at HC HV
    clear h hT hsz hE h0
    clear hd hbox hW0 hb0 hs0
    go_enter Tryd.func21, Tryd.ntmps21
    go_wp2_with fail
    rw [← HW.out]
    go_wp2_with (go_at_call 48; (with_reducible refine HC.out.mono ?_); intro e w1 hlv; obtain rfl := hlv.1; have HL := Lib.hid hlv; have C1 := hlv.cel HBX.out HT.out; have l0 := C1.cell 0; have l1 := C1.cell 1; have l2 := C1.cell 2; have f0 := C1.free 0; have f1 := C1.free 1; have f2 := C1.free 2; simp at l0 l1 l2; clear hlv C1)
    refine bodyPost_ret (v := .tuple #[.int .i64 E, .agg #[.int .i64 0, .int .i64 0, .int .i64 0]]) (by simp [results, Tryd.results21, go_sem, l0, l1, l2]) rfl ?_
    exact lv_box (po_box B p _) HL.out HB0.out (by omega) (by rw [HS0.out]; omega) HT.out (congrArg _ HV.out)
  have n4 := Lib.hid hk
  have k4 : (k == 4) = false := beq_eq_false_iff_ne.2 hk
  clear hk
  by_cases hk : k = 5
  · subst hk
    have HC := Lib.hid (pRefund_any h0 hB0 hsz id t x y z)
    have HV := Lib.hid (acV_0 (S := S) (d := ⟨5, id, t, x, y, z⟩) (by simp))
    obtain ⟨E, hE⟩ : ∃ E, E = errD S ⟨5, id, t, x, y, z⟩ := ⟨_, rfl⟩
    rw [← hE] at HC HV
    clear h hT hsz hE h0
    clear hd hbox hW0 hb0 hs0
    go_enter Tryd.func21, Tryd.ntmps21
    go_wp2_with fail
    rw [← HW.out]
    go_wp2_with (go_at_call 49; (with_reducible refine HC.out.mono ?_); intro e w1 hlv; obtain rfl := hlv.1; have HL := Lib.hid hlv; have C1 := hlv.cel HBX.out HT.out; have l0 := C1.cell 0; have l1 := C1.cell 1; have l2 := C1.cell 2; have f0 := C1.free 0; have f1 := C1.free 1; have f2 := C1.free 2; simp at l0 l1 l2; clear hlv C1)
    refine bodyPost_ret (v := .tuple #[.int .i64 E, .agg #[.int .i64 0, .int .i64 0, .int .i64 0]]) (by simp [results, Tryd.results21, go_sem, l0, l1, l2]) rfl ?_
    exact lv_box (po_box B p _) HL.out HB0.out (by omega) (by rw [HS0.out]; omega) HT.out (congrArg _ HV.out)
  have n5 := Lib.hid hk
  have k5 : (k == 5) = false := beq_eq_false_iff_ne.2 hk
  clear hk
  have HV := Lib.hid (acV_6 (S := S) (d := ⟨k, id, t, x, y, z⟩) n0.out n1.out n2.out n3.out n4.out n5.out)
  have HS1 := Lib.hid (stp_read (S := S) (d := ⟨k, id, t, x, y, z⟩) n0.out n1.out n2.out n4.out n5.out)
  have hc := pSpent_any h0 hT0 hsz id t
  have HPO := Lib.hid h0
  obtain ⟨E, hE⟩ : ∃ E, E = knE (basE id t 0) (knw S id) := ⟨_, rfl⟩
  obtain ⟨a1, ha1⟩ : ∃ a, a = spL (basE id t 0) (knw S id) (thr S id) t 1 := ⟨_, rfl⟩
  obtain ⟨a2, ha2⟩ : ∃ a, a = spL (basE id t 0) (knw S id) (thr S id) t 2 := ⟨_, rfl⟩
  obtain ⟨a3, ha3⟩ : ∃ a, a = spL (basE id t 0) (knw S id) (thr S id) t 3 := ⟨_, rfl⟩
  unfold spT at hc
  rw [← hE, ← ha1, ← ha2, ← ha3] at hc HV
  have HC := Lib.hid hc
  clear h hT hsz h0 hT0 hc hE ha1 ha2 ha3
  clear hd hbox hW0 hb0 hs0
  go_enter Tryd.func21, Tryd.ntmps21
  go_wp2_with fail
  rw [← HW.out]
  go_wp2_with (go_at_call 27; (with_reducible refine HC.out.mono ?_); rintro e w1 ⟨rfl, hb1⟩; have HB1 := Lib.hid hb1; have C1 := HBX.out.below hb1 HBX.out.lt; have l0 := C1.cell 0; have l1 := C1.cell 1; have l2 := C1.cell 2; have f0 := C1.free 0; have f1 := C1.free 1; have f2 := C1.free 2; simp at l0 l1 l2; clear hb1 C1)
  obtain ⟨W1, hW1⟩ : ∃ W1, W1 = w1.alloc (.cells #[.int .i64 a1, .int .i64 a2, .int .i64 a3] 28) := ⟨_, rfl⟩
  have hbw : Below W0.heap.size W0 W1 := by rw [hW1]; exact HB1.out.alloc HB1.out.size _
  have CB := HBX.out.below hbw HBX.out.lt
  have CA : Cel W1 w1.heap.size #[.int .i64 a1, .int .i64 a2, .int .i64 a3] 28 := by rw [hW1]; exact Cel.new _ _ _
  have hq : w1.heap.size ≠ w.heap.size + 1 := by have := HB1.out.size; have := HS0.out; omega
  have HBW := Lib.hid hbw
  rw [← hW1]
  generalize w1.heap.size = q at *
  have m0 := CA.cell 0
  have m1 := CA.cell 1
  have m2 := CA.cell 2
  have o0 := CB.cell 0
  have o1 := CB.cell 1
  have o2 := CB.cell 2
  have p0 := CB.free 0
  have p1 := CB.free 1
  have p2 := CB.free 2
  simp at m0 m1 m2 o0 o1 o2
  clear l0 l1 l2 f0 f1 f2 CA CB hbw hW1
  go_region
  all_goals
    go_wp2
    refine bodyPost_ret (v := .tuple #[.int .i64 E, .agg #[.int .i64 a1, .int .i64 a2, .int .i64 a3]]) (by simp [results, Tryd.results21, go_sem, o0, o1, o2]) rfl ?_
    refine lv_box (po_box B p _) (Lv.same (v := .int .i64 0) (by rw [HS1.out]; exact (HPO.out.below HBW.out).below (Below.drew (Below.refl _ _))) rfl (HBW.out.drew)) HB0.out (by omega) (by rw [HS0.out]; omega) HT.out (congrArg _ HV.out)
end Go.Proofs.YtainelkenkgppaaDoor
