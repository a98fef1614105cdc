/- The program's object: New, Register, Allow, Spent, Count; a nil object. -/
import Derived.Test.YtainelkenkgppaaDoorPlz
namespace Go.Proofs.YtainelkenkgppaaDoor
open Go.ChangeShapes Go.WideShapes Go.ChangeAt Go.RowKit Go.Lott
open Go.Sort Go.Lott.Stb Go.Lott.Srt Go.Lott.Lm
/-- What New leaves. -/
def NewP (O : World → Nat → Rl → Nat → PSt → Prop) (w : World) (e : Ending) (w' : World) : Prop :=
  ∃ p τ, e = .returned (.pointer (some ⟨p, 0, none⟩)) ∧ O w' w.heap.size τ p ps0 ∧ Below w.heap.size w w' ∧ w.heap.size ≤ p
theorem po_new (w : World) : PO ((w.alloc (.map #[] 0)).alloc (.cells #[.map (some w.heap.size), .int .i64 0] 79)) w.heap.size (tg (tg (fun _ => none) w.heap.size (1, 0)) (w.heap.size + 1) (0, 0)) (w.heap.size + 1) ps0 := by
  have hc := Cel.new (w.alloc (.map #[] 0)) #[.map (some w.heap.size), .int .i64 0] 79
  have hz : (w.alloc (.map #[] 0)).heap.size = w.heap.size + 1 := by simp
  rw [hz] at hc
  refine ⟨w.heap.size, .map [], fun _ => 0, fun _ _ => .slice none 0 0, ?_, tg_same _ _ _, hc, ?_, ?_, rfl, fun id => ?_, fun id hk => ?_, fun k hk => ?_, fun k hk => ?_, fun k f hk => ?_, fun k f g hk => ?_⟩
  · intro b hb
    have hs : ((w.alloc (.map #[] 0)).alloc (.cells #[.map (some w.heap.size), .int .i64 0] 79)).heap.size = w.heap.size + 2 := by simp
    rw [hs]
    by_cases c1 : b = w.heap.size + 1
    · omega
    · rw [tg_ne _ c1] at hb
      by_cases c2 : b = w.heap.size
      · omega
      · rw [tg_ne _ c2] at hb; exact absurd rfl hb
  · rw [tg_ne _ (by omega)]; exact tg_same _ _ _
  · exact (World.ownsMap_made w Tryd.prog 3 ptrR).alloc _
  · simp [knw, ps0, fnd, Go.Maps.has_eq]
  · simp [knw, ps0, fnd] at hk
  · simp [ps0] at hk
  · simp [ps0] at hk
  · simp [ps0] at hk
  · simp [ps0] at hk
theorem pNew_any (w : World) : Calls Tryd.prog 19 #[] w (NewP PO w) := by
  have hmm := @run_makeMap Tryd.prog
  go_enter Tryd.func19, Tryd.ntmps19
  go_wp2
  go_ret
  exact ⟨_, _, rfl, po_new w, ((Below.refl _ _).alloc (Nat.le_refl _) _).alloc (by simp) _, by omega⟩
theorem eqMap (m : Nat) (w : World) : (binOp BinOp.eql 77 (Value.map (some m)) (Value.map none)).run Tryd.prog w = .ok (.bool false) w := by kernel_rfl
theorem e0_eq {S : PSt} {id t x y z : Int} : errD S ⟨0, id, t, x, y, z⟩ = regE (basE id t S.now) (knw S id) x t := rfl
theorem stp0 {S : PSt} {id t x y z : Int} (h : errD S ⟨0, id, t, x, y, z⟩ = 0) : stpD S ⟨0, id, t, x, y, z⟩ = add S id t := by
  unfold stpD; rw [if_pos h]; rfl
theorem ageE_two (b n : Int) : ageE b n = 0 ∨ ageE b n = 2 := by unfold ageE; split <;> simp
section
variable {w w1 w2 : World} {B p m : Nat} {τ : Rl} {S : PSt} {D : DataW Unit} {rb : Nat → Nat} {V : Nat → Nat → Value}
theorem PObj.regd (h : PObj w2 B τ p S m D rb V) (hb : Below w.heap.size w w2) (hB : B ≤ w2.heap.size) {id t : Int} (hk : knw S id = false)
    (hm : w1.ownsMap Tryd.prog 3 ptrR m (S.rs.length + 1) (D.put (.int .i64 id) (.lit (.int .i64 w2.heap.size)))) (hg : (w2.alloc (.cells #[.slice none 0 0, .slice none 0 0, .slice none 0 0] 88)).grownBy w1 (some m)) :
    ∃ τ', PO (w1.setCell ⟨p, 1, none⟩ (.int .i64 t)) B τ' p (add S id t) ∧ Fr τ w (w1.setCell ⟨p, 1, none⟩ (.int .i64 t)) ∧ Gr τ τ' w.heap.size := by
  refine ⟨_, ⟨_, _, _, _, h.reg (id := id) (t := t) hk hB rfl hm hg⟩, ?_, Gr.tg (.inr hb.size)⟩
  refine Fr.setCell (Fr.grown (((Fr.of_below hb).alloc _)) hg fun k hk' => .inl ?_) (.inl ?_) _
  · cases hk'; rw [h.tm]; simp
  · rw [h.tp]; simp
set_option maxHeartbeats 4000000 in
set_option maxRecDepth 100000 in
theorem pRegister_any (h : PO w B τ p S) (hT : Tab w) (hB : B ≤ w.heap.size) (hsz : S.rs.length ≤ 300) (id t x y z : Int) :
    Calls Tryd.prog 25 #[.pointer (some ⟨p, 0, none⟩), .int .i64 id, .int .i64 x, .int .i64 t] w (Lv (fun w τ S => PO w B τ p S) w τ (stpD S ⟨0, id, t, x, y, z⟩) (.int .i64 (errD S ⟨0, id, t, x, y, z⟩))) := by
  have HPO := Lib.hid h
  obtain ⟨m, D, rb, V, h⟩ := h
  have c0 := h.cp.cell 0
  have c1 := h.cp.cell 1
  simp at c0 c1
  have hpl := h.cp.lt
  rcases basE_two id t S.now with hb | hb
  · have hbi := basE_iff.1 hb
    have td : t.tdiv 1440 = t / 1440 := Int.tdiv_eq_ediv_of_nonneg (by omega)
    have tw : wrap64 (t / 1440) = t / 1440 := IntWalk.wrap64_in _ (by omega)
    have HBA := Lib.hid (hb ▸ basic_any id t S.now w)
    have hage := Age_any x (t / 1440) w hT
    rcases ageE_two x (t / 1440) with ha | ha
    · rw [ha] at hage
      obtain ⟨A, hA⟩ : ∃ A, A = ageN x (t / 1440) := ⟨_, rfl⟩
      rw [← hA] at hage
      have HAG := Lib.hid hage
      cases hk : knw S id with
      | true =>
        have HE := Lib.hid (show errD S ⟨0, id, t, x, y, z⟩ = 6 by rw [e0_eq]; unfold regE; rw [if_pos hb, if_pos ha, hk]; rfl)
        have HS1 := Lib.hid (stp_err (S := S) (d := ⟨0, id, t, x, y, z⟩) (by rw [HE.out]; decide))
        have HP := Lib.hid h
        have HK := Lib.hid hk
        have HWF := Lib.hid (wf_id hb)
        clear hb hbi hage ha hk hT h hA
        go_enter Tryd.func25, Tryd.ntmps25
        go_wp2_with (first
          | (go_at_call 57; refine HBA.out.mono ?_; rintro e w' ⟨rfl, rfl⟩)
          | (go_at_call 26; (with_reducible refine HAG.out.mono ?_); rintro e w2 ⟨rfl, hb2⟩; have HB2 := Lib.hid hb2; have hP2 := HP.out.below hb2; have hl := hP2.look_yes HK.out HWF.out; have d0 := hP2.cp.cell 0; simp at d0; clear hb2 hP2))
        go_ret
        rw [HS1.out, HE.out]
        exact Lv.same (HPO.out.below HB2.out) rfl HB2.out
      | false =>
        have HP := Lib.hid h
        have HK := Lib.hid hk
        have HWF := Lib.hid (wf_id hb)
        by_cases hlt : A < 18
        · have HE := Lib.hid (show errD S ⟨0, id, t, x, y, z⟩ = 21 by rw [e0_eq]; unfold regE; rw [if_pos hb, if_pos ha, hk, if_neg (by decide), if_pos (by rw [← hA]; exact hlt)])
          have HS1 := Lib.hid (stp_err (S := S) (d := ⟨0, id, t, x, y, z⟩) (by rw [HE.out]; decide))
          clear hb hbi hage ha hk hT h hA
          go_enter Tryd.func25, Tryd.ntmps25
          go_wp2_with (first
            | (go_at_call 57; refine HBA.out.mono ?_; rintro e w' ⟨rfl, rfl⟩)
            | (go_at_call 26; (with_reducible refine HAG.out.mono ?_); rintro e w2 ⟨rfl, hb2⟩; have HB2 := Lib.hid hb2; have hP2 := HP.out.below hb2; have hl := hP2.look_no HK.out HWF.out; have d0 := hP2.cp.cell 0; simp at d0; clear hb2 hP2))
          go_ret
          rw [HS1.out, HE.out]
          exact Lv.same (HPO.out.below HB2.out) rfl HB2.out
        · have HE := Lib.hid (show errD S ⟨0, id, t, x, y, z⟩ = 0 by rw [e0_eq]; unfold regE; rw [if_pos hb, if_pos ha, hk, if_neg (by decide), if_neg (by rw [← hA]; exact hlt)])
          have hge : 18 ≤ A := by omega
          have hen := eqMap m
          have hnm : S.rs.length < maxLen := by unfold maxLen; omega
          clear hb hbi hage ha hk hT h hA hlt
          go_enter Tryd.func25, Tryd.ntmps25
          go_wp2_with (first
            | (go_at_call 57; refine HBA.out.mono ?_; rintro e w' ⟨rfl, rfl⟩)
            | (go_at_call 26
               with_reducible refine HAG.out.mono ?_
               rintro e w2 ⟨rfl, hb2⟩
               have HB2 := Lib.hid hb2
               have hP2 := HP.out.below hb2
               have HP2 := Lib.hid hP2
               have hl := hP2.look_no HK.out HWF.out
               have d0 := hP2.cp.cell 0
               have d1 := hP2.cp.cell 1
               have d2 := hP2.cp.free 1
               have hp2 := hP2.cp.lt
               simp at d0 d1
               have hm2 := hP2.mp.lt
               have HM := Lib.hid (hP2.mp.alloc (.cells #[.slice none 0 0, .slice none 0 0, .slice none 0 0] 88))
               have hmp : some p ≠ some m := fun c => by cases c; have h1 := hP2.tp; rw [hP2.tm] at h1; simp at h1
               have HMP := Lib.hid hmp
               clear hb2 hP2 hmp)
            | (at_mapUpdate; refine wpList_mapUpdate_own _ rfl _ _ _ 77 rfl 3 85 keyI Tryd.underlying77 ptrR m S.rs.length D rfl HM.out hnm _ _ _ rfl rfl (Go.Maps.keyOf_int_mk Tryd.underlying3 HWF.out) (.lit (.int .i64 w2.heap.size)) [] rfl ?_; intro w1 hown1 hgrow1; have q1 : w1.cell? ⟨p, 1, none⟩ = some (.int .i64 S.now) := (hgrow1.cell_far ⟨p, 1, none⟩ (by simp; omega) HMP.out).trans (((Below.refl w2.heap.size w2).alloc (Nat.le_refl _) _).cell (p := ⟨p, 1, none⟩) hp2 |>.trans d1); have q2 : w1.frozen? ⟨p, 1, none⟩ = false := (hgrow1.frozen_far ⟨p, 1, none⟩ (by simp; omega) HMP.out).trans (((Below.refl w2.heap.size w2).alloc (Nat.le_refl _) _).frozen (p := ⟨p, 1, none⟩) hp2 |>.trans d2); have q0 : w1.cell? ⟨p, 0, none⟩ = some (.map (some m)) := (hgrow1.cell_far ⟨p, 0, none⟩ (by simp; omega) HMP.out).trans (((Below.refl w2.heap.size w2).alloc (Nat.le_refl _) _).cell (p := ⟨p, 0, none⟩) hp2 |>.trans d0); have HO1 := Lib.hid hown1; have HG1 := Lib.hid hgrow1; clear hown1 hgrow1))
          go_ret
          rw [stp0 HE.out]
          exact ⟨ret_int HE.out.symm, HP2.out.regd HB2.out (Nat.le_trans hB HB2.out.size) HK.out HO1.out HG1.out⟩
    · rw [ha] at hage
      have HAG := Lib.hid hage
      have HE := Lib.hid (show errD S ⟨0, id, t, x, y, z⟩ = 2 by rw [e0_eq]; unfold regE; rw [if_pos hb, if_neg (by omega)])
      have HS1 := Lib.hid (stp_err (S := S) (d := ⟨0, id, t, x, y, z⟩) (by rw [HE.out]; decide))
      clear hb hbi hage ha hT h
      go_enter Tryd.func25, Tryd.ntmps25
      go_wp2_with (first
        | (go_at_call 57; refine HBA.out.mono ?_; rintro e w' ⟨rfl, rfl⟩)
        | (go_at_call 26; (with_reducible refine HAG.out.mono ?_); rintro e w2 ⟨rfl, hb2⟩; have HB2 := Lib.hid hb2; clear hb2))
      go_ret
      rw [HS1.out, HE.out]
      exact Lv.same (HPO.out.below HB2.out) rfl HB2.out
  · have HBA := Lib.hid (hb ▸ basic_any id t S.now w)
    have HE := Lib.hid (show errD S ⟨0, id, t, x, y, z⟩ = 2 by rw [e0_eq]; unfold regE; rw [if_neg (by omega)])
    have HS1 := Lib.hid (stp_err (S := S) (d := ⟨0, id, t, x, y, z⟩) (by rw [HE.out]; decide))
    clear hb hT h
    go_enter Tryd.func25, Tryd.ntmps25
    go_wp2_with (go_at_call 57; refine HBA.out.mono ?_; rintro e w' ⟨rfl, rfl⟩)
    go_ret
    rw [HS1.out, HE.out]
    exact Lv.same HPO.out rfl (Below.refl _ _)
end
end Go.Proofs.YtainelkenkgppaaDoor
