/- The law PlayerAges: its walk. -/
import Derived.Test.YtainelkenkgppaaDoorPlu
namespace Go.Proofs.YtainelkenkgppaaDoor
open Go.ChangeShapes Go.WideShapes Go.ChangeAt Go.RowKit Go.Lott
open Go.Sort Go.Lott.Stb Go.Lott.Srt Go.Lott.Lm
theorem a0_err (id t x : Int) : errD ps0 ⟨0, id, t, x, 0, 0⟩ = regE (basE id t 0) false x t := rfl
theorem cn_same {id t x : Int} {E : Int} (h : errD ps0 ⟨0, id, t, x, 0, 0⟩ = E) (hE : E ≠ 0) : ((stpD ps0 ⟨0, id, t, x, 0, 0⟩).rs.length : Int) = 0 := by
  rw [stp_err (by rw [h]; exact hE)]; rfl
set_option maxHeartbeats 8000000 in
set_option maxRecDepth 100000 in
theorem playerAges_walk (id x t : Int) (w : World) (_ : (Lit.int .i64 id).wf = true) (_ : (Lit.int .i64 x).wf = true) (_ : (Lit.int .i64 t).wf = true) (ht : Tab w) :
    Calls Tryd.prog 6 #[.int .i64 id, .int .i64 x, .int .i64 t] w (RetB (.bool true) w) := by
  have HT := Lib.hid ht
  clear ht
  by_cases hb : basE id t 0 = 0
  · obtain ⟨⟨g1, g2⟩, ⟨g3, g4⟩, _⟩ := basE_iff.1 hb
    have td : t.tdiv 1440 = t / 1440 := Int.tdiv_eq_ediv_of_nonneg (by omega)
    have tw : wrap64 (t / 1440) = t / 1440 := IntWalk.wrap64_in _ (by omega)
    obtain ⟨A, hA⟩ : ∃ A, ageN x (t / 1440) = A := ⟨_, rfl⟩
    have hage := fun W (hW : Tab W) => Age_any x (t / 1440) W hW
    rw [hA] at hage
    rcases ageE_two x (t / 1440) with ha | ha
    · rw [ha] at hage
      have HAG := Lib.hid hage
      by_cases hlt : A < 18
      · have he : errD ps0 ⟨0, id, t, x, 0, 0⟩ = 21 := by rw [a0_err]; unfold regE; rw [if_pos hb, if_pos ha, if_neg (by decide), if_pos (by rw [hA]; exact hlt)]
        have HE := Lib.hid he
        have HCN := Lib.hid (cn_same he (by decide))
        clear hb ha hA hage he
        go_enter Tryd.func6, Tryd.ntmps6
        go_wp2_with (first
          | (go_at_call 19
             with_reducible refine (pNew_any _).mono ?_
             rintro e w1 ⟨p, τ, rfl, hO, hb1, hp⟩
             have HO := Lib.hid hO
             have HX1 := Lib.hid hb1
             have HLO := Lib.hid (fun b hb => (hO.low b hb).1)
             clear hO hb1 hp)
          | (go_at_call 25
             have hac := pRegister_any HO.out (HT.out.grow HX1.out) HX1.out.size (by decide) id t x 0 0
             rw [HE.out] at hac
             with_reducible refine hac.mono ?_
             rintro e w3 ⟨rfl, τ3, hO3, hF3, hG3⟩
             have HX := Lib.hid (HX1.out.trans (hF3.below HX1.out.size HLO.out))
             have HP := Lib.hid hO3
             have HLP := Lib.hid (fun b (hb : τ3 b ≠ none) => (hO3.low b hb).1)
             clear hO3 hF3 hG3 hac)
          | (go_at_call 26
             with_reducible refine (HAG.out _ (HT.out.grow HX.out)).mono ?_
             rintro e w4 ⟨rfl, hb4⟩
             replace HX := Lib.hid (HX.out.trans (hb4.mono HX.out.size))
             replace HP := Lib.hid (HP.out.below hb4)
             clear hb4)
          | (go_at_call 23
             have hcn := pCount_any HP.out
             rw [HCN.out] at hcn
             with_reducible refine hcn.mono ?_
             rintro e w' ⟨rfl, rfl⟩
             clear hcn)
          | (go_at_call 25
             have hac := pRegister_any HP.out (HT.out.grow HX.out) HX.out.size HSZ.out id t x 0 0
             rw [HE2.out] at hac
             with_reducible refine hac.mono ?_
             rintro e w5 ⟨rfl, τ5, hO5, hF5, hG5⟩
             replace HX := Lib.hid (HX.out.trans (hF5.below HX.out.size HLP.out))
             clear hO5 hF5 hG5 hac)
          | (go_at_call 18; (with_reducible refine (awake_any _ (HT.out.grow HX.out)).mono ?_); rintro e9 w9 ⟨rfl, hb9⟩; replace HX := Lib.hid (HX.out.trans (hb9.mono HX.out.size)); clear hb9))
        go_ret
        exact ⟨rfl, HX.out⟩
      · have hge : 18 ≤ A := by omega
        have he : errD ps0 ⟨0, id, t, x, 0, 0⟩ = 0 := by rw [a0_err]; unfold regE; rw [if_pos hb, if_pos ha, if_neg (by decide), if_neg (by rw [hA]; exact hlt)]
        have HE := Lib.hid he
        have HCN := Lib.hid (show ((stpD ps0 ⟨0, id, t, x, 0, 0⟩).rs.length : Int) = 1 by rw [stp0 he]; rfl)
        have HSZ := Lib.hid (show (stpD ps0 ⟨0, id, t, x, 0, 0⟩).rs.length ≤ 300 by rw [stp0 he]; show 1 ≤ 300; omega)
        have HE2 := Lib.hid (show errD (stpD ps0 ⟨0, id, t, x, 0, 0⟩) ⟨0, id, t, x, 0, 0⟩ = 6 by
          rw [stp0 he, e0_eq]
          have hk : knw (add ps0 id t) id = true := by rw [knw_add rfl]; simp
          have hbt : basE id t (add ps0 id t).now = 0 := basE_iff.2 ⟨⟨g1, g2⟩, ⟨g3, g4⟩, Int.le_refl _⟩
          unfold regE
          rw [if_pos hbt, if_pos ha, hk]; rfl)
        clear hb ha hA hage he hlt
        go_enter Tryd.func6, Tryd.ntmps6
        go_wp2_with (first
          | (go_at_call 19
             with_reducible refine (pNew_any _).mono ?_
             rintro e w1 ⟨p, τ, rfl, hO, hb1, hp⟩
             have HO := Lib.hid hO
             have HX1 := Lib.hid hb1
             have HLO := Lib.hid (fun b hb => (hO.low b hb).1)
             clear hO hb1 hp)
          | (go_at_call 25
             have hac := pRegister_any HO.out (HT.out.grow HX1.out) HX1.out.size (by decide) id t x 0 0
             rw [HE.out] at hac
             with_reducible refine hac.mono ?_
             rintro e w3 ⟨rfl, τ3, hO3, hF3, hG3⟩
             have HX := Lib.hid (HX1.out.trans (hF3.below HX1.out.size HLO.out))
             have HP := Lib.hid hO3
             have HLP := Lib.hid (fun b (hb : τ3 b ≠ none) => (hO3.low b hb).1)
             clear hO3 hF3 hG3 hac)
          | (go_at_call 26
             with_reducible refine (HAG.out _ (HT.out.grow HX.out)).mono ?_
             rintro e w4 ⟨rfl, hb4⟩
             replace HX := Lib.hid (HX.out.trans (hb4.mono HX.out.size))
             replace HP := Lib.hid (HP.out.below hb4)
             clear hb4)
          | (go_at_call 23
             have hcn := pCount_any HP.out
             rw [HCN.out] at hcn
             with_reducible refine hcn.mono ?_
             rintro e w' ⟨rfl, rfl⟩
             clear hcn)
          | (go_at_call 25
             have hac := pRegister_any HP.out (HT.out.grow HX.out) HX.out.size HSZ.out id t x 0 0
             rw [HE2.out] at hac
             with_reducible refine hac.mono ?_
             rintro e w5 ⟨rfl, τ5, hO5, hF5, hG5⟩
             replace HX := Lib.hid (HX.out.trans (hF5.below HX.out.size HLP.out))
             clear hO5 hF5 hG5 hac)
          | (go_at_call 18; (with_reducible refine (awake_any _ (HT.out.grow HX.out)).mono ?_); rintro e9 w9 ⟨rfl, hb9⟩; replace HX := Lib.hid (HX.out.trans (hb9.mono HX.out.size)); clear hb9))
        go_ret
        exact ⟨rfl, HX.out⟩
    · rw [ha] at hage
      have HAG := Lib.hid hage
      have he : errD ps0 ⟨0, id, t, x, 0, 0⟩ = 2 := by rw [a0_err]; unfold regE; rw [if_pos hb, if_neg (by omega)]
      have HE := Lib.hid he
      have HCN := Lib.hid (cn_same he (by decide))
      clear hb ha hA hage he
      go_enter Tryd.func6, Tryd.ntmps6
      go_wp2_with (first
        | (go_at_call 19
           with_reducible refine (pNew_any _).mono ?_
           rintro e w1 ⟨p, τ, rfl, hO, hb1, hp⟩
           have HO := Lib.hid hO
           have HX1 := Lib.hid hb1
           have HLO := Lib.hid (fun b hb => (hO.low b hb).1)
           clear hO hb1 hp)
        | (go_at_call 25
           have hac := pRegister_any HO.out (HT.out.grow HX1.out) HX1.out.size (by decide) id t x 0 0
           rw [HE.out] at hac
           with_reducible refine hac.mono ?_
           rintro e w3 ⟨rfl, τ3, hO3, hF3, hG3⟩
           have HX := Lib.hid (HX1.out.trans (hF3.below HX1.out.size HLO.out))
           have HP := Lib.hid hO3
           have HLP := Lib.hid (fun b (hb : τ3 b ≠ none) => (hO3.low b hb).1)
           clear hO3 hF3 hG3 hac)
        | (go_at_call 26
           with_reducible refine (HAG.out _ (HT.out.grow HX.out)).mono ?_
           rintro e w4 ⟨rfl, hb4⟩
           replace HX := Lib.hid (HX.out.trans (hb4.mono HX.out.size))
           replace HP := Lib.hid (HP.out.below hb4)
           clear hb4)
        | (go_at_call 23
           have hcn := pCount_any HP.out
           rw [HCN.out] at hcn
           with_reducible refine hcn.mono ?_
           rintro e w' ⟨rfl, rfl⟩
           clear hcn)
        | (go_at_call 25
           have hac := pRegister_any HP.out (HT.out.grow HX.out) HX.out.size HSZ.out id t x 0 0
           rw [HE2.out] at hac
           with_reducible refine hac.mono ?_
           rintro e w5 ⟨rfl, τ5, hO5, hF5, hG5⟩
           replace HX := Lib.hid (HX.out.trans (hF5.below HX.out.size HLP.out))
           clear hO5 hF5 hG5 hac)
        | (go_at_call 18; (with_reducible refine (awake_any _ (HT.out.grow HX.out)).mono ?_); rintro e9 w9 ⟨rfl, hb9⟩; replace HX := Lib.hid (HX.out.trans (hb9.mono HX.out.size)); clear hb9))
      go_ret
      exact ⟨rfl, HX.out⟩
  · have hb2 : basE id t 0 = 2 := (basE_two id t 0).resolve_left hb
    have he : errD ps0 ⟨0, id, t, x, 0, 0⟩ = 2 := by rw [a0_err]; unfold regE; rw [if_neg (by omega)]
    have HE := Lib.hid he
    have HCN := Lib.hid (cn_same he (by decide))
    have hw : id < 1 ∨ (1 ≤ id ∧ 128 < id) ∨ (1 ≤ id ∧ id ≤ 128 ∧ t < 0) ∨ (1 ≤ id ∧ id ≤ 128 ∧ 0 ≤ t ∧ 1073741824 < t) := by
      have h' : ¬ ((1 ≤ id ∧ id ≤ 128) ∧ (0 ≤ t ∧ t ≤ 1073741824) ∧ 0 ≤ t) := fun c => hb (basE_iff.2 c)
      omega
    clear hb hb2 he
    rcases hw with g1 | ⟨g1, g2⟩ | ⟨g1, g2, g3⟩ | ⟨g1, g2, g3, g4⟩
    · go_enter Tryd.func6, Tryd.ntmps6
      go_wp2_with (first
        | (go_at_call 19
           with_reducible refine (pNew_any _).mono ?_
           rintro e w1 ⟨p, τ, rfl, hO, hb1, hp⟩
           have HO := Lib.hid hO
           have HX1 := Lib.hid hb1
           have HLO := Lib.hid (fun b hb => (hO.low b hb).1)
           clear hO hb1 hp)
        | (go_at_call 25
           have hac := pRegister_any HO.out (HT.out.grow HX1.out) HX1.out.size (by decide) id t x 0 0
           rw [HE.out] at hac
           with_reducible refine hac.mono ?_
           rintro e w3 ⟨rfl, τ3, hO3, hF3, hG3⟩
           have HX := Lib.hid (HX1.out.trans (hF3.below HX1.out.size HLO.out))
           have HP := Lib.hid hO3
           have HLP := Lib.hid (fun b (hb : τ3 b ≠ none) => (hO3.low b hb).1)
           clear hO3 hF3 hG3 hac)
        | (go_at_call 26
           with_reducible refine (HAG.out _ (HT.out.grow HX.out)).mono ?_
           rintro e w4 ⟨rfl, hb4⟩
           replace HX := Lib.hid (HX.out.trans (hb4.mono HX.out.size))
           replace HP := Lib.hid (HP.out.below hb4)
           clear hb4)
        | (go_at_call 23
           have hcn := pCount_any HP.out
           rw [HCN.out] at hcn
           with_reducible refine hcn.mono ?_
           rintro e w' ⟨rfl, rfl⟩
           clear hcn)
        | (go_at_call 25
           have hac := pRegister_any HP.out (HT.out.grow HX.out) HX.out.size HSZ.out id t x 0 0
           rw [HE2.out] at hac
           with_reducible refine hac.mono ?_
           rintro e w5 ⟨rfl, τ5, hO5, hF5, hG5⟩
           replace HX := Lib.hid (HX.out.trans (hF5.below HX.out.size HLP.out))
           clear hO5 hF5 hG5 hac)
        | (go_at_call 18; (with_reducible refine (awake_any _ (HT.out.grow HX.out)).mono ?_); rintro e9 w9 ⟨rfl, hb9⟩; replace HX := Lib.hid (HX.out.trans (hb9.mono HX.out.size)); clear hb9))
      go_ret
      exact ⟨rfl, HX.out⟩
    · go_enter Tryd.func6, Tryd.ntmps6
      go_wp2_with (first
        | (go_at_call 19
           with_reducible refine (pNew_any _).mono ?_
           rintro e w1 ⟨p, τ, rfl, hO, hb1, hp⟩
           have HO := Lib.hid hO
           have HX1 := Lib.hid hb1
           have HLO := Lib.hid (fun b hb => (hO.low b hb).1)
           clear hO hb1 hp)
        | (go_at_call 25
           have hac := pRegister_any HO.out (HT.out.grow HX1.out) HX1.out.size (by decide) id t x 0 0
           rw [HE.out] at hac
           with_reducible refine hac.mono ?_
           rintro e w3 ⟨rfl, τ3, hO3, hF3, hG3⟩
           have HX := Lib.hid (HX1.out.trans (hF3.below HX1.out.size HLO.out))
           have HP := Lib.hid hO3
           have HLP := Lib.hid (fun b (hb : τ3 b ≠ none) => (hO3.low b hb).1)
           clear hO3 hF3 hG3 hac)
        | (go_at_call 26
           with_reducible refine (HAG.out _ (HT.out.grow HX.out)).mono ?_
           rintro e w4 ⟨rfl, hb4⟩
           replace HX := Lib.hid (HX.out.trans (hb4.mono HX.out.size))
           replace HP := Lib.hid (HP.out.below hb4)
           clear hb4)
        | (go_at_call 23
           have hcn := pCount_any HP.out
           rw [HCN.out] at hcn
           with_reducible refine hcn.mono ?_
           rintro e w' ⟨rfl, rfl⟩
           clear hcn)
        | (go_at_call 25
           have hac := pRegister_any HP.out (HT.out.grow HX.out) HX.out.size HSZ.out id t x 0 0
           rw [HE2.out] at hac
           with_reducible refine hac.mono ?_
           rintro e w5 ⟨rfl, τ5, hO5, hF5, hG5⟩
           replace HX := Lib.hid (HX.out.trans (hF5.below HX.out.size HLP.out))
           clear hO5 hF5 hG5 hac)
        | (go_at_call 18; (with_reducible refine (awake_any _ (HT.out.grow HX.out)).mono ?_); rintro e9 w9 ⟨rfl, hb9⟩; replace HX := Lib.hid (HX.out.trans (hb9.mono HX.out.size)); clear hb9))
      go_ret
      exact ⟨rfl, HX.out⟩
    · go_enter Tryd.func6, Tryd.ntmps6
      go_wp2_with (first
        | (go_at_call 19
           with_reducible refine (pNew_any _).mono ?_
           rintro e w1 ⟨p, τ, rfl, hO, hb1, hp⟩
           have HO := Lib.hid hO
           have HX1 := Lib.hid hb1
           have HLO := Lib.hid (fun b hb => (hO.low b hb).1)
           clear hO hb1 hp)
        | (go_at_call 25
           have hac := pRegister_any HO.out (HT.out.grow HX1.out) HX1.out.size (by decide) id t x 0 0
           rw [HE.out] at hac
           with_reducible refine hac.mono ?_
           rintro e w3 ⟨rfl, τ3, hO3, hF3, hG3⟩
           have HX := Lib.hid (HX1.out.trans (hF3.below HX1.out.size HLO.out))
           have HP := Lib.hid hO3
           have HLP := Lib.hid (fun b (hb : τ3 b ≠ none) => (hO3.low b hb).1)
           clear hO3 hF3 hG3 hac)
        | (go_at_call 26
           with_reducible refine (HAG.out _ (HT.out.grow HX.out)).mono ?_
           rintro e w4 ⟨rfl, hb4⟩
           replace HX := Lib.hid (HX.out.trans (hb4.mono HX.out.size))
           replace HP := Lib.hid (HP.out.below hb4)
           clear hb4)
        | (go_at_call 23
           have hcn := pCount_any HP.out
           rw [HCN.out] at hcn
           with_reducible refine hcn.mono ?_
           rintro e w' ⟨rfl, rfl⟩
           clear hcn)
        | (go_at_call 25
           have hac := pRegister_any HP.out (HT.out.grow HX.out) HX.out.size HSZ.out id t x 0 0
           rw [HE2.out] at hac
           with_reducible refine hac.mono ?_
           rintro e w5 ⟨rfl, τ5, hO5, hF5, hG5⟩
           replace HX := Lib.hid (HX.out.trans (hF5.below HX.out.size HLP.out))
           clear hO5 hF5 hG5 hac)
        | (go_at_call 18; (with_reducible refine (awake_any _ (HT.out.grow HX.out)).mono ?_); rintro e9 w9 ⟨rfl, hb9⟩; replace HX := Lib.hid (HX.out.trans (hb9.mono HX.out.size)); clear hb9))
      go_ret
      exact ⟨rfl, HX.out⟩
    · go_enter Tryd.func6, Tryd.ntmps6
      go_wp2_with (first
        | (go_at_call 19
           with_reducible refine (pNew_any _).mono ?_
           rintro e w1 ⟨p, τ, rfl, hO, hb1, hp⟩
           have HO := Lib.hid hO
           have HX1 := Lib.hid hb1
           have HLO := Lib.hid (fun b hb => (hO.low b hb).1)
           clear hO hb1 hp)
        | (go_at_call 25
           have hac := pRegister_any HO.out (HT.out.grow HX1.out) HX1.out.size (by decide) id t x 0 0
           rw [HE.out] at hac
           with_reducible refine hac.mono ?_
           rintro e w3 ⟨rfl, τ3, hO3, hF3, hG3⟩
           have HX := Lib.hid (HX1.out.trans (hF3.below HX1.out.size HLO.out))
           have HP := Lib.hid hO3
           have HLP := Lib.hid (fun b (hb : τ3 b ≠ none) => (hO3.low b hb).1)
           clear hO3 hF3 hG3 hac)
        | (go_at_call 26
           with_reducible refine (HAG.out _ (HT.out.grow HX.out)).mono ?_
           rintro e w4 ⟨rfl, hb4⟩
           replace HX := Lib.hid (HX.out.trans (hb4.mono HX.out.size))
           replace HP := Lib.hid (HP.out.below hb4)
           clear hb4)
        | (go_at_call 23
           have hcn := pCount_any HP.out
           rw [HCN.out] at hcn
           with_reducible refine hcn.mono ?_
           rintro e w' ⟨rfl, rfl⟩
           clear hcn)
        | (go_at_call 25
           have hac := pRegister_any HP.out (HT.out.grow HX.out) HX.out.size HSZ.out id t x 0 0
           rw [HE2.out] at hac
           with_reducible refine hac.mono ?_
           rintro e w5 ⟨rfl, τ5, hO5, hF5, hG5⟩
           replace HX := Lib.hid (HX.out.trans (hF5.below HX.out.size HLP.out))
           clear hO5 hF5 hG5 hac)
        | (go_at_call 18; (with_reducible refine (awake_any _ (HT.out.grow HX.out)).mono ?_); rintro e9 w9 ⟨rfl, hb9⟩; replace HX := Lib.hid (HX.out.trans (hb9.mono HX.out.size)); clear hb9))
      go_ret
      exact ⟨rfl, HX.out⟩
end Go.Proofs.YtainelkenkgppaaDoor
