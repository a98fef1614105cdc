/- The chapter's examples: the function awake answers true. -/
import Derived.Test.YtainelkenkgppaaDoorPlt
namespace Go.Proofs.YtainelkenkgppaaDoor
open Go.ChangeShapes Go.WideShapes Go.ChangeAt Go.RowKit Go.Lott
open Go.Sort Go.Lott.Stb Go.Lott.Srt Go.Lott.Lm
def exR : List (List Int) := [[0, 1, 14400000, 3000, 0, 0], [0, 1, 14400000, 3000, 0, 0], [0, 2, 14400000, 5000, 0, 0], [0, 3, 14399999, 3000, 0, 0], [1, 1, 14400000, 500, 0, 0], [4, 1, 14400010, 300, 0, 0], [4, 1, 14400020, 300, 0, 0], [4, 1, 14400020, 200, 0, 0], [2, 1, 14400030, 14400040, 14400050, 0], [3, 1, 14400040, 0, 0, 0], [5, 1, 14400040, 100, 0, 0], [4, 1, 14400051, 100, 0, 0], [2, 1, 14400060, 14400059, 14400070, 0], [3, 9, 14400060, 1, 0, 0], [3, 0, 14400060, 1, 0, 0]]
def exE : List Int := [0, 6, 21, 2, 0, 0, 22, 0, 0, 20, 0, 0, 2, 5, 2]
def exZ (i j : Nat) : Int := ((exR[i]?).getD [])[j]?.getD 0
def exW (i : Nat) : Int := (exE[i]?).getD 0
def exD (i : Nat) : PDo := ⟨exZ i 0, exZ i 1, exZ i 2, exZ i 3, exZ i 4, exZ i 5⟩
def exS : Nat → PSt
  | 0 => ps0
  | i + 1 => stpD (exS i) (exD i)
theorem exS_sz : ∀ i, Sz (exS i) i
  | 0 => sz0
  | i + 1 => (exS_sz i).stp (exD i)
theorem ex_err : ∀ i, i < 15 → errD (exS i) (exD i) = exW i := by
  intro i hi
  rcases (show i = 0 ∨ i = 1 ∨ i = 2 ∨ i = 3 ∨ i = 4 ∨ i = 5 ∨ i = 6 ∨ i = 7 ∨ i = 8 ∨ i = 9 ∨ i = 10 ∨ i = 11 ∨ i = 12 ∨ i = 13 ∨ i = 14 by omega) with rfl | rfl | rfl | rfl | rfl | rfl | rfl | rfl | rfl | rfl | rfl | rfl | rfl | rfl | rfl <;> kernel_rfl
theorem ex_spent : spT (basE 1 14400020 0) (knw (exS 15) 1) (thr (exS 15) 1) 14400020 = .tuple #[.agg #[.int .i64 500, .int .i64 500, .int .i64 500], .int .i64 0] := by
  have e1 : spL (basE 1 14400020 0) (knw (exS 15) 1) (thr (exS 15) 1) 14400020 1 = 500 := by kernel_rfl
  have e2 : spL (basE 1 14400020 0) (knw (exS 15) 1) (thr (exS 15) 1) 14400020 2 = 500 := by kernel_rfl
  have e3 : spL (basE 1 14400020 0) (knw (exS 15) 1) (thr (exS 15) 1) 14400020 3 = 500 := by kernel_rfl
  have e4 : knE (basE 1 14400020 0) (knw (exS 15) 1) = 0 := by kernel_rfl
  unfold spT
  rw [e1, e2, e3, e4]
theorem ex_count : (exS 15).rs.length = 1 := by kernel_rfl
def exC : Array Value := #[.int .i64 0, .int .i64 1, .int .i64 14400000, .int .i64 3000, .int .i64 0, .int .i64 0, .int .i64 0, .int .i64 1, .int .i64 14400000, .int .i64 3000, .int .i64 0, .int .i64 0, .int .i64 0, .int .i64 2, .int .i64 14400000, .int .i64 5000, .int .i64 0, .int .i64 0, .int .i64 0, .int .i64 3, .int .i64 14399999, .int .i64 3000, .int .i64 0, .int .i64 0, .int .i64 1, .int .i64 1, .int .i64 14400000, .int .i64 500, .int .i64 0, .int .i64 0, .int .i64 4, .int .i64 1, .int .i64 14400010, .int .i64 300, .int .i64 0, .int .i64 0, .int .i64 4, .int .i64 1, .int .i64 14400020, .int .i64 300, .int .i64 0, .int .i64 0, .int .i64 4, .int .i64 1, .int .i64 14400020, .int .i64 200, .int .i64 0, .int .i64 0, .int .i64 2, .int .i64 1, .int .i64 14400030, .int .i64 14400040, .int .i64 14400050, .int .i64 0, .int .i64 3, .int .i64 1, .int .i64 14400040, .int .i64 0, .int .i64 0, .int .i64 0, .int .i64 5, .int .i64 1, .int .i64 14400040, .int .i64 100, .int .i64 0, .int .i64 0, .int .i64 4, .int .i64 1, .int .i64 14400051, .int .i64 100, .int .i64 0, .int .i64 0, .int .i64 2, .int .i64 1, .int .i64 14400060, .int .i64 14400059, .int .i64 14400070, .int .i64 0, .int .i64 3, .int .i64 9, .int .i64 14400060, .int .i64 1, .int .i64 0, .int .i64 0, .int .i64 3, .int .i64 0, .int .i64 14400060, .int .i64 1, .int .i64 0, .int .i64 0]
def exWC : Array Value := #[.int .i64 0, .int .i64 6, .int .i64 21, .int .i64 2, .int .i64 0, .int .i64 0, .int .i64 22, .int .i64 0, .int .i64 0, .int .i64 20, .int .i64 0, .int .i64 0, .int .i64 2, .int .i64 5, .int .i64 2]
theorem exC_at : ∀ i j, i < 15 → j < 6 → exC[i * 6 + j]? = some (.int .i64 (exZ i j)) := by
  intro i j hi hj
  rcases (show i = 0 ∨ i = 1 ∨ i = 2 ∨ i = 3 ∨ i = 4 ∨ i = 5 ∨ i = 6 ∨ i = 7 ∨ i = 8 ∨ i = 9 ∨ i = 10 ∨ i = 11 ∨ i = 12 ∨ i = 13 ∨ i = 14 by omega) with rfl | rfl | rfl | rfl | rfl | rfl | rfl | rfl | rfl | rfl | rfl | rfl | rfl | rfl | rfl <;> rcases (show j = 0 ∨ j = 1 ∨ j = 2 ∨ j = 3 ∨ j = 4 ∨ j = 5 by omega) with rfl | rfl | rfl | rfl | rfl | rfl <;> rfl
theorem exW_at : ∀ i, i < 15 → exWC[i]? = some (.int .i64 (exW i)) := by
  intro i hi
  rcases (show i = 0 ∨ i = 1 ∨ i = 2 ∨ i = 3 ∨ i = 4 ∨ i = 5 ∨ i = 6 ∨ i = 7 ∨ i = 8 ∨ i = 9 ∨ i = 10 ∨ i = 11 ∨ i = 12 ∨ i = 13 ∨ i = 14 by omega) with rfl | rfl | rfl | rfl | rfl | rfl | rfl | rfl | rfl | rfl | rfl | rfl | rfl | rfl | rfl <;> rfl
theorem act_t {w : World} {B p : Nat} {τ : Rl} {S : PSt} (h : PO w B τ p S) (hT : Tab w) (hB : B ≤ w.heap.size) (hsz : Sz S 300) (d : PDo) {E a b c : Int} (hE : errD S d = E) (ha : limD S d 1 = a) (hb : limD S d 2 = b) (hc : limD S d 3 = c) :
    Calls Tryd.prog 21 #[.pointer (some ⟨p, 0, none⟩), .agg #[.int .i64 d.k, .int .i64 d.id, .int .i64 d.t, .int .i64 d.x, .int .i64 d.y, .int .i64 d.z]] w (Lv (fun w τ S => PO w B τ p S) w τ (stpD S d) (.tuple #[.int .i64 E, .agg #[.int .i64 a, .int .i64 b, .int .i64 c]])) := by
  subst hE; subst ha; subst hb; subst hc
  exact act_any h hT hB hsz d.k d.id d.t d.x d.y d.z
set_option maxHeartbeats 8000000 in
set_option maxRecDepth 100000 in
theorem awake_any (w : World) (ht : Tab w) : Calls Tryd.prog 18 #[] w (RetB (.bool true) w) := by
  have HT := Lib.hid ht
  clear ht
  go_enter Tryd.func18, Tryd.ntmps18
  go_wp2_with (go_at_call 19; refine (pNew_any _).mono ?_; rintro e w1 ⟨p, τ, rfl, hO, hb1, hp⟩; have HO := Lib.hid hO; have HB1 := Lib.hid hb1; clear hO hb1)
  generalize hW2 : (w1.alloc (.cells #[.int .i64 0, .int .i64 1, .int .i64 14400000, .int .i64 3000, .int .i64 0, .int .i64 0, .int .i64 0, .int .i64 1, .int .i64 14400000, .int .i64 3000, .int .i64 0, .int .i64 0, .int .i64 0, .int .i64 2, .int .i64 14400000, .int .i64 5000, .int .i64 0, .int .i64 0, .int .i64 0, .int .i64 3, .int .i64 14399999, .int .i64 3000, .int .i64 0, .int .i64 0, .int .i64 1, .int .i64 1, .int .i64 14400000, .int .i64 500, .int .i64 0, .int .i64 0, .int .i64 4, .int .i64 1, .int .i64 14400010, .int .i64 300, .int .i64 0, .int .i64 0, .int .i64 4, .int .i64 1, .int .i64 14400020, .int .i64 300, .int .i64 0, .int .i64 0, .int .i64 4, .int .i64 1, .int .i64 14400020, .int .i64 200, .int .i64 0, .int .i64 0, .int .i64 2, .int .i64 1, .int .i64 14400030, .int .i64 14400040, .int .i64 14400050, .int .i64 0, .int .i64 3, .int .i64 1, .int .i64 14400040, .int .i64 0, .int .i64 0, .int .i64 0, .int .i64 5, .int .i64 1, .int .i64 14400040, .int .i64 100, .int .i64 0, .int .i64 0, .int .i64 4, .int .i64 1, .int .i64 14400051, .int .i64 100, .int .i64 0, .int .i64 0, .int .i64 2, .int .i64 1, .int .i64 14400060, .int .i64 14400059, .int .i64 14400070, .int .i64 0, .int .i64 3, .int .i64 9, .int .i64 14400060, .int .i64 1, .int .i64 0, .int .i64 0, .int .i64 3, .int .i64 0, .int .i64 14400060, .int .i64 1, .int .i64 0, .int .i64 0] 46)).alloc (.cells #[.int .i64 0, .int .i64 6, .int .i64 21, .int .i64 2, .int .i64 0, .int .i64 0, .int .i64 22, .int .i64 0, .int .i64 0, .int .i64 20, .int .i64 0, .int .i64 0, .int .i64 2, .int .i64 5, .int .i64 2] 35) = W2
  have hl1 : ∀ b, τ b ≠ none → w.heap.size ≤ b ∧ b < w1.heap.size := HO.out.low
  have hs2 : W2.heap.size = w1.heap.size + 2 := by rw [← hW2]; simp
  have hb2 : Below w1.heap.size w1 W2 := by rw [← hW2]; exact ((Below.refl _ _).alloc (Nat.le_refl _) _).alloc (by simp) _
  have cl : Cel W2 w1.heap.size exC 46 := by rw [← hW2]; exact (Cel.new w1 exC 46).alloc _
  have cw : Cel W2 (w1.heap.size + 1) exWC 35 := by
    rw [← hW2]
    have := Cel.new (w1.alloc (.cells exC 46)) exWC 35
    have e : (w1.alloc (.cells exC 46)).heap.size = w1.heap.size + 1 := by simp
    rw [e] at this
    exact this
  have n0 : τ w1.heap.size = none := Classical.byContradiction fun c => by have := (hl1 _ c).2; omega
  have n1 : τ (w1.heap.size + 1) = none := Classical.byContradiction fun c => by have := (hl1 _ c).2; omega
  have HO2 := Lib.hid (HO.out.below hb2)
  have HBW := Lib.hid (HB1.out.trans (hb2.mono HB1.out.size))
  have HCL := Lib.hid cl
  have HCW := Lib.hid cw
  have HN0 := Lib.hid n0
  have HN1 := Lib.hid n1
  have HL := Lib.hid (fun b hb => (hl1 b hb).1)
  have HS2 := Lib.hid hs2
  clear hW2 hl1 hs2 hb2 cl cw n0 n1 HO HB1
  generalize w1.heap.size = q at *
  go_loopw [4] (fun vi wr => ∃ (i : Nat) (τ' : Rl), vi = .int .i64 i ∧ i ≤ 15 ∧ PO wr w.heap.size τ' p (exS i) ∧ Fr τ W2 wr ∧ Gr τ τ' W2.heap.size) (fun vi _ => 15 - (intOf vi).toNat)
  case atStart => exact ⟨0, τ, by go_num, by omega, HO2.out, Fr.refl _ _, Gr.refl _ _⟩
  case round =>
    obtain ⟨i, τ', rfl, hi, hO, hF, hG⟩ := hrel
    have hbr := HBW.out.trans ((hF.below HBW.out.size HL.out))
    have HBR := Lib.hid hbr
    have HF := Lib.hid hF
    have HG := Lib.hid hG
    have HO := Lib.hid hO
    by_cases hlt : i < 15
    · have cl := HCL.out.fr hF HN0.out
      have c0 : wr.cell? ⟨q, i * 6, none⟩ = some (.int .i64 (exZ i 0)) := (cl.cell _).trans (exC_at i 0 hlt (by omega))
      have c1 : wr.cell? ⟨q, i * 6 + 1, none⟩ = some (.int .i64 (exZ i 1)) := (cl.cell _).trans (exC_at i 1 hlt (by omega))
      have c2 : wr.cell? ⟨q, i * 6 + 2, none⟩ = some (.int .i64 (exZ i 2)) := (cl.cell _).trans (exC_at i 2 hlt (by omega))
      have c3 : wr.cell? ⟨q, i * 6 + 3, none⟩ = some (.int .i64 (exZ i 3)) := (cl.cell _).trans (exC_at i 3 hlt (by omega))
      have c4 : wr.cell? ⟨q, i * 6 + 4, none⟩ = some (.int .i64 (exZ i 4)) := (cl.cell _).trans (exC_at i 4 hlt (by omega))
      have c5 : wr.cell? ⟨q, i * 6 + 5, none⟩ = some (.int .i64 (exZ i 5)) := (cl.cell _).trans (exC_at i 5 hlt (by omega))
      have hc := act_t hO (HT.out.grow hbr) hbr.size ((exS_sz i).mono (by omega)) (exD i) (ex_err i hlt) rfl rfl rfl
      obtain ⟨l1, h1⟩ : ∃ l, l = limD (exS i) (exD i) 1 := ⟨_, rfl⟩
      obtain ⟨l2, h2⟩ : ∃ l, l = limD (exS i) (exD i) 2 := ⟨_, rfl⟩
      obtain ⟨l3, h3⟩ : ∃ l, l = limD (exS i) (exD i) 3 := ⟨_, rfl⟩
      rw [← h1, ← h2, ← h3] at hc
      have HC := Lib.hid (show Calls Tryd.prog 21 #[.pointer (some ⟨p, 0, none⟩), .agg #[.int .i64 (exZ i 0), .int .i64 (exZ i 1), .int .i64 (exZ i 2), .int .i64 (exZ i 3), .int .i64 (exZ i 4), .int .i64 (exZ i 5)]] wr _ from hc)
      have HCX := Lib.hid (HCW.out.fr hF HN1.out)
      have HNX := Lib.hid (show τ' (q + 1) = none from Classical.byContradiction fun c => by rcases HG.out _ c with d | d; exact d HN1.out; have := HS2.out; omega)
      have hqs : q + 1 < W2.heap.size := by have := HS2.out; omega
      have HWA := Lib.hid (exW_at i hlt)
      have hlt' : (i : Int) < 15 := by omega
      clear hO hF hG hbr hc h1 h2 h3 cl
      go_wp2_with (go_at_call 21; (with_reducible refine HC.out.mono ?_); intro e w3 hlv; obtain ⟨rfl, τ2, hO2, hF2, hG2⟩ := hlv; have HO3 := Lib.hid hO2; have HF3 := Lib.hid (HF.out.trans HG.out hF2); have HG3 := Lib.hid (HG.out.trans hG2 HF.out.size); have d0 : w3.cell? ⟨q + 1, i, none⟩ = some (.int .i64 (exW i)) := ((HCX.out.fr hF2 HNX.out).cell _).trans HWA.out; have hq3 : q + 1 < w3.heap.size := (HCX.out.fr hF2 HNX.out).lt; clear hO2 hF2 hG2)
      go_roundw
      case rel => exact ⟨i + 1, _, by go_num, hlt, HO3.out.below ((Below.refl _ _).alloc (Nat.le_refl _) _), HF3.out.alloc _, HG3.out⟩
      case measure => simp [intOf]; omega
    · obtain rfl : i = 15 := by omega
      have hs := pSpent_any hO (HT.out.grow hbr) ((exS_sz 15).mono (by omega)) 1 14400020
      rw [ex_spent] at hs
      have HSP := Lib.hid hs
      have HCN := Lib.hid (show ∀ V, Below wr.heap.size wr V → Calls Tryd.prog 23 #[.pointer (some ⟨p, 0, none⟩)] V (RetS (.int .i64 1) V) from fun V hb => by have := pCount_any (hO.below hb); rw [ex_count] at this; exact this)
      clear hO hF hG hbr hs
      go_wp2_with (first
        | (go_at_call 27; (with_reducible refine HSP.out.mono ?_); rintro e w5 ⟨rfl, hb5⟩; have HB5 := Lib.hid hb5; clear hb5)
        | (go_at_call 23; refine (HCN.out _ (HB5.out.alloc HB5.out.size _)).mono ?_; rintro e w6 ⟨rfl, rfl⟩))
      go_ret
      exact ⟨rfl, HBR.out.trans ((HB5.out.alloc HB5.out.size _).mono HBR.out.size)⟩
end Go.Proofs.YtainelkenkgppaaDoor
