/- The law PlayerDoes: its walk. -/
import Derived.Test.YtainelkenkgppaaDoorPltwo
import Derived.Test.YtainelkenkgppaaDoorQy
namespace Go.Proofs.YtainelkenkgppaaDoor
open Go.ChangeShapes Go.WideShapes Go.ChangeAt Go.RowKit Go.Lott
open Go.Sort Go.Lott.Stb Go.Lott.Srt Go.Lott.Lm
structure TwoQ (w : World) (A B : Nat) (τa τb : Rl) (pa pb : Nat) (Sa Sb : PSt) : Prop where
  a : PO w A τa pa Sa
  b : QO w B τb pb Sb
  dj : ∀ x, τa x = none ∨ τb x = none
  ab : A ≤ B
theorem QO.main {w : World} {B p : Nat} {τ : Rl} {S : PSt} (h : QO w B τ p S) : τ p ≠ none := by obtain ⟨vl, V, h⟩ := h; rw [h.tp]; simp
section
variable {w w1 : World} {A B pa pb : Nat} {τa τb τ' : Rl} {Sa Sb S' : PSt}
theorem TwoQ.below (h : TwoQ w A B τa τb pa pb Sa Sb) (hb : Below w.heap.size w w1) : TwoQ w1 A B τa τb pa pb Sa Sb := ⟨h.a.below hb, h.b.below hb, h.dj, h.ab⟩
theorem TwoQ.hA (h : TwoQ w A B τa τb pa pb Sa Sb) : A ≤ w.heap.size := by have := h.a.low pa h.a.main; omega
theorem TwoQ.hB (h : TwoQ w A B τa τb pa pb Sa Sb) : B ≤ w.heap.size := by have := h.b.low pb h.b.main; omega
theorem TwoQ.actA (h : TwoQ w A B τa τb pa pb Sa Sb) (hO : PO w1 A τ' pa S') (hF : Fr τa w w1) (hG : Gr τa τ' w.heap.size) : TwoQ w1 A B τ' τb pa pb S' Sb ∧ Below A w w1 :=
  ⟨⟨hO, h.b.fr hF (fun x hx => (h.dj x).resolve_right hx), fun x => by
    by_cases c : τ' x = none
    · exact .inl c
    · right
      rcases hG x c with d | d
      · exact (h.dj x).resolve_left d
      · exact Classical.byContradiction fun e => by have := (h.b.low x e).2; omega, h.ab⟩, hF.below h.hA (fun b hb => (h.a.low b hb).1)⟩
theorem TwoQ.actB (h : TwoQ w A B τa τb pa pb Sa Sb) (hO : QO w1 B τ' pb S') (hF : Fr τb w w1) (hG : Gr τb τ' w.heap.size) : TwoQ w1 A B τa τ' pa pb Sa S' ∧ Below A w w1 :=
  ⟨⟨h.a.fr hF (fun x hx => (h.dj x).resolve_left hx), hO, fun x => by
    by_cases c : τ' x = none
    · exact .inr c
    · left
      rcases hG x c with d | d
      · exact (h.dj x).resolve_right d
      · exact Classical.byContradiction fun e => by have := (h.a.low x e).2; omega, h.ab⟩, hF.below h.hA (fun b hb => Nat.le_trans h.ab (h.b.low b hb).1)⟩
theorem TwoQ.start {w0 : World} (ha : PO w w0.heap.size τa pa Sa) (hb : QO w1 w.heap.size τb pb Sb) (h1 : Below w.heap.size w w1) (h0 : w0.heap.size ≤ w.heap.size) : TwoQ w1 w0.heap.size w.heap.size τa τb pa pb Sa Sb :=
  ⟨ha.below h1, hb, fun x => by
    by_cases c : τa x = none
    · exact .inl c
    · right
      exact Classical.byContradiction fun e => by have h2 := (hb.low x e).1; have h3 := (ha.low x c).2; omega, h0⟩
end
theorem spec_s {w : World} {B p : Nat} {τ : Rl} {S : PSt} (h : QO w B τ p S) (hB : B ≤ w.heap.size) (hsz : Sz S 300) (k id t x y z : Int) {E a b c : Int} (hE : errD S ⟨k, id, t, x, y, z⟩ = E) (ha : limD S ⟨k, id, t, x, y, z⟩ 1 = a) (hb : limD S ⟨k, id, t, x, y, z⟩ 2 = b) (hc : limD S ⟨k, id, t, x, y, z⟩ 3 = c) :
    Calls Tryd.prog 22 #[.pointer (some ⟨p, 0, none⟩), .agg #[.int .i64 k, .int .i64 id, .int .i64 t, .int .i64 x, .int .i64 y, .int .i64 z]] w (Lv (fun w τ S => QO w B τ p S) w τ (stpD S ⟨k, id, t, x, y, z⟩) (.tuple #[.int .i64 E, .agg #[.int .i64 a, .int .i64 b, .int .i64 c]])) := by
  subst hE; subst ha; subst hb; subst hc
  exact spec_any h hB hsz k id t x y z
set_option maxHeartbeats 8000000 in
set_option maxRecDepth 100000 in
theorem playerDoes_walk (a : Option Addr) (n cap : Nat) (z : Nat → Nat → Int) (W : World) (hz : IsRows 6 W a n z ∧ n ≤ cap) (ht : Tab W) :
    Calls Tryd.prog 5 #[.slice a n cap] W (RetB (.bool true) W) := by
  have HT := Lib.hid ht
  have HR := Lib.hid hz.1
  clear ht hz
  by_cases hl : 80 < n
  · have hl' : (80 : Int) < (n : Int) := by omega
    have HX := Lib.hid (Below.refl W.heap.size W)
    clear hl
    go_enter Tryd.func5, Tryd.ntmps5
    go_wp2_with (go_at_call 18; (with_reducible refine (awake_any _ (HT.out.grow HX.out)).mono ?_); rintro e9 w9 ⟨rfl, hb9⟩; replace HX := Lib.hid (HX.out.trans (hb9.mono HX.out.size)); clear hb9)
    go_ret
    exact ⟨rfl, HX.out⟩
  · have hl' : (n : Int) ≤ 80 := by omega
    go_enter Tryd.func5, Tryd.ntmps5
    go_wp2_with (first
      | (go_at_call 19
         with_reducible refine (pNew_any _).mono ?_
         rintro e w1 ⟨pa, τa, rfl, hO1, hb1, hp1⟩
         have HNA := Lib.hid hO1
         have HX := Lib.hid hb1
         clear hO1 hb1 hp1)
      | (go_at_call 20
         have hfirst := HNA.out
         with_reducible refine (qNew_any _).mono ?_
         rintro e w2 ⟨pb, τb, rfl, hO2, hb2, hp2⟩
         have HTW := Lib.hid (TwoQ.start hfirst hO2 hb2 HX.out.size)
         replace HX := Lib.hid (HX.out.trans (hb2.mono HX.out.size))
         clear hO2 hb2 hp2 hfirst))
    generalize w1.heap.size = B at *
    go_loopw [5] (fun vi wr => ∃ (i : Nat) (τa' τb' : Rl) (S : PSt), vi = .int .i64 i ∧ i ≤ n ∧ TwoQ wr W.heap.size B τa' τb' pa pb S S ∧ Sz S i ∧ Below W.heap.size W wr) (fun vi _ => n - (intOf vi).toNat)
    case atStart => exact ⟨0, τa, τb, ps0, by go_num, by omega, HTW.out, sz0, HX.out⟩
    case round =>
      clear HTW HX HNA
      obtain ⟨i, τa', τb', S, rfl, hi, hTW, hSZ, hX⟩ := hrel
      have HTW := Lib.hid hTW
      have HSZ := Lib.hid hSZ
      have HX := Lib.hid hX
      by_cases hlt : i < n
      · obtain ⟨b, o, rfl, hbb, _, hcell⟩ := HR.out.resolve_left (by omega)
        have HBB := Lib.hid hbb
        have HCELL := Lib.hid (show ∀ y, Below W.heap.size W y → ∀ j, j < 6 → y.cell? ⟨b, o + (i * 6 + j), none⟩ = some (.int .i64 (z i j)) from fun y hy j hj => (hy.cell (p := ⟨b, _, none⟩) hbb).trans (hcell i j hlt hj))
        have c0 : wr.cell? ⟨b, o + i * 6, none⟩ = some (.int .i64 (z i 0)) := HCELL.out _ hX 0 (by omega)
        have c1 : wr.cell? ⟨b, o + i * 6 + 1, none⟩ = some (.int .i64 (z i 1)) := HCELL.out _ hX 1 (by omega)
        have c2 : wr.cell? ⟨b, o + i * 6 + 2, none⟩ = some (.int .i64 (z i 2)) := HCELL.out _ hX 2 (by omega)
        have c3 : wr.cell? ⟨b, o + i * 6 + 3, none⟩ = some (.int .i64 (z i 3)) := HCELL.out _ hX 3 (by omega)
        have c4 : wr.cell? ⟨b, o + i * 6 + 4, none⟩ = some (.int .i64 (z i 4)) := HCELL.out _ hX 4 (by omega)
        have c5 : wr.cell? ⟨b, o + i * 6 + 5, none⟩ = some (.int .i64 (z i 5)) := HCELL.out _ hX 5 (by omega)
        obtain ⟨d, hd⟩ : ∃ d : PDo, d = ⟨z i 0, z i 1, z i 2, z i 3, z i 4, z i 5⟩ := ⟨_, rfl⟩
        obtain ⟨S1, hS1⟩ : ∃ S1, stpD S ⟨z i 0, z i 1, z i 2, z i 3, z i 4, z i 5⟩ = S1 := ⟨_, rfl⟩
        obtain ⟨l1, h1⟩ : ∃ l, limD S ⟨z i 0, z i 1, z i 2, z i 3, z i 4, z i 5⟩ 1 = l := ⟨_, rfl⟩
        obtain ⟨l2, h2⟩ : ∃ l, limD S ⟨z i 0, z i 1, z i 2, z i 3, z i 4, z i 5⟩ 2 = l := ⟨_, rfl⟩
        obtain ⟨l3, h3⟩ : ∃ l, limD S ⟨z i 0, z i 1, z i 2, z i 3, z i 4, z i 5⟩ 3 = l := ⟨_, rfl⟩
        obtain ⟨E, hE⟩ : ∃ E, errD S ⟨z i 0, z i 1, z i 2, z i 3, z i 4, z i 5⟩ = E := ⟨_, rfl⟩
        have HL1 := Lib.hid h1
        have HL2 := Lib.hid h2
        have HL3 := Lib.hid h3
        have HSN := Lib.hid (show Sz S1 (i + 1) from hS1 ▸ hSZ.stp _)
        have hbl : b < wr.heap.size := Nat.lt_of_lt_of_le hbb hX.size
        clear hcell hTW hSZ hX h1 h2 h3 hd d hbb
        have HE := Lib.hid hE
        have HS1 := Lib.hid hS1
        clear hE hS1
        go_wp2_with (first
          | (go_at_call 21
             have hac := act_s HTW.out.a (HT.out.grow HX.out) HTW.out.hA (HSZ.out.mono (by omega)) (z i 0) (z i 1) (z i 2) (z i 3) (z i 4) (z i 5) HE.out HL1.out HL2.out HL3.out
             rw [HS1.out] at hac
             with_reducible refine hac.mono ?_
             rintro e w3 ⟨rfl, τ3, hO3, hF3, hG3⟩
             obtain ⟨ht3, hb3⟩ := HTW.out.actA hO3 hF3 hG3
             have hal : Below w3.heap.size w3 (w3.alloc (.cells #[.int .i64 l1, .int .i64 l2, .int .i64 l3] 28)) := (Below.refl _ _).alloc (Nat.le_refl _) _
             have hx3 := HX.out.trans hb3
             have c0 : w3.cell? ⟨b, o + i * 6, none⟩ = some (.int .i64 (z i 0)) := HCELL.out _ hx3 0 (by omega)
             have c1 : w3.cell? ⟨b, o + i * 6 + 1, none⟩ = some (.int .i64 (z i 1)) := HCELL.out _ hx3 1 (by omega)
             have c2 : w3.cell? ⟨b, o + i * 6 + 2, none⟩ = some (.int .i64 (z i 2)) := HCELL.out _ hx3 2 (by omega)
             have c3 : w3.cell? ⟨b, o + i * 6 + 3, none⟩ = some (.int .i64 (z i 3)) := HCELL.out _ hx3 3 (by omega)
             have c4 : w3.cell? ⟨b, o + i * 6 + 4, none⟩ = some (.int .i64 (z i 4)) := HCELL.out _ hx3 4 (by omega)
             have c5 : w3.cell? ⟨b, o + i * 6 + 5, none⟩ = some (.int .i64 (z i 5)) := HCELL.out _ hx3 5 (by omega)
             have hbl3 : b < w3.heap.size := Nat.lt_of_lt_of_le HBB.out hx3.size
             have HCL := Lib.hid (Cel.new w3 #[.int .i64 l1, .int .i64 l2, .int .i64 l3] 28)
             have HBN := Lib.hid (show τb' w3.heap.size = none from Classical.byContradiction fun c => by have := (ht3.b.low _ c).2; omega)
             replace HTW := Lib.hid (ht3.below hal)
             replace HX := Lib.hid (hx3.trans (hal.mono hx3.size))
             clear hac hO3 hF3 hG3 ht3 hb3 hal hx3)
          | (go_at_call 22
             have hac := spec_s HTW.out.b HTW.out.hB (HSZ.out.mono (by omega)) (z i 0) (z i 1) (z i 2) (z i 3) (z i 4) (z i 5) HE.out HL1.out HL2.out HL3.out
             rw [HS1.out] at hac
             with_reducible refine hac.mono ?_
             rintro e w3 ⟨rfl, τ3, hO3, hF3, hG3⟩
             obtain ⟨ht3, hb3⟩ := HTW.out.actB hO3 hF3 hG3
             have hal : Below w3.heap.size w3 (w3.alloc (.cells #[.int .i64 l1, .int .i64 l2, .int .i64 l3] 28)) := (Below.refl _ _).alloc (Nat.le_refl _) _
             have hx3 := HX.out.trans hb3
             have c0 : w3.cell? ⟨b, o + i * 6, none⟩ = some (.int .i64 (z i 0)) := HCELL.out _ hx3 0 (by omega)
             have c1 : w3.cell? ⟨b, o + i * 6 + 1, none⟩ = some (.int .i64 (z i 1)) := HCELL.out _ hx3 1 (by omega)
             have c2 : w3.cell? ⟨b, o + i * 6 + 2, none⟩ = some (.int .i64 (z i 2)) := HCELL.out _ hx3 2 (by omega)
             have c3 : w3.cell? ⟨b, o + i * 6 + 3, none⟩ = some (.int .i64 (z i 3)) := HCELL.out _ hx3 3 (by omega)
             have c4 : w3.cell? ⟨b, o + i * 6 + 4, none⟩ = some (.int .i64 (z i 4)) := HCELL.out _ hx3 4 (by omega)
             have c5 : w3.cell? ⟨b, o + i * 6 + 5, none⟩ = some (.int .i64 (z i 5)) := HCELL.out _ hx3 5 (by omega)
             have hbl3 : b < w3.heap.size := Nat.lt_of_lt_of_le HBB.out hx3.size
             have cx := HCL.out.fr hF3 HBN.out
             have y0 := cx.cell 0
             have y1 := cx.cell 1
             have y2 := cx.cell 2
             simp at y0 y1 y2
             have hyl := cx.lt
             clear cx
             replace HTW := Lib.hid (ht3.below hal)
             replace HX := Lib.hid (hx3.trans (hal.mono hx3.size))
             clear hac hO3 hF3 hG3 ht3 hb3 hal hx3)
          | (go_at_call 23; (with_reducible refine (pCount_any HTW.out.a).mono ?_); rintro e w' ⟨rfl, rfl⟩)
          | (go_at_call 24; (with_reducible refine (qCount_any HTW.out.b).mono ?_); rintro e w' ⟨rfl, rfl⟩))
        go_roundw
        case rel => exact ⟨i + 1, _, _, S1, by go_num, hlt, HTW.out, HSN.out, HX.out⟩
        case measure => simp [intOf]; omega
      · obtain rfl : i = n := by omega
        clear hTW hSZ hX
        go_wp2_with (go_at_call 18; (with_reducible refine (awake_any _ (HT.out.grow HX.out)).mono ?_); rintro e9 w9 ⟨rfl, hb9⟩; replace HX := Lib.hid (HX.out.trans (hb9.mono HX.out.size)); clear hb9)
        go_ret
        exact ⟨rfl, HX.out⟩
end Go.Proofs.YtainelkenkgppaaDoor
