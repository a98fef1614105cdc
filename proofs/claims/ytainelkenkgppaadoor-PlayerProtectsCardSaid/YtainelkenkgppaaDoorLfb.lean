/- limit.Left and its reference: the greatest amount that is left. -/
import Derived.Test.YtainelkenkgppaaDoorLfa
import Derived.Test.YtainelkenkgppaaDoorLmj
namespace Go.Proofs.YtainelkenkgppaaDoor
open Go.ChangeShapes Go.WideShapes Go.ChangeAt Go.RowKit Go.Lott
open Go.Sort Go.Lott.Stb Go.Lott.Srt Go.Lott.Lm
theorem lfN_yes {z2 : Nat → Nat → Int} {n2 : Nat} {z4 : Nat → Nat → Int} {n4 : Nat} {t : Int} (h : isT t = true) : lfN z2 n2 z4 n4 t = lf3 (efN z4 n4 t) (sp3 z2 n2 t) 3 := by unfold lfN; rw [h]; rfl
theorem lfN_no {z2 : Nat → Nat → Int} {n2 : Nat} {z4 : Nat → Nat → Int} {n4 : Nat} {t : Int} (h : isT t = false) : 0 = lfN z2 n2 z4 n4 t := by unfold lfN; rw [h]; rfl
theorem Eff_t (a : Option Addr) (len cap : Nat) (z : Nat → Nat → Int) (t : Int) (w : World) (hlen : len < 1000000) (hr : IsRows 4 w a len z) :
    Calls Tryd.prog 14 #[.slice a len cap, .int .i64 t] w (RetB (.agg #[.int .i64 (efN z len t 0), .int .i64 (efN z len t 1), .int .i64 (efN z len t 2)]) w) := by
  have := Effective_any a len cap z t w hlen hr
  rwa [EV_efN] at this
theorem rEff_t (a : Option Addr) (len cap : Nat) (z : Nat → Nat → Int) (t : Int) (w : World) (hlen : len < 1000000) (hr : IsRows 4 w a len z) :
    Calls Tryd.prog 40 #[.slice a len cap, .int .i64 t] w (RetB (.agg #[.int .i64 (efN z len t 0), .int .i64 (efN z len t 1), .int .i64 (efN z len t 2)]) w) := by
  have := rEffective_any a len cap z t w hlen hr
  rwa [EV_efN] at this
theorem Sp_t (t : Int) (a : Option Addr) (len cap : Nat) (z : Nat → Nat → Int) (w : World) (ht : Tab w) (hlen : len ≤ 300) (hr : IsRows 2 w a len z) :
    Calls Tryd.prog 13 #[.slice a len cap, .int .i64 t] w (RetB (.agg #[.int .i64 (sp3 z len t 0), .int .i64 (sp3 z len t 1), .int .i64 (sp3 z len t 2)]) w) := Spent_any t a len cap z w ht hlen hr
theorem rSp_t (t : Int) (a : Option Addr) (len cap : Nat) (z : Nat → Nat → Int) (w : World) (hlen : len ≤ 300) (hr : IsRows 2 w a len z) :
    Calls Tryd.prog 41 #[.slice a len cap, .int .i64 t] w (RetB (.agg #[.int .i64 (sp3 z len t 0), .int .i64 (sp3 z len t 1), .int .i64 (sp3 z len t 2)]) w) := rSpent_any t a len cap z w hlen hr
/-- The four ways of one step. -/
theorem lf1_ways (l m s : Int) : (m = 0 ∧ lf1 l m s = l) ∨ (m ≠ 0 ∧ m - s < 0 ∧ lf1 l m s = 0) ∨ (m ≠ 0 ∧ 0 ≤ m - s ∧ m - s < l ∧ lf1 l m s = m - s) ∨ (m ≠ 0 ∧ 0 ≤ m - s ∧ l ≤ m - s ∧ lf1 l m s = l) := by
  unfold lf1
  by_cases h : m = 0
  · exact .inl ⟨h, if_pos h⟩
  · rw [if_neg h]
    by_cases h1 : m - s < 0
    · exact .inr (.inl ⟨h, h1, if_pos h1⟩)
    · rw [if_neg h1]
      by_cases h2 : m - s < l
      · exact .inr (.inr (.inl ⟨h, by omega, h2, if_pos h2⟩))
      · exact .inr (.inr (.inr ⟨h, by omega, by omega, if_neg h2⟩))
theorem lf1_two (l m s : Int) (hl : 0 ≤ l) : (m = 0 ∧ lf1 l m s = l) ∨ (m ≠ 0 ∧ lf1 l m s = min l (max (m - s) 0)) := by
  unfold lf1
  by_cases h : m = 0
  · exact .inl ⟨h, if_pos h⟩
  · refine .inr ⟨h, ?_⟩
    rw [if_neg h]
    split
    · omega
    · split <;> omega
set_option maxHeartbeats 4000000 in
set_option maxRecDepth 100000 in
theorem Left_any (a2 : Option Addr) (n2 c2 : Nat) (z2 : Nat → Nat → Int) (a4 : Option Addr) (n4 c4 : Nat) (z4 : Nat → Nat → Int) (t : Int) (w : World) (ht : Tab w) (hn2 : n2 ≤ 300) (hn4 : n4 < 1000000) (h2 : IsRows 2 w a2 n2 z2) (h4 : IsRows 4 w a4 n4 z4) :
    Calls Tryd.prog 12 #[.slice a2 n2 c2, .slice a4 n4 c4, .int .i64 t] w (RetB (.int .i64 (lfN z2 n2 z4 n4 t)) w) := by
  by_cases hd : isT t = true
  · have HV := Lib.hid (lfN_yes (z2 := z2) (n2 := n2) (z4 := z4) (n4 := n4) hd)
    obtain ⟨s, hs⟩ : ∃ s, s = sp3 z2 n2 t := ⟨_, rfl⟩
    obtain ⟨e, he⟩ : ∃ e, e = efN z4 n4 t := ⟨_, rfl⟩
    have HS := Lib.hid fun w1 (hb : Below w.heap.size w w1) => Sp_t t a2 n2 c2 z2 w1 (ht.grow hb) hn2 (h2.below hb (Nat.le_refl _))
    have HE := Lib.hid fun w1 (hb : Below w.heap.size w w1) => Eff_t a4 n4 c4 z4 t w1 hn4 (h4.below hb (Nat.le_refl _))
    rw [← hs] at HS HV
    rw [← he] at HE HV
    have hsb : ∀ k, 0 ≤ s k ∧ s k ≤ 1000000000000 := fun k => by rw [hs]; exact spN_bd _ _ _ _
    have heb : ∀ k, 0 ≤ e k ∧ e k ≤ 1000000000000 := fun k => by rw [he]; exact efN_bd _ _ _ _
    clear hs he ht h2 h4
    have HX := Lib.hid (Below.refl w.heap.size w)
    have i0 : ∀ w, (Instr.index 64 (.agg #[.int .i64 (e 0), .int .i64 (e 1), .int .i64 (e 2)]) (.int .i64 0)).run Tryd.prog w = .ok (.int .i64 (e 0)) w := fun _ => by kernel_rfl
    have i1 : ∀ w, (Instr.index 64 (.agg #[.int .i64 (e 0), .int .i64 (e 1), .int .i64 (e 2)]) (.int .i64 1)).run Tryd.prog w = .ok (.int .i64 (e 1)) w := fun _ => by kernel_rfl
    have i2 : ∀ w, (Instr.index 64 (.agg #[.int .i64 (e 0), .int .i64 (e 1), .int .i64 (e 2)]) (.int .i64 2)).run Tryd.prog w = .ok (.int .i64 (e 2)) w := fun _ => by kernel_rfl
    go_enter Tryd.func12, Tryd.ntmps12
    go_wp2_with (first
      | (go_at_call 29; refine (lIsTime_any _ _).mono ?_; rintro e w' ⟨rfl, rfl⟩)
      | (go_at_call 13; refine (HS.out _ HX.out).mono ?_; rintro e9 w1 ⟨rfl, hb1⟩; replace HX := Lib.hid (HX.out.trans (hb1.mono HX.out.size)); clear hb1)
      | (go_at_call 30; refine (each_any _ _ _ _).mono ?_; rintro e9 w4 ⟨rfl, hb4⟩; have C4 := Lib.hid (C3.out.below hb4 C3.out.lt); replace HX3 := Lib.hid (HX3.out.trans (hb4.mono HX3.out.size)); clear hb4)
      | (go_at_call 30; refine (each_any _ _ _ _).mono ?_; rintro e9 w2 ⟨rfl, hb2⟩; replace HX := Lib.hid (HX.out.trans (hb2.mono HX.out.size)); clear hb2)
      | (go_at_call 14; refine (HE.out _ (HX.out.alloc HX.out.size _)).mono ?_; rintro e9 w3 ⟨rfl, hb3⟩; have C3 := Lib.hid ((Cel.new w2 #[.int .i64 (s 0), .int .i64 (s 1), .int .i64 (s 2)] 64).below hb3 (by simp)); have HX3 := Lib.hid ((HX.out.alloc HX.out.size (.cells #[.int .i64 (s 0), .int .i64 (s 1), .int .i64 (s 2)] 64)).trans (hb3.mono (by have := HX.out.size; simp; omega))); clear hb3))
    clear HS HE HX C3
    go_loopw [7, 22] (fun vl vi wr => ((vi = .int .i64 0 ∧ vl = .int .i64 (lf3 e s 0)) ∨ (vi = .int .i64 1 ∧ vl = .int .i64 (lf3 e s 1)) ∨ (vi = .int .i64 2 ∧ vl = .int .i64 (lf3 e s 2)) ∨ (vi = .int .i64 3 ∧ vl = .int .i64 (lf3 e s 3))) ∧ Below w4.heap.size w4 wr) (fun _ vi _ => 3 - (intOf vi).toNat)
    case atStart => exact ⟨.inl ⟨rfl, rfl⟩, Below.refl _ _⟩
    case round =>
      obtain ⟨hrel, hbel⟩ := hrel
      have C5 := C4.out.below hbel C4.out.lt
      have c0 := C5.cell 0
      have c1 := C5.cell 1
      have c2 := C5.cell 2
      simp at c0 c1 c2
      clear C5
      rcases hrel with ⟨rfl, rfl⟩ | ⟨rfl, rfl⟩ | ⟨rfl, rfl⟩ | ⟨rfl, rfl⟩
      · have hlb := lf3_bd e s 0
        obtain ⟨L, hL⟩ : ∃ L, L = lf3 e s 0 := ⟨_, rfl⟩
        rw [← hL] at hlb ⊢
        have hl3 : lf3 e s (0 + 1) = lf1 L (e 0) (s 0) := by rw [hL]; rfl
        have hE0 := heb 0
        have hT0 := hsb 0
        rcases lf1_two L (e 0) (s 0) hlb.1 with ⟨hm, hw⟩ | ⟨hm, hw⟩
        · have HL3 := Lib.hid (hl3.trans hw)
          rw [hm] at i0
          clear hl3 hw hL heb hsb
          go_wp2
          go_roundw
          case rel => first | exact ⟨.inr (.inl ⟨rfl, by rw [HL3.out]⟩), hbel⟩ | ((repeat apply Exists.intro); exact ⟨⟨.inr (.inl ⟨rfl, by rw [HL3.out]⟩), hbel⟩, rfl⟩)
          case measure => simp [intOf]
        · have HL3 := Lib.hid (hl3.trans hw)
          have hmb : (e 0 != 0) = true := by simp [hm]
          clear hl3 hw hL heb hsb
          go_wp2
          go_roundw
          case rel => first | exact ⟨.inr (.inl ⟨rfl, by rw [HL3.out]⟩), hbel⟩ | ((repeat apply Exists.intro); exact ⟨⟨.inr (.inl ⟨rfl, by rw [HL3.out]⟩), hbel⟩, rfl⟩)
          case measure => simp [intOf]
      · have hlb := lf3_bd e s 1
        obtain ⟨L, hL⟩ : ∃ L, L = lf3 e s 1 := ⟨_, rfl⟩
        rw [← hL] at hlb ⊢
        have hl3 : lf3 e s (1 + 1) = lf1 L (e 1) (s 1) := by rw [hL]; rfl
        have hE0 := heb 1
        have hT0 := hsb 1
        rcases lf1_two L (e 1) (s 1) hlb.1 with ⟨hm, hw⟩ | ⟨hm, hw⟩
        · have HL3 := Lib.hid (hl3.trans hw)
          rw [hm] at i1
          clear hl3 hw hL heb hsb
          go_wp2
          go_roundw
          case rel => first | exact ⟨.inr (.inr (.inl ⟨rfl, by rw [HL3.out]⟩)), hbel⟩ | ((repeat apply Exists.intro); exact ⟨⟨.inr (.inr (.inl ⟨rfl, by rw [HL3.out]⟩)), hbel⟩, rfl⟩)
          case measure => simp [intOf]
        · have HL3 := Lib.hid (hl3.trans hw)
          have hmb : (e 1 != 0) = true := by simp [hm]
          clear hl3 hw hL heb hsb
          go_wp2
          go_roundw
          case rel => first | exact ⟨.inr (.inr (.inl ⟨rfl, by rw [HL3.out]⟩)), hbel⟩ | ((repeat apply Exists.intro); exact ⟨⟨.inr (.inr (.inl ⟨rfl, by rw [HL3.out]⟩)), hbel⟩, rfl⟩)
          case measure => simp [intOf]
      · have hlb := lf3_bd e s 2
        obtain ⟨L, hL⟩ : ∃ L, L = lf3 e s 2 := ⟨_, rfl⟩
        rw [← hL] at hlb ⊢
        have hl3 : lf3 e s (2 + 1) = lf1 L (e 2) (s 2) := by rw [hL]; rfl
        have hE0 := heb 2
        have hT0 := hsb 2
        rcases lf1_two L (e 2) (s 2) hlb.1 with ⟨hm, hw⟩ | ⟨hm, hw⟩
        · have HL3 := Lib.hid (hl3.trans hw)
          rw [hm] at i2
          clear hl3 hw hL heb hsb
          go_wp2
          go_roundw
          case rel => first | exact ⟨.inr (.inr (.inr ⟨rfl, by rw [HL3.out]⟩)), hbel⟩ | ((repeat apply Exists.intro); exact ⟨⟨.inr (.inr (.inr ⟨rfl, by rw [HL3.out]⟩)), hbel⟩, rfl⟩)
          case measure => simp [intOf]
        · have HL3 := Lib.hid (hl3.trans hw)
          have hmb : (e 2 != 0) = true := by simp [hm]
          clear hl3 hw hL heb hsb
          go_wp2
          go_roundw
          case rel => first | exact ⟨.inr (.inr (.inr ⟨rfl, by rw [HL3.out]⟩)), hbel⟩ | ((repeat apply Exists.intro); exact ⟨⟨.inr (.inr (.inr ⟨rfl, by rw [HL3.out]⟩)), hbel⟩, rfl⟩)
          case measure => simp [intOf]
      · go_wp2
        go_ret
        exact ⟨ret_int HV.out.symm, HX3.out.trans (hbel.mono HX3.out.size)⟩
  · have hd' : isT t = false := by simpa using hd
    have HV := Lib.hid (lfN_no (z2 := z2) (n2 := n2) (z4 := z4) (n4 := n4) hd')
    clear hd
    go_enter Tryd.func12, Tryd.ntmps12
    go_wp2_with (go_at_call 29; refine (lIsTime_any _ _).mono ?_; rintro e w' ⟨rfl, rfl⟩)
    go_ret
    exact ⟨ret_int HV.out, Below.refl _ _⟩
theorem part0 (a b c : Int) (w : World) : Calls Tryd.prog 42 #[.agg #[.int .i64 a, .int .i64 b, .int .i64 c], .int .i64 0] w (RetB (.int .i64 a) w) := part_any (0, a, b, c) 0 (by omega) w
theorem part1 (a b c : Int) (w : World) : Calls Tryd.prog 42 #[.agg #[.int .i64 a, .int .i64 b, .int .i64 c], .int .i64 1] w (RetB (.int .i64 b) w) := part_any (0, a, b, c) 1 (by omega) w
theorem part2 (a b c : Int) (w : World) : Calls Tryd.prog 42 #[.agg #[.int .i64 a, .int .i64 b, .int .i64 c], .int .i64 2] w (RetB (.int .i64 c) w) := part_any (0, a, b, c) 2 (by omega) w
theorem cells3 {W : World} {b : Nat} {x y z : Int} {T : TypeId} (h : Cel W b #[.int .i64 x, .int .i64 y, .int .i64 z] T) (V : World) (hb : Below W.heap.size W V) :
    V.cell? ⟨b, 0, none⟩ = some (.int .i64 x) ∧ V.cell? ⟨b, 1, none⟩ = some (.int .i64 y) ∧ V.cell? ⟨b, 2, none⟩ = some (.int .i64 z) := by
  have c := h.below hb h.lt
  exact ⟨c.cell 0, c.cell 1, c.cell 2⟩
set_option maxHeartbeats 4000000 in
set_option maxRecDepth 100000 in
theorem rLeft_any (a2 : Option Addr) (n2 c2 : Nat) (z2 : Nat → Nat → Int) (a4 : Option Addr) (n4 c4 : Nat) (z4 : Nat → Nat → Int) (t : Int) (w : World) (hn2 : n2 ≤ 300) (hn4 : n4 < 1000000) (h2 : IsRows 2 w a2 n2 z2) (h4 : IsRows 4 w a4 n4 z4) :
    Calls Tryd.prog 15 #[.slice a2 n2 c2, .slice a4 n4 c4, .int .i64 t] w (RetB (.int .i64 (lfN z2 n2 z4 n4 t)) w) := by
  by_cases hd : isT t = true
  · have HV := Lib.hid (lfN_yes (z2 := z2) (n2 := n2) (z4 := z4) (n4 := n4) hd)
    obtain ⟨s, hs⟩ : ∃ s, s = sp3 z2 n2 t := ⟨_, rfl⟩
    obtain ⟨e, he⟩ : ∃ e, e = efN z4 n4 t := ⟨_, rfl⟩
    have HS := Lib.hid fun w1 (hb : Below w.heap.size w w1) => rSp_t t a2 n2 c2 z2 w1 hn2 (h2.below hb (Nat.le_refl _))
    have HE := Lib.hid fun w1 (hb : Below w.heap.size w w1) => rEff_t a4 n4 c4 z4 t w1 hn4 (h4.below hb (Nat.le_refl _))
    rw [← hs] at HS HV
    rw [← he] at HE HV
    have hsb : ∀ k, 0 ≤ s k ∧ s k ≤ 1000000000000 := fun k => by rw [hs]; exact spN_bd _ _ _ _
    have heb : ∀ k, 0 ≤ e k ∧ e k ≤ 1000000000000 := fun k => by rw [he]; exact efN_bd _ _ _ _
    clear hs he h2 h4
    have HX := Lib.hid (Below.refl w.heap.size w)
    go_enter Tryd.func15, Tryd.ntmps15
    go_wp2_with (first
      | (go_at_call 39; refine (r21IsTime_any _ _).mono ?_; rintro e w' ⟨rfl, rfl⟩)
      | (go_at_call 40; refine (HE.out _ HX.out).mono ?_; rintro e9 w1 ⟨rfl, hb1⟩; replace HX := Lib.hid (HX.out.trans (hb1.mono HX.out.size)); clear hb1)
      | (go_at_call 41; refine (HS.out _ (HX.out.alloc HX.out.size _)).mono ?_; rintro e9 w3 ⟨rfl, hb3⟩; have C3 := Lib.hid ((Cel.new w1 #[.int .i64 (e 0), .int .i64 (e 1), .int .i64 (e 2)] 28).below hb3 (by simp)); have HX3 := Lib.hid ((HX.out.alloc HX.out.size (.cells #[.int .i64 (e 0), .int .i64 (e 1), .int .i64 (e 2)] 28)).trans (hb3.mono (by have := HX.out.size; simp; omega))); clear hb3))
    obtain ⟨W, hW⟩ : ∃ W, W = w3.alloc (.cells #[.int .i64 (s 0), .int .i64 (s 1), .int .i64 (s 2)] 28) := ⟨_, rfl⟩
    have HXW := Lib.hid (show Below w.heap.size w W by rw [hW]; exact HX3.out.alloc HX3.out.size _)
    have CE : Cel W w1.heap.size #[.int .i64 (e 0), .int .i64 (e 1), .int .i64 (e 2)] 28 := by rw [hW]; exact C3.out.alloc _
    have CS : Cel W w3.heap.size #[.int .i64 (s 0), .int .i64 (s 1), .int .i64 (s 2)] 28 := by rw [hW]; exact Cel.new _ _ _
    have HCE := Lib.hid (cells3 CE)
    have HCS := Lib.hid (cells3 CS)
    rw [← hW]
    clear HS HE HX HX3 C3 CE CS hW
    have H0 := Lib.hid (Below.refl W.heap.size W)
    go_loopw [9, 10] (fun vl vi wr => ((vi = .int .i64 0 ∧ vl = .int .i64 (lf3 e s 0)) ∨ (vi = .int .i64 1 ∧ vl = .int .i64 (lf3 e s 1)) ∨ (vi = .int .i64 2 ∧ vl = .int .i64 (lf3 e s 2)) ∨ (vi = .int .i64 3 ∧ vl = .int .i64 (lf3 e s 3))) ∧ Below W.heap.size W wr) (fun _ vi _ => 3 - (intOf vi).toNat)
    case atStart => exact ⟨.inl ⟨rfl, rfl⟩, H0.out⟩
    case round =>
      obtain ⟨hrel, hbel⟩ := hrel
      obtain ⟨c0, c1, c2⟩ := HCE.out _ hbel
      rcases hrel with ⟨rfl, rfl⟩ | ⟨rfl, rfl⟩ | ⟨rfl, rfl⟩ | ⟨rfl, rfl⟩
      · have hlb := lf3_bd e s 0
        obtain ⟨L, hL⟩ : ∃ L, L = lf3 e s 0 := ⟨_, rfl⟩
        rw [← hL] at hlb ⊢
        have hl3 : lf3 e s (0 + 1) = lf1 L (e 0) (s 0) := by rw [hL]; rfl
        have hE0 := heb 0
        have hT0 := hsb 0
        rcases lf1_ways L (e 0) (s 0) with ⟨hm, hw⟩ | ⟨hm, h1, hw⟩ | ⟨hm, h1, h2, hw⟩ | ⟨hm, h1, h2, hw⟩
        · have HL3 := Lib.hid (hl3.trans hw)
          have hmb : (e 0 != 0) = false := by simp [hm]
          clear hl3 hw hL heb hsb hm
          by_cases hn : e 0 - s 0 < 0
          · go_wp2_with ((go_at_call 42; refine (part0 _ _ _ _).mono ?_; rintro e9 w5 ⟨rfl, hb5⟩; replace hbel := hbel.trans (hb5.mono hbel.size); obtain ⟨d0, d1, d2⟩ := HCS.out _ hbel; clear hb5))
            go_roundw
            case rel => first | exact ⟨.inr (.inl ⟨rfl, by rw [HL3.out]⟩), hbel⟩ | ((repeat apply Exists.intro); exact ⟨⟨.inr (.inl ⟨rfl, by rw [HL3.out]⟩), hbel⟩, rfl⟩)
            case measure => simp [intOf]
          · go_wp2_with ((go_at_call 42; refine (part0 _ _ _ _).mono ?_; rintro e9 w5 ⟨rfl, hb5⟩; replace hbel := hbel.trans (hb5.mono hbel.size); obtain ⟨d0, d1, d2⟩ := HCS.out _ hbel; clear hb5))
            go_roundw
            case rel => first | exact ⟨.inr (.inl ⟨rfl, by rw [HL3.out]⟩), hbel⟩ | ((repeat apply Exists.intro); exact ⟨⟨.inr (.inl ⟨rfl, by rw [HL3.out]⟩), hbel⟩, rfl⟩)
            case measure => simp [intOf]
        · have HL3 := Lib.hid (hl3.trans hw)
          have hmb : (e 0 != 0) = true := by simp [hm]
          clear hl3 hw hL heb hsb hm
          by_cases hn : 0 < L
          · go_wp2_with ((go_at_call 42; refine (part0 _ _ _ _).mono ?_; rintro e9 w5 ⟨rfl, hb5⟩; replace hbel := hbel.trans (hb5.mono hbel.size); obtain ⟨d0, d1, d2⟩ := HCS.out _ hbel; clear hb5))
            go_roundw
            case rel => first | exact ⟨.inr (.inl ⟨rfl, by rw [HL3.out]⟩), hbel⟩ | ((repeat apply Exists.intro); exact ⟨⟨.inr (.inl ⟨rfl, by rw [HL3.out]⟩), hbel⟩, rfl⟩)
            case measure => simp [intOf]
          · have hL0 : L = 0 := by omega
            subst hL0
            go_wp2_with ((go_at_call 42; refine (part0 _ _ _ _).mono ?_; rintro e9 w5 ⟨rfl, hb5⟩; replace hbel := hbel.trans (hb5.mono hbel.size); obtain ⟨d0, d1, d2⟩ := HCS.out _ hbel; clear hb5))
            go_roundw
            case rel => first | exact ⟨.inr (.inl ⟨rfl, by rw [HL3.out]⟩), hbel⟩ | ((repeat apply Exists.intro); exact ⟨⟨.inr (.inl ⟨rfl, by rw [HL3.out]⟩), hbel⟩, rfl⟩)
            case measure => simp [intOf]
        · have HL3 := Lib.hid (hl3.trans hw)
          have hmb : (e 0 != 0) = true := by simp [hm]
          clear hl3 hw hL heb hsb hm
          go_wp2_with ((go_at_call 42; refine (part0 _ _ _ _).mono ?_; rintro e9 w5 ⟨rfl, hb5⟩; replace hbel := hbel.trans (hb5.mono hbel.size); obtain ⟨d0, d1, d2⟩ := HCS.out _ hbel; clear hb5))
          go_roundw
          case rel => first | exact ⟨.inr (.inl ⟨rfl, by rw [HL3.out]⟩), hbel⟩ | ((repeat apply Exists.intro); exact ⟨⟨.inr (.inl ⟨rfl, by rw [HL3.out]⟩), hbel⟩, rfl⟩)
          case measure => simp [intOf]
        · have HL3 := Lib.hid (hl3.trans hw)
          have hmb : (e 0 != 0) = true := by simp [hm]
          clear hl3 hw hL heb hsb hm
          go_wp2_with ((go_at_call 42; refine (part0 _ _ _ _).mono ?_; rintro e9 w5 ⟨rfl, hb5⟩; replace hbel := hbel.trans (hb5.mono hbel.size); obtain ⟨d0, d1, d2⟩ := HCS.out _ hbel; clear hb5))
          go_roundw
          case rel => first | exact ⟨.inr (.inl ⟨rfl, by rw [HL3.out]⟩), hbel⟩ | ((repeat apply Exists.intro); exact ⟨⟨.inr (.inl ⟨rfl, by rw [HL3.out]⟩), hbel⟩, rfl⟩)
          case measure => simp [intOf]
      · have hlb := lf3_bd e s 1
        obtain ⟨L, hL⟩ : ∃ L, L = lf3 e s 1 := ⟨_, rfl⟩
        rw [← hL] at hlb ⊢
        have hl3 : lf3 e s (1 + 1) = lf1 L (e 1) (s 1) := by rw [hL]; rfl
        have hE0 := heb 1
        have hT0 := hsb 1
        rcases lf1_ways L (e 1) (s 1) with ⟨hm, hw⟩ | ⟨hm, h1, hw⟩ | ⟨hm, h1, h2, hw⟩ | ⟨hm, h1, h2, hw⟩
        · have HL3 := Lib.hid (hl3.trans hw)
          have hmb : (e 1 != 0) = false := by simp [hm]
          clear hl3 hw hL heb hsb hm
          by_cases hn : e 1 - s 1 < 0
          · go_wp2_with ((go_at_call 42; refine (part1 _ _ _ _).mono ?_; rintro e9 w5 ⟨rfl, hb5⟩; replace hbel := hbel.trans (hb5.mono hbel.size); obtain ⟨d0, d1, d2⟩ := HCS.out _ hbel; clear hb5))
            go_roundw
            case rel => first | exact ⟨.inr (.inr (.inl ⟨rfl, by rw [HL3.out]⟩)), hbel⟩ | ((repeat apply Exists.intro); exact ⟨⟨.inr (.inr (.inl ⟨rfl, by rw [HL3.out]⟩)), hbel⟩, rfl⟩)
            case measure => simp [intOf]
          · go_wp2_with ((go_at_call 42; refine (part1 _ _ _ _).mono ?_; rintro e9 w5 ⟨rfl, hb5⟩; replace hbel := hbel.trans (hb5.mono hbel.size); obtain ⟨d0, d1, d2⟩ := HCS.out _ hbel; clear hb5))
            go_roundw
            case rel => first | exact ⟨.inr (.inr (.inl ⟨rfl, by rw [HL3.out]⟩)), hbel⟩ | ((repeat apply Exists.intro); exact ⟨⟨.inr (.inr (.inl ⟨rfl, by rw [HL3.out]⟩)), hbel⟩, rfl⟩)
            case measure => simp [intOf]
        · have HL3 := Lib.hid (hl3.trans hw)
          have hmb : (e 1 != 0) = true := by simp [hm]
          clear hl3 hw hL heb hsb hm
          by_cases hn : 0 < L
          · go_wp2_with ((go_at_call 42; refine (part1 _ _ _ _).mono ?_; rintro e9 w5 ⟨rfl, hb5⟩; replace hbel := hbel.trans (hb5.mono hbel.size); obtain ⟨d0, d1, d2⟩ := HCS.out _ hbel; clear hb5))
            go_roundw
            case rel => first | exact ⟨.inr (.inr (.inl ⟨rfl, by rw [HL3.out]⟩)), hbel⟩ | ((repeat apply Exists.intro); exact ⟨⟨.inr (.inr (.inl ⟨rfl, by rw [HL3.out]⟩)), hbel⟩, rfl⟩)
            case measure => simp [intOf]
          · have hL0 : L = 0 := by omega
            subst hL0
            go_wp2_with ((go_at_call 42; refine (part1 _ _ _ _).mono ?_; rintro e9 w5 ⟨rfl, hb5⟩; replace hbel := hbel.trans (hb5.mono hbel.size); obtain ⟨d0, d1, d2⟩ := HCS.out _ hbel; clear hb5))
            go_roundw
            case rel => first | exact ⟨.inr (.inr (.inl ⟨rfl, by rw [HL3.out]⟩)), hbel⟩ | ((repeat apply Exists.intro); exact ⟨⟨.inr (.inr (.inl ⟨rfl, by rw [HL3.out]⟩)), hbel⟩, rfl⟩)
            case measure => simp [intOf]
        · have HL3 := Lib.hid (hl3.trans hw)
          have hmb : (e 1 != 0) = true := by simp [hm]
          clear hl3 hw hL heb hsb hm
          go_wp2_with ((go_at_call 42; refine (part1 _ _ _ _).mono ?_; rintro e9 w5 ⟨rfl, hb5⟩; replace hbel := hbel.trans (hb5.mono hbel.size); obtain ⟨d0, d1, d2⟩ := HCS.out _ hbel; clear hb5))
          go_roundw
          case rel => first | exact ⟨.inr (.inr (.inl ⟨rfl, by rw [HL3.out]⟩)), hbel⟩ | ((repeat apply Exists.intro); exact ⟨⟨.inr (.inr (.inl ⟨rfl, by rw [HL3.out]⟩)), hbel⟩, rfl⟩)
          case measure => simp [intOf]
        · have HL3 := Lib.hid (hl3.trans hw)
          have hmb : (e 1 != 0) = true := by simp [hm]
          clear hl3 hw hL heb hsb hm
          go_wp2_with ((go_at_call 42; refine (part1 _ _ _ _).mono ?_; rintro e9 w5 ⟨rfl, hb5⟩; replace hbel := hbel.trans (hb5.mono hbel.size); obtain ⟨d0, d1, d2⟩ := HCS.out _ hbel; clear hb5))
          go_roundw
          case rel => first | exact ⟨.inr (.inr (.inl ⟨rfl, by rw [HL3.out]⟩)), hbel⟩ | ((repeat apply Exists.intro); exact ⟨⟨.inr (.inr (.inl ⟨rfl, by rw [HL3.out]⟩)), hbel⟩, rfl⟩)
          case measure => simp [intOf]
      · have hlb := lf3_bd e s 2
        obtain ⟨L, hL⟩ : ∃ L, L = lf3 e s 2 := ⟨_, rfl⟩
        rw [← hL] at hlb ⊢
        have hl3 : lf3 e s (2 + 1) = lf1 L (e 2) (s 2) := by rw [hL]; rfl
        have hE0 := heb 2
        have hT0 := hsb 2
        rcases lf1_ways L (e 2) (s 2) with ⟨hm, hw⟩ | ⟨hm, h1, hw⟩ | ⟨hm, h1, h2, hw⟩ | ⟨hm, h1, h2, hw⟩
        · have HL3 := Lib.hid (hl3.trans hw)
          have hmb : (e 2 != 0) = false := by simp [hm]
          clear hl3 hw hL heb hsb hm
          by_cases hn : e 2 - s 2 < 0
          · go_wp2_with ((go_at_call 42; refine (part2 _ _ _ _).mono ?_; rintro e9 w5 ⟨rfl, hb5⟩; replace hbel := hbel.trans (hb5.mono hbel.size); obtain ⟨d0, d1, d2⟩ := HCS.out _ hbel; clear hb5))
            go_roundw
            case rel => first | exact ⟨.inr (.inr (.inr ⟨rfl, by rw [HL3.out]⟩)), hbel⟩ | ((repeat apply Exists.intro); exact ⟨⟨.inr (.inr (.inr ⟨rfl, by rw [HL3.out]⟩)), hbel⟩, rfl⟩)
            case measure => simp [intOf]
          · go_wp2_with ((go_at_call 42; refine (part2 _ _ _ _).mono ?_; rintro e9 w5 ⟨rfl, hb5⟩; replace hbel := hbel.trans (hb5.mono hbel.size); obtain ⟨d0, d1, d2⟩ := HCS.out _ hbel; clear hb5))
            go_roundw
            case rel => first | exact ⟨.inr (.inr (.inr ⟨rfl, by rw [HL3.out]⟩)), hbel⟩ | ((repeat apply Exists.intro); exact ⟨⟨.inr (.inr (.inr ⟨rfl, by rw [HL3.out]⟩)), hbel⟩, rfl⟩)
            case measure => simp [intOf]
        · have HL3 := Lib.hid (hl3.trans hw)
          have hmb : (e 2 != 0) = true := by simp [hm]
          clear hl3 hw hL heb hsb hm
          by_cases hn : 0 < L
          · go_wp2_with ((go_at_call 42; refine (part2 _ _ _ _).mono ?_; rintro e9 w5 ⟨rfl, hb5⟩; replace hbel := hbel.trans (hb5.mono hbel.size); obtain ⟨d0, d1, d2⟩ := HCS.out _ hbel; clear hb5))
            go_roundw
            case rel => first | exact ⟨.inr (.inr (.inr ⟨rfl, by rw [HL3.out]⟩)), hbel⟩ | ((repeat apply Exists.intro); exact ⟨⟨.inr (.inr (.inr ⟨rfl, by rw [HL3.out]⟩)), hbel⟩, rfl⟩)
            case measure => simp [intOf]
          · have hL0 : L = 0 := by omega
            subst hL0
            go_wp2_with ((go_at_call 42; refine (part2 _ _ _ _).mono ?_; rintro e9 w5 ⟨rfl, hb5⟩; replace hbel := hbel.trans (hb5.mono hbel.size); obtain ⟨d0, d1, d2⟩ := HCS.out _ hbel; clear hb5))
            go_roundw
            case rel => first | exact ⟨.inr (.inr (.inr ⟨rfl, by rw [HL3.out]⟩)), hbel⟩ | ((repeat apply Exists.intro); exact ⟨⟨.inr (.inr (.inr ⟨rfl, by rw [HL3.out]⟩)), hbel⟩, rfl⟩)
            case measure => simp [intOf]
        · have HL3 := Lib.hid (hl3.trans hw)
          have hmb : (e 2 != 0) = true := by simp [hm]
          clear hl3 hw hL heb hsb hm
          go_wp2_with ((go_at_call 42; refine (part2 _ _ _ _).mono ?_; rintro e9 w5 ⟨rfl, hb5⟩; replace hbel := hbel.trans (hb5.mono hbel.size); obtain ⟨d0, d1, d2⟩ := HCS.out _ hbel; clear hb5))
          go_roundw
          case rel => first | exact ⟨.inr (.inr (.inr ⟨rfl, by rw [HL3.out]⟩)), hbel⟩ | ((repeat apply Exists.intro); exact ⟨⟨.inr (.inr (.inr ⟨rfl, by rw [HL3.out]⟩)), hbel⟩, rfl⟩)
          case measure => simp [intOf]
        · have HL3 := Lib.hid (hl3.trans hw)
          have hmb : (e 2 != 0) = true := by simp [hm]
          clear hl3 hw hL heb hsb hm
          go_wp2_with ((go_at_call 42; refine (part2 _ _ _ _).mono ?_; rintro e9 w5 ⟨rfl, hb5⟩; replace hbel := hbel.trans (hb5.mono hbel.size); obtain ⟨d0, d1, d2⟩ := HCS.out _ hbel; clear hb5))
          go_roundw
          case rel => first | exact ⟨.inr (.inr (.inr ⟨rfl, by rw [HL3.out]⟩)), hbel⟩ | ((repeat apply Exists.intro); exact ⟨⟨.inr (.inr (.inr ⟨rfl, by rw [HL3.out]⟩)), hbel⟩, rfl⟩)
          case measure => simp [intOf]
      · go_wp2
        go_ret
        exact ⟨ret_int HV.out.symm, HXW.out.trans (hbel.mono HXW.out.size)⟩
  · have hd' : isT t = false := by simpa using hd
    have HV := Lib.hid (lfN_no (z2 := z2) (n2 := n2) (z4 := z4) (n4 := n4) hd')
    clear hd
    go_enter Tryd.func15, Tryd.ntmps15
    go_wp2_with (go_at_call 39; refine (r21IsTime_any _ _).mono ?_; rintro e w' ⟨rfl, rfl⟩)
    go_ret
    exact ⟨ret_int HV.out, Below.refl _ _⟩
theorem alN_cases (z2 : Nat → Nat → Int) (n2 : Nat) (z4 : Nat → Nat → Int) (n4 : Nat) (t m : Int) :
    (isT t = false ∧ 2 = alN z2 n2 z4 n4 t m) ∨ (isT t = true ∧ amt m = false ∧ 2 = alN z2 n2 z4 n4 t m) ∨ (isT t = true ∧ amt m = true ∧ lfN z2 n2 z4 n4 t < m ∧ 22 = alN z2 n2 z4 n4 t m) ∨ (isT t = true ∧ amt m = true ∧ m ≤ lfN z2 n2 z4 n4 t ∧ 0 = alN z2 n2 z4 n4 t m) := by
  unfold alN
  cases ht : isT t with
  | false => exact .inl ⟨rfl, by simp⟩
  | true =>
    cases ha : amt m with
    | false =>
      refine .inr (.inl ⟨rfl, rfl, ?_⟩)
      rw [if_neg (fun c => by rw [(amt_iff m).2 c.2] at ha; cases ha)]
    | true =>
      rw [if_pos ⟨rfl, (amt_iff m).1 ha⟩]
      by_cases h : lfN z2 n2 z4 n4 t < m
      · exact .inr (.inr (.inl ⟨rfl, rfl, h, (if_pos h).symm⟩))
      · exact .inr (.inr (.inr ⟨rfl, rfl, by omega, (if_neg h).symm⟩))
set_option maxHeartbeats 1000000 in
theorem Allow_any (a2 : Option Addr) (n2 c2 : Nat) (z2 : Nat → Nat → Int) (a4 : Option Addr) (n4 c4 : Nat) (z4 : Nat → Nat → Int) (t m : Int) (w : World) (ht : Tab w) (hn2 : n2 ≤ 300) (hn4 : n4 < 1000000) (h2 : IsRows 2 w a2 n2 z2) (h4 : IsRows 4 w a4 n4 z4) :
    Calls Tryd.prog 16 #[.slice a2 n2 c2, .slice a4 n4 c4, .int .i64 t, .int .i64 m] w (RetB (.int .i64 (alN z2 n2 z4 n4 t m)) w) := by
  have HL := Lib.hid (Left_any a2 n2 c2 z2 a4 n4 c4 z4 t w ht hn2 hn4 h2 h4)
  have hcs := alN_cases z2 n2 z4 n4 t m
  clear h2 h4 ht
  rcases hcs with ⟨ht, hv⟩ | ⟨ht, ha, hv⟩ | ⟨ht, ha, hl, hv⟩ | ⟨ht, ha, hl, hv⟩
  all_goals
    have HV := Lib.hid hv
    clear hv
    have hbel := Lib.hid (Below.refl w.heap.size w)
    go_enter Tryd.func16, Tryd.ntmps16
    go_wp2_with (first | (go_at_call 29; refine (lIsTime_any _ _).mono ?_; rintro e w' ⟨rfl, rfl⟩) | (go_at_call 43; refine (isAmount_any _ _).mono ?_; rintro e w' ⟨rfl, rfl⟩) | (go_at_call 12; refine HL.out.mono ?_; rintro e w1 ⟨rfl, hb1⟩; replace hbel := Lib.hid hb1; clear hb1))
    go_ret
    exact ⟨ret_int HV.out, hbel.out⟩
set_option maxHeartbeats 1000000 in
theorem rAllow_any (a2 : Option Addr) (n2 c2 : Nat) (z2 : Nat → Nat → Int) (a4 : Option Addr) (n4 c4 : Nat) (z4 : Nat → Nat → Int) (t m : Int) (w : World) (hn2 : n2 ≤ 300) (hn4 : n4 < 1000000) (h2 : IsRows 2 w a2 n2 z2) (h4 : IsRows 4 w a4 n4 z4) :
    Calls Tryd.prog 17 #[.slice a2 n2 c2, .slice a4 n4 c4, .int .i64 t, .int .i64 m] w (RetB (.int .i64 (alN z2 n2 z4 n4 t m)) w) := by
  have HL := Lib.hid (rLeft_any a2 n2 c2 z2 a4 n4 c4 z4 t w hn2 hn4 h2 h4)
  have hcs := alN_cases z2 n2 z4 n4 t m
  clear h2 h4
  rcases hcs with ⟨ht, hv⟩ | ⟨ht, ha, hv⟩ | ⟨ht, ha, hl, hv⟩ | ⟨ht, ha, hl, hv⟩
  all_goals
    have HV := Lib.hid hv
    clear hv
    have hbel := Lib.hid (Below.refl w.heap.size w)
    go_enter Tryd.func17, Tryd.ntmps17
    go_wp2_with (first | (go_at_call 39; refine (r21IsTime_any _ _).mono ?_; rintro e w' ⟨rfl, rfl⟩) | (go_at_call 44; refine (amount_any _ _).mono ?_; rintro e w' ⟨rfl, rfl⟩) | (go_at_call 15; refine HL.out.mono ?_; rintro e w1 ⟨rfl, hb1⟩; replace hbel := Lib.hid hb1; clear hb1))
    go_ret
    exact ⟨ret_int HV.out, hbel.out⟩
end Go.Proofs.YtainelkenkgppaaDoor
