/- The law LimitAllows: its walk. -/
import Derived.Test.YtainelkenkgppaaDoorLfb
namespace Go.Proofs.YtainelkenkgppaaDoor
open Go.ChangeShapes Go.WideShapes Go.ChangeAt Go.RowKit Go.Lott
open Go.Sort Go.Lott.Stb Go.Lott.Srt Go.Lott.Lm
def zLh (_ j : Nat) : Int := if j = 0 then 5 else 6
def zLl (_ j : Nat) : Int := if j = 1 then 10 else 0
theorem lf_ex : lfN zLh 1 zLl 1 7 = 4 := by decide
theorem lives_any (w : World) (ht : Tab w) : Calls Tryd.prog 11 #[] w (RetB (.bool true) w) := by
  obtain ⟨W, hW⟩ : ∃ W, W = (w.alloc (.cells #[.int .i64 5, .int .i64 6] 26)).alloc (.cells #[.int .i64 0, .int .i64 10, .int .i64 0, .int .i64 0] 30) := ⟨_, rfl⟩
  have hb : Below w.heap.size w W := by rw [hW]; exact ((Below.refl _ _).alloc (Nat.le_refl _) _).alloc (by simp) _
  have c1 : Cel W w.heap.size #[.int .i64 5, .int .i64 6] 26 := by rw [hW]; exact (Cel.new _ _ _).alloc _
  have c2 : Cel W (w.heap.size + 1) #[.int .i64 0, .int .i64 10, .int .i64 0, .int .i64 0] 30 := by
    rw [hW]
    have := Cel.new (w.alloc (.cells #[.int .i64 5, .int .i64 6] 26)) #[.int .i64 0, .int .i64 10, .int .i64 0, .int .i64 0] 30
    simpa using this
  have h2 : IsRows 2 W (some ⟨w.heap.size, 0, none⟩) 1 zLh := by
    refine .inr ⟨_, 0, rfl, c1.lt, by decide, fun i j hi hj => ?_⟩
    obtain rfl : i = 0 := by omega
    rw [c1.cell]
    rcases (show j = 0 ∨ j = 1 by omega) with rfl | rfl <;> rfl
  have h4 : IsRows 4 W (some ⟨w.heap.size + 1, 0, none⟩) 1 zLl := by
    refine .inr ⟨_, 0, rfl, c2.lt, by decide, fun i j hi hj => ?_⟩
    obtain rfl : i = 0 := by omega
    rw [c2.cell]
    rcases (show j = 0 ∨ j = 1 ∨ j = 2 ∨ j = 3 by omega) with rfl | rfl | rfl | rfl <;> rfl
  have hc := Left_any (some ⟨w.heap.size, 0, none⟩) 1 1 zLh (some ⟨w.heap.size + 1, 0, none⟩) 1 1 zLl 7 W (ht.grow hb) (by omega) (by omega) h2 h4
  rw [lf_ex] at hc
  have HC := Lib.hid hc
  have HB := Lib.hid hb
  have HW := Lib.hid hW
  clear hc hb c1 c2 h2 h4 hW ht
  go_enter Tryd.func11, Tryd.ntmps11
  go_wp2_with fail
  rw [← HW.out]
  refine HC.out.mono ?_
  rintro e w1 ⟨rfl, hb1⟩
  have HB1 := Lib.hid (HB.out.trans (hb1.mono HB.out.size))
  clear hb1
  go_wp2
  go_ret
  exact ⟨rfl, HB1.out⟩
set_option maxHeartbeats 4000000 in
set_option maxRecDepth 100000 in
theorem limitAllows_walk (a2 : Option Addr) (n2 c2 : Nat) (z2 : Nat → Nat → Int) (a4 : Option Addr) (n4 c4 : Nat) (z4 : Nat → Nat → Int) (t m : Int) (W : World) (h2 : IsRows 2 W a2 n2 z2 ∧ n2 ≤ c2) (h4 : IsRows 4 W a4 n4 z4 ∧ n4 ≤ c4) (_ : (Lit.int .i64 t).wf = true) (_ : (Lit.int .i64 m).wf = true) (ht : Tab W) :
    Calls Tryd.prog 4 #[.slice a2 n2 c2, .slice a4 n4 c4, .int .i64 t, .int .i64 m] W (RetB (.bool true) W) := by
  have HT := Lib.hid ht
  have HX := Lib.hid (Below.refl W.heap.size W)
  obtain ⟨h2, _⟩ := h2
  obtain ⟨h4, _⟩ := h4
  by_cases hl : 300 < n2
  · have hl' : (300 : Int) < (n2 : Int) := by omega
    clear hl h2 h4 ht
    go_enter Tryd.func4, Tryd.ntmps4
    go_wp2_with (go_at_call 11; refine (lives_any _ (HT.out.grow HX.out)).mono ?_; rintro e9 w9 ⟨rfl, hb9⟩; replace HX := Lib.hid (HX.out.trans (hb9.mono HX.out.size)); clear hb9)
    go_ret
    exact ⟨rfl, HX.out⟩
  · by_cases hl4 : 300 < n4
    · have hl' : (n2 : Int) ≤ 300 := by omega
      have hl4' : (300 : Int) < (n4 : Int) := by omega
      clear hl hl4 h2 h4 ht
      go_enter Tryd.func4, Tryd.ntmps4
      go_wp2_with (go_at_call 11; refine (lives_any _ (HT.out.grow HX.out)).mono ?_; rintro e9 w9 ⟨rfl, hb9⟩; replace HX := Lib.hid (HX.out.trans (hb9.mono HX.out.size)); clear hb9)
      go_ret
      exact ⟨rfl, HX.out⟩
    · have hl' : (n2 : Int) ≤ 300 := by omega
      have hl4' : (n4 : Int) ≤ 300 := by omega
      obtain ⟨x, hx⟩ : ∃ x, x = lfN z2 n2 z4 n4 t := ⟨_, rfl⟩
      obtain ⟨y, hy⟩ : ∃ y, y = alN z2 n2 z4 n4 t m := ⟨_, rfl⟩
      have h1 := fun w (hb : Below W.heap.size W w) => Left_any a2 n2 c2 z2 a4 n4 c4 z4 t w (ht.grow hb) (by omega) (by omega) (h2.below hb (Nat.le_refl _)) (h4.below hb (Nat.le_refl _))
      have h3 := fun w (hb : Below W.heap.size W w) => rLeft_any a2 n2 c2 z2 a4 n4 c4 z4 t w (by omega) (by omega) (h2.below hb (Nat.le_refl _)) (h4.below hb (Nat.le_refl _))
      have h5 := fun w (hb : Below W.heap.size W w) => Allow_any a2 n2 c2 z2 a4 n4 c4 z4 t m w (ht.grow hb) (by omega) (by omega) (h2.below hb (Nat.le_refl _)) (h4.below hb (Nat.le_refl _))
      have h6 := fun w (hb : Below W.heap.size W w) => rAllow_any a2 n2 c2 z2 a4 n4 c4 z4 t m w (by omega) (by omega) (h2.below hb (Nat.le_refl _)) (h4.below hb (Nat.le_refl _))
      rw [← hx] at h1 h3
      rw [← hy] at h5 h6
      have H1 := Lib.hid h1
      have H3 := Lib.hid h3
      have H5 := Lib.hid h5
      have H6 := Lib.hid h6
      clear hl hl4 h2 h4 ht h1 h3 h5 h6 hx hy
      go_enter Tryd.func4, Tryd.ntmps4
      go_wp2_with (first | (go_at_call 11; refine (lives_any _ (HT.out.grow HX.out)).mono ?_; rintro e9 w9 ⟨rfl, hb9⟩; replace HX := Lib.hid (HX.out.trans (hb9.mono HX.out.size)); clear hb9) | (go_at_call 12; (with_reducible refine (H1.out _ HX.out).mono ?_); rintro e9 w9 ⟨rfl, hb9⟩; replace HX := Lib.hid (HX.out.trans (hb9.mono HX.out.size)); clear hb9) | (go_at_call 15; (with_reducible refine (H3.out _ HX.out).mono ?_); rintro e9 w9 ⟨rfl, hb9⟩; replace HX := Lib.hid (HX.out.trans (hb9.mono HX.out.size)); clear hb9) | (go_at_call 16; (with_reducible refine (H5.out _ HX.out).mono ?_); rintro e9 w9 ⟨rfl, hb9⟩; replace HX := Lib.hid (HX.out.trans (hb9.mono HX.out.size)); clear hb9) | (go_at_call 17; (with_reducible refine (H6.out _ HX.out).mono ?_); rintro e9 w9 ⟨rfl, hb9⟩; replace HX := Lib.hid (HX.out.trans (hb9.mono HX.out.size)); clear hb9))
      go_ret
      exact ⟨rfl, HX.out⟩
end Go.Proofs.YtainelkenkgppaaDoor
