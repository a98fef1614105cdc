/- The law AnnuityValues: its walk. -/
import Derived.Test.YtkpmbkkhdhjbnaaAnv
namespace Go.Proofs.Ytkpmbkkhdhjbnaa
open Go.ChangeShapes Go.WideShapes Go.ChangeAt Go.RowKit Go.Lott
open Go.Lott.Spl
set_option maxRecDepth 100000 in
set_option maxHeartbeats 2000000 in
theorem annuityValues_walk (a : Option Addr) (len cap : Nat) (z : Nat → Int) (r m : Int) (W : World) (hz : IsRow W a len z ∧ len ≤ cap) (_ : (Lit.int .i64 r).wf = true) (_ : (Lit.int .i64 m).wf = true) :
    Calls Try.prog 6 #[.slice a len cap, .int .i64 r, .int .i64 m] W (RetB (.bool true) W) := by
  have HAW := Lib.hid awake_any
  have HZ := Lib.hid hz
  clear hz
  by_cases hl : 1000 < len
  · have hl' : (1000 : Int) < (len : Int) := by omega
    clear hl
    go_enter Try.func6, Try.ntmps6
    go_wp2_with (go_at_call 17; ((with_reducible refine (HAW.out _).mono ?_); rintro e w4 ⟨rfl, hb4⟩; have HB4 := Lib.hid hb4; clear hb4))
    go_ret
    exact ⟨rfl, HB4.out⟩
  have hl' : (len : Int) ≤ 1000 := by omega
  have hm : len ≤ maxLen := by unfold maxLen; omega
  clear hl
  by_cases m0 : m < 0
  · go_enter Try.func6, Try.ntmps6
    go_wp2_with (go_at_call 17; ((with_reducible refine (HAW.out _).mono ?_); rintro e w4 ⟨rfl, hb4⟩; have HB4 := Lib.hid hb4; clear hb4))
    go_ret
    exact ⟨rfl, HB4.out⟩
  have m0' : 0 ≤ m := by omega
  clear m0
  by_cases m1 : 10000 < m
  · go_enter Try.func6, Try.ntmps6
    go_wp2_with (go_at_call 17; ((with_reducible refine (HAW.out _).mono ?_); rintro e w4 ⟨rfl, hb4⟩; have HB4 := Lib.hid hb4; clear hb4))
    go_ret
    exact ⟨rfl, HB4.out⟩
  have m1' : m ≤ 10000 := by omega
  clear m1
  by_cases r0 : r < 0
  · go_enter Try.func6, Try.ntmps6
    go_wp2_with (go_at_call 17; ((with_reducible refine (HAW.out _).mono ?_); rintro e w4 ⟨rfl, hb4⟩; have HB4 := Lib.hid hb4; clear hb4))
    go_ret
    exact ⟨rfl, HB4.out⟩
  have r0' : 0 ≤ r := by omega
  clear r0
  by_cases r1 : 10000 < r
  · go_enter Try.func6, Try.ntmps6
    go_wp2_with (go_at_call 17; ((with_reducible refine (HAW.out _).mono ?_); rintro e w4 ⟨rfl, hb4⟩; have HB4 := Lib.hid hb4; clear hb4))
    go_ret
    exact ⟨rfl, HB4.out⟩
  have r1' : r ≤ 10000 := by omega
  clear r1
  have hc := Cash_any a len cap z r W HZ.out.1 hm
  by_cases hk : ckE len z = 0
  · obtain ⟨n1, n2, hsu⟩ := ck_of hk
    obtain ⟨hall, hs, _⟩ := su_of hsu
    have hle : leE len z 0 = 0 := by
      have := (le_in (q := 0) hk (by omega)).2
      have h2 : (fun i => z (0 + i)) = z := by funext i; rw [Nat.zero_add]
      rw [h2, Nat.sub_zero, hsu] at this
      exact this
    rw [(ca_in hk r0' r1').1, (ca_in hk r0' r1').2] at hc
    have f1 := cs_first hall r0' n1
    have f2 := cs_tl hall r0' len (Nat.le_refl _)
    have f3 := cs_zero (ws := z) len (Nat.le_refl _)
    rw [Nat.sub_self] at f2 f3
    have hL := fun w h => Left_any a len cap z 0 w h hm HZ.out.2
    rw [hle, show leV len z 0 = tl len z 0 from (le_tl (q := 0) hle (by omega)).1] at hL
    have hC0 := fun w h => Cash_any a len cap z 0 w h hm
    rw [(ca_in hk (Int.le_refl 0) (by omega)).1, (ca_in hk (Int.le_refl 0) (by omega)).2, f3] at hC0
    have hC1 := fun w h => Cash_any a len cap z (r + m) w h hm
    obtain ⟨c0, c1⟩ := cs_bd r0' hall len (Nat.le_refl _)
    have HR := Lib.hid (fun w (h : Below W.heap.size W w) => HZ.out.1.below h (Nat.le_refl _))
    have H1 := Lib.hid hc
    have H2 := Lib.hid (fun w (h : Below W.heap.size W w) => hL w (HR.out w h))
    have H3 := Lib.hid (fun w (h : Below W.heap.size W w) => hC0 w (HR.out w h))
    obtain ⟨b, o, rfl, hb, _, hcl⟩ := HZ.out.1.resolve_left (by omega)
    have ck0 : W.cell? ⟨b, o, none⟩ = some (.int .i64 (z 0)) := hcl 0 (by omega)
    have i1 : (1 : Int) ≤ (len : Int) := by omega
    have i2 : (0 : Int) < (len : Int) := by omega
    have i3 : 0 < len := by omega
    have wrm : IntKind.i64.wrap (r + m) = r + m := IntWalk.i64_in _ (by omega)
    by_cases hrm : r + m ≤ 10000
    · rw [(ca_in hk (by omega) hrm).1, (ca_in hk (by omega) hrm).2] at hC1
      have g1 := cs_mono (r' := r + m) hall r0' (by omega) len (Nat.le_refl _)
      have H4 := Lib.hid (fun w (h : Below W.heap.size W w) => hC1 w (HR.out w h))
      clear hc hL hC0 hC1 hall hs hcl f3 hle hsu hk
      generalize cs len z r len = V at *
      generalize cs len z (r + m) len = V' at *
      generalize tl len z 0 = S at *
      go_enter Try.func6, Try.ntmps6
      go_wp2_with (first
        | (go_at_call 18; ((with_reducible refine (H1.out).mono ?_); rintro e w1 ⟨rfl, hb1⟩; have HB1 := Lib.hid hb1; clear hb1))
        | (go_at_call 20; ((with_reducible refine (H2.out _ HB1.out).mono ?_); rintro e w1 ⟨rfl, rfl⟩))
        | (go_at_call 18; ((with_reducible refine (H3.out _ HB1.out).mono ?_); rintro e w2 ⟨rfl, hb2⟩; have HB2 := Lib.hid (HB1.out.trans (hb2.mono HB1.out.size)); have ck2 := (HB2.out.cell (p := ⟨b, o, none⟩) hb).trans ck0; clear hb2))
        | (go_at_call 18; ((with_reducible refine (H4.out _ HB2.out).mono ?_); rintro e w3 ⟨rfl, hb3⟩; have HB3 := Lib.hid (HB2.out.trans (hb3.mono HB2.out.size)); clear hb3))
        | (go_at_call 17; ((with_reducible refine (HAW.out _).mono ?_); rintro e w4 ⟨rfl, hb4⟩; have HB4 := Lib.hid (HB3.out.trans (hb4.mono HB3.out.size)); clear hb4)))
      go_ret
      exact ⟨rfl, HB4.out⟩
    · rw [(ca_out hk (.inr (by omega))).1, (ca_out hk (.inr (by omega))).2] at hC1
      have H4 := Lib.hid (fun w (h : Below W.heap.size W w) => hC1 w (HR.out w h))
      have hrm' : 10000 < r + m := by omega
      have hb9 : (!decide (r + m ≤ 10000)) = true := by simp; omega
      clear hc hL hC0 hC1 hall hs hcl f3 hle hsu hk hrm
      generalize cs len z r len = V at *
      generalize tl len z 0 = S at *
      go_enter Try.func6, Try.ntmps6
      go_wp2_with (first
        | (go_at_call 18; ((with_reducible refine (H1.out).mono ?_); rintro e w1 ⟨rfl, hb1⟩; have HB1 := Lib.hid hb1; clear hb1))
        | (go_at_call 20; ((with_reducible refine (H2.out _ HB1.out).mono ?_); rintro e w1 ⟨rfl, rfl⟩))
        | (go_at_call 18; ((with_reducible refine (H3.out _ HB1.out).mono ?_); rintro e w2 ⟨rfl, hb2⟩; have HB2 := Lib.hid (HB1.out.trans (hb2.mono HB1.out.size)); have ck2 := (HB2.out.cell (p := ⟨b, o, none⟩) hb).trans ck0; clear hb2))
        | (go_at_call 18; ((with_reducible refine (H4.out _ HB2.out).mono ?_); rintro e w3 ⟨rfl, hb3⟩; have HB3 := Lib.hid (HB2.out.trans (hb3.mono HB2.out.size)); clear hb3))
        | (go_at_call 17; ((with_reducible refine (HAW.out _).mono ?_); rintro e w4 ⟨rfl, hb4⟩; have HB4 := Lib.hid (HB3.out.trans (hb4.mono HB3.out.size)); clear hb4)))
      go_ret
      exact ⟨rfl, HB4.out⟩
  · rw [(ca_ck hk).1, (ca_ck hk).2] at hc
    have hne : (ckE len z != 0) = true := by rw [bne_iff_ne]; exact hk
    have H1 := Lib.hid hc
    clear hc hk
    go_enter Try.func6, Try.ntmps6
    go_wp2_with (first
      | (go_at_call 18; ((with_reducible refine (H1.out).mono ?_); rintro e w1 ⟨rfl, hb1⟩; have HB1 := Lib.hid hb1; clear hb1))
      | (go_at_call 17; ((with_reducible refine (HAW.out _).mono ?_); rintro e w4 ⟨rfl, hb4⟩; have HB4 := Lib.hid (HB1.out.trans (hb4.mono HB1.out.size)); clear hb4)))
    go_ret
    exact ⟨rfl, HB4.out⟩
end Go.Proofs.Ytkpmbkkhdhjbnaa
