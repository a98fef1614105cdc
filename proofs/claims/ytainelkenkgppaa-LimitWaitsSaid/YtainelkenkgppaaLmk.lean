/- The law LimitEffects: its walk. -/
import Derived.Test.YtainelkenkgppaaLmj
namespace Go.Proofs.Ytainelkenkgppaa
open Go.ChangeShapes Go.WideShapes Go.ChangeAt Go.RowKit Go.Lott
open Go.Sort Go.Lott.Stb Go.Lott.Srt Go.Lott.Lm
def zEx (_ j : Nat) : Int := if j = 1 then 10 else 0
theorem ev_ex : EV zEx 1 7 = .agg #[.int .i64 10, .int .i64 0, .int .i64 0] := by rfl
theorem ev_agg (z : Nat → Nat → Int) (n : Nat) (t : Int) : ∃ x y u : Int, EV z n t = .agg #[.int .i64 x, .int .i64 y, .int .i64 u] := by
  unfold EV effV
  split
  · exact ⟨_, _, _, rfl⟩
  · exact ⟨_, _, _, rfl⟩
theorem changed_any (w : World) : Calls Try.prog 5 #[] w (RetB (.bool true) w) := by
  have hr : IsRows 4 (w.alloc (.cells #[.int .i64 0, .int .i64 10, .int .i64 0, .int .i64 0] 29)) (some ⟨w.heap.size, 0, none⟩) 1 zEx := by
    refine .inr ⟨_, 0, rfl, by simp, by decide, fun i j hi hj => ?_⟩
    have hc := Cel.new w #[.int .i64 0, .int .i64 10, .int .i64 0, .int .i64 0] 29
    obtain rfl : i = 0 := by omega
    rw [hc.cell]
    rcases (show j = 0 ∨ j = 1 ∨ j = 2 ∨ j = 3 by omega) with rfl | rfl | rfl | rfl <;> rfl
  have hc := Effective_any (some ⟨w.heap.size, 0, none⟩) 1 1 zEx 7 _ (by omega) hr
  rw [ev_ex] at hc
  have HC := Lib.hid hc
  clear hc hr
  have fd : ∀ w, (Instr.field 25 (.agg #[.int .i64 10, .int .i64 0, .int .i64 0]) 0).run Try.prog w = .ok (.int .i64 10) w := fun _ => by kernel_rfl
  go_enter Try.func5, Try.ntmps5
  go_wp2_with (go_at_call 6; refine HC.out.mono ?_; rintro e w1 ⟨rfl, hb1⟩; have HB1 := Lib.hid (((Below.refl _ _).alloc (Nat.le_refl w.heap.size) (.cells #[.int .i64 0, .int .i64 10, .int .i64 0, .int .i64 0] 29)).trans (hb1.mono (by simp))); clear hb1)
  go_ret
  exact ⟨rfl, HB1.out⟩
set_option maxHeartbeats 4000000 in
set_option maxRecDepth 100000 in
theorem limitEffects_walk (a : Option Addr) (n cap : Nat) (z : Nat → Nat → Int) (t : Int) (W : World) (hz : IsRows 4 W a n z ∧ n ≤ cap) (_ : (Lit.int .i64 t).wf = true) :
    Calls Try.prog 3 #[.slice a n cap, .int .i64 t] W (RetB (.bool true) W) := by
  obtain ⟨hr, hcap⟩ := hz
  by_cases hl : 300 < n
  · have hl' : (300 : Int) < (n : Int) := by omega
    clear hl hr
    go_enter Try.func3, Try.ntmps3
    go_wp2_with (go_at_call 5; refine (changed_any _).mono ?_; rintro e w9 ⟨rfl, hb9⟩; have HB9 := Lib.hid hb9; clear hb9)
    go_ret
    exact ⟨rfl, HB9.out⟩
  · have hl' : (n : Int) ≤ 300 := by omega
    have h1 := fun w (hb : Below W.heap.size W w) => Effective_any a n cap z t w (by omega) (hr.below hb (Nat.le_refl _))
    have h2 := fun w (hb : Below W.heap.size W w) => rEffective_any a n cap z t w (by omega) (hr.below hb (Nat.le_refl _))
    obtain ⟨x, y, u, hE⟩ := ev_agg z n t
    rw [hE] at h1 h2
    have H1 := Lib.hid h1
    have H2 := Lib.hid h2
    have HB0 := Lib.hid (Below.refl W.heap.size W)
    clear hl hr h1 h2 hE
    go_enter Try.func3, Try.ntmps3
    go_wp2_with (first
      | (go_at_call 6; refine (H1.out _ HB0.out).mono ?_; rintro e w1 ⟨rfl, hb1⟩; have HB1 := Lib.hid hb1; clear hb1)
      | (go_at_call 7; refine (H2.out _ HB1.out).mono ?_; rintro e w2 ⟨rfl, hb2⟩; have HB2 := Lib.hid (HB1.out.trans (hb2.mono HB1.out.size)); clear hb2)
      | (go_at_call 5; refine (changed_any _).mono ?_; rintro e w9 ⟨rfl, hb9⟩; have HB9 := Lib.hid (HB2.out.trans (hb9.mono HB2.out.size)); clear hb9))
    go_ret
    exact ⟨rfl, HB9.out⟩
end Go.Proofs.Ytainelkenkgppaa
