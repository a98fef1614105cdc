/- The law LimitWaits: its walk. -/
import Derived.Test.YtainelkenkgppaaLmk
import Derived.Test.YtainelkenkgppaaLmw
namespace Go.Proofs.Ytainelkenkgppaa
open Go.ChangeShapes Go.WideShapes Go.ChangeAt Go.RowKit Go.Lott
open Go.Sort Go.Lott.Stb Go.Lott.Srt Go.Lott.Lm
/-- Two changes in a block. -/
theorem rows_two {W : World} {b : Nat} {p a c : Int} {t : TypeId} (h : Cel W b #[.int .i64 p, .int .i64 a, .int .i64 a, .int .i64 a, .int .i64 (p + 10), .int .i64 c, .int .i64 c, .int .i64 c] t) : IsRows 4 W (some ⟨b, 0, none⟩) 2 (zW p a c) := by
  refine .inr ⟨b, 0, rfl, h.lt, by decide, fun i j hi hj => ?_⟩
  rw [h.cell]
  rcases (show i = 0 ∨ i = 1 by omega) with rfl | rfl <;> rcases (show j = 0 ∨ j = 1 ∨ j = 2 ∨ j = 3 by omega) with rfl | rfl | rfl | rfl <;> rfl
/-- The limits that hold, in every world that is as V below its size. -/
theorem two_sub {V : World} {b : Nat} {p a c t x : Int} (h : IsRows 4 V (some ⟨b, 0, none⟩) 2 (zW p a c)) (hv : EV (zW p a c) 2 t = ag x) (y : World) (hy : Below V.heap.size V y) :
    Calls Try.prog 6 #[.slice (some ⟨b, 0, none⟩) 2 2, .int .i64 t] y (RetB (.agg #[.int .i64 x, .int .i64 x, .int .i64 x]) y) := by
  have := Effective_any (some ⟨b, 0, none⟩) 2 2 (zW p a c) t y (by omega) (h.below hy (Nat.le_refl _))
  rw [hv] at this; exact this
theorem tm_of {t : Int} (h0 : 0 ≤ t) (h1 : t ≤ 1073741824) : tm t = true := by unfold tm; simp; omega
def WF (p low high : Int) (s : Nat) (V : World) : Prop :=
  (∀ y, Below V.heap.size V y → y.cell? ⟨s, 0, none⟩ = some (.int .i64 low)) ∧ (∀ y, Below V.heap.size V y → y.cell? ⟨s, 1, none⟩ = some (.int .i64 low)) ∧ (∀ y, Below V.heap.size V y → y.cell? ⟨s, 2, none⟩ = some (.int .i64 low)) ∧
  (∀ y, Below V.heap.size V y → y.cell? ⟨s + 1, 0, none⟩ = some (.int .i64 high)) ∧ (∀ y, Below V.heap.size V y → y.cell? ⟨s + 1, 1, none⟩ = some (.int .i64 high)) ∧ (∀ y, Below V.heap.size V y → y.cell? ⟨s + 1, 2, none⟩ = some (.int .i64 high)) ∧
  IsRows 4 V (some ⟨s + 1 + 1, 0, none⟩) 2 (zW p low high) ∧ IsRows 4 V (some ⟨s + 1 + 1 + 1, 0, none⟩) 2 (zW p high low) ∧ IsRows 4 V (some ⟨s + 1 + 1 + 1 + 1, 0, none⟩) 2 (zW p low 0)
theorem cel_of {w w1 : World} {o : Obj} {b : Nat} {cs : Array Value} {t : TypeId} (h : w1 = w.alloc o) (c : Cel w b cs t) : Cel w1 b cs t := h ▸ c.alloc o
theorem wf_of {p low high : Int} {W W0 W1 W2 W3 V : World} {t0 t1 : TypeId} (h0 : W0 = W.alloc (.cells #[.int .i64 low, .int .i64 low, .int .i64 low] t0)) (h1 : W1 = W0.alloc (.cells #[.int .i64 high, .int .i64 high, .int .i64 high] t0))
    (h2 : W2 = W1.alloc (.cells #[.int .i64 p, .int .i64 low, .int .i64 low, .int .i64 low, .int .i64 (p + 10), .int .i64 high, .int .i64 high, .int .i64 high] t1))
    (h3 : W3 = W2.alloc (.cells #[.int .i64 p, .int .i64 high, .int .i64 high, .int .i64 high, .int .i64 (p + 10), .int .i64 low, .int .i64 low, .int .i64 low] t1))
    (h4 : V = W3.alloc (.cells #[.int .i64 p, .int .i64 low, .int .i64 low, .int .i64 low, .int .i64 (p + 10), .int .i64 0, .int .i64 0, .int .i64 0] t1)) : WF p low high W.heap.size V ∧ Below W.heap.size W V := by
  have z0 : W0.heap.size = W.heap.size + 1 := by rw [h0]; simp
  have z1 : W1.heap.size = W.heap.size + 2 := by rw [h1]; simp [z0]
  have z2 : W2.heap.size = W.heap.size + 3 := by rw [h2]; simp [z1]
  have z3 : W3.heap.size = W.heap.size + 4 := by rw [h3]; simp [z2]
  have a0 : Cel W0 W.heap.size #[.int .i64 low, .int .i64 low, .int .i64 low] t0 := by rw [h0]; exact Cel.new _ _ _
  have a1 : Cel W1 W0.heap.size #[.int .i64 high, .int .i64 high, .int .i64 high] t0 := by rw [h1]; exact Cel.new _ _ _
  have a2 : Cel W2 W1.heap.size #[.int .i64 p, .int .i64 low, .int .i64 low, .int .i64 low, .int .i64 (p + 10), .int .i64 high, .int .i64 high, .int .i64 high] t1 := by rw [h2]; exact Cel.new _ _ _
  have a3 : Cel W3 W2.heap.size #[.int .i64 p, .int .i64 high, .int .i64 high, .int .i64 high, .int .i64 (p + 10), .int .i64 low, .int .i64 low, .int .i64 low] t1 := by rw [h3]; exact Cel.new _ _ _
  have a4 : Cel V W3.heap.size #[.int .i64 p, .int .i64 low, .int .i64 low, .int .i64 low, .int .i64 (p + 10), .int .i64 0, .int .i64 0, .int .i64 0] t1 := by rw [h4]; exact Cel.new _ _ _
  have b3 := cel_of h4 a3
  have b2 := cel_of h4 (cel_of h3 a2)
  have b1 := cel_of h4 (cel_of h3 (cel_of h2 a1))
  have b0 := cel_of h4 (cel_of h3 (cel_of h2 (cel_of h1 a0)))
  rw [z0] at b1
  rw [z1] at b2
  rw [z2] at b3
  rw [z3] at a4
  refine ⟨⟨fun y hy => ?_, fun y hy => ?_, fun y hy => ?_, fun y hy => ?_, fun y hy => ?_, fun y hy => ?_, rows_two b2, rows_two b3, rows_two a4⟩, ?_⟩
  · rw [(b0.below hy b0.lt).cell]; rfl
  · rw [(b0.below hy b0.lt).cell]; rfl
  · rw [(b0.below hy b0.lt).cell]; rfl
  · rw [(b1.below hy b1.lt).cell]; rfl
  · rw [(b1.below hy b1.lt).cell]; rfl
  · rw [(b1.below hy b1.lt).cell]; rfl
  · rw [h4, h3, h2, h1, h0]
    exact (((((Below.refl _ _).alloc (Nat.le_refl _) _).alloc (by simp) _).alloc (by simp; omega) _).alloc (by simp; omega) _).alloc (by simp; omega) _
set_option maxHeartbeats 4000000 in
set_option maxRecDepth 100000 in
theorem limitWaits_walk (p low high : Int) (W : World) (_ : (Lit.int .i64 p).wf = true) (_ : (Lit.int .i64 low).wf = true) (_ : (Lit.int .i64 high).wf = true) :
    Calls Try.prog 4 #[.int .i64 p, .int .i64 low, .int .i64 high] W (RetB (.bool true) W) := by
  have HC := Lib.hid (fun w => changed_any w)
  by_cases hc : p < 0 ∨ 1073711824 < p ∨ low < 1 ∨ high ≤ low ∨ 1000000000000 < high
  · rcases hc with hc | hc
    · go_enter Try.func4, Try.ntmps4
      go_wp2_with (go_at_call 5; refine (HC.out _).mono ?_; rintro e w1 ⟨rfl, hb1⟩; have HB := Lib.hid hb1; clear hb1)
      go_ret
      exact ⟨rfl, HB.out⟩
    · by_cases h0 : p < 0
      · clear hc
        go_enter Try.func4, Try.ntmps4
        go_wp2_with (go_at_call 5; refine (HC.out _).mono ?_; rintro e w1 ⟨rfl, hb1⟩; have HB := Lib.hid hb1; clear hb1)
        go_ret
        exact ⟨rfl, HB.out⟩
      · rcases hc with hc | hc
        · go_enter Try.func4, Try.ntmps4
          go_wp2_with (go_at_call 5; refine (HC.out _).mono ?_; rintro e w1 ⟨rfl, hb1⟩; have HB := Lib.hid hb1; clear hb1)
          go_ret
          exact ⟨rfl, HB.out⟩
        · by_cases h1 : 1073711824 < p
          · clear hc
            go_enter Try.func4, Try.ntmps4
            go_wp2_with (go_at_call 5; refine (HC.out _).mono ?_; rintro e w1 ⟨rfl, hb1⟩; have HB := Lib.hid hb1; clear hb1)
            go_ret
            exact ⟨rfl, HB.out⟩
          · rcases hc with hc | hc
            · go_enter Try.func4, Try.ntmps4
              go_wp2_with (go_at_call 5; refine (HC.out _).mono ?_; rintro e w1 ⟨rfl, hb1⟩; have HB := Lib.hid hb1; clear hb1)
              go_ret
              exact ⟨rfl, HB.out⟩
            · by_cases h2 : low < 1
              · clear hc
                go_enter Try.func4, Try.ntmps4
                go_wp2_with (go_at_call 5; refine (HC.out _).mono ?_; rintro e w1 ⟨rfl, hb1⟩; have HB := Lib.hid hb1; clear hb1)
                go_ret
                exact ⟨rfl, HB.out⟩
              · rcases hc with hc | hc
                · go_enter Try.func4, Try.ntmps4
                  go_wp2_with (go_at_call 5; refine (HC.out _).mono ?_; rintro e w1 ⟨rfl, hb1⟩; have HB := Lib.hid hb1; clear hb1)
                  go_ret
                  exact ⟨rfl, HB.out⟩
                · by_cases h3 : high ≤ low
                  · clear hc
                    go_enter Try.func4, Try.ntmps4
                    go_wp2_with (go_at_call 5; refine (HC.out _).mono ?_; rintro e w1 ⟨rfl, hb1⟩; have HB := Lib.hid hb1; clear hb1)
                    go_ret
                    exact ⟨rfl, HB.out⟩
                  · go_enter Try.func4, Try.ntmps4
                    go_wp2_with (go_at_call 5; refine (HC.out _).mono ?_; rintro e w1 ⟨rfl, hb1⟩; have HB := Lib.hid hb1; clear hb1)
                    go_ret
                    exact ⟨rfl, HB.out⟩
  · have h1 : 0 ≤ p := by omega
    have h2 : p ≤ 1073711824 := by omega
    have h3 : 1 ≤ low := by omega
    have h4 : low < high := by omega
    have h5 : high ≤ 1000000000000 := by omega
    clear hc
    obtain ⟨W0, hW0⟩ : ∃ W0 : World, W0 = W.alloc (.cells #[.int .i64 low, .int .i64 low, .int .i64 low] 25) := ⟨_, rfl⟩
    obtain ⟨W1, hW1⟩ : ∃ W1 : World, W1 = W0.alloc (.cells #[.int .i64 high, .int .i64 high, .int .i64 high] 25) := ⟨_, rfl⟩
    obtain ⟨W2, hW2⟩ : ∃ W2 : World, W2 = W1.alloc (.cells #[.int .i64 p, .int .i64 low, .int .i64 low, .int .i64 low, .int .i64 (p + 10), .int .i64 high, .int .i64 high, .int .i64 high] 29) := ⟨_, rfl⟩
    obtain ⟨W3, hW3⟩ : ∃ W3 : World, W3 = W2.alloc (.cells #[.int .i64 p, .int .i64 high, .int .i64 high, .int .i64 high, .int .i64 (p + 10), .int .i64 low, .int .i64 low, .int .i64 low] 29) := ⟨_, rfl⟩
    obtain ⟨V, hV⟩ : ∃ V : World, V = W3.alloc (.cells #[.int .i64 p, .int .i64 low, .int .i64 low, .int .i64 low, .int .i64 (p + 10), .int .i64 0, .int .i64 0, .int .i64 0] 29) := ⟨_, rfl⟩
    obtain ⟨hF, hBV⟩ := wf_of hW0 hW1 hW2 hW3 hV
    have HF := Lib.hid hF
    have HBV := Lib.hid hBV
    have HW := Lib.hid (hV.trans (by rw [hW3, hW2, hW1, hW0]))
    clear hF hBV hV hW3 hW2 hW1 hW0
    have k1 : EV (zW p low high) 2 (p + 10) = ag low := by rw [evW2 (tm_of (by omega) (by omega)) h1 (by omega) (by omega) (by omega) (by omega), if_neg (by omega)]
    have k2 : EV (zW p low high) 2 (p + 10089) = ag low := by rw [evW2 (tm_of (by omega) (by omega)) h1 (by omega) (by omega) (by omega) (by omega), if_neg (by omega)]
    have k3 : EV (zW p low high) 2 (p + 10090) = ag high := by rw [evW2 (tm_of (by omega) (by omega)) h1 (by omega) (by omega) (by omega) (by omega), if_pos (by omega)]
    have k4 : EV (zW p low 0) 2 (p + 10089) = ag low := by rw [evW2 (tm_of (by omega) (by omega)) h1 (by omega) (by omega) (by omega) (by omega), if_neg (by omega)]
    have k5 : EV (zW p low 0) 2 (p + 10090) = ag 0 := by rw [evW2 (tm_of (by omega) (by omega)) h1 (by omega) (by omega) (by omega) (by omega), if_pos (by omega)]
    have k6 : EV (zW p high low) 2 (p + 9) = ag high := evD1 (tm_of (by omega) (by omega)) h1 (by omega) (by omega) (by omega) (by omega)
    have k7 : EV (zW p high low) 2 (p + 10) = ag low := evD2 (tm_of (by omega) (by omega)) h1 (by omega) (by omega) (by omega) (by omega) h4
    have E1 := Lib.hid (two_sub HF.out.2.2.2.2.2.2.1 k1)
    have E2 := Lib.hid (two_sub HF.out.2.2.2.2.2.2.1 k2)
    have E3 := Lib.hid (two_sub HF.out.2.2.2.2.2.2.1 k3)
    have E4 := Lib.hid (two_sub HF.out.2.2.2.2.2.2.2.2 k4)
    have E5 := Lib.hid (two_sub HF.out.2.2.2.2.2.2.2.2 k5)
    have E6 := Lib.hid (two_sub HF.out.2.2.2.2.2.2.2.1 k6)
    have E7 := Lib.hid (two_sub HF.out.2.2.2.2.2.2.2.1 k7)
    clear k1 k2 k3 k4 k5 k6 k7
    go_enter Try.func4, Try.ntmps4
    go_wp2
    rw [← HW.out]
    have HV0 := Lib.hid (Below.refl V.heap.size V)
    have g0 := fun x : Sub V.heap.size V => HF.out.1 x.w (HV0.out.trans (x.h.mono HV0.out.size))
    have g1 := fun x : Sub V.heap.size V => HF.out.2.1 x.w (HV0.out.trans (x.h.mono HV0.out.size))
    have g2 := fun x : Sub V.heap.size V => HF.out.2.2.1 x.w (HV0.out.trans (x.h.mono HV0.out.size))
    have g3 := fun x : Sub V.heap.size V => HF.out.2.2.2.1 x.w (HV0.out.trans (x.h.mono HV0.out.size))
    have g4 := fun x : Sub V.heap.size V => HF.out.2.2.2.2.1 x.w (HV0.out.trans (x.h.mono HV0.out.size))
    have g5 := fun x : Sub V.heap.size V => HF.out.2.2.2.2.2.1 x.w (HV0.out.trans (x.h.mono HV0.out.size))
    have F1 := Lib.hid fun x : Sub V.heap.size V => E1.out x.w (HV0.out.trans (x.h.mono HV0.out.size))
    have F2 := Lib.hid fun x : Sub V.heap.size V => E2.out x.w (HV0.out.trans (x.h.mono HV0.out.size))
    have F3 := Lib.hid fun x : Sub V.heap.size V => E3.out x.w (HV0.out.trans (x.h.mono HV0.out.size))
    have F4 := Lib.hid fun x : Sub V.heap.size V => E4.out x.w (HV0.out.trans (x.h.mono HV0.out.size))
    have F5 := Lib.hid fun x : Sub V.heap.size V => E5.out x.w (HV0.out.trans (x.h.mono HV0.out.size))
    have F6 := Lib.hid fun x : Sub V.heap.size V => E6.out x.w (HV0.out.trans (x.h.mono HV0.out.size))
    have F7 := Lib.hid fun x : Sub V.heap.size V => E7.out x.w (HV0.out.trans (x.h.mono HV0.out.size))
    have s1 : IntKind.i64.wrap (p + 9) = p + 9 := IntWalk.i64_in _ (by omega)
    have s2 : IntKind.i64.wrap (p + 10) = p + 10 := IntWalk.i64_in _ (by omega)
    have s3 : IntKind.i64.wrap (p + 10089) = p + 10089 := IntWalk.i64_in _ (by omega)
    have s4 : IntKind.i64.wrap (p + 10090) = p + 10090 := IntWalk.i64_in _ (by omega)
    have HS := Lib.hid (And.intro s1 (And.intro s2 (And.intro s3 s4)))
    refine wp_region_below (by kernel_rfl) (by kernel_rfl) ?_
    repeat (go_big_quiet_step ((go_at_call 6; first | (with_reducible exact Sub.ofB _ (Nat.le_refl _) (F1.out _)) | (with_reducible exact Sub.ofB _ (Nat.le_refl _) (F2.out _)) | (with_reducible exact Sub.ofB _ (Nat.le_refl _) (F3.out _)) | (with_reducible exact Sub.ofB _ (Nat.le_refl _) (F4.out _)) | (with_reducible exact Sub.ofB _ (Nat.le_refl _) (F5.out _)) | (with_reducible exact Sub.ofB _ (Nat.le_refl _) (F6.out _)) | (with_reducible exact Sub.ofB _ (Nat.le_refl _) (F7.out _)))))
    refine wpQuiet_nil ?_
    rintro wx ⟨⟨_, hbx⟩, rfl⟩
    have HVx := Lib.hid (HV0.out.trans hbx)
    clear s1 s2 s3 s4 g0 g1 g2 g3 g4 g5 F1 F2 F3 F4 F5 F6 F7 hbx
    go_wp2
    have g0 := fun x : Sub wx.heap.size wx => HF.out.1 x.w (HVx.out.trans (x.h.mono HVx.out.size))
    have g1 := fun x : Sub wx.heap.size wx => HF.out.2.1 x.w (HVx.out.trans (x.h.mono HVx.out.size))
    have g2 := fun x : Sub wx.heap.size wx => HF.out.2.2.1 x.w (HVx.out.trans (x.h.mono HVx.out.size))
    have g3 := fun x : Sub wx.heap.size wx => HF.out.2.2.2.1 x.w (HVx.out.trans (x.h.mono HVx.out.size))
    have g4 := fun x : Sub wx.heap.size wx => HF.out.2.2.2.2.1 x.w (HVx.out.trans (x.h.mono HVx.out.size))
    have g5 := fun x : Sub wx.heap.size wx => HF.out.2.2.2.2.2.1 x.w (HVx.out.trans (x.h.mono HVx.out.size))
    have F1 := Lib.hid fun x : Sub wx.heap.size wx => E1.out x.w (HVx.out.trans (x.h.mono HVx.out.size))
    have F2 := Lib.hid fun x : Sub wx.heap.size wx => E2.out x.w (HVx.out.trans (x.h.mono HVx.out.size))
    have F3 := Lib.hid fun x : Sub wx.heap.size wx => E3.out x.w (HVx.out.trans (x.h.mono HVx.out.size))
    have F4 := Lib.hid fun x : Sub wx.heap.size wx => E4.out x.w (HVx.out.trans (x.h.mono HVx.out.size))
    have F5 := Lib.hid fun x : Sub wx.heap.size wx => E5.out x.w (HVx.out.trans (x.h.mono HVx.out.size))
    have F6 := Lib.hid fun x : Sub wx.heap.size wx => E6.out x.w (HVx.out.trans (x.h.mono HVx.out.size))
    have F7 := Lib.hid fun x : Sub wx.heap.size wx => E7.out x.w (HVx.out.trans (x.h.mono HVx.out.size))
    obtain ⟨s1, s2, s3, s4⟩ := HS.out
    refine wp_region_below (by kernel_rfl) (by kernel_rfl) ?_
    repeat (go_big_quiet_step ((go_at_call 6; first | (with_reducible exact Sub.ofB _ (Nat.le_refl _) (F1.out _)) | (with_reducible exact Sub.ofB _ (Nat.le_refl _) (F2.out _)) | (with_reducible exact Sub.ofB _ (Nat.le_refl _) (F3.out _)) | (with_reducible exact Sub.ofB _ (Nat.le_refl _) (F4.out _)) | (with_reducible exact Sub.ofB _ (Nat.le_refl _) (F5.out _)) | (with_reducible exact Sub.ofB _ (Nat.le_refl _) (F6.out _)) | (with_reducible exact Sub.ofB _ (Nat.le_refl _) (F7.out _)))))
    refine wpQuiet_nil ?_
    rintro wy ⟨⟨_, hby⟩, rfl⟩
    have HVy := Lib.hid (HVx.out.trans (hby.mono HVx.out.size))
    clear s1 s2 s3 s4 g0 g1 g2 g3 g4 g5 F1 F2 F3 F4 F5 F6 F7 hby
    go_wp2
    have g0 := fun x : Sub wy.heap.size wy => HF.out.1 x.w (HVy.out.trans (x.h.mono HVy.out.size))
    have g1 := fun x : Sub wy.heap.size wy => HF.out.2.1 x.w (HVy.out.trans (x.h.mono HVy.out.size))
    have g2 := fun x : Sub wy.heap.size wy => HF.out.2.2.1 x.w (HVy.out.trans (x.h.mono HVy.out.size))
    have g3 := fun x : Sub wy.heap.size wy => HF.out.2.2.2.1 x.w (HVy.out.trans (x.h.mono HVy.out.size))
    have g4 := fun x : Sub wy.heap.size wy => HF.out.2.2.2.2.1 x.w (HVy.out.trans (x.h.mono HVy.out.size))
    have g5 := fun x : Sub wy.heap.size wy => HF.out.2.2.2.2.2.1 x.w (HVy.out.trans (x.h.mono HVy.out.size))
    have F1 := Lib.hid fun x : Sub wy.heap.size wy => E1.out x.w (HVy.out.trans (x.h.mono HVy.out.size))
    have F2 := Lib.hid fun x : Sub wy.heap.size wy => E2.out x.w (HVy.out.trans (x.h.mono HVy.out.size))
    have F3 := Lib.hid fun x : Sub wy.heap.size wy => E3.out x.w (HVy.out.trans (x.h.mono HVy.out.size))
    have F4 := Lib.hid fun x : Sub wy.heap.size wy => E4.out x.w (HVy.out.trans (x.h.mono HVy.out.size))
    have F5 := Lib.hid fun x : Sub wy.heap.size wy => E5.out x.w (HVy.out.trans (x.h.mono HVy.out.size))
    have F6 := Lib.hid fun x : Sub wy.heap.size wy => E6.out x.w (HVy.out.trans (x.h.mono HVy.out.size))
    have F7 := Lib.hid fun x : Sub wy.heap.size wy => E7.out x.w (HVy.out.trans (x.h.mono HVy.out.size))
    have FC := Lib.hid fun x : Sub wy.heap.size wy => HC.out x.w
    obtain ⟨s1, s2, s3, s4⟩ := HS.out
    refine wp_region_below (by kernel_rfl) (by kernel_rfl) ?_
    repeat (go_big_quiet_step (((first | (go_at_call 6; first | (with_reducible exact Sub.ofB _ (Nat.le_refl _) (F1.out _)) | (with_reducible exact Sub.ofB _ (Nat.le_refl _) (F2.out _)) | (with_reducible exact Sub.ofB _ (Nat.le_refl _) (F3.out _)) | (with_reducible exact Sub.ofB _ (Nat.le_refl _) (F4.out _)) | (with_reducible exact Sub.ofB _ (Nat.le_refl _) (F5.out _)) | (with_reducible exact Sub.ofB _ (Nat.le_refl _) (F6.out _)) | (with_reducible exact Sub.ofB _ (Nat.le_refl _) (F7.out _))) | (go_at_call 5; (with_reducible exact Sub.ofB _ (Nat.le_refl _) (FC.out _)))))))
    refine wpQuiet_nil ?_
    rintro wz ⟨⟨_, hbz⟩, rfl⟩
    have HVz := Lib.hid (HVy.out.trans (hbz.mono HVy.out.size))
    clear s1 s2 s3 s4 g0 g1 g2 g3 g4 g5 F1 F2 F3 F4 F5 F6 F7 hbz FC
    go_wp2
    go_ret
    exact ⟨rfl, HBV.out.trans (HVz.out.mono HBV.out.size)⟩
end Go.Proofs.Ytainelkenkgppaa
