/- The law ReportTells: its walk. -/
import Derived.Test.YtgmilhhifigkkaaDoorRpi
namespace Go.Proofs.YtgmilhhifigkkaaDoor
open Go.ChangeShapes Go.WideShapes Go.ChangeAt Go.RowKit Go.Lott
open Go.Lott.Mny Go.Lott.Rp
theorem tell_cells {W W0 W1 : World} {a b c d e a' b' c' d' e' : Int} {t : TypeId} (h0 : W0 = W.alloc (.cells #[.int .i64 a, .int .i64 b, .int .i64 c, .int .i64 d, .int .i64 e] t)) (h1 : W1 = W0.alloc (.cells #[.int .i64 a', .int .i64 b', .int .i64 c', .int .i64 d', .int .i64 e'] t)) (y : World) (h : Below W1.heap.size W1 y) :
    (y.cell? ⟨W.heap.size, 0, none⟩ = some (.int .i64 a) ∧ y.cell? ⟨W.heap.size, 1, none⟩ = some (.int .i64 b) ∧ y.cell? ⟨W.heap.size, 2, none⟩ = some (.int .i64 c) ∧ y.cell? ⟨W.heap.size, 3, none⟩ = some (.int .i64 d) ∧ y.cell? ⟨W.heap.size, 4, none⟩ = some (.int .i64 e)) ∧
    (y.cell? ⟨W.heap.size + 1, 0, none⟩ = some (.int .i64 a') ∧ y.cell? ⟨W.heap.size + 1, 1, none⟩ = some (.int .i64 b') ∧ y.cell? ⟨W.heap.size + 1, 2, none⟩ = some (.int .i64 c') ∧ y.cell? ⟨W.heap.size + 1, 3, none⟩ = some (.int .i64 d') ∧ y.cell? ⟨W.heap.size + 1, 4, none⟩ = some (.int .i64 e')) := by
  have z0 : W0.heap.size = W.heap.size + 1 := by rw [h0]; simp
  have a0 : Cel W0 W.heap.size _ t := h0 ▸ Cel.new _ _ _
  have a1 : Cel W1 W0.heap.size _ t := h1 ▸ Cel.new _ _ _
  have b0 := a0.alloc (.cells #[.int .i64 a', .int .i64 b', .int .i64 c', .int .i64 d', .int .i64 e'] t)
  rw [← h1] at b0
  rw [z0] at a1
  have c0 := b0.below h b0.lt
  have c1 := a1.below h a1.lt
  exact ⟨⟨c0.cell 0, c0.cell 1, c0.cell 2, c0.cell 3, c0.cell 4⟩, ⟨c1.cell 0, c1.cell 1, c1.cell 2, c1.cell 3, c1.cell 4⟩⟩
theorem eqS {a b c d e a' b' c' d' e' : Int} {w : World} : (binOp .eql 23 (.agg #[.int .i64 a, .int .i64 b, .int .i64 c, .int .i64 d, .int .i64 e]) (.agg #[.int .i64 a', .int .i64 b', .int .i64 c', .int .i64 d', .int .i64 e'])).run Tryd.prog w = .ok (.bool (decide (a = a' ∧ b = b' ∧ c = c' ∧ d = d' ∧ e = e'))) w := by
  go_simp
  by_cases h1 : a = a' <;> by_cases h2 : b = b' <;> by_cases h3 : c = c' <;> by_cases h4 : d = d' <;> by_cases h5 : e = e' <;> simp [h1, h2, h3, h4, h5]
theorem eqS_no {a b c d e a' b' c' d' e' : Int} {w : World} (h : ¬ (a = a' ∧ b = b' ∧ c = c' ∧ d = d' ∧ e = e')) : (binOp .eql 23 (.agg #[.int .i64 a, .int .i64 b, .int .i64 c, .int .i64 d, .int .i64 e]) (.agg #[.int .i64 a', .int .i64 b', .int .i64 c', .int .i64 d', .int .i64 e'])).run Tryd.prog w = .ok (.bool false) w := by
  rw [eqS, decide_eq_false h]
theorem ne_list {x y : ByteArray} (h : ¬ x = y) : (x.toList == y.toList) = false := by
  rw [beq_eq_false_iff_ne, ByteArray.toList_eq, ByteArray.toList_eq]
  exact fun c => h (bytes_of c)
set_option maxHeartbeats 4000000 in
set_option maxRecDepth 100000 in
theorem reportTells_walki (t a b c d e t' a' b' c' d' e' : Int) (W : World) (ht : I64 t) (ha : I64 a) (hb : I64 b) (hc : I64 c) (hd : I64 d) (he : I64 e) (ht' : I64 t') (ha' : I64 a') (hb' : I64 b') (hc' : I64 c') (hd' : I64 d') (he' : I64 e') (hp : P10 W) :
    Calls Tryd.prog 4 #[.int .i64 t, .int .i64 t', .agg #[.int .i64 a, .int .i64 b, .int .i64 c, .int .i64 d, .int .i64 e], .agg #[.int .i64 a', .int .i64 b', .int .i64 c', .int .i64 d', .int .i64 e']] W (RetB (.bool true) W) := by
  obtain ⟨W0, hW0⟩ : ∃ W0 : World, W0 = W.alloc (.cells #[.int .i64 a, .int .i64 b, .int .i64 c, .int .i64 d, .int .i64 e] 23) := ⟨_, rfl⟩
  obtain ⟨W1, hW1⟩ : ∃ W1 : World, W1 = W0.alloc (.cells #[.int .i64 a', .int .i64 b', .int .i64 c', .int .i64 d', .int .i64 e'] 23) := ⟨_, rfl⟩
  have HB1 : Hid (Below W.heap.size W W1) := by rw [hW1, hW0]; exact ((Below.refl _ _).alloc (Nat.le_refl _) _).alloc (by simp) _
  have hlt : W.heap.size + 1 < W1.heap.size := by rw [hW1, hW0]; simp
  have HS : Hid (∀ x : Sub W1.heap.size W1, P10 x.w) := Lib.hid fun x => hp.grow (HB1.out.trans (x.h.mono (by omega)))
  have H1 := Lib.hid fun x : Sub W1.heap.size W1 => settl_any t a b c d e x.w ht ha hb hc hd he (HS.out x)
  have H2 := Lib.hid fun x : Sub W1.heap.size W1 => settl_any t' a' b' c' d' e' x.w ht' ha' hb' hc' hd' he' (HS.out x)
  have H3 := Lib.hid fun y (h : Below W1.heap.size W1 y) => settles_any y (HS.out ⟨y, h⟩)
  have HW := Lib.hid (hW1.trans (by rw [hW0]))
  have HG := Lib.hid (tell_cells hW0 hW1)
  clear hp hW1 hW0 ht ha hb hc hd he ht' ha' hb' hc' hd' he'
  have HX := Lib.hid (Below.refl W1.heap.size W1)
  cases hm : monB a b c d e with
  | false =>
    have HM := Lib.hid (money_at a b c d e _ hm)
    have HN := Lib.hid (money_at a b c d e _ hm)
    clear hm
    go_enter Tryd.func4, Tryd.ntmps4
    go_wp2_with fail
    rw [← HW.out]
    obtain ⟨⟨k0, k1, k2, k3, k4⟩, ⟨m0, m1, m2, m3, m4⟩⟩ := HG.out _ HX.out
    go_wp2_with (first | (go_at_call 12; (first | (with_reducible refine (HM.out _).mono ?_) | (with_reducible refine (HN.out _).mono ?_)); rintro e w1 ⟨rfl, hb1⟩; replace HX := Lib.hid (HX.out.trans (hb1.mono HX.out.size)); obtain ⟨⟨k0, k1, k2, k3, k4⟩, ⟨m0, m1, m2, m3, m4⟩⟩ := HG.out _ HX.out; clear hb1) | (go_at_call 11; (with_reducible refine (H3.out _ HX.out).mono ?_); rintro e w1 ⟨rfl, hb1⟩; replace HX := Lib.hid (HX.out.trans (hb1.mono HX.out.size)); clear hb1))
    go_ret
    exact ⟨rfl, HB1.out.trans (HX.out.mono (by omega))⟩
  | true =>
    have HM := Lib.hid (money_at a b c d e _ hm)
    cases hn : monB a' b' c' d' e' with
    | false =>
      have HN := Lib.hid (money_at a' b' c' d' e' _ hn)
      clear hm hn
      go_enter Tryd.func4, Tryd.ntmps4
      go_wp2_with fail
      rw [← HW.out]
      obtain ⟨⟨k0, k1, k2, k3, k4⟩, ⟨m0, m1, m2, m3, m4⟩⟩ := HG.out _ HX.out
      go_wp2_with (first | (go_at_call 12; (first | (with_reducible refine (HM.out _).mono ?_) | (with_reducible refine (HN.out _).mono ?_)); rintro e w1 ⟨rfl, hb1⟩; replace HX := Lib.hid (HX.out.trans (hb1.mono HX.out.size)); obtain ⟨⟨k0, k1, k2, k3, k4⟩, ⟨m0, m1, m2, m3, m4⟩⟩ := HG.out _ HX.out; clear hb1) | (go_at_call 11; (with_reducible refine (H3.out _ HX.out).mono ?_); rintro e w1 ⟨rfl, hb1⟩; replace HX := Lib.hid (HX.out.trans (hb1.mono HX.out.size)); clear hb1))
      go_ret
      exact ⟨rfl, HB1.out.trans (HX.out.mono (by omega))⟩
    | true =>
      have HN := Lib.hid (money_at a' b' c' d' e' _ hn)
      have hI := setB_inj (t := t) (t' := t') hm hn
      clear hm hn
      by_cases h1 : t = t'
      · by_cases h2 : a = a' ∧ b = b' ∧ c = c' ∧ d = d' ∧ e = e'
        · obtain ⟨h2, h3, h4, h5, h6⟩ := h2
          subst h1 h2 h3 h4 h5 h6
          clear hI
          go_enter Tryd.func4, Tryd.ntmps4
          go_wp2_with fail
          rw [← HW.out]
          obtain ⟨⟨k0, k1, k2, k3, k4⟩, ⟨m0, m1, m2, m3, m4⟩⟩ := HG.out _ HX.out
          go_wp2_with (go_at_call 12; (first | (with_reducible refine (HM.out _).mono ?_) | (with_reducible refine (HN.out _).mono ?_)); rintro e w1 ⟨rfl, hb1⟩; replace HX := Lib.hid (HX.out.trans (hb1.mono HX.out.size)); obtain ⟨⟨k0, k1, k2, k3, k4⟩, ⟨m0, m1, m2, m3, m4⟩⟩ := HG.out _ HX.out; clear hb1)
          obtain ⟨V, hV⟩ : ∃ V : World, V = w1 := ⟨_, rfl⟩
          subst hV
          have F1 := Lib.hid fun x : Sub V.heap.size V => H1.out ⟨x.w, HX.out.trans (x.h.mono HX.out.size)⟩
          have F2 := Lib.hid fun x : Sub V.heap.size V => H2.out ⟨x.w, HX.out.trans (x.h.mono HX.out.size)⟩
          have g0 := fun x : Sub V.heap.size V => (HG.out x.w (HX.out.trans (x.h.mono HX.out.size))).1.1
          have g1 := fun x : Sub V.heap.size V => (HG.out x.w (HX.out.trans (x.h.mono HX.out.size))).1.2.1
          have g2 := fun x : Sub V.heap.size V => (HG.out x.w (HX.out.trans (x.h.mono HX.out.size))).1.2.2.1
          have g3 := fun x : Sub V.heap.size V => (HG.out x.w (HX.out.trans (x.h.mono HX.out.size))).1.2.2.2.1
          have g4 := fun x : Sub V.heap.size V => (HG.out x.w (HX.out.trans (x.h.mono HX.out.size))).1.2.2.2.2
          have q0 := fun x : Sub V.heap.size V => (HG.out x.w (HX.out.trans (x.h.mono HX.out.size))).2.1
          have q1 := fun x : Sub V.heap.size V => (HG.out x.w (HX.out.trans (x.h.mono HX.out.size))).2.2.1
          have q2 := fun x : Sub V.heap.size V => (HG.out x.w (HX.out.trans (x.h.mono HX.out.size))).2.2.2.1
          have q3 := fun x : Sub V.heap.size V => (HG.out x.w (HX.out.trans (x.h.mono HX.out.size))).2.2.2.2.1
          have q4 := fun x : Sub V.heap.size V => (HG.out x.w (HX.out.trans (x.h.mono HX.out.size))).2.2.2.2.2
          refine wp_region_below (by kernel_rfl) (by kernel_rfl) ?_
          repeat (go_big_quiet_step (((go_at_call 9; first | (with_reducible exact Sub.ofB _ (Nat.le_refl _) (F1.out _)) | (with_reducible exact Sub.ofB _ (Nat.le_refl _) (F2.out _))))))
          refine wpQuiet_nil ?_
          rintro wx ⟨⟨_, hbx⟩, rfl⟩
          replace HX := Lib.hid (HX.out.trans (hbx.mono HX.out.size))
          clear F1 F2 g0 g1 g2 g3 g4 q0 q1 q2 q3 q4 hbx
          obtain ⟨⟨k0, k1, k2, k3, k4⟩, ⟨m0, m1, m2, m3, m4⟩⟩ := HG.out _ HX.out
          go_wp2_with (go_at_call 11; (with_reducible refine (H3.out _ HX.out).mono ?_); rintro e w1 ⟨rfl, hb1⟩; replace HX := Lib.hid (HX.out.trans (hb1.mono HX.out.size)); clear hb1)
          go_ret
          exact ⟨rfl, HB1.out.trans (HX.out.mono (by omega))⟩
        · have hne := ne_list fun c => h2 (hI c).2
          have hq := fun w => eqS_no (w := w) h2
          subst h1
          clear hI h2
          go_enter Tryd.func4, Tryd.ntmps4
          go_wp2_with fail
          rw [← HW.out]
          obtain ⟨⟨k0, k1, k2, k3, k4⟩, ⟨m0, m1, m2, m3, m4⟩⟩ := HG.out _ HX.out
          go_wp2_with (go_at_call 12; (first | (with_reducible refine (HM.out _).mono ?_) | (with_reducible refine (HN.out _).mono ?_)); rintro e w1 ⟨rfl, hb1⟩; replace HX := Lib.hid (HX.out.trans (hb1.mono HX.out.size)); obtain ⟨⟨k0, k1, k2, k3, k4⟩, ⟨m0, m1, m2, m3, m4⟩⟩ := HG.out _ HX.out; clear hb1)
          obtain ⟨V, hV⟩ : ∃ V : World, V = w1 := ⟨_, rfl⟩
          subst hV
          have F1 := Lib.hid fun x : Sub V.heap.size V => H1.out ⟨x.w, HX.out.trans (x.h.mono HX.out.size)⟩
          have F2 := Lib.hid fun x : Sub V.heap.size V => H2.out ⟨x.w, HX.out.trans (x.h.mono HX.out.size)⟩
          have g0 := fun x : Sub V.heap.size V => (HG.out x.w (HX.out.trans (x.h.mono HX.out.size))).1.1
          have g1 := fun x : Sub V.heap.size V => (HG.out x.w (HX.out.trans (x.h.mono HX.out.size))).1.2.1
          have g2 := fun x : Sub V.heap.size V => (HG.out x.w (HX.out.trans (x.h.mono HX.out.size))).1.2.2.1
          have g3 := fun x : Sub V.heap.size V => (HG.out x.w (HX.out.trans (x.h.mono HX.out.size))).1.2.2.2.1
          have g4 := fun x : Sub V.heap.size V => (HG.out x.w (HX.out.trans (x.h.mono HX.out.size))).1.2.2.2.2
          have q0 := fun x : Sub V.heap.size V => (HG.out x.w (HX.out.trans (x.h.mono HX.out.size))).2.1
          have q1 := fun x : Sub V.heap.size V => (HG.out x.w (HX.out.trans (x.h.mono HX.out.size))).2.2.1
          have q2 := fun x : Sub V.heap.size V => (HG.out x.w (HX.out.trans (x.h.mono HX.out.size))).2.2.2.1
          have q3 := fun x : Sub V.heap.size V => (HG.out x.w (HX.out.trans (x.h.mono HX.out.size))).2.2.2.2.1
          have q4 := fun x : Sub V.heap.size V => (HG.out x.w (HX.out.trans (x.h.mono HX.out.size))).2.2.2.2.2
          refine wp_region_below (by kernel_rfl) (by kernel_rfl) ?_
          repeat (go_big_quiet_step (((go_at_call 9; first | (with_reducible exact Sub.ofB _ (Nat.le_refl _) (F1.out _)) | (with_reducible exact Sub.ofB _ (Nat.le_refl _) (F2.out _))))))
          refine wpQuiet_nil ?_
          rintro wx ⟨⟨_, hbx⟩, rfl⟩
          replace HX := Lib.hid (HX.out.trans (hbx.mono HX.out.size))
          clear F1 F2 g0 g1 g2 g3 g4 q0 q1 q2 q3 q4 hbx
          obtain ⟨⟨k0, k1, k2, k3, k4⟩, ⟨m0, m1, m2, m3, m4⟩⟩ := HG.out _ HX.out
          go_wp2_with (go_at_call 11; (with_reducible refine (H3.out _ HX.out).mono ?_); rintro e w1 ⟨rfl, hb1⟩; replace HX := Lib.hid (HX.out.trans (hb1.mono HX.out.size)); clear hb1)
          go_ret
          exact ⟨rfl, HB1.out.trans (HX.out.mono (by omega))⟩
      · have hne := ne_list fun c => h1 (hI c).1
        have h1b : (t == t') = false := by rw [beq_eq_false_iff_ne]; exact h1
        clear hI
        go_enter Tryd.func4, Tryd.ntmps4
        go_wp2_with fail
        rw [← HW.out]
        obtain ⟨⟨k0, k1, k2, k3, k4⟩, ⟨m0, m1, m2, m3, m4⟩⟩ := HG.out _ HX.out
        go_wp2_with (go_at_call 12; (first | (with_reducible refine (HM.out _).mono ?_) | (with_reducible refine (HN.out _).mono ?_)); rintro e w1 ⟨rfl, hb1⟩; replace HX := Lib.hid (HX.out.trans (hb1.mono HX.out.size)); obtain ⟨⟨k0, k1, k2, k3, k4⟩, ⟨m0, m1, m2, m3, m4⟩⟩ := HG.out _ HX.out; clear hb1)
        obtain ⟨V, hV⟩ : ∃ V : World, V = w1 := ⟨_, rfl⟩
        subst hV
        have F1 := Lib.hid fun x : Sub V.heap.size V => H1.out ⟨x.w, HX.out.trans (x.h.mono HX.out.size)⟩
        have F2 := Lib.hid fun x : Sub V.heap.size V => H2.out ⟨x.w, HX.out.trans (x.h.mono HX.out.size)⟩
        have g0 := fun x : Sub V.heap.size V => (HG.out x.w (HX.out.trans (x.h.mono HX.out.size))).1.1
        have g1 := fun x : Sub V.heap.size V => (HG.out x.w (HX.out.trans (x.h.mono HX.out.size))).1.2.1
        have g2 := fun x : Sub V.heap.size V => (HG.out x.w (HX.out.trans (x.h.mono HX.out.size))).1.2.2.1
        have g3 := fun x : Sub V.heap.size V => (HG.out x.w (HX.out.trans (x.h.mono HX.out.size))).1.2.2.2.1
        have g4 := fun x : Sub V.heap.size V => (HG.out x.w (HX.out.trans (x.h.mono HX.out.size))).1.2.2.2.2
        have q0 := fun x : Sub V.heap.size V => (HG.out x.w (HX.out.trans (x.h.mono HX.out.size))).2.1
        have q1 := fun x : Sub V.heap.size V => (HG.out x.w (HX.out.trans (x.h.mono HX.out.size))).2.2.1
        have q2 := fun x : Sub V.heap.size V => (HG.out x.w (HX.out.trans (x.h.mono HX.out.size))).2.2.2.1
        have q3 := fun x : Sub V.heap.size V => (HG.out x.w (HX.out.trans (x.h.mono HX.out.size))).2.2.2.2.1
        have q4 := fun x : Sub V.heap.size V => (HG.out x.w (HX.out.trans (x.h.mono HX.out.size))).2.2.2.2.2
        refine wp_region_below (by kernel_rfl) (by kernel_rfl) ?_
        repeat (go_big_quiet_step (((go_at_call 9; first | (with_reducible exact Sub.ofB _ (Nat.le_refl _) (F1.out _)) | (with_reducible exact Sub.ofB _ (Nat.le_refl _) (F2.out _))))))
        refine wpQuiet_nil ?_
        rintro wx ⟨⟨_, hbx⟩, rfl⟩
        replace HX := Lib.hid (HX.out.trans (hbx.mono HX.out.size))
        clear F1 F2 g0 g1 g2 g3 g4 q0 q1 q2 q3 q4 hbx
        obtain ⟨⟨k0, k1, k2, k3, k4⟩, ⟨m0, m1, m2, m3, m4⟩⟩ := HG.out _ HX.out
        go_wp2_with (go_at_call 11; (with_reducible refine (H3.out _ HX.out).mono ?_); rintro e w1 ⟨rfl, hb1⟩; replace HX := Lib.hid (HX.out.trans (hb1.mono HX.out.size)); clear hb1)
        go_ret
        exact ⟨rfl, HB1.out.trans (HX.out.mono (by omega))⟩
end Go.Proofs.YtgmilhhifigkkaaDoor
