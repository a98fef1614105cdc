/- The laws SyndicateReturns, SyndicateKeeps: their walks. -/
import Derived.Test.YtkpmbkkhdhjbnaaSym
namespace Go.Lott.Syn
theorem TOk.tr {z : Nat → Nat → Int} {n i : Nat} {f t p : Int} (h : TOk z n f t p i) : trE z n f t p = 0 := by
  have hck := vld_ck h.v
  have hf : fnd z f n = i := fnd_at h.i1 h.zi (fun j hj => by rw [← h.zi]; exact h.v.dif j i hj h.i1)
  have hr : ¬ (t < 1 ∨ t = f ∨ p < 1 ∨ z i 1 < p) := fun c => by
    have := h.t1; have := h.tf; have := h.p1; have := h.p2; omega
  by_cases c : fnd z t n < 0
  · exact tr_fine2 hck hf hr c (fun d => h.lm c d.1 d.2)
  · obtain ⟨j, e, hj, hz⟩ := fnd_pos c
    exact tr_fine1 hck hf hr e (by have := h.ov j hj hz; omega)
end Go.Lott.Syn
namespace Go.Proofs.Ytkpmbkkhdhjbnaa
open Go.ChangeShapes Go.WideShapes Go.ChangeAt Go.RowKit Go.Lott
open Go.Lott.Syn Go.Lott.Spl
set_option maxHeartbeats 4000000 in
set_option maxRecDepth 100000 in
theorem syndicateReturns_walk (a : Option Addr) (n cap : Nat) (z : Nat → Nat → Int) (f t p : Int) (W : World) (hz : IsRows 2 W a n z ∧ n ≤ cap) (_ : (Lit.int .i64 f).wf = true) (_ : (Lit.int .i64 t).wf = true) (_ : (Lit.int .i64 p).wf = true) :
    Calls Try.prog 13 #[.slice a n cap, .agg #[.int .i64 f, .int .i64 t, .int .i64 p]] W (RetB (.bool true) W) := by
  obtain ⟨hr, hcap⟩ := hz
  have HR := Lib.hid hr
  have HBX := Lib.hid ((Below.refl W.heap.size W).alloc (Nat.le_refl _) (.cells #[.int .i64 f, .int .i64 t, .int .i64 p] 40))
  have hbox : ∀ i, (W.alloc (.cells #[.int .i64 f, .int .i64 t, .int .i64 p] 40)).cell? ⟨W.heap.size, i, none⟩ = (#[.int .i64 f, .int .i64 t, .int .i64 p] : Array Value)[i]? := fun i => (Cel.new W _ _).cell i
  have HBC := Lib.hid hbox
  clear hr hbox
  by_cases hl : 1000 < n
  · have hl' : (1000 : Int) < (n : Int) := by omega
    clear hl
    go_enter Try.func13, Try.ntmps13
    go_wp2_with (go_at_call 22; ((with_reducible refine (sawake_any _).mono ?_); rintro e w9 ⟨rfl, hb9⟩; have HB9 := Lib.hid ((HBX.out).trans (hb9.mono (HBX.out).size)); clear hb9))
    go_ret
    exact ⟨rfl, HB9.out⟩
  have hl' : (n : Int) ≤ 1000 := by omega
  have hn : n ≤ 1000000 := by omega
  clear hl
  by_cases hv : trE z n f t p ≠ 0
  · have H1 := Lib.hid (st_err hv (fun w hr => Transfer_any a n cap z f t p w hr hn hcap))
    have he1 : (trE z n f t p != 0) = true := by rw [bne_iff_ne]; exact hv
    generalize trE z n f t p = E at *
    clear hv
    go_enter Try.func13, Try.ntmps13
    go_wp2_with (first
      | (go_at_call 29; ((with_reducible refine (H1.out _ (HR.out.below HBX.out (Nat.le_refl _))).mono ?_); rintro e w1 ⟨rfl, hb1⟩; have HB1 := Lib.hid (HBX.out.trans (hb1.mono HBX.out.size)); clear hb1))
      | (go_at_call 22; ((with_reducible refine (sawake_any _).mono ?_); rintro e w9 ⟨rfl, hb9⟩; have HB9 := Lib.hid ((HB1.out).trans (hb9.mono (HB1.out).size)); clear hb9)))
    go_ret
    exact ⟨rfl, HB9.out⟩
  have hv := Classical.not_not.1 hv
  have H1 := Lib.hid (st_ok hv (fun w hr => Transfer_any a n cap z f t p w hr hn hcap))
  have HT := Lib.hid (tr_ok hv)
  clear hv
  obtain ⟨i', hbk⟩ := HT.out.back
  have hrt := HT.out.returns
  have HLN := Lib.hid HT.out.len
  have HVL := Lib.hid HT.out.v
  have n1 := HVL.out.n1
  have n2 := HVL.out.n2
  obtain ⟨b, o, rfl, hbb, _, hcell⟩ := HR.out.resolve_left (by omega)
  have HCL := Lib.hid hcell
  clear hcell
  have H2 := Lib.hid (fun (a1 : Option Addr) (c1 : Nat) (w : World) (hc : (trS z f t p n).length ≤ c1) (hr : IsRows 2 w a1 (trS z f t p n).length (zL (trS z f t p n))) => st_ok hbk.tr (fun w hr => Transfer_any a1 (trS z f t p n).length c1 (zL (trS z f t p n)) t f p w hr (by have := HLN.out; omega) hc) w hr)
  rw [hrt] at H2
  clear hbk hrt
  generalize trS z f t p n = M at *
  have hnd : ∀ k, k ≤ n → ((rowL z k).map Prod.fst).Nodup := fun k hk => by
    rw [rowL_fst]
    exact List.pairwise_map.2 (List.Pairwise.imp_of_mem (fun {a b} _ hb hab => HVL.out.dif a b hab (by have := List.mem_range.1 hb; omega)) List.pairwise_lt_range)
  have HND := Lib.hid hnd
  clear hnd
  go_enter Try.func13, Try.ntmps13
  go_wp2_with (first
    | (go_at_call 29; ((with_reducible refine (H1.out _ (HR.out.below HBX.out (Nat.le_refl _))).mono ?_); rintro e w1 ⟨hb1, a1, c1, rfl, r1, l1⟩; have HR1 := Lib.hid r1; have HL1 := Lib.hid l1; have HB1 := Lib.hid (HBX.out.trans (hb1.mono HBX.out.size)); have HBK := Lib.hid hb1; have k0 := (hb1.cell (p := ⟨W.heap.size, 0, none⟩) (by simp)).trans (HBC.out 0); have k1 := (hb1.cell (p := ⟨W.heap.size, 1, none⟩) (by simp)).trans (HBC.out 1); have k2 := (hb1.cell (p := ⟨W.heap.size, 2, none⟩) (by simp)).trans (HBC.out 2); clear r1 l1 hb1))
    | (go_at_call 29; ((with_reducible refine (H2.out _ _ _ HL1.out HR1.out).mono ?_); rintro e w2 ⟨hb2, a2, c2, rfl, r2, l2⟩; have HR2 := Lib.hid r2; have HB2 := Lib.hid (HB1.out.trans (hb2.mono HB1.out.size)); clear r2 l2 hb2)))
  have hsz2 := HB2.out.size
  go_loopw [9, 42] (fun vo vi wr => ∃ (k : Nat) (a3 : Option Addr) (c3 : Nat), vo = .slice a3 (srt (rowL z k)).length c3 ∧ vi = .int .i64 k ∧ k ≤ n ∧ IsRows 2 wr a3 (srt (rowL z k)).length (zL (srt (rowL z k))) ∧ Below w2.heap.size w2 wr) (fun _ vi _ => n - (intOf vi).toNat)
  case atStart => exact ⟨0, none, 0, rfl, rfl, by omega, .inl rfl, Below.refl _ _⟩
  case round =>
    obtain ⟨k, a3, c3, rfl, rfl, hk, hir, hbel⟩ := hrel
    have HIR := Lib.hid hir
    have hbs := hbel.size
    have HSL := Lib.hid (show (srt (rowL z k)).length ≤ 64 by rw [(srt_perm (HND.out k hk)).length_eq, rowL_length]; omega)
    clear hir
    by_cases hlt : k < n
    · have c0 : wr.cell? ⟨b, o + k * 2, none⟩ = some (.int .i64 (z k 0)) := (hbel.cell (p := ⟨b, _, none⟩) (by show b < w2.heap.size; omega)).trans ((HB2.out.cell (p := ⟨b, _, none⟩) hbb).trans (HCL.out k 0 hlt (by omega)))
      have c1 : wr.cell? ⟨b, o + k * 2 + 1, none⟩ = some (.int .i64 (z k 1)) := (hbel.cell (p := ⟨b, _, none⟩) (by show b < w2.heap.size; omega)).trans ((HB2.out.cell (p := ⟨b, _, none⟩) hbb).trans (HCL.out k 1 hlt (by omega)))
      have HTR := Lib.hid (show srt (rowL z (k + 1)) = insL (z k 0, z k 1) (srt (rowL z k)) by rw [rowL_succ, srt_snoc])
      have HIL := Lib.hid (show (srt (rowL z (k + 1))).length = (srt (rowL z k)).length + 1 by rw [HTR.out, (insL_perm _ _).length_eq]; rfl)
      have HINS := Lib.hid (fun w h => rInsert_any a3 c3 (srt (rowL z k)) (z k 0) (z k 1) w h (by have := HSL.out; omega))
      have j1 : (0 : Int) ≤ (k : Int) := by omega
      have j2 : (k : Int) < (n : Int) := by omega
      go_wp2_with (go_at_call 34; ((with_reducible refine (HINS.out _ HIR.out).mono ?_); rintro e w3 ⟨hb3, a4, c4, rfl, r3, l3⟩; have HR3 := Lib.hid r3; have HB3 := Lib.hid hb3; clear hb3 r3 l3))
      go_roundw
      case rel => exact ⟨k + 1, a4, c4, by rw [HIL.out], by go_num, hlt, by rw [HIL.out, HTR.out]; exact HR3.out, hbel.trans (HB3.out.mono hbs)⟩
      case measure => simp [intOf]; omega
    · obtain rfl : k = n := by omega
      have hbt := HB2.out.trans (hbel.mono hsz2)
      have HBT := Lib.hid hbt
      generalize srt (rowL z k) = B at *
      go_wp2_with (first
        | (go_at_call 31; ((with_reducible refine (shares_any _ _ B.length _ _ (zL B) (zL B) _ (HR2.out.below hbel (Nat.le_refl _)) HIR.out (fun _ _ => ⟨rfl, rfl⟩)).mono ?_); rintro e w5 ⟨rfl, hb5⟩; have HB5 := Lib.hid (hbt.trans (hb5.mono hbt.size)); clear hb5))
        | (go_at_call 22; ((with_reducible refine (sawake_any _).mono ?_); rintro e w9 ⟨rfl, hb9⟩; have HB9 := Lib.hid ((HB5.out).trans (hb9.mono (HB5.out).size)); clear hb9)))
      go_ret
      exact ⟨rfl, HB9.out⟩
theorem take_sum {M : List Sh} {k : Nat} (hk : k < M.length) : sumL (M.take (k + 1)) = sumL (M.take k) + zL M k 1 := by
  rw [take_snoc hk, sumL_append]; show _ + (zL M k 1 + 0) = _; omega
theorem sum_bd : ∀ (M : List Sh), (∀ x ∈ M, 0 ≤ x.2 ∧ x.2 ≤ 1000000) → 0 ≤ sumL M ∧ sumL M ≤ 1000000 * (M.length : Int)
  | [], _ => by simp [sumL]
  | x :: M, h => by
    have h1 := sum_bd M (fun y hy => h y (List.mem_cons_of_mem _ hy))
    have h2 := h x (List.mem_cons_self ..)
    rw [sumL_cons, List.length_cons]; push_cast; omega
set_option maxHeartbeats 8000000 in
set_option maxRecDepth 100000 in
theorem syndicateKeeps_walk (a : Option Addr) (n cap : Nat) (z : Nat → Nat → Int) (f t p : Int) (W : World) (hz : IsRows 2 W a n z ∧ n ≤ cap) (_ : (Lit.int .i64 f).wf = true) (_ : (Lit.int .i64 t).wf = true) (_ : (Lit.int .i64 p).wf = true) :
    Calls Try.prog 12 #[.slice a n cap, .agg #[.int .i64 f, .int .i64 t, .int .i64 p]] W (RetB (.bool true) W) := by
  obtain ⟨hr, hcap⟩ := hz
  have HR := Lib.hid hr
  have HBX := Lib.hid ((Below.refl W.heap.size W).alloc (Nat.le_refl _) (.cells #[.int .i64 f, .int .i64 t, .int .i64 p] 40))
  have hbox : ∀ i, (W.alloc (.cells #[.int .i64 f, .int .i64 t, .int .i64 p] 40)).cell? ⟨W.heap.size, i, none⟩ = (#[.int .i64 f, .int .i64 t, .int .i64 p] : Array Value)[i]? := fun i => (Cel.new W _ _).cell i
  have HBC := Lib.hid hbox
  clear hr hbox
  by_cases hl : 1000 < n
  · have hl' : (1000 : Int) < (n : Int) := by omega
    clear hl
    go_enter Try.func12, Try.ntmps12
    go_wp2_with (go_at_call 22; ((with_reducible refine (sawake_any _).mono ?_); rintro e w9 ⟨rfl, hb9⟩; have HB9 := Lib.hid ((HBX.out).trans (hb9.mono (HBX.out).size)); clear hb9))
    go_ret
    exact ⟨rfl, HB9.out⟩
  have hl' : (n : Int) ≤ 1000 := by omega
  have hn : n ≤ 1000000 := by omega
  clear hl
  by_cases hv : trE z n f t p ≠ 0
  · have H1 := Lib.hid (st_err hv (fun w hr => Transfer_any a n cap z f t p w hr hn hcap))
    have he1 : (trE z n f t p != 0) = true := by rw [bne_iff_ne]; exact hv
    generalize trE z n f t p = E at *
    clear hv
    go_enter Try.func12, Try.ntmps12
    go_wp2_with (first
      | (go_at_call 29; ((with_reducible refine (H1.out _ (HR.out.below HBX.out (Nat.le_refl _))).mono ?_); rintro e w1 ⟨rfl, hb1⟩; have HB1 := Lib.hid (HBX.out.trans (hb1.mono HBX.out.size)); clear hb1))
      | (go_at_call 22; ((with_reducible refine (sawake_any _).mono ?_); rintro e w9 ⟨rfl, hb9⟩; have HB9 := Lib.hid ((HB1.out).trans (hb9.mono (HB1.out).size)); clear hb9)))
    go_ret
    exact ⟨rfl, HB9.out⟩
  have hv := Classical.not_not.1 hv
  have H1 := Lib.hid (st_ok hv (fun w hr => Transfer_any a n cap z f t p w hr hn hcap))
  have HT := Lib.hid (tr_ok hv)
  clear hv
  have HVL := Lib.hid HT.out.v
  have n1 := HVL.out.n1
  have n2 := HVL.out.n2
  obtain ⟨b, o, rfl, hbb, _, hcell⟩ := HR.out.resolve_left (by omega)
  have HCL := Lib.hid hcell
  have HMV := Lib.hid HT.out.vld
  have HLN := Lib.hid HT.out.len
  have HSH := Lib.hid (fun x hx => HT.out.share (x := x) hx)
  have HASC := Lib.hid HT.out.asc
  have HSUM := Lib.hid HT.out.sum
  have p1 := HT.out.p1
  have p2 : p ≤ 1000000 := by have h1 := HT.out.p2; have h2 := (HVL.out.rng _ HT.out.i1).2.2; omega
  have tf1 : (f == t) = false := by rw [beq_eq_false_iff_ne]; exact fun e => HT.out.tf e.symm
  have HTF := Lib.hid HT.out.tf
  clear hcell HT
  generalize trS z f t p n = M at *
  have HCK := Lib.hid (fun a c w hr hc => sCheck_any a M.length c (zL M) w hr (by have := HLN.out; omega) hc)
  rw [vld_ck HMV.out] at HCK
  have ml := HLN.out
  go_enter Try.func12, Try.ntmps12
  go_wp2_with (first
    | (go_at_call 29; ((with_reducible refine (H1.out _ (HR.out.below HBX.out (Nat.le_refl _))).mono ?_); rintro e w1 ⟨hb1, a1, c1, rfl, r1, l1⟩; have HR1 := Lib.hid r1; have HL1 := Lib.hid l1; have HB1 := Lib.hid (HBX.out.trans (hb1.mono HBX.out.size)); have HBK := Lib.hid hb1; have k0 := (hb1.cell (p := ⟨W.heap.size, 0, none⟩) (by simp)).trans (HBC.out 0); have k1 := (hb1.cell (p := ⟨W.heap.size, 1, none⟩) (by simp)).trans (HBC.out 1); have k2 := (hb1.cell (p := ⟨W.heap.size, 2, none⟩) (by simp)).trans (HBC.out 2); clear r1 l1 hb1))
    | (go_at_call 26; ((with_reducible refine (HCK.out _ _ _ HR1.out HL1.out).mono ?_); rintro e w2 ⟨rfl, hb2⟩; have HQ2 := Lib.hid hb2; have l0 := (hb2.cell (p := ⟨W.heap.size, 0, none⟩) (by have := HBK.out.size; simp at this; show W.heap.size < w1.heap.size; omega)).trans k0; have l1 := (hb2.cell (p := ⟨W.heap.size, 1, none⟩) (by have := HBK.out.size; simp at this; show W.heap.size < w1.heap.size; omega)).trans k1; have l2 := (hb2.cell (p := ⟨W.heap.size, 2, none⟩) (by have := HBK.out.size; simp at this; show W.heap.size < w1.heap.size; omega)).trans k2; clear hb2)))
  have hsz1 := HB1.out.size
  have hszx : W.heap.size < w1.heap.size := by have := HBK.out.size; simp at this; omega
  have HK0 := Lib.hid k0
  have HK1 := Lib.hid k1
  have HK2 := Lib.hid k2
  clear k0 k1 k2 l0 l1 l2
  go_loopw [8, 43] (fun va vi wr => ∃ k : Nat, k ≤ M.length ∧ vi = .int .i64 k ∧ va = .int .i64 (sumL (M.take k)) ∧ Below w1.heap.size w1 wr) (fun _ vi _ => M.length - (intOf vi).toNat)
  case atStart => exact ⟨0, by omega, rfl, rfl, HQ2.out⟩
  case round =>
    obtain ⟨k, hk, rfl, rfl, hbel⟩ := hrel
    have hbs := hbel.size
    by_cases hlt : k < M.length
    · obtain ⟨bm, om, rfl, hbm, _, hcm⟩ := HR1.out.resolve_left (by omega)
      have c0 : wr.cell? ⟨bm, om + k * 2, none⟩ = some (.int .i64 (zL M k 0)) := (hbel.cell (p := ⟨bm, _, none⟩) hbm).trans (hcm k 0 hlt (by omega))
      have c1 : wr.cell? ⟨bm, om + k * 2 + 1, none⟩ = some (.int .i64 (zL M k 1)) := (hbel.cell (p := ⟨bm, _, none⟩) hbm).trans (hcm k 1 hlt (by omega))
      have y0 := (hbel.cell (p := ⟨W.heap.size, 0, none⟩) hszx).trans HK0.out
      have y1 := (hbel.cell (p := ⟨W.heap.size, 1, none⟩) hszx).trans HK1.out
      have y2 := (hbel.cell (p := ⟨W.heap.size, 2, none⟩) hszx).trans HK2.out
      have s0 : ∀ x : Sub wr.heap.size wr, x.w.cell? ⟨bm, om + k * 2, none⟩ = some (.int .i64 (zL M k 0)) := Sub.cell c0 (by show bm < _; omega)
      obtain ⟨⟨u1, u2, u3⟩, hs⟩ := HSH.out M[k] (List.getElem_mem hlt)
      rw [← zL_0 hlt, ← zL_1 hlt] at hs
      rw [← zL_1 hlt] at u2 u3
      rw [← zL_0 hlt] at u1
      have HTS := Lib.hid (take_sum hlt)
      obtain ⟨b0, b1⟩ := sum_bd (M.take k) (fun x hx => by have := (HSH.out x (List.mem_of_mem_take hx)).1; omega)
      have b2 : ((M.take k).length : Int) ≤ 64 := by rw [List.length_take]; omega
      have i1 : (0 : Int) ≤ (k : Int) := by omega
      have i2 : (k : Int) < (M.length : Int) := by omega
      rcases Nat.eq_zero_or_pos k with hk0 | hk0
      · have g0 : decide ((0 : Int) < (k : Int)) = false := decide_eq_false (by omega)
        have g0' : decide (0 < k) = false := decide_eq_false (by omega)
        clear hcm hk0
        go_wp2
        refine wp_region_below (by kernel_rfl) (by kernel_rfl) ?_
        repeat (go_big_quiet_step (fail))
        refine wpQuiet_nil ?_
        rintro w2 ⟨⟨_, hb2⟩, rfl⟩
        replace hbel := hbel.trans (hb2.mono hbs)
        have d0 := (hb2.cell (p := ⟨bm, _, none⟩) (by show bm < wr.heap.size; omega)).trans c0
        have d1 := (hb2.cell (p := ⟨bm, _, none⟩) (by show bm < wr.heap.size; omega)).trans c1
        have x0 := (hb2.cell (p := ⟨W.heap.size, 0, none⟩) (by show W.heap.size < wr.heap.size; omega)).trans y0
        have x1 := (hb2.cell (p := ⟨W.heap.size, 1, none⟩) (by show W.heap.size < wr.heap.size; omega)).trans y1
        have x2 := (hb2.cell (p := ⟨W.heap.size, 2, none⟩) (by show W.heap.size < wr.heap.size; omega)).trans y2
        clear s0 c0 c1 y0 y1 y2 hb2
        by_cases hj : fnd z (zL M k 0) n < 0
        · rw [if_neg (show ¬ 0 ≤ fnd z (zL M k 0) n by omega)] at hs
          have hjn : fnd z (zL M k 0) n = -1 := by rcases fnd_spec z (zL M k 0) n with ⟨e, _⟩ | ⟨i, e, _⟩ <;> omega
          have hf := fun w hr => rFind_any (some ⟨b, o, none⟩) n cap z (zL M k 0) w hr hn
          rw [hjn] at hf
          have HF := Lib.hid hf
          clear hf hj hjn
          by_cases hxf : zL M k 0 = f
          · have m1 : (zL M k 0 == f) = true := by rw [beq_iff_eq]; exact hxf
            rw [if_pos hxf] at hs
            clear hxf
            have hxe : (zL M k 1 != -p) = false := by rw [bne_eq_false_iff_eq]; omega
            clear hs
            go_wp2_with (go_at_call 33; ((with_reducible refine (HF.out _ (HR.out.below (HB1.out.trans (hbel.mono hsz1)) (Nat.le_refl _))).mono ?_); rintro e w' ⟨rfl, rfl⟩))
            go_roundw
            case rel => exact ⟨k + 1, hlt, by go_num, by rw [HTS.out], hbel⟩
            case measure => simp [intOf]; omega
          · have m1 : (zL M k 0 == f) = false := by rw [beq_eq_false_iff_ne]; exact hxf
            rw [if_neg hxf] at hs
            by_cases hxt : zL M k 0 = t
            · have m2 : (zL M k 0 == t) = true := by rw [beq_iff_eq]; exact hxt
              rw [if_pos hxt] at hs
              clear hxf hxt
              have hxe : (zL M k 1 != p) = false := by rw [bne_eq_false_iff_eq]; omega
              clear hs
              go_wp2_with (go_at_call 33; ((with_reducible refine (HF.out _ (HR.out.below (HB1.out.trans (hbel.mono hsz1)) (Nat.le_refl _))).mono ?_); rintro e w' ⟨rfl, rfl⟩))
              go_roundw
              case rel => exact ⟨k + 1, hlt, by go_num, by rw [HTS.out], hbel⟩
              case measure => simp [intOf]; omega
            · have m2 : (zL M k 0 == t) = false := by rw [beq_eq_false_iff_ne]; exact hxt
              rw [if_neg hxt] at hs
              clear hxf hxt
              have hxe : (zL M k 1 != 0) = false := by rw [bne_eq_false_iff_eq]; omega
              clear hs
              go_wp2_with (go_at_call 33; ((with_reducible refine (HF.out _ (HR.out.below (HB1.out.trans (hbel.mono hsz1)) (Nat.le_refl _))).mono ?_); rintro e w' ⟨rfl, rfl⟩))
              go_roundw
              case rel => exact ⟨k + 1, hlt, by go_num, by rw [HTS.out], hbel⟩
              case measure => simp [intOf]; omega
        · obtain ⟨j, hj0, hjn, _⟩ := fnd_pos hj
          rw [hj0, if_pos (by omega), Int.toNat_natCast] at hs
          have hf := fun w hr => rFind_any (some ⟨b, o, none⟩) n cap z (zL M k 0) w hr hn
          rw [hj0] at hf
          have HF := Lib.hid hf
          have hrj := HVL.out.rng j hjn
          obtain ⟨_, g1, g2⟩ := hrj
          have cj : w2.cell? ⟨b, o + j * 2 + 1, none⟩ = some (.int .i64 (z j 1)) := (hbel.cell (p := ⟨b, _, none⟩) (by show b < w1.heap.size; omega)).trans ((HB1.out.cell (p := ⟨b, _, none⟩) hbb).trans (HCL.out j 1 hjn (by omega)))
          have j1 : (0 : Int) ≤ (j : Int) := by omega
          have j2 : (j : Int) < (n : Int) := by omega
          clear hf hj hj0
          by_cases hxf : zL M k 0 = f
          · have m1 : (zL M k 0 == f) = true := by rw [beq_iff_eq]; exact hxf
            rw [if_pos hxf] at hs
            clear hxf
            have hxe : (zL M k 1 != z j 1 - p) = false := by rw [bne_eq_false_iff_eq]; omega
            clear hs
            go_wp2_with (go_at_call 33; ((with_reducible refine (HF.out _ (HR.out.below (HB1.out.trans (hbel.mono hsz1)) (Nat.le_refl _))).mono ?_); rintro e w' ⟨rfl, rfl⟩))
            go_roundw
            case rel => exact ⟨k + 1, hlt, by go_num, by rw [HTS.out], hbel⟩
            case measure => simp [intOf]; omega
          · have m1 : (zL M k 0 == f) = false := by rw [beq_eq_false_iff_ne]; exact hxf
            rw [if_neg hxf] at hs
            by_cases hxt : zL M k 0 = t
            · have m2 : (zL M k 0 == t) = true := by rw [beq_iff_eq]; exact hxt
              rw [if_pos hxt] at hs
              clear hxf hxt
              have hxe : (zL M k 1 != z j 1 + p) = false := by rw [bne_eq_false_iff_eq]; omega
              clear hs
              go_wp2_with (go_at_call 33; ((with_reducible refine (HF.out _ (HR.out.below (HB1.out.trans (hbel.mono hsz1)) (Nat.le_refl _))).mono ?_); rintro e w' ⟨rfl, rfl⟩))
              go_roundw
              case rel => exact ⟨k + 1, hlt, by go_num, by rw [HTS.out], hbel⟩
              case measure => simp [intOf]; omega
            · have m2 : (zL M k 0 == t) = false := by rw [beq_eq_false_iff_ne]; exact hxt
              rw [if_neg hxt] at hs
              clear hxf hxt
              have hxe : (zL M k 1 != z j 1) = false := by rw [bne_eq_false_iff_eq]; omega
              clear hs
              go_wp2_with (go_at_call 33; ((with_reducible refine (HF.out _ (HR.out.below (HB1.out.trans (hbel.mono hsz1)) (Nat.le_refl _))).mono ?_); rintro e w' ⟨rfl, rfl⟩))
              go_roundw
              case rel => exact ⟨k + 1, hlt, by go_num, by rw [HTS.out], hbel⟩
              case measure => simp [intOf]; omega
      · obtain ⟨k', hk'⟩ : ∃ k', k = k' + 1 := ⟨k - 1, by omega⟩
        have g0 : decide ((0 : Int) < (k : Int)) = true := decide_eq_true (by omega)
        have g0' : decide (0 < k) = true := decide_eq_true (by omega)
        have g1 : (k : Int) - 1 = (k' : Int) := by omega
        have g2 : (0 : Int) ≤ (k' : Int) := by omega
        have g3 : (k' : Int) < (M.length : Int) := by omega
        have g4 : k' < M.length := by omega
        have cp : wr.cell? ⟨bm, om + k' * 2, none⟩ = some (.int .i64 (zL M k' 0)) := (hbel.cell (p := ⟨bm, _, none⟩) hbm).trans (hcm k' 0 g4 (by omega))
        have s4 : ∀ x : Sub wr.heap.size wr, x.w.cell? ⟨bm, om + k' * 2, none⟩ = some (.int .i64 (zL M k' 0)) := Sub.cell cp (by show bm < _; omega)
        have hasc := asc_lt HASC.out (j := k') (k := k) (by omega) hlt
        rw [← zL_0 g4, ← zL_0 hlt] at hasc
        have g5 : decide (zL M k 0 ≤ zL M k' 0) = false := decide_eq_false (by omega)
        clear hcm hk0 hk' cp hasc
        go_wp2
        refine wp_region_below (by kernel_rfl) (by kernel_rfl) ?_
        repeat (go_big_quiet_step (fail))
        refine wpQuiet_nil ?_
        rintro w2 ⟨⟨_, hb2⟩, rfl⟩
        replace hbel := hbel.trans (hb2.mono hbs)
        have d0 := (hb2.cell (p := ⟨bm, _, none⟩) (by show bm < wr.heap.size; omega)).trans c0
        have d1 := (hb2.cell (p := ⟨bm, _, none⟩) (by show bm < wr.heap.size; omega)).trans c1
        have x0 := (hb2.cell (p := ⟨W.heap.size, 0, none⟩) (by show W.heap.size < wr.heap.size; omega)).trans y0
        have x1 := (hb2.cell (p := ⟨W.heap.size, 1, none⟩) (by show W.heap.size < wr.heap.size; omega)).trans y1
        have x2 := (hb2.cell (p := ⟨W.heap.size, 2, none⟩) (by show W.heap.size < wr.heap.size; omega)).trans y2
        clear s0 c0 c1 y0 y1 y2 hb2
        by_cases hj : fnd z (zL M k 0) n < 0
        · rw [if_neg (show ¬ 0 ≤ fnd z (zL M k 0) n by omega)] at hs
          have hjn : fnd z (zL M k 0) n = -1 := by rcases fnd_spec z (zL M k 0) n with ⟨e, _⟩ | ⟨i, e, _⟩ <;> omega
          have hf := fun w hr => rFind_any (some ⟨b, o, none⟩) n cap z (zL M k 0) w hr hn
          rw [hjn] at hf
          have HF := Lib.hid hf
          clear hf hj hjn
          by_cases hxf : zL M k 0 = f
          · have m1 : (zL M k 0 == f) = true := by rw [beq_iff_eq]; exact hxf
            rw [if_pos hxf] at hs
            clear hxf
            have hxe : (zL M k 1 != -p) = false := by rw [bne_eq_false_iff_eq]; omega
            clear hs
            go_wp2_with (go_at_call 33; ((with_reducible refine (HF.out _ (HR.out.below (HB1.out.trans (hbel.mono hsz1)) (Nat.le_refl _))).mono ?_); rintro e w' ⟨rfl, rfl⟩))
            go_roundw
            case rel => exact ⟨k + 1, hlt, by go_num, by rw [HTS.out], hbel⟩
            case measure => simp [intOf]; omega
          · have m1 : (zL M k 0 == f) = false := by rw [beq_eq_false_iff_ne]; exact hxf
            rw [if_neg hxf] at hs
            by_cases hxt : zL M k 0 = t
            · have m2 : (zL M k 0 == t) = true := by rw [beq_iff_eq]; exact hxt
              rw [if_pos hxt] at hs
              clear hxf hxt
              have hxe : (zL M k 1 != p) = false := by rw [bne_eq_false_iff_eq]; omega
              clear hs
              go_wp2_with (go_at_call 33; ((with_reducible refine (HF.out _ (HR.out.below (HB1.out.trans (hbel.mono hsz1)) (Nat.le_refl _))).mono ?_); rintro e w' ⟨rfl, rfl⟩))
              go_roundw
              case rel => exact ⟨k + 1, hlt, by go_num, by rw [HTS.out], hbel⟩
              case measure => simp [intOf]; omega
            · have m2 : (zL M k 0 == t) = false := by rw [beq_eq_false_iff_ne]; exact hxt
              rw [if_neg hxt] at hs
              clear hxf hxt
              have hxe : (zL M k 1 != 0) = false := by rw [bne_eq_false_iff_eq]; omega
              clear hs
              go_wp2_with (go_at_call 33; ((with_reducible refine (HF.out _ (HR.out.below (HB1.out.trans (hbel.mono hsz1)) (Nat.le_refl _))).mono ?_); rintro e w' ⟨rfl, rfl⟩))
              go_roundw
              case rel => exact ⟨k + 1, hlt, by go_num, by rw [HTS.out], hbel⟩
              case measure => simp [intOf]; omega
        · obtain ⟨j, hj0, hjn, _⟩ := fnd_pos hj
          rw [hj0, if_pos (by omega), Int.toNat_natCast] at hs
          have hf := fun w hr => rFind_any (some ⟨b, o, none⟩) n cap z (zL M k 0) w hr hn
          rw [hj0] at hf
          have HF := Lib.hid hf
          have hrj := HVL.out.rng j hjn
          obtain ⟨_, g1, g2⟩ := hrj
          have cj : w2.cell? ⟨b, o + j * 2 + 1, none⟩ = some (.int .i64 (z j 1)) := (hbel.cell (p := ⟨b, _, none⟩) (by show b < w1.heap.size; omega)).trans ((HB1.out.cell (p := ⟨b, _, none⟩) hbb).trans (HCL.out j 1 hjn (by omega)))
          have j1 : (0 : Int) ≤ (j : Int) := by omega
          have j2 : (j : Int) < (n : Int) := by omega
          clear hf hj hj0
          by_cases hxf : zL M k 0 = f
          · have m1 : (zL M k 0 == f) = true := by rw [beq_iff_eq]; exact hxf
            rw [if_pos hxf] at hs
            clear hxf
            have hxe : (zL M k 1 != z j 1 - p) = false := by rw [bne_eq_false_iff_eq]; omega
            clear hs
            go_wp2_with (go_at_call 33; ((with_reducible refine (HF.out _ (HR.out.below (HB1.out.trans (hbel.mono hsz1)) (Nat.le_refl _))).mono ?_); rintro e w' ⟨rfl, rfl⟩))
            go_roundw
            case rel => exact ⟨k + 1, hlt, by go_num, by rw [HTS.out], hbel⟩
            case measure => simp [intOf]; omega
          · have m1 : (zL M k 0 == f) = false := by rw [beq_eq_false_iff_ne]; exact hxf
            rw [if_neg hxf] at hs
            by_cases hxt : zL M k 0 = t
            · have m2 : (zL M k 0 == t) = true := by rw [beq_iff_eq]; exact hxt
              rw [if_pos hxt] at hs
              clear hxf hxt
              have hxe : (zL M k 1 != z j 1 + p) = false := by rw [bne_eq_false_iff_eq]; omega
              clear hs
              go_wp2_with (go_at_call 33; ((with_reducible refine (HF.out _ (HR.out.below (HB1.out.trans (hbel.mono hsz1)) (Nat.le_refl _))).mono ?_); rintro e w' ⟨rfl, rfl⟩))
              go_roundw
              case rel => exact ⟨k + 1, hlt, by go_num, by rw [HTS.out], hbel⟩
              case measure => simp [intOf]; omega
            · have m2 : (zL M k 0 == t) = false := by rw [beq_eq_false_iff_ne]; exact hxt
              rw [if_neg hxt] at hs
              clear hxf hxt
              have hxe : (zL M k 1 != z j 1) = false := by rw [bne_eq_false_iff_eq]; omega
              clear hs
              go_wp2_with (go_at_call 33; ((with_reducible refine (HF.out _ (HR.out.below (HB1.out.trans (hbel.mono hsz1)) (Nat.le_refl _))).mono ?_); rintro e w' ⟨rfl, rfl⟩))
              go_roundw
              case rel => exact ⟨k + 1, hlt, by go_num, by rw [HTS.out], hbel⟩
              case measure => simp [intOf]; omega
    · obtain rfl : k = M.length := by omega
      have HTL := Lib.hid (show sumL (M.take M.length) = sumL (rowL z n) by rw [List.take_length, HSUM.out])
      go_wp2
      go_loop [7, 114] (fun vb vi => ∃ j : Nat, j ≤ n ∧ vi = .int .i64 j ∧ vb = .int .i64 (sumL (rowL z j))) (fun _ vi => n - (intOf vi).toNat)
      case atStart => exact ⟨0, by omega, rfl, rfl⟩
      case round =>
        obtain ⟨j, hj, rfl, rfl⟩ := hrel
        by_cases hjn : j < n
        · have cz : wr.cell? ⟨b, o + j * 2 + 1, none⟩ = some (.int .i64 (z j 1)) := (hbel.cell (p := ⟨b, _, none⟩) (by show b < w1.heap.size; omega)).trans ((HB1.out.cell (p := ⟨b, _, none⟩) hbb).trans (HCL.out j 1 hjn (by omega)))
          obtain ⟨_, v1, v2⟩ := HVL.out.rng j hjn
          obtain ⟨b0, b1⟩ := sum_bd (rowL z j) (fun x hx => by obtain ⟨i, hi, rfl⟩ := rowL_mem.1 hx; have := HVL.out.rng i (by omega); show 0 ≤ z i 1 ∧ z i 1 ≤ _; omega)
          rw [rowL_length] at b1
          have HN := Lib.hid (sumL_take z j)
          have j1 : (0 : Int) ≤ (j : Int) := by omega
          have j2 : (j : Int) < (n : Int) := by omega
          go_wp2
          go_round
          case rel => exact ⟨j + 1, hjn, by go_num, by rw [HN.out]⟩
          case measure => simp [intOf]; omega
        · obtain rfl : j = n := by omega
          have he : (sumL (rowL z j) == sumL M) = true := by rw [beq_iff_eq]; exact HSUM.out.symm
          have hbt := HB1.out.trans (hbel.mono hsz1)
          go_wp2_with (go_at_call 22; ((with_reducible refine (sawake_any _).mono ?_); rintro e w9 ⟨rfl, hb9⟩; have HB9 := Lib.hid ((hbt).trans (hb9.mono (hbt).size)); clear hb9))
          go_ret
          exact ⟨rfl, HB9.out⟩
end Go.Proofs.Ytkpmbkkhdhjbnaa
