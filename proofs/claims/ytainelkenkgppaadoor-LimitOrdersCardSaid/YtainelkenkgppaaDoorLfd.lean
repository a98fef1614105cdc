/- The law LimitOrders: its walk. -/
import Derived.Test.YtainelkenkgppaaDoorLfc
import Derived.Test.YtainelkenkgppaaDoorPlo
namespace Go.Proofs.YtainelkenkgppaaDoor
open Go.ChangeShapes Go.WideShapes Go.ChangeAt Go.RowKit Go.Lott
open Go.Sort Go.Lott.Stb Go.Lott.Srt Go.Lott.Lm
/-- The last elements of n, turned: those from r on. -/
def dn2 (z : Nat → Nat → Int) (n r : Nat) : List (Int × Int) := (List.range (n - r)).map fun i => (rvz z n i 0, rvz z n i 1)
def dn4 (z : Nat → Nat → Int) (n r : Nat) : List Cg := row4 (rvz z n) (n - r)
theorem dn2_step {z : Nat → Nat → Int} {n q : Nat} (h : q < n) : flP (dn2 z n q) = flP (dn2 z n (q + 1)) ++ [.int .i64 (z q 0), .int .i64 (z q 1)] := by
  unfold dn2
  rw [show n - q = n - (q + 1) + 1 by omega, List.range_succ, List.map_append, List.map_singleton, flP_snoc]
  unfold rvz
  rw [show n - 1 - (n - (q + 1)) = q by omega]
theorem dn4_step {z : Nat → Nat → Int} {n q : Nat} (h : q < n) : flC (dn4 z n q) = flC (dn4 z n (q + 1)) ++ [.int .i64 (z q 0), .int .i64 (z q 1), .int .i64 (z q 2), .int .i64 (z q 3)] := by
  unfold dn4
  rw [show n - q = n - (q + 1) + 1 by omega, row4_succ, flC_snoc]
  unfold rw4 rvz
  rw [show n - 1 - (n - (q + 1)) = q by omega]
  rfl
theorem dn2_rows {w : World} {base : Nat} {v : Value} {z : Nat → Nat → Int} {n : Nat} (h : w.ownsRow base 26 2 v (n - 0) (flP (dn2 z n 0))) : ∃ a c, v = .slice a n c ∧ IsRows 2 w a n (rvz z n) := by
  refine rows_of_owns h fun i j hi hj => ?_
  have hi' : i < n := by omega
  rw [flP_get _ _ _ (by simp [dn2]; omega) hj]
  unfold zP dn2
  simp only [List.getElem?_map]
  rw [List.getElem?_range (by omega)]
  rcases (show j = 0 ∨ j = 1 by omega) with rfl | rfl <;> rfl
theorem dn4_rows {w : World} {base : Nat} {v : Value} {z : Nat → Nat → Int} {n : Nat} (h : w.ownsRow base 30 4 v (n - 0) (flC (dn4 z n 0))) : ∃ a c, v = .slice a n c ∧ IsRows 4 w a n (rvz z n) := by
  refine rows_of_owns h fun i j hi hj => ?_
  have hi' : i < n := by omega
  rw [flC_get _ _ _ (by simp [dn4, row4_length]; omega) hj]
  unfold zC dn4 row4
  simp only [List.getElem?_map]
  rw [List.getElem?_range (by omega)]
  rcases (show j = 0 ∨ j = 1 ∨ j = 2 ∨ j = 3 by omega) with rfl | rfl | rfl | rfl <;> rfl
theorem infoS : (Tryd.prog.info? 26).map (fun i => (i.zero, i.size, i.bytes)) = some (some (.agg #[.int .i64 0, .int .i64 0]), 2, 16) := by kernel_rfl
/-- What the two sides answer. -/
theorem ord_law {z2 z4 : Nat → Nat → Int} {n2 n4 : Nat} (t : Int) (hd : ∀ i k, k < i → i < n4 → z4 k 0 ≠ z4 i 0) :
    lfN (rvz z2 n2) n2 (rvz z4 n4) n4 t = lfN z2 n2 z4 n4 t ∧ (∀ k, sp3 (rvz z2 n2) n2 t k = sp3 z2 n2 t k) ∧ (∀ k, efN (rvz z4 n4) n4 t k = efN z4 n4 t k) :=
  ⟨lfN_rev hd, fun _ => spN_rev _ _ _ _, fun _ => efN_rev hd⟩
set_option maxHeartbeats 8000000 in
set_option maxRecDepth 100000 in
theorem limitOrders_walk (a2 : Option Addr) (n2 c2 : Nat) (z2 : Nat → Nat → Int) (a4 : Option Addr) (n4 c4 : Nat) (z4 : Nat → Nat → Int) (t : Int) (W : World) (h2 : IsRows 2 W a2 n2 z2 ∧ n2 ≤ c2) (h4 : IsRows 4 W a4 n4 z4 ∧ n4 ≤ c4) (_ : (Lit.int .i64 t).wf = true) (ht : Tab W) :
    Calls Tryd.prog 3 #[.slice a2 n2 c2, .slice a4 n4 c4, .int .i64 t] W (RetB (.bool true) W) := by
  have HT := Lib.hid ht
  have HX := Lib.hid (Below.refl W.heap.size W)
  obtain ⟨h2, _⟩ := h2
  obtain ⟨h4, _⟩ := h4
  by_cases hl : 100 < n2
  · have hl' : (100 : Int) < (n2 : Int) := by omega
    clear hl h2 h4 ht
    go_enter Tryd.func3, Tryd.ntmps3
    go_wp2_with (go_at_call 11; refine (lives_any _ (HT.out.grow HX.out)).mono ?_; rintro e9 w9 ⟨rfl, hb9⟩; replace HX := Lib.hid (HX.out.trans (hb9.mono HX.out.size)); clear hb9)
    go_ret
    exact ⟨rfl, HX.out⟩
  by_cases hl4 : 100 < n4
  · have hl' : (n2 : Int) ≤ 100 := by omega
    have hl4' : (100 : Int) < (n4 : Int) := by omega
    clear hl hl4 h2 h4 ht
    go_enter Tryd.func3, Tryd.ntmps3
    go_wp2_with (go_at_call 11; refine (lives_any _ (HT.out.grow HX.out)).mono ?_; rintro e9 w9 ⟨rfl, hb9⟩; replace HX := Lib.hid (HX.out.trans (hb9.mono HX.out.size)); clear hb9)
    go_ret
    exact ⟨rfl, HX.out⟩
  have hl' : (n2 : Int) ≤ 100 := by omega
  have hl4' : (n4 : Int) ≤ 100 := by omega
  obtain ⟨e2, he2, hz20, hz21, hz22⟩ := info_parts infoS
  obtain ⟨e4, he4, hz40, hz41, hz42⟩ := info_parts infoC
  have H2 := Lib.hid h2
  have H4 := Lib.hid h4
  clear h2 h4 ht hl hl4
  go_enter Tryd.func3, Tryd.ntmps3
  go_wp2
  go_loopw [7, 8] (fun v7 vi wr => ∃ (r : Nat) (v8 : Value), v8 = v7 ∧ vi = .int .i64 ((r : Int) - 1) ∧ r ≤ n2 ∧ wr.ownsRow W.heap.size 26 2 v8 (n2 - r) (flP (dn2 z2 n2 r)) ∧ Below W.heap.size W wr) (fun _ vi _ => (intOf vi + 1).toNat)
  case atStart => exact ⟨n2, _, rfl, by go_num, Nat.le_refl _, by unfold dn2; rw [Nat.sub_self]; exact World.ownsRow_nil _ _ _ _, Below.refl _ _⟩
  case round =>
    obtain ⟨r, v8, rfl, rfl, hr, o8, hbel⟩ := hrel
    have O8 := Lib.hid o8
    have hbs : W.heap.size ≤ wr.heap.size := hbel.size
    clear o8
    by_cases hr0 : 0 < r
    · obtain ⟨q, rfl⟩ : ∃ q : Nat, r = q + 1 := ⟨r - 1, by omega⟩
      rw [show ((q + 1 : Nat) : Int) - 1 = (q : Int) by omega]
      rcases H2.out with h0 | ⟨b, o, ha, hb, hm, hcell⟩
      · omega
      · subst ha
        have q0 : (0 : Int) ≤ (q : Int) := by omega
        have q1 : (q : Int) < (n2 : Int) := by omega
        have q2 : q < n2 := by omega
        have c0 : wr.cell? ⟨b, o + q * 2, none⟩ = some (.int .i64 (z2 q 0)) := (hbel.cell (p := ⟨b, _, none⟩) hb).trans (hcell q 0 q2 (by omega))
        have c1 : wr.cell? ⟨b, o + q * 2 + 1, none⟩ = some (.int .i64 (z2 q 1)) := (hbel.cell (p := ⟨b, _, none⟩) hb).trans (hcell q 1 q2 (by omega))
        have hkb : (n2 - (q + 1) + 1) * 16 ≤ 140737488355328 := by omega
        have hkm : n2 - (q + 1) + 1 ≤ maxLen := by unfold maxLen; omega
        have HD := Lib.hid (dn2_step (z := z2) q2)
        have HN := Lib.hid (show n2 - q = n2 - (q + 1) + 1 by omega)
        clear hcell
        go_wp2_with (at_builtin; refine wpList_append_lies _ rfl _ _ 22 rfl W.heap.size 26 e2 (.agg #[.int .i64 0, .int .i64 0]) 2 16 Tryd.underlying22 he2 hz20 hz21 hz22 rfl (by decide) v8 (n2 - (q + 1)) (flP (dn2 z2 n2 (q + 1))) (by rfl) (O8.out.alloc _) ⟨wr.heap.size, 0, none⟩ 1 1 [.int .i64 (z2 q 0), .int .i64 (z2 q 1)] (by rfl) (by rfl) (World.news_of_block (cs := #[.int .i64 (z2 q 0), .int .i64 (z2 q 1)]) (t := 26) (fr := (0, 0)) (heap_alloc_new wr _)) (by simp [Value.oneCell']) (by omega) hkm hkb (by simp; omega) (wr.heap.size + 1) (by simp) ?_; intro g8 c8 w3 own8 gr8 at8 lt8; have HB3 := Lib.hid ((hbel.alloc hbs (.cells #[.int .i64 (z2 q 0), .int .i64 (z2 q 1)] 26)).grown gr8 (by simp; omega) (own_ge O8.out)); have H8 := Lib.hid own8; clear own8 gr8 at8 lt8)
        go_roundw
        case rel => exact ⟨q, _, rfl, by go_num, by omega, by rw [HN.out, HD.out]; exact H8.out, HB3.out⟩
        case measure => simp [intOf]
    · obtain rfl : r = 0 := by omega
      obtain ⟨ah, ch, rfl, hrow2⟩ := dn2_rows O8.out
      have HR2 := Lib.hid hrow2
      have HXr := Lib.hid hbel
      rw [show ((0 : Nat) : Int) - 1 = -1 from rfl]
      clear O8 hrow2 hr hr0
      rename World => w1
      go_wp2
      go_loopw [9, 10] (fun v9 vi wr => ∃ (r : Nat) (v8 : Value), v8 = v9 ∧ vi = .int .i64 ((r : Int) - 1) ∧ r ≤ n4 ∧ wr.ownsRow w1.heap.size 30 4 v8 (n4 - r) (flC (dn4 z4 n4 r)) ∧ (∀ i, r ≤ i → i < n4 → ∀ k, k < i → z4 k 0 ≠ z4 i 0) ∧ Below w1.heap.size w1 wr) (fun _ vi _ => (intOf vi + 1).toNat)
      case atStart => exact ⟨n4, _, rfl, by go_num, Nat.le_refl _, by unfold dn4; rw [Nat.sub_self]; exact World.ownsRow_nil _ _ _ _, fun i h1 h2 => by omega, Below.refl _ _⟩
      case round =>
        obtain ⟨r, v8, rfl, rfl, hr, o9, hdis, hbx⟩ := hrel
        have O9 := Lib.hid o9
        have HDI := Lib.hid hdis
        have HBX := Lib.hid hbx
        have hbs4 : w1.heap.size ≤ wr.heap.size := hbx.size
        have HX := Lib.hid (HXr.out.trans (hbx.mono HXr.out.size))
        clear o9 hdis hbx
        by_cases hr0 : 0 < r
        · obtain ⟨q, rfl⟩ : ∃ q : Nat, r = q + 1 := ⟨r - 1, by omega⟩
          rw [show ((q + 1 : Nat) : Int) - 1 = (q : Int) by omega]
          rcases H4.out with h0 | ⟨b, o, ha, hb, hm, hcell⟩
          · omega
          · subst ha
            have q0 : (0 : Int) ≤ (q : Int) := by omega
            have q1 : (q : Int) < (n4 : Int) := by omega
            have q2 : q < n4 := by omega
            have HCE := Lib.hid hcell
            have hkb : (n4 - (q + 1) + 1) * 32 ≤ 140737488355328 := by omega
            have hkm : n4 - (q + 1) + 1 ≤ maxLen := by unfold maxLen; omega
            have HD := Lib.hid (dn4_step (z := z4) q2)
            have HN := Lib.hid (show n4 - q = n4 - (q + 1) + 1 by omega)
            clear hcell
            go_wp2
            rename World => w2
            go_loopw [11] (fun vk wr => ∃ k : Nat, vk = .int .i64 k ∧ k ≤ q ∧ (∀ j, j < k → z4 j 0 ≠ z4 q 0) ∧ Below w2.heap.size w2 wr) (fun vk _ => q - (intOf vk).toNat)
            case atStart => exact ⟨0, by go_num, Nat.zero_le _, fun j hj => by omega, Below.refl _ _⟩
            case round =>
              obtain ⟨k, rfl, hk, hall, hbk⟩ := hrel
              have HAL := Lib.hid hall
              have HBK := Lib.hid hbk
              have HXk := Lib.hid (HX.out.trans (hbk.mono HX.out.size))
              clear hall hbk
              by_cases hkq : k < q
              · have e1 : ∀ x : Sub wr.heap.size wr, x.w.cell? ⟨b, o + k * 4, none⟩ = some (.int .i64 (z4 k 0)) := Sub.cell ((HXk.out.cell (p := ⟨b, _, none⟩) hb).trans (HCE.out k 0 (by omega) (by omega))) (Nat.lt_of_lt_of_le hb HXk.out.size)
                have e2 : ∀ x : Sub wr.heap.size wr, x.w.cell? ⟨b, o + q * 4, none⟩ = some (.int .i64 (z4 q 0)) := Sub.cell ((HXk.out.cell (p := ⟨b, _, none⟩) hb).trans (HCE.out q 0 (by omega) (by omega))) (Nat.lt_of_lt_of_le hb HXk.out.size)
                have k0 : (0 : Int) ≤ (k : Int) := by omega
                have k1 : (k : Int) < (n4 : Int) := by omega
                have k2 : k < n4 := by omega
                have k3 : (k : Int) < (q : Int) := by omega
                by_cases hv : z4 k 0 = z4 q 0
                · have hv1 : (z4 k 0 == z4 q 0) = true := by rw [beq_iff_eq]; exact hv
                  clear hv
                  go_wp2
                  refine wp_region_below (by kernel_rfl) (by kernel_rfl) ?_
                  repeat (go_big_quiet_step (fail))
                  refine wpQuiet_nil ?_
                  rintro w5 ⟨⟨_, hb5⟩, rfl⟩
                  have HX := Lib.hid (HXk.out.trans (hb5.mono HXk.out.size))
                  clear hb5
                  go_wp2_with (go_at_call 11; refine (lives_any _ (HT.out.grow HX.out)).mono ?_; rintro e9 w9 ⟨rfl, hb9⟩; replace HX := Lib.hid (HX.out.trans (hb9.mono HX.out.size)); clear hb9)
                  go_ret
                  exact ⟨rfl, HX.out⟩
                · have hv1 : (z4 k 0 == z4 q 0) = false := by rw [beq_eq_false_iff_ne]; exact hv
                  have HV := Lib.hid hv
                  clear hv
                  go_wp2
                  refine wp_region_below (by kernel_rfl) (by kernel_rfl) ?_
                  repeat (go_big_quiet_step (fail))
                  refine wpQuiet_nil ?_
                  rintro w5 ⟨⟨_, hb5⟩, rfl⟩
                  go_wp2
                  go_roundw
                  case rel => exact ⟨k + 1, by go_num, hkq, fun j hj => by
                    rcases Nat.lt_or_ge j k with c | c
                    · exact HAL.out j c
                    · obtain rfl : j = k := by omega
                      exact HV.out, HBK.out.trans (hb5.mono HBK.out.size)⟩
                  case measure => simp [intOf]; omega
              · obtain rfl : k = q := by omega
                have O10 := Lib.hid (owns_below O9.out HBK.out)
                have c0 : wr.cell? ⟨b, o + k * 4, none⟩ = some (.int .i64 (z4 k 0)) := (HXk.out.cell (p := ⟨b, _, none⟩) hb).trans (HCE.out k 0 q2 (by omega))
                have c1 : wr.cell? ⟨b, o + k * 4 + 1, none⟩ = some (.int .i64 (z4 k 1)) := (HXk.out.cell (p := ⟨b, _, none⟩) hb).trans (HCE.out k 1 q2 (by omega))
                have c2 : wr.cell? ⟨b, o + k * 4 + 2, none⟩ = some (.int .i64 (z4 k 2)) := (HXk.out.cell (p := ⟨b, _, none⟩) hb).trans (HCE.out k 2 q2 (by omega))
                have c3 : wr.cell? ⟨b, o + k * 4 + 3, none⟩ = some (.int .i64 (z4 k 3)) := (HXk.out.cell (p := ⟨b, _, none⟩) hb).trans (HCE.out k 3 q2 (by omega))
                have HBW := Lib.hid (HBX.out.trans (HBK.out.mono hbs4))
                have hbsk : w1.heap.size ≤ wr.heap.size := HBW.out.size
                go_wp2_with (at_builtin; refine wpList_append_lies _ rfl _ _ 23 rfl w1.heap.size 30 e4 (.agg #[.int .i64 0, .int .i64 0, .int .i64 0, .int .i64 0]) 4 32 Tryd.underlying23 he4 hz40 hz41 hz42 rfl (by decide) v8 (n4 - (k + 1)) (flC (dn4 z4 n4 (k + 1))) (by rfl) (O10.out.alloc _) ⟨wr.heap.size, 0, none⟩ 1 1 [.int .i64 (z4 k 0), .int .i64 (z4 k 1), .int .i64 (z4 k 2), .int .i64 (z4 k 3)] (by rfl) (by rfl) (World.news_of_block (cs := #[.int .i64 (z4 k 0), .int .i64 (z4 k 1), .int .i64 (z4 k 2), .int .i64 (z4 k 3)]) (t := 30) (fr := (0, 0)) (heap_alloc_new wr _)) (by simp [Value.oneCell']) (by omega) hkm hkb (by simp; omega) (wr.heap.size + 1) (by simp) ?_; intro g8 c8 w3 own8 gr8 at8 lt8; have HB3 := Lib.hid ((HBW.out.alloc hbsk (.cells #[.int .i64 (z4 k 0), .int .i64 (z4 k 1), .int .i64 (z4 k 2), .int .i64 (z4 k 3)] 30)).grown gr8 (by simp; omega) (own_ge O10.out)); have H8 := Lib.hid own8; clear own8 gr8 at8 lt8)
                go_roundw
                case rel => exact ⟨k, _, rfl, by go_num, by omega, by rw [HN.out, HD.out]; exact H8.out, fun i h1 h2 j hj => by
                  by_cases c : i = k
                  · subst c; exact HAL.out j hj
                  · exact HDI.out i (by omega) h2 j hj, HB3.out⟩
                case measure => simp [intOf]
        · obtain rfl : r = 0 := by omega
          obtain ⟨al, cl, rfl, hrow4⟩ := dn4_rows O9.out
          rw [show ((0 : Nat) : Int) - 1 = -1 from rfl]
          obtain ⟨l1, l2, l3⟩ := ord_law (z2 := z2) (n2 := n2) (z4 := z4) (n4 := n4) t (fun i k h1 h2 => HDI.out i (Nat.zero_le _) h2 k h1)
          have hr2 := HR2.out.below HBX.out (Nat.le_refl _)
          have H2w := H2.out.below HX.out (Nat.le_refl _)
          have H4w := H4.out.below HX.out (Nat.le_refl _)
          have hT := HT.out.grow HX.out
          obtain ⟨x, hx⟩ : ∃ x, x = lfN z2 n2 z4 n4 t := ⟨_, rfl⟩
          obtain ⟨s, hs⟩ : ∃ s, s = sp3 z2 n2 t := ⟨_, rfl⟩
          obtain ⟨e, he⟩ : ∃ e, e = efN z4 n4 t := ⟨_, rfl⟩
          have f1 := fun y (hb : Below wr.heap.size wr y) => Left_any ah n2 ch (rvz z2 n2) al n4 cl (rvz z4 n4) t y (hT.grow hb) (by omega) (by omega) (hr2.below hb (Nat.le_refl _)) (hrow4.below hb (Nat.le_refl _))
          have f2 := fun y (hb : Below wr.heap.size wr y) => Left_any a2 n2 c2 z2 a4 n4 c4 z4 t y (hT.grow hb) (by omega) (by omega) (H2w.below hb (Nat.le_refl _)) (H4w.below hb (Nat.le_refl _))
          have f3 := fun y (hb : Below wr.heap.size wr y) => Sp_t t ah n2 ch (rvz z2 n2) y (hT.grow hb) (by omega) (hr2.below hb (Nat.le_refl _))
          have f4 := fun y (hb : Below wr.heap.size wr y) => Sp_t t a2 n2 c2 z2 y (hT.grow hb) (by omega) (H2w.below hb (Nat.le_refl _))
          have f5 := fun y (hb : Below wr.heap.size wr y) => Eff_t al n4 cl (rvz z4 n4) t y (by omega) (hrow4.below hb (Nat.le_refl _))
          have f6 := fun y (hb : Below wr.heap.size wr y) => Eff_t a4 n4 c4 z4 t y (by omega) (H4w.below hb (Nat.le_refl _))
          rw [l1] at f1
          simp only [l2] at f3
          simp only [l3] at f5
          rw [← hx] at f1 f2
          rw [← hs] at f3 f4
          rw [← he] at f5 f6
          obtain ⟨s0, hs0⟩ : ∃ s0, s0 = s 0 := ⟨_, rfl⟩
          obtain ⟨s1, hs1⟩ : ∃ s1, s1 = s 1 := ⟨_, rfl⟩
          obtain ⟨s2, hs2⟩ : ∃ s2, s2 = s 2 := ⟨_, rfl⟩
          obtain ⟨e0, he0⟩ : ∃ e0, e0 = e 0 := ⟨_, rfl⟩
          obtain ⟨e1, he1⟩ : ∃ e1, e1 = e 1 := ⟨_, rfl⟩
          obtain ⟨e2, he2⟩ : ∃ e2, e2 = e 2 := ⟨_, rfl⟩
          rw [← hs0, ← hs1, ← hs2] at f3 f4
          rw [← he0, ← he1, ← he2] at f5 f6
          have F1 := Lib.hid f1
          have F2 := Lib.hid f2
          have F3 := Lib.hid f3
          have F4 := Lib.hid f4
          have F5 := Lib.hid f5
          have F6 := Lib.hid f6
          have HTW := Lib.hid hT
          have HXW := Lib.hid HX.out
          clear f1 f2 f3 f4 f5 f6 hs0 hs1 hs2 he0 he1 he2 hs he hx l1 l2 l3 hrow4 hr2 H2w H4w hT HT HX
          have HT := HTW
          have HX := Lib.hid (Below.refl wr.heap.size wr)
          go_wp2_with (first | (go_at_call 11; refine (lives_any _ (HT.out.grow HX.out)).mono ?_; rintro e9 w9 ⟨rfl, hb9⟩; replace HX := Lib.hid (HX.out.trans (hb9.mono HX.out.size)); clear hb9) | (go_at_call 12; (with_reducible refine (F1.out _ HX.out).mono ?_); rintro e9 w9 ⟨rfl, hb9⟩; replace HX := Lib.hid (HX.out.trans (hb9.mono HX.out.size)); clear hb9) | (go_at_call 12; (with_reducible refine (F2.out _ HX.out).mono ?_); rintro e9 w9 ⟨rfl, hb9⟩; replace HX := Lib.hid (HX.out.trans (hb9.mono HX.out.size)); clear hb9) | (go_at_call 13; (with_reducible refine (F3.out _ HX.out).mono ?_); rintro e9 w9 ⟨rfl, hb9⟩; replace HX := Lib.hid (HX.out.trans (hb9.mono HX.out.size)); clear hb9) | (go_at_call 13; (with_reducible refine (F4.out _ HX.out).mono ?_); rintro e9 w9 ⟨rfl, hb9⟩; replace HX := Lib.hid (HX.out.trans (hb9.mono HX.out.size)); clear hb9) | (go_at_call 14; (with_reducible refine (F5.out _ HX.out).mono ?_); rintro e9 w9 ⟨rfl, hb9⟩; replace HX := Lib.hid (HX.out.trans (hb9.mono HX.out.size)); clear hb9) | (go_at_call 14; (with_reducible refine (F6.out _ HX.out).mono ?_); rintro e9 w9 ⟨rfl, hb9⟩; replace HX := Lib.hid (HX.out.trans (hb9.mono HX.out.size)); clear hb9))
          go_ret
          exact ⟨rfl, HXW.out.trans (HX.out.mono HXW.out.size)⟩
end Go.Proofs.YtainelkenkgppaaDoor
