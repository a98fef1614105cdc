/- Natural numbers of one limb: the quotient. -/
import Derived.Test.YtnnocbelgfhecaaGreatDoorTrf
import Derived.Maps.AppendAt
import Derived.Deep.AppendLies
namespace Go.Proofs.YtnnocbelgfhecaaGreatDoor
open Go.ChangeShapes Go.WideShapes Go.ChangeAt Go.RowKit Go.Lott
theorem blw_drewN {B : Nat} {a w : World} (h : Below B a w) (n : Nat) : Below B a (w.drewN n) := by
  obtain ⟨h1, h2, h3, h4, h5⟩ := h
  exact ⟨h1, h2, h3, h4, h5⟩
theorem shl_zero : bits BinOp.or IntKind.u64 0 0 = 0 := by decide
/-- A row of one element that the call owns. -/
theorem own_one {w : World} {base g c : Nat} {e : TypeId} {x : Value} (h : w.ownsRow base e 1 (.slice (some ⟨g, 0, none⟩) 1 c) 1 [x]) : 1 ≤ c ∧ ∃ cs, Cel w g cs e ∧ cs[0]? = some x := by
  rcases h.2 with ⟨hc, _⟩ | ⟨g', cap, cur, hv, _, hh, hc, _, _, hl⟩
  · cases hc
  · injection hv with h1 h2 h3
    injection h1 with h1
    injection h1 with h1
    subst h1 h3
    refine ⟨hc, cur, hh, ?_⟩
    have : (cur.toList.take (1 * 1))[0]? = some x := by rw [hl]; rfl
    rw [List.getElem?_take] at this
    simpa using this
set_option maxRecDepth 100000 in
theorem divide_one (b o c : Nat) (x d : Int) (w : World) (x0 : 0 ≤ x) (x1 : x < 4294967296) (d0 : 0 < d) (d1 : d < 4294967296) (_hc : 1 ≤ c) (c0 : w.cell? ⟨b, o, none⟩ = some (.int .u32 x)) (hf : w.frozen? ⟨b, o, none⟩ = false) :
    Calls Tryz.prog 168 #[.slice (some ⟨b, o, none⟩) 1 c, .int .u32 d] w fun e w' => e = .returned (.int .u32 (x % d)) ∧ w' = w.setCell ⟨b, o, none⟩ (.int .u32 (x / d)) := by
  have hdz : (d == 0) = false := by simp; omega
  have q0 : 0 ≤ x / d := Int.ediv_nonneg x0 (by omega)
  have q1 : x / d ≤ x := Int.ediv_le_self _ x0
  have r0 : 0 ≤ x % d := Int.emod_nonneg _ (by omega)
  have r1 : x % d < d := Int.emod_lt_of_pos _ d0
  have HO := Lib.hid (or_zero x x0 x1)
  go_enter Tryz.func168, Tryz.ntmps168
  go_wp2
  refine wp_loop_rounds 2 ?_
  rw [rounds_succ]
  go_wp2
  rw [rounds_succ]
  go_wp2
  rw [HO.out, Int.tmod_eq_emod_of_nonneg x0, Int.tdiv_eq_ediv_of_nonneg x0]
  rw [show x % d % 4294967296 = x % d from Int.emod_eq_of_lt r0 (by omega)]
  rw [show IntKind.u64.wrap (x / d) = x / d from (show x / d % 18446744073709551616 = x / d by omega), show x / d % 4294967296 = x / d from Int.emod_eq_of_lt q0 (by omega)]
  go_ret
  exact ⟨rfl, rfl⟩
def cmp01 (x y : Int) : Int := if y < x then 1 else 0
theorem cmp01_nn (x y : Int) : 0 ≤ cmp01 x y := by unfold cmp01; split <;> omega
theorem compare_ge (b o c b' o' c' : Nat) (x y : Int) (w : World) (_hc : 1 ≤ c) (_hc' : 1 ≤ c') (c0 : w.cell? ⟨b, o, none⟩ = some (.int .u32 x)) (c1 : w.cell? ⟨b', o', none⟩ = some (.int .u32 y)) (h : y ≤ x) :
    Calls Tryz.prog 166 #[.slice (some ⟨b, o, none⟩) 1 c, .slice (some ⟨b', o', none⟩) 1 c'] w (RetB (.int .i64 (if y < x then 1 else 0)) w) := by
  have h1 : ¬ x < y := by omega
  by_cases h2 : y < x
  · rw [if_pos h2]
    clear h
    go_enter Tryz.func166, Tryz.ntmps166
    go_wp2
    refine wp_loop_rounds 2 ?_
    rw [rounds_succ]
    go_wp2
    go_quiet (fail)
    go_wp2
    go_quiet (fail)
    go_wp2
    go_ret
    exact ⟨rfl, blw_drewN (blw_drewN (Below.refl _ _) _) _⟩
  · rw [if_neg h2]
    go_enter Tryz.func166, Tryz.ntmps166
    go_wp2
    refine wp_loop_rounds 2 ?_
    rw [rounds_succ]
    go_wp2
    go_quiet (fail)
    go_wp2
    go_quiet (fail)
    go_wp2
    rw [rounds_succ]
    go_wp2
    go_ret
    exact ⟨rfl, blw_drewN (Below.refl _ _) _⟩
set_option maxHeartbeats 2000000 in
set_option maxRecDepth 100000 in
theorem divmod_one (v1 v2 : Value) (x y q : Int) (w : World) (h1 : Nat1 w v1 x) (h2 : Nat1 w v2 y) (hxy : y ≤ x) (hq : x / y = q) (hr : x % y = 0) :
    Calls Tryz.prog 147 #[.agg #[v1], .agg #[v2]] w fun e w' => ∃ v, e = .returned (.tuple #[.agg #[v], .agg #[.slice none 0 0], .int .i64 0]) ∧ Nat1 w' v q ∧ Fresh w v ∧ Below w.heap.size w w' := by
  have HN1 := Lib.hid h1
  have HN2 := Lib.hid h2
  obtain ⟨e0, he0, hz0, hz1, hz2⟩ := info_parts infoU
  obtain ⟨W1, hW1⟩ : ∃ W1, W1 = (((w.alloc (.cells #[v1] 205)).alloc (.cells #[v2] 205)).alloc (.cells #[.slice none 0 0] 205)).alloc (.cells #[.slice none 0 0] 205) := ⟨_, rfl⟩
  have HX := Lib.hid (show Below w.heap.size w W1 by rw [hW1]; exact ((((Below.refl _ _).alloc (Nat.le_refl _) _).alloc (by simp) _).alloc (by simp; omega) _).alloc (by simp; omega) _)
  have HA := Lib.hid (show Cel W1 w.heap.size #[v1] 205 by rw [hW1]; exact (((Cel.new _ _ _).alloc _).alloc _).alloc _)
  have HB := Lib.hid (show Cel W1 (w.heap.size + 1) #[v2] 205 by
    rw [hW1]
    have := ((Cel.new (w.alloc (.cells #[v1] 205)) #[v2] 205).alloc (.cells #[.slice none 0 0] 205)).alloc (.cells #[.slice none 0 0] 205)
    simpa using this)
  have HC := Lib.hid (show Cel W1 (w.heap.size + 1 + 1) #[.slice none 0 0] 205 by
    rw [hW1]
    have := (Cel.new ((w.alloc (.cells #[v1] 205)).alloc (.cells #[v2] 205)) #[.slice none 0 0] 205).alloc (.cells #[.slice none 0 0] 205)
    simpa using this)
  have HD := Lib.hid (show Cel W1 (w.heap.size + 1 + 1 + 1) #[.slice none 0 0] 205 by
    rw [hW1]
    have := (Cel.new (((w.alloc (.cells #[v1] 205)).alloc (.cells #[v2] 205)).alloc (.cells #[.slice none 0 0] 205)) #[.slice none 0 0] 205)
    simpa using this)
  have HW := Lib.hid hW1
  clear hW1
  go_enter Tryz.func147, Tryz.ntmps147
  go_wp2_with fail
  rw [← HW.out]
  refine (valid_any _ x _ (HN1.out.below HX.out (Nat.le_refl _))).mono ?_
  rintro e w1 ⟨rfl, hb1⟩
  replace HX := Lib.hid (HX.out.trans (hb1.mono HX.out.size))
  replace HA := Lib.hid (HA.out.below hb1 HA.out.lt)
  replace HB := Lib.hid (HB.out.below hb1 HB.out.lt)
  replace HC := Lib.hid (HC.out.below hb1 HC.out.lt)
  replace HD := Lib.hid (HD.out.below hb1 HD.out.lt)
  have a0 := HA.out.cell 0
  have b0 := HB.out.cell 0
  simp at a0 b0
  have al := HA.out.lt
  have bl := HB.out.lt
  clear hb1 HW
  go_wp2_with fail
  refine (valid_any _ y _ (HN2.out.below HX.out (Nat.le_refl _))).mono ?_
  rintro e w2 ⟨rfl, hb1⟩
  replace HX := Lib.hid (HX.out.trans (hb1.mono HX.out.size))
  replace HA := Lib.hid (HA.out.below hb1 HA.out.lt)
  replace HB := Lib.hid (HB.out.below hb1 HB.out.lt)
  replace HC := Lib.hid (HC.out.below hb1 HC.out.lt)
  replace HD := Lib.hid (HD.out.below hb1 HD.out.lt)
  clear a0 b0 al bl
  have a0 := HA.out.cell 0
  have b0 := HB.out.cell 0
  simp at a0 b0
  have al := HA.out.lt
  have bl := HB.out.lt
  obtain ⟨x0, x1, bx, ox, cx, rfl, hcx, hbx, hx⟩ := HN1.out.below HX.out (Nat.le_refl _)
  obtain ⟨y0, y1, by', oy, cy, rfl, hcy, hby, hy⟩ := HN2.out.below HX.out (Nat.le_refl _)
  clear hb1
  go_wp2_with fail
  refine (compare_ge _ _ _ _ _ _ x y _ hcx hcy hx hy hxy).mono ?_
  rw [show (if y < x then (1 : Int) else 0) = cmp01 x y from rfl]
  have hcm := cmp01_nn x y
  rintro e w3 ⟨rfl, hb1⟩
  replace hx := (hb1.cell (p := ⟨bx, ox, none⟩) hbx).trans hx
  replace hy := (hb1.cell (p := ⟨by', oy, none⟩) hby).trans hy
  replace hbx := Nat.lt_of_lt_of_le hbx hb1.size
  replace hby := Nat.lt_of_lt_of_le hby hb1.size
  replace HX := Lib.hid (HX.out.trans (hb1.mono HX.out.size))
  replace HA := Lib.hid (HA.out.below hb1 HA.out.lt)
  replace HB := Lib.hid (HB.out.below hb1 HB.out.lt)
  replace HC := Lib.hid (HC.out.below hb1 HC.out.lt)
  replace HD := Lib.hid (HD.out.below hb1 HD.out.lt)
  clear a0 b0 al bl
  have a0 := HA.out.cell 0
  have b0 := HB.out.cell 0
  simp at a0 b0
  have al := HA.out.lt
  have bl := HB.out.lt
  clear hb1
  go_wp2_with (first
   | (at_builtin
      refine wpList_append_lies _ rfl _ _ 203 rfl w3.heap.size 179 e0 (.int .u32 0) 1 4 Tryz.underlying203 he0 hz0 hz1 hz2 rfl (by decide) (.slice none 0 0) 0 [] (by rfl) (World.ownsRow_nil w3 _ _ _) ⟨bx, ox, none⟩ 1 cx [.int .u32 x] (by rfl) (by rfl) (fun j u hj => by rcases j with _ | j; (simp at hj; subst hj; exact hx); simp at hj) (by simp [Value.oneCell']) (by omega) (by unfold maxLen; omega) (by omega) (Nat.le_refl _) w3.heap.size rfl ?_
      intro g8 c8 w4 own8 gr8 at8 lt8
      have hb1 := (Below.refl w3.heap.size w3).grown gr8 (Nat.le_refl _) (fun k hk => by cases hk)
      obtain ⟨hc8, cs, HQ, hq0⟩ := own_one own8
      replace hx := (hb1.cell (p := ⟨bx, ox, none⟩) hbx).trans hx
      replace hy := (hb1.cell (p := ⟨by', oy, none⟩) hby).trans hy
      have hne : g8 = w3.heap.size := by rcases at8 with c | c; cases c; exact c
      have na : w.heap.size ≠ g8 := by have := HA.out.lt; omega
      have nb : w.heap.size + 1 ≠ g8 := by have := HB.out.lt; omega
      have nc : w.heap.size + 1 + 1 ≠ g8 := by have := HC.out.lt; omega
      have nd : w.heap.size + 1 + 1 + 1 ≠ g8 := by have := HD.out.lt; omega
      have HNE := Lib.hid (And.intro na (And.intro nb (And.intro nc (And.intro nd (show w.heap.size ≤ g8 by have := HA.out.lt; omega)))))
      replace HX := Lib.hid (HX.out.trans (hb1.mono HX.out.size))
      replace HA := Lib.hid (HA.out.below hb1 HA.out.lt)
      replace HB := Lib.hid (HB.out.below hb1 HB.out.lt)
      replace HC := Lib.hid (HC.out.below hb1 HC.out.lt)
      replace HD := Lib.hid (HD.out.below hb1 HD.out.lt)
      clear a0 b0 al bl hb1 own8 gr8 at8 hbx hby hx hne na nb nc nd
      have b0 := HB.out.cell 0
      simp at b0
      have bl := HB.out.lt)
   | (go_at_call 168
      refine (divide_one _ _ _ x y _ (by omega) x1 (by omega) y1 hc8 (by rw [HQ.cell, hq0]) (HQ.free 0)).mono ?_
      rw [hr]
      rintro e w5 ⟨rfl, hw5⟩
      obtain ⟨na, nb, nc, nd, ne⟩ := HNE.out
      have NC := Lib.hid (Ne.symm nc)
      have NE := Lib.hid ne
      have ND := Lib.hid (Ne.symm nd)
      have HQ5 := Lib.hid (show Cel w5 g8 _ _ by rw [hw5]; exact HQ.set 0 (.int .u32 (x / y)))
      have q5 : w5.cell? ⟨g8, 0, none⟩ = some (.int .u32 (x / y)) := by
        rw [HQ5.out.cell]
        rw [Array.getElem?_setIfInBounds]
        have : 0 < cs.size := by rcases Nat.eq_zero_or_pos cs.size with c | c; (rw [Array.getElem?_eq_none (by omega)] at hq0; cases hq0); exact c
        simp [this]
      replace HX := Lib.hid (show Below w.heap.size w w5 by rw [hw5]; refine HX.out.setCell ?_ _; show w.heap.size ≤ g8; omega)
      replace HC := Lib.hid (show Cel w5 _ _ _ by rw [hw5]; exact HC.out.other (a := ⟨g8, 0, none⟩) nc _)
      replace HD := Lib.hid (show Cel w5 _ _ _ by rw [hw5]; exact HD.out.other (a := ⟨g8, 0, none⟩) nd _)
      rw [hq] at q5 HQ5
      clear hw5 HQ hq0 HA HB b0 bl hy na nb ne HNE nc nd
      have hq1 : 0 < q := by
        rw [← hq]; exact Int.ediv_pos_of_pos_of_dvd x0 (by omega) (Int.dvd_of_emod_eq_zero hr)
      have hq2 : q < 4294967296 := by rw [← hq]; exact Int.lt_of_le_of_lt (Int.ediv_le_self _ (by omega)) x1))
  clear hr hq x0 x1 y0 y1 hxy
  go_wp2_with fail
  refine (trim_one _ _ _ q _ hq1 hc8 HQ5.out.lt q5).mono ?_
  rintro e w6 ⟨rfl, hb1⟩
  replace HX := Lib.hid (HX.out.trans (hb1.mono HX.out.size))
  replace HC := Lib.hid (HC.out.below hb1 HC.out.lt)
  replace HD := Lib.hid (HD.out.below hb1 HD.out.lt)
  replace q5 := (hb1.cell (p := ⟨g8, 0, none⟩) HQ5.out.lt).trans q5
  replace HQ5 := Lib.hid (HQ5.out.below hb1 HQ5.out.lt)
  clear hb1
  go_wp2_with fail
  refine (of_zero _).mono ?_
  rintro e w7 ⟨rfl, hb1⟩
  have q7 := (hb1.cell (p := ⟨g8, 0, none⟩) HQ5.out.lt).trans q5
  clear q5
  replace HX := Lib.hid (HX.out.trans (hb1.mono HX.out.size))
  replace HC := Lib.hid (HC.out.below hb1 HC.out.lt)
  replace HD := Lib.hid (HD.out.below hb1 HD.out.lt)
  replace HQ5 := Lib.hid (HQ5.out.below hb1 HQ5.out.lt)
  have c0 := HC.out.cell 0
  have f0 := HC.out.free 0
  have cl := HC.out.lt
  have d0 := HD.out.cell 0
  have f1 := HD.out.free 0
  have dl := HD.out.lt
  simp at c0 d0
  clear hb1
  have k1 := HQ5.out.lt
  have k2 := (HQ5.out.other (a := ⟨w.heap.size + 1 + 1, 0, none⟩) NC.out (.slice (some ⟨g8, 0, none⟩) 1 1)).other (a := ⟨w.heap.size + 1 + 1 + 1, 0, none⟩) ND.out (.slice none 0 0)
  have k3 := q7
  rw [HQ5.out.cell, ← k2.cell] at k3
  have K1 := Lib.hid k1
  have K3 := Lib.hid k3
  clear k1 k2 k3 q7
  go_wp2
  refine bodyPost_ret (v := .tuple #[.agg #[.slice (some ⟨g8, 0, none⟩) 1 1], .agg #[.slice none 0 0], .int .i64 0]) (by simp [results, Tryz.results147, go_sem, c0, d0]) rfl ⟨_, rfl, ⟨hq1, hq2, _, _, _, rfl, Nat.le_refl _, ?_, ?_⟩, ?_, ?_⟩
  · have := K1.out; simpa [World.setCell] using this
  · exact K3.out
  · intro b hb
    cases hb
    exact NE.out
  · refine Below.setCell (Below.setCell HX.out ?_ _) ?_ _
    · show w.heap.size ≤ w.heap.size + 1 + 1; omega
    · show w.heap.size ≤ w.heap.size + 1 + 1 + 1; omega
end Go.Proofs.YtnnocbelgfhecaaGreatDoor
