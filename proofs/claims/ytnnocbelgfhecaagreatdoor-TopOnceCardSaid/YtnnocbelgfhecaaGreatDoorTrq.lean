/- The scanner of slips at a text of two digits: numbers, lines, read. -/
import Derived.Test.YtnnocbelgfhecaaGreatDoorTro
import Derived.Maps.Range
set_option linter.unusedSimpArgs false
namespace Go.Proofs.YtnnocbelgfhecaaGreatDoor
open Go.ChangeShapes Go.WideShapes Go.ChangeAt Go.RowKit Go.Lott
theorem Scn.gr {w w1 : World} {sb x y : Nat} {a n : Int} {wd : ByteArray} {f : Bool} {row : Option Nat} (h : Scn w sb x y a wd n f) (hg : w.grownBy w1 row) (hne : some sb ≠ row) : Scn w1 sb x y a wd n f :=
  (hg.block sb h.lt hne).trans h
theorem Scn.al {w : World} {sb x y : Nat} {a n : Int} {wd : ByteArray} {f : Bool} (h : Scn w sb x y a wd n f) (o : Obj) : Scn (w.alloc o) sb x y a wd n f := Cel.alloc h o
set_option maxHeartbeats 1000000 in
set_option maxRecDepth 100000 in
theorem numbers_any (sb x y : Nat) (w : World) (hx1 : 1 ≤ x) (hxy : x < y) (hy2 : y ≤ 6) (h : Scn w sb x y 0 (dg x) 1 false) :
    Calls Tryz.prog 126 #[.pointer (some ⟨sb, 0, none⟩)] w fun e w' => ∃ v, e = .returned (.tuple #[v, .bool true]) ∧ IsTwo w' v x y ∧ Fresh w v ∧ Scn w' sb x y 3 ⟨#[]⟩ 3 true ∧ w.grownBy w' (some sb) := by
  have hsl := h.lt
  have HS := Lib.hid h
  have HL := Lib.hid hsl
  obtain ⟨e0, he0, hz0, hz1, hz2⟩ := info_parts infoI
  clear h hsl
  go_enter Tryz.func126, Tryz.ntmps126
  go_wp2
  refine wp_loop_rounds 3 ?_
  rw [rounds_succ]
  go_wp2_with (first
    | (go_at_call 127; (with_reducible refine (num_1 sb x y _ hx1 (by omega) HS.out).mono ?_); rintro e w' ⟨rfl, rfl⟩)
    | (at_builtin
       refine wpList_append_lies _ rfl _ _ 71 rfl w.heap.size 3 e0 (.int .i64 0) 1 8 Tryz.underlying71 he0 hz0 hz1 hz2 rfl (by decide) (.slice none 0 0) 0 [] (by rfl) (World.ownsRow_nil _ _ _ _) ⟨w.heap.size, 0, none⟩ 1 1 [.int .i64 x] (by rfl) (by rfl) (World.news_of_block (cs := #[.int .i64 x]) (t := 3) (fr := (0, 0)) (heap_alloc_new w _)) (by simp [Value.oneCell']) (by omega) (by unfold maxLen; omega) (by omega) (by simp) (w.heap.size + 1) (by simp) ?_
       intro g8 c8 w4 own8 gr8 at8 lt8
       have HG := Lib.hid ((World.grownBy_alloc w (.cells #[.int .i64 x] 3) (some sb)).andThen gr8 (fun j hj => by cases hj))
       have HS4 := Lib.hid ((HS.out.al (.cells #[.int .i64 x] 3)).gr gr8 (fun e => by cases e))
       have HO := Lib.hid own8
       have HB := Lib.hid (show w.heap.size ≤ g8 from own_ge own8 g8 rfl)
       clear own8 gr8 at8 lt8)
    | (go_at_call 98
       refine (advance_1 sb x y _ (by omega) hy2 HS4.out).mono ?_
       rintro e w5 ⟨rfl, hs5, hg5⟩
       replace HG := Lib.hid (gb_trans HG.out hg5)
       have HS5 := Lib.hid hs5
       have hne : g8 ≠ sb := by have := HL.out; have := HB.out; omega
       replace HO := Lib.hid (HO.out.kept hg5 (.inr (fun e => hne (by cases e; rfl))))
       clear hs5 hg5 hne))
  rw [rounds_succ]
  go_wp2_with (first
    | (go_at_call 127; (with_reducible refine (num_2 sb x y _ (by omega) hy2 HS5.out).mono ?_); rintro e w' ⟨rfl, rfl⟩)
    | (at_builtin
       refine wpList_append_lies _ rfl _ _ 71 rfl w.heap.size 3 e0 (.int .i64 0) 1 8 Tryz.underlying71 he0 hz0 hz1 hz2 rfl (by decide) (.slice (some ⟨g8, 0, none⟩) 1 c8) 1 [.int .i64 x] (by rfl) (HO.out.alloc _) ⟨w5.heap.size, 0, none⟩ 1 1 [.int .i64 y] (by rfl) (by rfl) (World.news_of_block (cs := #[.int .i64 y]) (t := 3) (fr := (0, 0)) (heap_alloc_new w5 _)) (by simp [Value.oneCell']) (by omega) (by unfold maxLen; omega) (by omega) (by have := HG.out.size; simp; omega) (w5.heap.size + 1) (by simp) ?_
       intro g9 c9 w6 own9 gr9 at9 lt9
       have HG6 := Lib.hid ((HG.out.andThen (World.grownBy_alloc w5 (.cells #[.int .i64 y] 3) none) (fun j hj => by cases hj)).andThen gr9 (fun j hj => .inl (by cases hj; exact HB.out)))
       have hne : g8 ≠ sb := by have := HL.out; have := HB.out; omega
       have HS6 := Lib.hid ((HS5.out.al (.cells #[.int .i64 y] 3)).gr gr9 (fun e => hne (by cases e; rfl)))
       have HO9 := Lib.hid own9
       have HB9 := Lib.hid (show w.heap.size ≤ g9 from own_ge own9 g9 rfl)
       clear own9 gr9 at9 lt9 hne)
    | (go_at_call 98
       refine (advance_2 sb x y _ HS6.out).mono ?_
       rintro e w7 ⟨rfl, hs7, hg7⟩
       have HG7 := Lib.hid (gb_trans HG6.out hg7)
       have HS7 := Lib.hid hs7
       have hne : g9 ≠ sb := by have := HL.out; have := HB9.out; omega
       replace HO9 := Lib.hid (HO9.out.kept hg7 (.inr (fun e => hne (by cases e; rfl))))
       clear hs7 hg7 hne))
  rw [rounds_succ]
  go_wp2_with (go_at_call 127; (with_reducible refine (num_end sb x y 3 3 ⟨#[]⟩ _ HS7.out).mono ?_); rintro e w' ⟨rfl, rfl⟩)
  go_ret2
  obtain ⟨hc9, cs, hq, hq0, hq1⟩ := own_two HO9.out
  exact ⟨_, rfl, ⟨by omega, by omega, by omega, g9, 0, c9, rfl, hc9, hq.lt, by rw [hq.cell, hq0], by rw [hq.cell, hq1]⟩, fun b hb => (by cases hb; exact HB9.out), HS7.out, HG7.out⟩
/-- A bet of one line of two numbers, whose memory lies from block B on. -/
def IsBetF (B : Nat) (w : World) (v : Value) (x y : Int) : Prop := ∃ b o c mb mo mc, v = .agg #[.slice (some ⟨b, o, none⟩) 1 c, .bool false, .int .i64 1, .int .i64 0] ∧ 1 ≤ c ∧ B ≤ b ∧ B ≤ mb ∧ b < w.heap.size ∧ w.cell? ⟨b, o, none⟩ = some (.slice (some ⟨mb, mo, none⟩) 2 mc) ∧ w.cell? ⟨b, o + 1, none⟩ = some (.slice none 0 0) ∧ IsTwo w (.slice (some ⟨mb, mo, none⟩) 2 mc) x y
section
variable {w w1 : World} {B : Nat} {v : Value} {x y : Int}
theorem IsBetF.bet (h : IsBetF B w v x y) : IsBet w v x y := by
  obtain ⟨b, o, c, mb, mo, mc, h0, h1, _, _, h2, h3, h4, h5⟩ := h
  exact ⟨b, o, c, _, h0, h1, h2, h3, h4, h5⟩
theorem IsBetF.st (h : IsBetF B w v x y) {a : Addr} (ha : a.block < B) (u : Value) : IsBetF B (w.setCell a u) v x y := by
  obtain ⟨b, o, c, mb, mo, mc, h0, h1, k1, k2, h2, h3, h4, h5⟩ := h
  exact ⟨b, o, c, mb, mo, mc, h0, h1, k1, k2, by simpa [World.setCell] using h2, (cell_st (fun e => by omega) u).trans h3, (cell_st (fun e => by omega) u).trans h4, h5.st (by omega) u⟩
theorem IsBetF.below {B2 : Nat} (h : IsBetF B w v x y) (hb : Below B2 w w1) (hB : w.heap.size ≤ B2) : IsBetF B w1 v x y := by
  obtain ⟨b, o, c, mb, mo, mc, h0, h1, k1, k2, h2, h3, h4, h5⟩ := h
  exact ⟨b, o, c, mb, mo, mc, h0, h1, k1, k2, Nat.lt_of_lt_of_le h2 hb.size, (hb.cell (p := ⟨b, o, none⟩) (Nat.lt_of_lt_of_le h2 hB)).trans h3, (hb.cell (p := ⟨b, o + 1, none⟩) (Nat.lt_of_lt_of_le h2 hB)).trans h4, h5.below hb hB⟩
theorem IsTwo.gr {row : Option Nat} {b o c : Nat} (h : IsTwo w (.slice (some ⟨b, o, none⟩) 2 c) x y) (hg : w.grownBy w1 row) (hr : some b ≠ row) : IsTwo w1 (.slice (some ⟨b, o, none⟩) 2 c) x y := by
  obtain ⟨h0, h1, h2, b', o', c', h3, h4, h5, h6, h7⟩ := h
  cases h3
  exact ⟨h0, h1, h2, b, o, c, rfl, h4, Nat.lt_of_lt_of_le h5 hg.size, (hg.cell_far ⟨b, o, none⟩ h5 hr).trans h6, (hg.cell_far ⟨b, o + 1, none⟩ h5 hr).trans h7⟩
theorem IsBetF.gr {row : Option Nat} (h : IsBetF B w v x y) (hg : w.grownBy w1 row) (hr : ∀ k, row = some k → k < B) : IsBetF B w1 v x y := by
  obtain ⟨b, o, c, mb, mo, mc, h0, h1, k1, k2, h2, h3, h4, h5⟩ := h
  have n1 : some b ≠ row := fun e => by have := hr b e.symm; omega
  have n2 : some mb ≠ row := fun e => by have := hr mb e.symm; omega
  exact ⟨b, o, c, mb, mo, mc, h0, h1, k1, k2, Nat.lt_of_lt_of_le h2 hg.size, (hg.cell_far ⟨b, o, none⟩ h2 n1).trans h3, (hg.cell_far ⟨b, o + 1, none⟩ h2 n1).trans h4, h5.gr hg n2⟩
end
theorem own_pair {w : World} {base g c : Nat} {e : TypeId} {x y : Value} (h : w.ownsRow base e 2 (.slice (some ⟨g, 0, none⟩) 1 c) 1 [x, y]) : 1 ≤ c ∧ ∃ cs, Cel w g cs e ∧ cs[0]? = some x ∧ cs[1]? = some y := by
  rcases h.2 with ⟨hc, _⟩ | ⟨g', cap, cur, hv, _, hh, hc, _, _, hl⟩
  · cases hc
  · injection hv with h1 h2 h3
    injection h1 with h1
    injection h1 with h1
    subst h1 h3
    refine ⟨hc, cur, hh, ?_, ?_⟩
    · have : (cur.toList.take (1 * 2))[0]? = some x := by rw [hl]; rfl
      rw [List.getElem?_take] at this
      simpa using this
    · have : (cur.toList.take (1 * 2))[1]? = some y := by rw [hl]; rfl
      rw [List.getElem?_take] at this
      simpa using this
theorem sz_set (w : World) (a : Addr) (u : Value) : (w.setCell a u).heap.size = w.heap.size := by simp [World.setCell]
theorem eqPtr1 (b : Nat) (w : World) (d : Nat) : (Op.equalIn (d + 1) 209 (.pointer (some ⟨b, 0, none⟩)) (.pointer (some ⟨b, 1, none⟩))).run Tryz.prog w = .ok false w := by
  rw [Op.equalIn]
  have h := run_underlying Tryz.underlying209
  have h2 := Tryz.sizeOf71
  simp [h, h2, sameAddr, go_sem]
theorem eqPtr (b : Nat) (w : World) : (binOp BinOp.eql 209 (.pointer (some ⟨b, 0, none⟩)) (.pointer (some ⟨b, 1, none⟩))).run Tryz.prog w = .ok (.bool false) w := by
  have h := eqPtr1 b w 9999
  have e : (binOp BinOp.eql 209 (.pointer (some ⟨b, 0, none⟩)) (.pointer (some ⟨b, 1, none⟩))) = (do pure (.bool (← Op.equalIn (9999 + 1) 209 (.pointer (some ⟨b, 0, none⟩)) (.pointer (some ⟨b, 1, none⟩))))) := rfl
  rw [e]
  simp [h, go_sem]
set_option maxHeartbeats 1000000 in
set_option maxRecDepth 100000 in
theorem lines_any (sb x y : Nat) (w : World) (hx1 : 1 ≤ x) (hxy : x < y) (hy2 : y ≤ 6) (h : Scn w sb x y 0 (dg x) 1 false) :
    Calls Tryz.prog 95 #[.pointer (some ⟨sb, 0, none⟩)] w fun e w' => ∃ u, e = .returned (.tuple #[u, .bool true]) ∧ IsBetF w.heap.size w' (.agg #[u, .bool false, .int .i64 1, .int .i64 0]) x y ∧ Scn w' sb x y 3 ⟨#[]⟩ 3 true ∧ w.grownBy w' (some sb) := by
  have hsl := h.lt
  have HS := Lib.hid h
  have HL := Lib.hid hsl
  obtain ⟨e0, he0, hz0, hz1, hz2⟩ := info_parts infoL
  clear h hsl
  go_enter Tryz.func95, Tryz.ntmps95
  go_wp2
  go_step3
  go_wp2
  go_step3
  go_wp2
  refine wp_loop_rounds 1 ?_
  rw [rounds_succ]
  go_wp2
  refine wp_loop_rounds 1 ?_
  rw [rounds_succ]
  go_wp2_with fail
  obtain ⟨W1, hW1⟩ : ∃ W1, W1 = (w.alloc (.cells #[.slice none 0 0, .slice none 0 0] 118)).alloc (.cells #[.pointer (some ⟨w.heap.size, 0, none⟩), .pointer (some ⟨w.heap.size, 1, none⟩)] 209) := ⟨_, rfl⟩
  have hX1 : w.grownBy W1 (some sb) := by rw [hW1]; exact (World.grownBy_alloc w _ _).trans (World.grownBy_alloc _ _ _)
  have hA : Cel W1 w.heap.size #[.slice none 0 0, .slice none 0 0] 118 := by rw [hW1]; exact (Cel.new _ _ _).alloc _
  have hne : w.heap.size ≠ sb := by have := HL.out; omega
  rw [← hW1]
  refine (numbers_any sb x y W1 hx1 hxy hy2 (by rw [hW1]; exact (HS.out.al _).al _)).mono ?_
  rintro e w2 ⟨vm, rfl, hm, hf, hs, hg⟩
  have HX := Lib.hid (gb_trans hX1 hg)
  have hA2 := cel_gb hA hg hne
  have a0 := hA2.cell 0
  have a1 := hA2.cell 1
  have f0 := hA2.free 0
  have al := hA2.lt
  simp at a0 a1
  have hmB : ∀ k, vm.ownBlock = some k → w.heap.size < k := fun k hk => by have h1 := hf k hk; have h2 := hA.lt; omega
  have hm' := hm
  obtain ⟨_, _, _, mb, mo, mc, rfl, _⟩ := hm'
  have hmb : w.heap.size < mb := hmB mb rfl
  have HM := Lib.hid (hm.st (a := ⟨w.heap.size, 0, none⟩) (show w.heap.size ≠ mb by omega) (.slice (some ⟨mb, mo, none⟩) 2 mc))
  have HE := Lib.hid (show Scn (w2.setCell ⟨w.heap.size, 0, none⟩ (.slice (some ⟨mb, mo, none⟩) 2 mc)) sb x y 3 ⟨#[]⟩ 3 true from Cel.other hs (a := ⟨w.heap.size, 0, none⟩) (fun e => hne e.symm) _)
  have HNE := Lib.hid hne
  clear hX1 hA hne hs hg hA2 hm hf hmB hW1
  have hpe := eqPtr w.heap.size
  obtain ⟨W2, hW2⟩ : ∃ W2, W2 = (w2.setCell ⟨w.heap.size, 0, none⟩ (.slice (some ⟨mb, mo, none⟩) 2 mc)) := ⟨_, rfl⟩
  have HN := Lib.hid (show ((w2.setCell ⟨w.heap.size, 0, none⟩ (.slice (some ⟨mb, mo, none⟩) 2 mc)).alloc (.cells #[.slice (some ⟨mb, mo, none⟩) 2 mc, .slice none 0 0] 118)).heap[w2.heap.size]? = some (.cells #[.slice (some ⟨mb, mo, none⟩) 2 mc, .slice none 0 0] 118 (0, 0)) by
    have h := Cel.new (w2.setCell ⟨w.heap.size, 0, none⟩ (.slice (some ⟨mb, mo, none⟩) 2 mc)) #[.slice (some ⟨mb, mo, none⟩) 2 mc, .slice none 0 0] 118
    rw [sz_set] at h
    exact h)
  have HX2 := Lib.hid ((HX.out.andThen (⟨rfl, rfl, rfl, by rw [sz_set]; exact Nat.le_refl _, fun k hk hne => Below.heap_setCell _ _ _ _ (fun e => hne (by rw [e]))⟩ : w2.grownBy (w2.setCell ⟨w.heap.size, 0, none⟩ (.slice (some ⟨mb, mo, none⟩) 2 mc)) (some w.heap.size)) (fun j hj => .inl (by cases hj; exact Nat.le_refl _))).andThen (World.grownBy_alloc _ (.cells #[.slice (some ⟨mb, mo, none⟩) 2 mc, .slice none 0 0] 118) none) (fun j hj => by cases hj))
  have HM2 := Lib.hid (HM.out.gr (World.grownBy_alloc _ (.cells #[.slice (some ⟨mb, mo, none⟩) 2 mc, .slice none 0 0] 118) none) (fun e => by cases e))
  have HE2 := Lib.hid (HE.out.al (.cells #[.slice (some ⟨mb, mo, none⟩) 2 mc, .slice none 0 0] 118))
  clear hW2 W2
  go_wp2_with (first
    | (go_at_call 97; (with_reducible refine (is_end sb x y _ _ _ _ _ HE.out).mono ?_); rintro e w' ⟨rfl, rfl⟩)
    | (at_builtin
       refine wpList_append_lies _ rfl _ _ 77 rfl w.heap.size 118 e0 (.agg #[.slice none 0 0, .slice none 0 0]) 2 48 Tryz.underlying77 he0 hz0 hz1 hz2 rfl (by decide) (.slice none 0 0) 0 [] (by rfl) (World.ownsRow_nil _ _ _ _) ⟨w2.heap.size, 0, none⟩ 1 1 [.slice (some ⟨mb, mo, none⟩) 2 mc, .slice none 0 0] (by rfl) (by rfl) (World.news_of_block (cs := #[.slice (some ⟨mb, mo, none⟩) 2 mc, .slice none 0 0]) (t := 118) (fr := (0, 0)) HN.out) (by simp [Value.oneCell']) (by omega) (by unfold maxLen; omega) (by omega) (by have := HX2.out.size; exact this) _ rfl ?_
       intro g8 c8 w4 own8 gr8 at8 lt8
       have HX4 := Lib.hid (HX2.out.andThen gr8 (fun j hj => by cases hj))
       have HM4 := Lib.hid (HM2.out.gr gr8 (fun e => by cases e))
       have HE4 := Lib.hid (HE2.out.gr gr8 (fun e => by cases e))
       have HO := Lib.hid own8
       have HB := Lib.hid (show w.heap.size ≤ g8 from own_ge own8 g8 rfl)
       clear own8 gr8 at8)
    | (go_at_call 97; (with_reducible refine (is_end sb x y _ _ _ _ _ HE4.out).mono ?_); rintro e w' ⟨rfl, rfl⟩))
  rw [Exit.noGoto_ret]
  go_ret2
  obtain ⟨hc8, cs, hq, hq0, hq1⟩ := own_pair HO.out
  exact ⟨_, rfl, ⟨g8, 0, c8, mb, mo, mc, rfl, hc8, HB.out, by omega, hq.lt, by rw [hq.cell, hq0], by rw [hq.cell, hq1], HM4.out⟩, HE4.out, HX4.out⟩
end Go.Proofs.YtnnocbelgfhecaaGreatDoor
/- slip.Parse at a text of two digits. -/
set_option linter.unusedSimpArgs false
namespace Go.Proofs.YtnnocbelgfhecaaGreatDoor
open Go.ChangeShapes Go.WideShapes Go.ChangeAt Go.RowKit Go.Lott
theorem IsBetF.mono {w : World} {B B2 : Nat} {v : Value} {x y : Int} (h : IsBetF B w v x y) (hB : B2 ≤ B) : IsBetF B2 w v x y := by
  obtain ⟨b, o, c, mb, mo, mc, h0, h1, k1, k2, r⟩ := h
  exact ⟨b, o, c, mb, mo, mc, h0, h1, Nat.le_trans hB k1, Nat.le_trans hB k2, r⟩
theorem IsBetF.drew {w : World} {B : Nat} {v : Value} {x y : Int} (h : IsBetF B w v x y) : IsBetF B w.drew v x y := h
theorem scn_st {w : World} {sb x y : Nat} {a n : Int} {wd : ByteArray} {f : Bool} (h : Scn w sb x y a wd n f) {p : Addr} (hp : p.block ≠ sb) (u : Value) : Scn (w.setCell p u) sb x y a wd n f := Cel.other h (fun e => hp e.symm) u
theorem draws_end (sb x y : Nat) (w : World) (h : Scn w sb x y 3 ⟨#[]⟩ 3 true) : Calls Tryz.prog 96 #[.pointer (some ⟨sb, 0, none⟩)] w (RetS (.tuple #[.int .i64 1, .bool true]) w) := by
  have HE := Lib.hid h
  clear h
  go_enter Tryz.func96, Tryz.ntmps96
  go_wp2_with (go_at_call 97; (with_reducible refine (is_end sb x y _ _ _ _ _ HE.out).mono ?_); rintro e w' ⟨rfl, rfl⟩)
  go_ret2
  exact ⟨rfl, rfl⟩
set_option maxRecDepth 100000 in
theorem addons_end (v : Value) (sb x y : Nat) (w : World) (h : Scn w sb x y 3 ⟨#[]⟩ 3 true) : Calls Tryz.prog 99 #[.pointer (some ⟨sb, 0, none⟩), gameV v] w (RetB (.tuple #[.int .i64 0, .bool true]) w) := by
  have HE := Lib.hid (h.al (.cells #[.string nmB, .int .i64 1, .int .i64 200, .int .i64 2, .int .i64 6, .int .i64 0, .int .i64 0, .int .i64 0, .int .i64 4, .int .i64 4, .int .i64 32, .int .i64 1230, .int .i64 30, .int .i64 15, .int .i64 90, .int .i64 5000, .int .i64 0, .int .i64 1, .int .i64 0, .int .i64 0, .slice none 0 0, v] 27))
  clear h
  unfold gameV
  go_enter Tryz.func99, Tryz.ntmps99
  go_wp2_with (go_at_call 97; (with_reducible refine (is_end sb x y _ _ _ _ _ HE.out).mono ?_); rintro e w' ⟨rfl, rfl⟩)
  go_ret2
  exact ⟨rfl, (Below.refl _ _).alloc (Nat.le_refl _) _⟩
set_option maxHeartbeats 2000000 in
set_option maxRecDepth 100000 in
theorem read_any (v : Value) (sb x y : Nat) (w : World) (hx1 : 1 ≤ x) (hxy : x < y) (hy2 : y ≤ 6) (h : Scn w sb x y 0 (dg x) 1 false) :
    Calls Tryz.prog 65 #[.pointer (some ⟨sb, 0, none⟩), gameV v] w fun e w' => ∃ u, e = .returned (.tuple #[u, .bool true]) ∧ IsBetF w.heap.size w' u x y ∧ Scn w' sb x y 3 ⟨#[]⟩ 3 true ∧ w.grownBy w' (some sb) := by
  have HL := Lib.hid h.lt
  obtain ⟨W1, hW1⟩ : ∃ W1, W1 = ((w.alloc (.cells #[.string nmB, .int .i64 1, .int .i64 200, .int .i64 2, .int .i64 6, .int .i64 0, .int .i64 0, .int .i64 0, .int .i64 4, .int .i64 4, .int .i64 32, .int .i64 1230, .int .i64 30, .int .i64 15, .int .i64 90, .int .i64 5000, .int .i64 0, .int .i64 1, .int .i64 0, .int .i64 0, .slice none 0 0, v] 27)).alloc (.cells #[.slice none 0 0, .bool false, .int .i64 0, .int .i64 0] 79)).alloc (.cells #[.slice none 0 0, .bool false, .int .i64 0, .int .i64 0] 79) := ⟨_, rfl⟩
  have hX : w.grownBy W1 (some sb) := by rw [hW1]; exact ((World.grownBy_alloc w _ _).trans (World.grownBy_alloc _ _ _)).trans (World.grownBy_alloc _ _ _)
  have hG : Cel W1 w.heap.size #[.string nmB, .int .i64 1, .int .i64 200, .int .i64 2, .int .i64 6, .int .i64 0, .int .i64 0, .int .i64 0, .int .i64 4, .int .i64 4, .int .i64 32, .int .i64 1230, .int .i64 30, .int .i64 15, .int .i64 90, .int .i64 5000, .int .i64 0, .int .i64 1, .int .i64 0, .int .i64 0, .slice none 0 0, v] 27 := by rw [hW1]; exact ((Cel.new _ _ _).alloc _).alloc _
  have hR : Cel W1 (w.heap.size + 1) #[.slice none 0 0, .bool false, .int .i64 0, .int .i64 0] 79 := by
    rw [hW1]
    have := (Cel.new (w.alloc (.cells #[.string nmB, .int .i64 1, .int .i64 200, .int .i64 2, .int .i64 6, .int .i64 0, .int .i64 0, .int .i64 0, .int .i64 4, .int .i64 4, .int .i64 32, .int .i64 1230, .int .i64 30, .int .i64 15, .int .i64 90, .int .i64 5000, .int .i64 0, .int .i64 1, .int .i64 0, .int .i64 0, .slice none 0 0, v] 27)) #[.slice none 0 0, .bool false, .int .i64 0, .int .i64 0] 79).alloc (.cells #[.slice none 0 0, .bool false, .int .i64 0, .int .i64 0] 79)
    simpa using this
  have hB : Cel W1 (w.heap.size + 1 + 1) #[.slice none 0 0, .bool false, .int .i64 0, .int .i64 0] 79 := by
    rw [hW1]
    have := (Cel.new ((w.alloc (.cells #[.string nmB, .int .i64 1, .int .i64 200, .int .i64 2, .int .i64 6, .int .i64 0, .int .i64 0, .int .i64 0, .int .i64 4, .int .i64 4, .int .i64 32, .int .i64 1230, .int .i64 30, .int .i64 15, .int .i64 90, .int .i64 5000, .int .i64 0, .int .i64 1, .int .i64 0, .int .i64 0, .slice none 0 0, v] 27)).alloc (.cells #[.slice none 0 0, .bool false, .int .i64 0, .int .i64 0] 79)) #[.slice none 0 0, .bool false, .int .i64 0, .int .i64 0] 79)
    simpa using this
  have hS : Scn W1 sb x y 0 (dg x) 1 false := by rw [hW1]; exact ((h.al _).al _).al _
  have HW := Lib.hid hW1
  have HAD := Lib.hid fun W h => addons_end v sb x y W h
  have n0 : w.heap.size ≠ sb := by have := HL.out; omega
  have n1 : w.heap.size + 1 ≠ sb := by have := HL.out; omega
  have n2 : w.heap.size + 1 + 1 ≠ sb := by have := HL.out; omega
  clear hW1
  unfold gameV at *
  go_enter Tryz.func65, Tryz.ntmps65
  go_wp2_with fail
  rw [← HW.out]
  refine (lines_any sb x y W1 hx1 hxy hy2 hS).mono ?_
  rintro e w2 ⟨u, rfl, hbet, hs, hg⟩
  have hW1s : w.heap.size + 1 + 1 < W1.heap.size := hB.lt
  have HX := Lib.hid (gb_trans hX hg)
  have HG := Lib.hid (cel_gb hG hg n0)
  have HR := Lib.hid (cel_gb hR hg n1)
  have HB := Lib.hid (cel_gb hB hg n2)
  have HS := Lib.hid hs
  have HBET := Lib.hid hbet
  obtain ⟨ub, uo, uc, mb, mo, mc, heq, _⟩ := hbet
  obtain rfl : u = .slice (some ⟨ub, uo, none⟩) 1 uc := by simpa using heq
  obtain ⟨W3, hW3⟩ : ∃ W3, W3 = (w2.setCell ⟨w.heap.size + 1 + 1, 0, none⟩ (.slice (some ⟨ub, uo, none⟩) 1 uc)).setCell ⟨w.heap.size + 1 + 1, 2, none⟩ (.int .i64 1) := ⟨_, rfl⟩
  have HS2 := Lib.hid (scn_st HS.out (p := ⟨w.heap.size + 1 + 1, 0, none⟩) n2 (.slice (some ⟨ub, uo, none⟩) 1 uc))
  have HS3 := Lib.hid (show Scn W3 sb x y 3 ⟨#[]⟩ 3 true by rw [hW3]; exact scn_st HS2.out (p := ⟨w.heap.size + 1 + 1, 2, none⟩) n2 _)
  have HB3 := Lib.hid (show Cel W3 (w.heap.size + 1 + 1) #[.slice (some ⟨ub, uo, none⟩) 1 uc, .bool false, .int .i64 1, .int .i64 0] 79 by
    rw [hW3]
    have := (HB.out.set 0 (.slice (some ⟨ub, uo, none⟩) 1 uc)).set 2 (.int .i64 1)
    simpa using this)
  have HR3 := Lib.hid (show Cel W3 (w.heap.size + 1) #[.slice none 0 0, .bool false, .int .i64 0, .int .i64 0] 79 by
    rw [hW3]; exact (HR.out.other (a := ⟨w.heap.size + 1 + 1, 0, none⟩) (by show w.heap.size + 1 ≠ w.heap.size + 1 + 1; omega) _).other (a := ⟨w.heap.size + 1 + 1, 2, none⟩) (by show w.heap.size + 1 ≠ w.heap.size + 1 + 1; omega) _)
  have HG3 := Lib.hid (show Cel W3 w.heap.size #[.string nmB, .int .i64 1, .int .i64 200, .int .i64 2, .int .i64 6, .int .i64 0, .int .i64 0, .int .i64 0, .int .i64 4, .int .i64 4, .int .i64 32, .int .i64 1230, .int .i64 30, .int .i64 15, .int .i64 90, .int .i64 5000, .int .i64 0, .int .i64 1, .int .i64 0, .int .i64 0, .slice none 0 0, v] 27 by
    rw [hW3]; exact (HG.out.other (a := ⟨w.heap.size + 1 + 1, 0, none⟩) (by show w.heap.size ≠ w.heap.size + 1 + 1; omega) _).other (a := ⟨w.heap.size + 1 + 1, 2, none⟩) (by show w.heap.size ≠ w.heap.size + 1 + 1; omega) _)
  have HX3 := Lib.hid (show w.grownBy W3 (some sb) by
    rw [hW3]
    have k1 : w2.grownBy (w2.setCell ⟨w.heap.size + 1 + 1, 0, none⟩ (.slice (some ⟨ub, uo, none⟩) 1 uc)) (some (w.heap.size + 1 + 1)) := gb_set (gb_refl _ _) _ _
    exact HX.out.andThen (gb_set k1 2 (.int .i64 1)) (fun j hj => .inl (by cases hj; omega)))
  have HBE3 := Lib.hid (show IsBetF W1.heap.size W3 (.agg #[.slice (some ⟨ub, uo, none⟩) 1 uc, .bool false, .int .i64 1, .int .i64 0]) x y by
    rw [hW3]; exact (HBET.out.st (a := ⟨w.heap.size + 1 + 1, 0, none⟩) hW1s _).st (a := ⟨w.heap.size + 1 + 1, 2, none⟩) hW1s _)
  have HW3 := Lib.hid hW3
  have b0 := HB.out.cell 0
  have b1 := HB.out.cell 1
  have b2 := HB.out.cell 2
  have b3 := HB.out.cell 3
  have bf := HB.out.free 0
  have bf2 := HB.out.free 2
  have bl := HB.out.lt
  simp at b0 b1 b2 b3
  clear hW3 hs hg hX hG hR hB hS HW
  go_wp2_with (first
    | (go_at_call 96; (with_reducible refine (draws_end sb x y _ HS2.out).mono ?_); rintro e w' ⟨rfl, rfl⟩))
  rw [← HW3.out]
  refine (is_end sb x y _ _ _ _ _ HS3.out).mono ?_
  rintro e w' ⟨rfl, rfl⟩
  clear b0 b1 b2 b3 bf bf2 bl HW3
  go_wp2_with (first
    | (refine wpList_load_row rfl 27 _ rfl w.heap.size rfl _ _ _ _ HG3.out Tryz.underlying27 rfl (by kernel_rfl) ?_)
    | (go_at_call 99; (with_reducible refine (HAD.out _ HS3.out).mono ?_)
       rintro e w4 ⟨rfl, hb1⟩
       have HS4 := Lib.hid (show Scn w4 sb x y 3 ⟨#[]⟩ 3 true from Cel.below HS3.out hb1 HS3.out.lt)
       have HB4 := Lib.hid (HB3.out.below hb1 HB3.out.lt)
       have HR4 := Lib.hid (HR3.out.below hb1 HR3.out.lt)
       have HX4 := Lib.hid (gb_of_below HX3.out hb1)
       have HBE4 := Lib.hid (HBE3.out.below hb1 (Nat.le_refl _))
       have b0 := HB4.out.cell 0
       have b1 := HB4.out.cell 1
       have b2 := HB4.out.cell 2
       have b3 := HB4.out.cell 3
       have bf := HB4.out.free 3
       have bl := HB4.out.lt
       simp at b0 b1 b2 b3
       clear hb1))
  obtain ⟨W5, hW5⟩ : ∃ W5, W5 = w4.setCell ⟨w.heap.size + 1 + 1, 3, none⟩ (.int .i64 0) := ⟨_, rfl⟩
  have HS5 := Lib.hid (show Scn W5 sb x y 3 ⟨#[]⟩ 3 true by rw [hW5]; exact scn_st HS4.out (p := ⟨w.heap.size + 1 + 1, 3, none⟩) n2 _)
  have HB5 := Lib.hid (show Cel W5 (w.heap.size + 1 + 1) #[.slice (some ⟨ub, uo, none⟩) 1 uc, .bool false, .int .i64 1, .int .i64 0] 79 by
    rw [hW5]
    have := (HB4.out.set 3 (.int .i64 0))
    simpa using this)
  have HR5 := Lib.hid (show Cel W5 (w.heap.size + 1) #[.slice none 0 0, .bool false, .int .i64 0, .int .i64 0] 79 by
    rw [hW5]; exact (HR4.out.other (a := ⟨w.heap.size + 1 + 1, 3, none⟩) (by show w.heap.size + 1 ≠ w.heap.size + 1 + 1; omega) _))
  have HX5 := Lib.hid (show w.grownBy W5 (some sb) by
    rw [hW5]
    have k1 : w4.grownBy (w4.setCell ⟨w.heap.size + 1 + 1, 3, none⟩ (.int .i64 0)) (some (w.heap.size + 1 + 1)) := gb_set (gb_refl _ _) _ _
    exact HX4.out.andThen k1 (fun j hj => .inl (by cases hj; omega)))
  have HBE5 := Lib.hid (show IsBetF W1.heap.size W5 (.agg #[.slice (some ⟨ub, uo, none⟩) 1 uc, .bool false, .int .i64 1, .int .i64 0]) x y by
    rw [hW5]; exact (HBE4.out.st (a := ⟨w.heap.size + 1 + 1, 3, none⟩) hW1s _))
  rw [← hW5]
  clear b0 b1 b2 b3 bf bl hW5
  have b0 := HB5.out.cell 0
  have b1 := HB5.out.cell 1
  have b2 := HB5.out.cell 2
  have b3 := HB5.out.cell 3
  have bl := HB5.out.lt
  have r0 := HR5.out.cell 0
  have r1 := HR5.out.cell 1
  have r2 := HR5.out.cell 2
  have r3 := HR5.out.cell 3
  have rf0 := HR5.out.free 0
  have rf1 := HR5.out.free 1
  have rf2 := HR5.out.free 2
  have rf3 := HR5.out.free 3
  have rl := HR5.out.lt
  have s4 := Cel.cell HS5.out 4
  simp at b0 b1 b2 b3 r0 r1 r2 r3 s4
  have n1' : sb ≠ w.heap.size + 1 := n1.symm
  go_region_held3 (fun w' => w'.cell? ⟨w.heap.size + 1 + 1, 0, none⟩ = some (.slice (some ⟨ub, uo, none⟩) 1 uc) ∧ w'.cell? ⟨w.heap.size + 1 + 1, 1, none⟩ = some (.bool false) ∧ w'.cell? ⟨w.heap.size + 1 + 1, 2, none⟩ = some (.int .i64 1) ∧ w'.cell? ⟨w.heap.size + 1 + 1, 3, none⟩ = some (.int .i64 0) ∧ w'.cell? ⟨sb, 4, none⟩ = some (.bool true)) (go_keep) (fail)
  go_wp2
  refine bodyPost_ret (v := .tuple #[.agg #[.slice (some ⟨ub, uo, none⟩) 1 uc, .bool false, .int .i64 1, .int .i64 0], .bool true]) (by simp [results, Tryz.results65, go_sem, r0, r1, r2, r3]) rfl ⟨_, rfl, ?_, ?_, ?_⟩
  · have hl : w.heap.size + 1 < W1.heap.size := by omega
    exact (((((HBE5.out.st hl _).st hl _).st hl _).st hl _).drew).mono (by omega)
  · exact Cel.drew (scn_st (scn_st (scn_st (scn_st HS5.out (show w.heap.size + 1 ≠ sb by omega) _) (show w.heap.size + 1 ≠ sb by omega) _) (show w.heap.size + 1 ≠ sb by omega) _) (show w.heap.size + 1 ≠ sb by omega) _)
  · refine gb_drew ?_
    exact HX5.out.andThen (gb_set (gb_set (gb_set (gb_set (gb_refl _ (w.heap.size + 1)) 0 _) 1 _) 2 _) 3 _) (fun j hj => .inl (by cases hj; omega))
set_option maxHeartbeats 2000000 in
set_option maxRecDepth 100000 in
theorem parse_any (v : Value) (x y : Nat) (w : World) (ht : IsTier w v) (hx1 : 1 ≤ x) (hxy : x < y) (hy2 : y ≤ 6) :
    Calls Tryz.prog 41 #[gameV v, .string (tx x y)] w fun e w' => ∃ u, e = .returned (.tuple #[u, .int .i64 0, .int .i64 0]) ∧ IsBetF w.heap.size w' u x y ∧ Below w.heap.size w w' := by
  obtain ⟨W1, hW1⟩ : ∃ W1, W1 = (w.alloc (.cells #[.string nmB, .int .i64 1, .int .i64 200, .int .i64 2, .int .i64 6, .int .i64 0, .int .i64 0, .int .i64 0, .int .i64 4, .int .i64 4, .int .i64 32, .int .i64 1230, .int .i64 30, .int .i64 15, .int .i64 90, .int .i64 5000, .int .i64 0, .int .i64 1, .int .i64 0, .int .i64 0, .slice none 0 0, v] 27)).alloc (.cells #[.slice none 0 0, .bool false, .int .i64 0, .int .i64 0] 79) := ⟨_, rfl⟩
  have HX := Lib.hid (show Below w.heap.size w W1 by rw [hW1]; exact ((Below.refl _ _).alloc (Nat.le_refl _) _).alloc (by simp) _)
  have HG0 := Lib.hid ((Cel.new w #[.string nmB, .int .i64 1, .int .i64 200, .int .i64 2, .int .i64 6, .int .i64 0, .int .i64 0, .int .i64 0, .int .i64 4, .int .i64 4, .int .i64 32, .int .i64 1230, .int .i64 30, .int .i64 15, .int .i64 90, .int .i64 5000, .int .i64 0, .int .i64 1, .int .i64 0, .int .i64 0, .slice none 0 0, v] 27).alloc (.cells #[.slice none 0 0, .bool false, .int .i64 0, .int .i64 0] 79))
  have HG := Lib.hid (show Cel W1 w.heap.size #[.string nmB, .int .i64 1, .int .i64 200, .int .i64 2, .int .i64 6, .int .i64 0, .int .i64 0, .int .i64 0, .int .i64 4, .int .i64 4, .int .i64 32, .int .i64 1230, .int .i64 30, .int .i64 15, .int .i64 90, .int .i64 5000, .int .i64 0, .int .i64 1, .int .i64 0, .int .i64 0, .slice none 0 0, v] 27 by rw [hW1]; exact HG0.out)
  have HR := Lib.hid (show Cel W1 (w.heap.size + 1) #[.slice none 0 0, .bool false, .int .i64 0, .int .i64 0] 79 by
    rw [hW1]
    have := (Cel.new (w.alloc (.cells #[.string nmB, .int .i64 1, .int .i64 200, .int .i64 2, .int .i64 6, .int .i64 0, .int .i64 0, .int .i64 0, .int .i64 4, .int .i64 4, .int .i64 32, .int .i64 1230, .int .i64 30, .int .i64 15, .int .i64 90, .int .i64 5000, .int .i64 0, .int .i64 1, .int .i64 0, .int .i64 0, .slice none 0 0, v] 27)) #[.slice none 0 0, .bool false, .int .i64 0, .int .i64 0] 79)
    simpa using this)
  have HT := Lib.hid (ht.below HX.out (Nat.le_refl _))
  have HW := Lib.hid hW1
  have HCN := Lib.hid fun W (h : IsTier W v) => count_any v W h
  have HRD := Lib.hid fun sb W h => read_any v sb x y W hx1 hxy hy2 h
  have HCK := Lib.hid fun W vb (h1 : IsTier W v) (h2 : IsBet W vb x y) => BCheck_any v vb x y W h1 h2
  have hts : (tx x y).size = 3 := rfl
  have HT0 := Lib.hid ht
  clear hW1 ht
  unfold gameV at *
  go_enter Tryz.func41, Tryz.ntmps41
  go_wp2_with (first
    | (refine wpList_load_row rfl 27 _ rfl w.heap.size rfl _ _ _ _ HG0.out Tryz.underlying27 rfl (by kernel_rfl) ?_)
    | ((rw [← HW.out]; go_at_call 63); (with_reducible refine (HCN.out _ HT.out).mono ?_)
       rintro e w1 ⟨rfl, hb1⟩
       replace HX := Lib.hid (HX.out.trans (hb1.mono HX.out.size))
       replace HG := Lib.hid (HG.out.below hb1 HG.out.lt)
       replace HR := Lib.hid (HR.out.below hb1 HR.out.lt)
       replace HT := Lib.hid (HT.out.below hb1 (Nat.le_refl _))
       clear hb1))
  obtain ⟨W2, hW2⟩ : ∃ W2, W2 = w1.alloc (.cells #[.string (tx x y), .int .i64 0, .string ⟨#[]⟩, .int .i64 0, .bool false] 134) := ⟨_, rfl⟩
  have hb1 : Below w1.heap.size w1 W2 := by rw [hW2]; exact (Below.refl _ _).alloc (Nat.le_refl _) _
  have hsc : Scn W2 w1.heap.size x y 0 ⟨#[]⟩ 0 false := by rw [hW2]; exact Cel.new _ _ _
  rw [← hW2]
  have hws : w.heap.size + 1 < w1.heap.size := HR.out.lt
  replace HX := Lib.hid (HX.out.trans (hb1.mono HX.out.size))
  replace HG := Lib.hid (HG.out.below hb1 HG.out.lt)
  replace HR := Lib.hid (HR.out.below hb1 HR.out.lt)
  replace HT := Lib.hid (HT.out.below hb1 (Nat.le_refl _))
  clear hb1 hW2
  refine (load_0 w1.heap.size x y 0 0 ⟨#[]⟩ W2 hx1 (by omega) hsc).mono ?_
  rintro e w2 ⟨rfl, hs2, hg2⟩
  replace HX := Lib.hid (gb_below HX.out hg2 HX.out.size (by omega))
  replace HG := Lib.hid (cel_gb HG.out hg2 (by omega))
  replace HR := Lib.hid (cel_gb HR.out hg2 (by omega))
  have HS := Lib.hid hs2
  clear hs2 hsc
  go_wp2_with (first
    | (refine wpList_load_row rfl 27 _ rfl w.heap.size rfl _ _ _ _ HG.out Tryz.underlying27 rfl (by kernel_rfl) ?_)
    | (go_at_call 65; (with_reducible refine (HRD.out _ _ HS.out).mono ?_)
       rintro e w3 ⟨u, rfl, hbet, hs3, hg3⟩
       replace HX := Lib.hid (gb_below HX.out hg3 HX.out.size (by omega))
       replace HG := Lib.hid (cel_gb HG.out hg3 (by omega))
       replace HR := Lib.hid (cel_gb HR.out hg3 (by omega))
       have hw2s : w.heap.size + 1 < w2.heap.size := Nat.lt_trans hws HS.out.lt
       obtain ⟨ub, uo, uc, mb, mo, mc, rfl, _⟩ := id hbet
       have HBET := Lib.hid (hbet.below ((Below.refl w3.heap.size w3).alloc (Nat.le_refl _) (.cells #[.slice (some ⟨ub, uo, none⟩) 1 uc, .bool false, .int .i64 1, .int .i64 0] 79)) (Nat.le_refl _))
       have HB := Lib.hid (Cel.new w3 #[.slice (some ⟨ub, uo, none⟩) 1 uc, .bool false, .int .i64 1, .int .i64 0] 79)
       replace HX := Lib.hid (HX.out.alloc HX.out.size (.cells #[.slice (some ⟨ub, uo, none⟩) 1 uc, .bool false, .int .i64 1, .int .i64 0] 79))
       replace HG := Lib.hid (HG.out.alloc (.cells #[.slice (some ⟨ub, uo, none⟩) 1 uc, .bool false, .int .i64 1, .int .i64 0] 79))
       replace HR := Lib.hid (HR.out.alloc (.cells #[.slice (some ⟨ub, uo, none⟩) 1 uc, .bool false, .int .i64 1, .int .i64 0] 79))
       clear hs3 hg3 hg2)
    | (go_at_call 51; (with_reducible refine (HCK.out _ _ (HT0.out.below HX.out (Nat.le_refl _)) HBET.out.bet).mono ?_)
       rintro e w4 ⟨rfl, hb1⟩
       replace HX := Lib.hid (HX.out.trans (hb1.mono HX.out.size))
       replace HR := Lib.hid (HR.out.below hb1 HR.out.lt)
       replace HB := Lib.hid (HB.out.below hb1 HB.out.lt)
       replace HBET := Lib.hid (HBET.out.below hb1 (Nat.le_refl _))
       have b0 := HB.out.cell 0
       have b1 := HB.out.cell 1
       have b2 := HB.out.cell 2
       have b3 := HB.out.cell 3
       have bl := HB.out.lt
       have r0 := HR.out.cell 0
       have r1 := HR.out.cell 1
       have r2 := HR.out.cell 2
       have r3 := HR.out.cell 3
       have rf0 := HR.out.free 0
       have rf1 := HR.out.free 1
       have rf2 := HR.out.free 2
       have rf3 := HR.out.free 3
       have rl := HR.out.lt
       simp at b0 b1 b2 b3 r0 r1 r2 r3
       clear hb1))
  refine bodyPost_ret (v := .tuple #[.agg #[.slice (some ⟨ub, uo, none⟩) 1 uc, .bool false, .int .i64 1, .int .i64 0], .int .i64 0, .int .i64 0]) (by simp [results, Tryz.results41, go_sem, r0, r1, r2, r3]) rfl ⟨_, rfl, ?_, ?_⟩
  · exact ((((HBET.out.st (by show w.heap.size + 1 < w2.heap.size; omega) _).st (by show w.heap.size + 1 < w2.heap.size; omega) _).st (by show w.heap.size + 1 < w2.heap.size; omega) _).st (by show w.heap.size + 1 < w2.heap.size; omega) _).mono (by omega)
  · exact (((HX.out.setCell (by show w.heap.size ≤ w.heap.size + 1; omega) _).setCell (by show w.heap.size ≤ w.heap.size + 1; omega) _).setCell (by show w.heap.size ≤ w.heap.size + 1; omega) _).setCell (by show w.heap.size ≤ w.heap.size + 1; omega) _
end Go.Proofs.YtnnocbelgfhecaaGreatDoor
