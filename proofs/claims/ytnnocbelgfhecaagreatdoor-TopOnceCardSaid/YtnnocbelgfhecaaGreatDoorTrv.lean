/- Signed receipts. -/
import Derived.Test.YtnnocbelgfhecaaGreatDoorTrt
import Derived.Laws.BytesArg
set_option linter.unusedSimpArgs false
namespace Go.Proofs.YtnnocbelgfhecaaGreatDoor
open Go.ChangeShapes Go.WideShapes Go.ChangeAt Go.RowKit Go.Lott
theorem newWriter_any (w : World) : Calls Tryz.prog 120 #[] w fun e w' => e = .returned (.pointer (some ⟨w.heap.size, 0, none⟩)) ∧ Wr w' w.heap.size w.heap.size [] ∧ Below w.heap.size w w' := by
  go_enter Tryz.func120, Tryz.ntmps120
  go_wp2
  go_ret
  exact ⟨rfl, ⟨Nat.le_refl _, _, Cel.new _ _ _, World.ownsRow_nil _ _ _ _, fun e => by cases e⟩, (Below.refl _ _).alloc (Nat.le_refl _) _⟩
/-- The signed bytes of a receipt. -/
def encT (s : ByteArray) : List Int := ub s.size ++ bts s
def encR (a b c : ByteArray) (x y z : Nat) : List Int := [] ++ encT a ++ encT b ++ encT c ++ ub (2 * x) ++ ub (2 * y) ++ ub (2 * z)
theorem encT_len (s : ByteArray) (h : s.size ≤ 100) : (encT s).length ≤ 201 := by
  unfold encT; rw [List.length_append, bts_len]; have := ub_len s.size; omega
/-- A receipt. -/
def rcpV (a b c : ByteArray) (x y z : Nat) (s : Int) : Value := .agg #[.string a, .string b, .string c, .int .i64 x, .int .i64 y, .int .i64 z, .int .u64 s]
theorem ub_short {n : Nat} (h : n ≤ 400000) : (ub n).length ≤ 3 := by
  rw [ub]; split
  · simp
  · rw [ub]; split
    · simp
    · rw [ub]; split
      · simp
      · omega
theorem ixs0 (a b c : ByteArray) (w : World) : (Instr.index 198 (.agg #[.string a, .string b, .string c]) (.int .i64 0)).run Tryz.prog w = .ok (.string a) w := by kernel_rfl
theorem ixs1 (a b c : ByteArray) (w : World) : (Instr.index 198 (.agg #[.string a, .string b, .string c]) (.int .i64 1)).run Tryz.prog w = .ok (.string b) w := by kernel_rfl
theorem ixs2 (a b c : ByteArray) (w : World) : (Instr.index 198 (.agg #[.string a, .string b, .string c]) (.int .i64 2)).run Tryz.prog w = .ok (.string c) w := by kernel_rfl
theorem ixi0 (a b c : Int) (w : World) : (Instr.index 200 (.agg #[.int .i64 a, .int .i64 b, .int .i64 c]) (.int .i64 0)).run Tryz.prog w = .ok (.int .i64 a) w := by kernel_rfl
theorem ixi1 (a b c : Int) (w : World) : (Instr.index 200 (.agg #[.int .i64 a, .int .i64 b, .int .i64 c]) (.int .i64 1)).run Tryz.prog w = .ok (.int .i64 b) w := by kernel_rfl
theorem ixi2 (a b c : Int) (w : World) : (Instr.index 200 (.agg #[.int .i64 a, .int .i64 b, .int .i64 c]) (.int .i64 2)).run Tryz.prog w = .ok (.int .i64 c) w := by kernel_rfl
set_option maxHeartbeats 4000000 in
set_option maxRecDepth 100000 in
theorem signed_any (a b c : ByteArray) (x y z : Nat) (s : Int) (w : World) (ha : 0 < a.size) (ha1 : a.size ≤ 100) (hb : 0 < b.size) (hb1' : b.size ≤ 100) (hc : 0 < c.size) (hc1 : c.size ≤ 100) (hx : x ≤ 200000) (hy : y ≤ 200000) (hz : z ≤ 200000) :
    Calls Tryz.prog 86 #[rcpV a b c x y z s] w fun e w' => ∃ wb, e = .returned (.pointer (some ⟨wb, 0, none⟩)) ∧ Wr w' (w.heap.size + 1) wb (encR a b c x y z) ∧ Below w.heap.size w w' := by
  obtain ⟨W1, hW1⟩ : ∃ W1, W1 = w.alloc (.cells #[.string a, .string b, .string c, .int .i64 x, .int .i64 y, .int .i64 z, .int .u64 s] 44) := ⟨_, rfl⟩
  have hR : Cel W1 w.heap.size #[.string a, .string b, .string c, .int .i64 x, .int .i64 y, .int .i64 z, .int .u64 s] 44 := by rw [hW1]; exact Cel.new _ _ _
  have hX : Below w.heap.size w W1 := by rw [hW1]; exact (Below.refl _ _).alloc (Nat.le_refl _) _
  have hs : W1.heap.size = w.heap.size + 1 := by rw [hW1]; simp
  have HX0 := Lib.hid hX
  have HW := Lib.hid hW1
  have HS := Lib.hid hs
  clear hW1 hs
  unfold rcpV
  go_enter Tryz.func86, Tryz.ntmps86
  go_wp2_with fail
  rw [← HW.out]
  refine (newWriter_any W1).mono ?_
  rintro e w1 ⟨rfl, hwr, hb1⟩
  have HWR := Lib.hid (show Wr w1 (w.heap.size + 1) W1.heap.size [] by have := hwr; rw [HS.out] at this ⊢; exact this)
  have HR := Lib.hid (hR.below hb1 hR.lt)
  have HX := Lib.hid (show Below (w.heap.size + 1) W1 w1 by have := hb1; rw [HS.out] at this; exact this)
  have HLW := Lib.hid hR.lt
  have r0 := HR.out.cell 0
  have r1 := HR.out.cell 1
  have r2 := HR.out.cell 2
  have rl := HR.out.lt
  simp at r0 r1 r2
  clear hb1 hwr hR
  have k0 := ixs0 a b c
  have k1 := ixs1 a b c
  have k2 := ixs2 a b c
  have k3 := ixi0 x y z
  have k4 := ixi1 x y z
  have k5 := ixi2 x y z
  have la := encT_len a ha1
  have lb := encT_len b hb1'
  have lc := encT_len c hc1
  have lx : (ub (2 * x)).length ≤ 3 := ub_short (by omega)
  have ly : (ub (2 * y)).length ≤ 3 := ub_short (by omega)
  go_wp2
  refine wp_loop_rounds 4 ?_
  rw [rounds_succ]
  go_wp2_with fail
  refine (text_any (w.heap.size + 1) W1.heap.size [] a _ HWR.out ha ha1 (by simp only [List.length_append, List.length_nil]; omega) (by have := HX.out.size; rw [HS.out] at this; exact this)).mono ?_
  rintro e w2 ⟨rfl, hwr, hb2⟩
  replace HWR := Lib.hid hwr
  replace HR := Lib.hid (HR.out.below hb2 (Nat.lt_succ_self _))
  replace HX := Lib.hid (HX.out.trans hb2)
  clear hwr hb2
  go_wp2
  rw [rounds_succ]
  go_wp2_with fail
  refine (text_any (w.heap.size + 1) W1.heap.size ([] ++ encT a) b _ HWR.out hb hb1' (by simp only [List.length_append, List.length_nil]; omega) (by have := HX.out.size; rw [HS.out] at this; exact this)).mono ?_
  rintro e w2 ⟨rfl, hwr, hb2⟩
  replace HWR := Lib.hid hwr
  replace HR := Lib.hid (HR.out.below hb2 (Nat.lt_succ_self _))
  replace HX := Lib.hid (HX.out.trans hb2)
  clear hwr hb2
  go_wp2
  rw [rounds_succ]
  go_wp2_with fail
  refine (text_any (w.heap.size + 1) W1.heap.size ([] ++ encT a ++ encT b) c _ HWR.out hc hc1 (by simp only [List.length_append, List.length_nil]; omega) (by have := HX.out.size; rw [HS.out] at this; exact this)).mono ?_
  rintro e w2 ⟨rfl, hwr, hb2⟩
  replace HWR := Lib.hid hwr
  replace HR := Lib.hid (HR.out.below hb2 (Nat.lt_succ_self _))
  replace HX := Lib.hid (HX.out.trans hb2)
  clear hwr hb2
  go_wp2
  rw [rounds_succ]
  clear r0 r1 r2 rl
  have r3 := HR.out.cell 3
  have r4 := HR.out.cell 4
  have r5 := HR.out.cell 5
  have rl := HR.out.lt
  simp at r3 r4 r5
  go_wp2
  refine wp_loop_rounds 4 ?_
  rw [rounds_succ]
  go_wp2_with fail
  refine (int_any (w.heap.size + 1) W1.heap.size ([] ++ encT a ++ encT b ++ encT c) x _ HWR.out hx (by simp only [List.length_append, List.length_nil]; omega) (by have := HX.out.size; rw [HS.out] at this; exact this)).mono ?_
  rintro e w2 ⟨rfl, hwr, hb2⟩
  replace HWR := Lib.hid hwr
  replace HX := Lib.hid (HX.out.trans hb2)
  clear hwr hb2
  go_wp2
  rw [rounds_succ]
  go_wp2_with fail
  refine (int_any (w.heap.size + 1) W1.heap.size ([] ++ encT a ++ encT b ++ encT c ++ ub (2 * x)) y _ HWR.out hy (by simp only [List.length_append, List.length_nil]; omega) (by have := HX.out.size; rw [HS.out] at this; exact this)).mono ?_
  rintro e w2 ⟨rfl, hwr, hb2⟩
  replace HWR := Lib.hid hwr
  replace HX := Lib.hid (HX.out.trans hb2)
  clear hwr hb2
  go_wp2
  rw [rounds_succ]
  go_wp2_with fail
  refine (int_any (w.heap.size + 1) W1.heap.size ([] ++ encT a ++ encT b ++ encT c ++ ub (2 * x) ++ ub (2 * y)) z _ HWR.out hz (by simp only [List.length_append, List.length_nil]; omega) (by have := HX.out.size; rw [HS.out] at this; exact this)).mono ?_
  rintro e w2 ⟨rfl, hwr, hb2⟩
  replace HWR := Lib.hid hwr
  replace HX := Lib.hid (HX.out.trans hb2)
  clear hwr hb2
  go_wp2
  rw [rounds_succ]
  go_wp2
  go_ret
  exact ⟨_, rfl, HWR.out, HX0.out.trans (HX.out.mono (Nat.le_succ _))⟩
set_option maxHeartbeats 1000000 in
set_option maxRecDepth 100000 in
theorem wbytes_any (B wb : Nat) (l : List Int) (w : World) (h : Wr w B wb l) (h0 : 0 < l.length) (h1 : l.length ≤ 1000) :
    Calls Tryz.prog 87 #[.pointer (some ⟨wb, 0, none⟩)] w fun e w' => ∃ g c, e = .returned (.slice (some ⟨g, 0, none⟩) l.length c) ∧ (∀ i, i < l.length → w'.cell? ⟨g, 0 + i, none⟩ = some (.int .u8 (l.getD i 0))) ∧ Below w.heap.size w w' := by
  obtain ⟨hB, v, hc, ho, hv⟩ := h
  obtain ⟨e0, he0, hz0, hz1, hz2⟩ := info_parts infoB
  have c0 := hc.cell 0
  have cl := hc.lt
  simp at c0
  rcases ho.2 with ⟨rfl, hn⟩ | ⟨g, cap, cur, rfl, hg, hh, hnc, _, hcs, hl⟩
  · omega
  have HN := Lib.hid (show ∀ (j : Nat) u, (l.map (Value.int .u8))[j]? = some u → w.cell? ((⟨g, 0, none⟩ : Addr).add j) = some u from fun j u hj => by
    have hcel : Cel w g cur 5 := hh
    have e : (⟨g, 0, none⟩ : Addr).add j = ⟨g, j, none⟩ := by
      unfold Addr.add
      split
      · subst_vars; rfl
      · simp
    rw [e, hcel.cell]
    have hlt : j < l.length := by
      rcases Nat.lt_or_ge j l.length with c | c
      · exact c
      · rw [List.getElem?_eq_none (by simpa using c)] at hj; cases hj
    rw [← hl, List.getElem?_take, if_pos (by omega)] at hj
    simpa using hj)
  clear hc ho hv hh hl
  go_enter Tryz.func87, Tryz.ntmps87
  go_wp2_with
   (at_builtin
    refine wpList_append_lies _ rfl _ _ 75 rfl w.heap.size 5 e0 (.int .u8 0) 1 1 Tryz.underlying75 he0 hz0 hz1 hz2 rfl (by decide) (.slice none 0 0) 0 [] (by rfl) (World.ownsRow_nil _ _ _ _) ⟨g, 0, none⟩ l.length cap (l.map (Value.int .u8)) (by rfl) (by simp) HN.out (fun u hu => by obtain ⟨x, _, rfl⟩ := List.mem_map.1 hu; rfl) h0 (by unfold maxLen; omega) (by omega) (Nat.le_refl _) w.heap.size rfl ?_
    intro g8 c8 w4 own8 gr8 at8 lt8
    have HO := Lib.hid own8
    have HX := Lib.hid ((Below.refl w.heap.size w).grown gr8 (Nat.le_refl _) (fun k hk => by cases hk))
    clear own8 gr8 at8 lt8)
  go_ret
  refine ⟨g8, c8, rfl, fun i hi => ?_, HX.out⟩
  have ho := HO.out
  rw [Nat.zero_add] at ho
  rcases ho.2 with ⟨hc, _⟩ | ⟨g', cap', cur', hv, hg', hh, _, _, _, hl⟩
  · cases hc
  · injection hv with k1 k2 k3
    injection k1 with k1
    injection k1 with k1
    subst k1
    have hcel : Cel w4 g8 cur' 5 := hh
    rw [hcel.cell, Nat.zero_add]
    have : (cur'.toList.take (l.length * 1))[i]? = some (.int .u8 (l.getD i 0)) := by
      rw [hl]
      simp [hi]
    rw [List.getElem?_take, if_pos (by omega)] at this
    simpa using this
/-- The signature of a receipt. -/
def sgI (key : Int) (a b c : ByteArray) (x y z : Nat) : Int := keyI key (strOfNums (encR a b c x y z))
set_option maxHeartbeats 1000000 in
set_option maxRecDepth 100000 in
theorem sign_any (key : Int) (a b c : ByteArray) (x y z : Nat) (s : Int) (w : World) (ha : 0 < a.size) (ha1 : a.size ≤ 100) (hb : 0 < b.size) (hb1 : b.size ≤ 100) (hc : 0 < c.size) (hc1 : c.size ≤ 100) (hx : x ≤ 200000) (hy : y ≤ 200000) (hz : z ≤ 200000) :
    Calls Tryz.prog 58 #[.int .u64 key, rcpV a b c x y z s] w (RetB (.int .u64 (sgI key a b c x y z)) w) := by
  have la := encT_len a ha1
  have lb := encT_len b hb1
  have lc := encT_len c hc1
  have lx : (ub (2 * x)).length ≤ 3 := ub_short (by omega)
  have ly : (ub (2 * y)).length ≤ 3 := ub_short (by omega)
  have lz : (ub (2 * z)).length ≤ 3 := ub_short (by omega)
  have px := ub_pos (2 * x)
  have hlen : (encR a b c x y z).length ≤ 1000 := by unfold encR; simp only [List.length_append, List.length_nil]; omega
  have hpos : 0 < (encR a b c x y z).length := by unfold encR; simp only [List.length_append, List.length_nil]; omega
  have HSG := Lib.hid fun W => signed_any a b c x y z s W ha ha1 hb hb1 hc hc1 hx hy hz
  have HLEN := Lib.hid hlen
  have HPOS := Lib.hid hpos
  have HKD := Lib.hid (keyed_any key (strOfNums (encR a b c x y z)))
  have HX := Lib.hid ((Below.refl w.heap.size w).alloc (Nat.le_refl _) (.cells #[.string a, .string b, .string c, .int .i64 x, .int .i64 y, .int .i64 z, .int .u64 s] 44))
  clear la lb lc lx ly lz px hlen hpos ha ha1 hb hb1 hc hc1 hx hy hz
  unfold rcpV at *
  go_enter Tryz.func58, Tryz.ntmps58
  go_wp2_with (first
    | (go_at_call 86; (with_reducible refine (HSG.out _).mono ?_); rintro e w1 ⟨wb, rfl, hwr, hb1⟩; have HWR := Lib.hid hwr; replace HX := Lib.hid (HX.out.trans (hb1.mono (by simp))); clear hwr hb1)
    | (go_at_call 87
       refine (wbytes_any _ _ _ _ HWR.out HPOS.out HLEN.out).mono ?_
       rintro e w2 ⟨g, cp, rfl, hcl, hb1⟩
       replace HX := Lib.hid (HX.out.trans (hb1.mono HX.out.size))
       have hcv := run_convert_bytes_arg w2 75 5 Tryz.underlying75 Tryz.underlying5 g 0 _ cp (encR a b c x y z) rfl hcl 9 Tryz.underlying9
       clear hcl hb1)
    | (go_at_call 85; (with_reducible refine (HKD.out _ (by rw [strOfNums_size]; exact HLEN.out)).mono ?_); rintro e w' ⟨rfl, rfl⟩))
  go_ret
  exact ⟨rfl, HX.out⟩
end Go.Proofs.YtnnocbelgfhecaaGreatDoor
/- receipt.Issue, Verify. -/
set_option linter.unusedSimpArgs false
namespace Go.Proofs.YtnnocbelgfhecaaGreatDoor
open Go.ChangeShapes Go.WideShapes Go.ChangeAt Go.RowKit Go.Lott
theorem ba_self (a : ByteArray) : (a == a) = true := by
  show (a.data == a.data) = true
  simp
theorem eqS (d : Nat) (a : ByteArray) (w : World) : (Op.equalIn (d + 1) 9 (.string a) (.string a)).run Tryz.prog w = .ok true w := by
  rw [Op.equalIn]
  have h := run_underlying Tryz.underlying9
  simp [h, ba_self, go_sem]
theorem eqI (d : Nat) (a : Int) (w : World) : (Op.equalIn (d + 1) 3 (.int .i64 a) (.int .i64 a)).run Tryz.prog w = .ok true w := by
  rw [Op.equalIn]
  have h := run_underlying Tryz.underlying3
  simp [h, go_sem]
theorem eqU (d : Nat) (a : Int) (w : World) : (Op.equalIn (d + 1) 22 (.int .u64 a) (.int .u64 a)).run Tryz.prog w = .ok true w := by
  rw [Op.equalIn]
  have h := run_underlying Tryz.underlying22
  simp [h, go_sem]
theorem eqR (d : Nat) (a b c : ByteArray) (x y z s : Int) (w : World) : (Op.equalIn (d + 1 + 1) 44 (.agg #[.string a, .string b, .string c, .int .i64 x, .int .i64 y, .int .i64 z, .int .u64 s]) (.agg #[.string a, .string b, .string c, .int .i64 x, .int .i64 y, .int .i64 z, .int .u64 s])).run Tryz.prog w = .ok true w := by
  rw [Op.equalIn]
  have h := run_underlying Tryz.underlying44
  have h2 : Tryz.prog.stoodInHeld 44 = false := by kernel_rfl
  have hs := eqS d
  have hi := eqI d
  have hu := eqU d
  simp [h, h2, hs, hi, hu, go_sem]
theorem neR (a b c : ByteArray) (x y z s : Int) (w : World) : (binOp BinOp.neq 44 (.agg #[.string a, .string b, .string c, .int .i64 x, .int .i64 y, .int .i64 z, .int .u64 s]) (.agg #[.string a, .string b, .string c, .int .i64 x, .int .i64 y, .int .i64 z, .int .u64 s])).run Tryz.prog w = .ok (.bool false) w := by
  have h := eqR 9998 a b c x y z s w
  have e : binOp BinOp.neq 44 (.agg #[.string a, .string b, .string c, .int .i64 x, .int .i64 y, .int .i64 z, .int .u64 s]) (.agg #[.string a, .string b, .string c, .int .i64 x, .int .i64 y, .int .i64 z, .int .u64 s]) = (do pure (.bool (!(← Op.equalIn (9998 + 1 + 1) 44 (.agg #[.string a, .string b, .string c, .int .i64 x, .int .i64 y, .int .i64 z, .int .u64 s]) (.agg #[.string a, .string b, .string c, .int .i64 x, .int .i64 y, .int .i64 z, .int .u64 s])))) ) := rfl
  rw [e]
  simp [h, go_sem]
/-- A ticket of the game: its line in a slice. -/
def tkV (num : ByteArray) (u : Value) (fr at_ tm sq : Nat) : Value := .agg #[.string num, .string nmB, u, .bool false, .int .i64 1, .int .i64 0, .string ⟨#[]⟩, .int .i64 fr, .int .i64 200, .int .i64 at_, .int .i64 tm, .int .i64 sq, .int .i64 0, .bool false]
set_option maxHeartbeats 2000000 in
set_option maxRecDepth 100000 in
theorem verify_any (key : Int) (a b c : ByteArray) (x y z : Nat) (w : World) (ha : 0 < a.size) (ha1 : a.size ≤ 100) (hb : 0 < b.size) (hb1 : b.size ≤ 100) (hc : 0 < c.size) (hc1 : c.size ≤ 100) (hx : x ≤ 200000) (hy : y ≤ 200000) (hz : z ≤ 200000) :
    Calls Tryz.prog 45 #[.int .u64 key, rcpV a b c x y z (sgI key a b c x y z)] w (RetB (.int .i64 0) w) := by
  obtain ⟨sg, hsg⟩ : ∃ sg, sg = sgI key a b c x y z := ⟨_, rfl⟩
  have HSG := Lib.hid fun W => sign_any key a b c x y z sg W ha ha1 hb hb1 hc hc1 hx hy hz
  have hne := neR a b c x y z sg
  rw [← hsg] at *
  have hX1 := (Below.refl w.heap.size w).alloc (Nat.le_refl _) (.cells #[.string a, .string b, .string c, .int .i64 x, .int .i64 y, .int .i64 z, .int .u64 sg] 44)
  have HX := Lib.hid (hX1.alloc hX1.size (.cells #[.string a, .string b, .string c, .int .i64 x, .int .i64 y, .int .i64 z, .int .u64 sg] 44))
  have HA := Lib.hid ((Cel.new w #[.string a, .string b, .string c, .int .i64 x, .int .i64 y, .int .i64 z, .int .u64 sg] 44).alloc (.cells #[.string a, .string b, .string c, .int .i64 x, .int .i64 y, .int .i64 z, .int .u64 sg] 44))
  have HB := Lib.hid (show Cel ((w.alloc (.cells #[.string a, .string b, .string c, .int .i64 x, .int .i64 y, .int .i64 z, .int .u64 sg] 44)).alloc (.cells #[.string a, .string b, .string c, .int .i64 x, .int .i64 y, .int .i64 z, .int .u64 sg] 44)) (w.heap.size + 1) _ _ by
    have := Cel.new (w.alloc (.cells #[.string a, .string b, .string c, .int .i64 x, .int .i64 y, .int .i64 z, .int .u64 sg] 44)) #[.string a, .string b, .string c, .int .i64 x, .int .i64 y, .int .i64 z, .int .u64 sg] 44
    simpa using this)
  clear hX1 ha ha1 hb hb1 hc hc1 hx hy hz
  unfold rcpV at *
  go_enter Tryz.func45, Tryz.ntmps45
  go_wp2_with (first
    | (go_at_call 58
       (with_reducible refine (HSG.out _).mono ?_)
       rintro e w1 ⟨rfl, hb1⟩
       replace HX := Lib.hid (HX.out.trans (hb1.mono HX.out.size))
       replace HA := Lib.hid (HA.out.below hb1 HA.out.lt)
       replace HB := Lib.hid (HB.out.below hb1 HB.out.lt)
       have a0 := HA.out.cell 0
       have a1 := HA.out.cell 1
       have a2 := HA.out.cell 2
       have a3 := HA.out.cell 3
       have a4 := HA.out.cell 4
       have a5 := HA.out.cell 5
       have a6 := HA.out.cell 6
       have al := HA.out.lt
       have b0 := HB.out.cell 0
       have b1 := HB.out.cell 1
       have b2 := HB.out.cell 2
       have b3 := HB.out.cell 3
       have b4 := HB.out.cell 4
       have b5 := HB.out.cell 5
       have b6 := HB.out.cell 6
       have bf := HB.out.free 6
       have bl := HB.out.lt
       simp at a0 a1 a2 a3 a4 a5 a6 b0 b1 b2 b3 b4 b5 b6
       clear hb1))
  go_ret
  exact ⟨rfl, HX.out.setCell (by show w.heap.size ≤ w.heap.size + 1; omega) _⟩
set_option maxHeartbeats 2000000 in
set_option maxRecDepth 100000 in
theorem issue_any (key : Int) (num c : ByteArray) (u : Value) (fr at_ tm sq : Nat) (w : World) (hu : ∃ a n k, u = .slice a n k) (ha : 0 < num.size) (ha1 : num.size ≤ 100) (hc : 0 < c.size) (hc1 : c.size ≤ 100) (hx : fr ≤ 200000) (hz : at_ ≤ 200000) :
    Calls Tryz.prog 29 #[.int .u64 key, tkV num u fr at_ tm sq, .string c] w (RetB (rcpV num nmB c fr 200 at_ (sgI key num nmB c fr 200 at_)) w) := by
  obtain ⟨ua, un, uk, rfl⟩ := hu
  obtain ⟨sg, hsg⟩ : ∃ sg, sg = sgI key num nmB c fr 200 at_ := ⟨_, rfl⟩
  have HSG := Lib.hid (show ∀ W, Calls Tryz.prog 58 #[.int .u64 key, rcpV num nmB c fr 200 at_ 0] W (RetB (.int .u64 sg) W) from fun W => by rw [hsg]; exact sign_any key num nmB c fr 200 at_ 0 W ha ha1 (by decide) (by decide) hc hc1 hx (by decide) hz)
  rw [← hsg]
  obtain ⟨W1, hW1⟩ : ∃ W1, W1 = ((w.alloc (.cells #[.string num, .string nmB, .slice ua un uk, .bool false, .int .i64 1, .int .i64 0, .string ⟨#[]⟩, .int .i64 fr, .int .i64 200, .int .i64 at_, .int .i64 tm, .int .i64 sq, .int .i64 0, .bool false] 81)).alloc (.cells #[.string ⟨#[]⟩, .string ⟨#[]⟩, .string ⟨#[]⟩, .int .i64 0, .int .i64 0, .int .i64 0, .int .u64 0] 44)).alloc (.cells #[.string num, .string nmB, .string c, .int .i64 fr, .int .i64 200, .int .i64 at_, .int .u64 0] 44) := ⟨_, rfl⟩
  have HX := Lib.hid (show Below w.heap.size w W1 by rw [hW1]; exact (((Below.refl _ _).alloc (Nat.le_refl _) _).alloc (by simp) _).alloc (by simp; omega) _)
  have HA := Lib.hid (show Cel W1 (w.heap.size + 1) #[.string ⟨#[]⟩, .string ⟨#[]⟩, .string ⟨#[]⟩, .int .i64 0, .int .i64 0, .int .i64 0, .int .u64 0] 44 by
    rw [hW1]
    have := (Cel.new (w.alloc (.cells #[.string num, .string nmB, .slice ua un uk, .bool false, .int .i64 1, .int .i64 0, .string ⟨#[]⟩, .int .i64 fr, .int .i64 200, .int .i64 at_, .int .i64 tm, .int .i64 sq, .int .i64 0, .bool false] 81)) #[.string ⟨#[]⟩, .string ⟨#[]⟩, .string ⟨#[]⟩, .int .i64 0, .int .i64 0, .int .i64 0, .int .u64 0] 44).alloc (.cells #[.string num, .string nmB, .string c, .int .i64 fr, .int .i64 200, .int .i64 at_, .int .u64 0] 44)
    simpa using this)
  have HB := Lib.hid (show Cel W1 (w.heap.size + 1 + 1) #[.string num, .string nmB, .string c, .int .i64 fr, .int .i64 200, .int .i64 at_, .int .u64 0] 44 by
    rw [hW1]
    have := Cel.new ((w.alloc (.cells #[.string num, .string nmB, .slice ua un uk, .bool false, .int .i64 1, .int .i64 0, .string ⟨#[]⟩, .int .i64 fr, .int .i64 200, .int .i64 at_, .int .i64 tm, .int .i64 sq, .int .i64 0, .bool false] 81)).alloc (.cells #[.string ⟨#[]⟩, .string ⟨#[]⟩, .string ⟨#[]⟩, .int .i64 0, .int .i64 0, .int .i64 0, .int .u64 0] 44)) #[.string num, .string nmB, .string c, .int .i64 fr, .int .i64 200, .int .i64 at_, .int .u64 0] 44
    simpa using this)
  have HW := Lib.hid hW1
  clear hW1 hsg ha ha1 hc hc1 hx hz
  unfold tkV rcpV at *
  go_enter Tryz.func29, Tryz.ntmps29
  go_wp2_with fail
  rw [← HW.out]
  refine (HSG.out _).mono ?_
  rintro e w1 ⟨rfl, hb1⟩
  replace HX := Lib.hid (HX.out.trans (hb1.mono HX.out.size))
  replace HA := Lib.hid (HA.out.below hb1 HA.out.lt)
  replace HB := Lib.hid (HB.out.below hb1 HB.out.lt)
  have a0 := HA.out.cell 0
  have b0 := HB.out.cell 0
  have f0 := HA.out.free 0
  have a1 := HA.out.cell 1
  have b1 := HB.out.cell 1
  have f1 := HA.out.free 1
  have a2 := HA.out.cell 2
  have b2 := HB.out.cell 2
  have f2 := HA.out.free 2
  have a3 := HA.out.cell 3
  have b3 := HB.out.cell 3
  have f3 := HA.out.free 3
  have a4 := HA.out.cell 4
  have b4 := HB.out.cell 4
  have f4 := HA.out.free 4
  have a5 := HA.out.cell 5
  have b5 := HB.out.cell 5
  have f5 := HA.out.free 5
  have a6 := HA.out.cell 6
  have b6 := HB.out.cell 6
  have f6 := HA.out.free 6
  have al := HA.out.lt
  have bf := HB.out.free 6
  have bl := HB.out.lt
  simp at a0 a1 a2 a3 a4 a5 a6 b0 b1 b2 b3 b4 b5 b6
  clear hb1 HW
  go_wp2
  refine bodyPost_ret (v := .agg #[.string num, .string nmB, .string c, .int .i64 fr, .int .i64 200, .int .i64 at_, .int .u64 sg]) (by simp [results, Tryz.results29, go_sem, a0, a1, a2, a3, a4, a5, a6]) rfl ⟨rfl, ?_⟩
  have h1 : w.heap.size ≤ w.heap.size + 1 + 1 := by omega
  have h2 : w.heap.size ≤ w.heap.size + 1 := by omega
  repeat (first | (with_reducible exact HX.out) | (refine Below.setCell ?_ (by first | exact h1 | exact h2) _))
end Go.Proofs.YtnnocbelgfhecaaGreatDoor
