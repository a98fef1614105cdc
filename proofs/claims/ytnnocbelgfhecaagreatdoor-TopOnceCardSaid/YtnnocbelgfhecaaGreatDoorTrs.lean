/- slip.Print of a bet of two numbers. -/
import Derived.Test.YtnnocbelgfhecaaGreatDoorTrq
import Derived.Test.YtnnocbelgfhecaaGreatDoorNump
set_option linter.unusedSimpArgs false
namespace Go.Proofs.YtnnocbelgfhecaaGreatDoor
open Go.ChangeShapes Go.WideShapes Go.ChangeAt Go.RowKit Go.Lott
theorem itB_dg {x : Nat} (h1 : 1 ≤ x) (h2 : x ≤ 6) : itB x = dg x := by
  rcases six h1 h2 with rfl | rfl | rfl | rfl | rfl | rfl <;> kernel_rfl
theorem format_dg {x : Nat} (h1 : 1 ≤ x) (h2 : x ≤ 6) (w : World) (hp : P10 w) : Calls Tryz.prog 52 #[.int .i64 x] w (RetB (.string (dg x)) w) := by
  have := Format_any x w (by omega) (by omega) hp
  rw [itB_dg h1 h2] at this
  exact this
theorem join_dg {x y : Nat} (h1 : 1 ≤ x) (hxy : x < y) (h2 : y ≤ 6) : (Lib.join ([dg x, dg y].map (·.data.toList)) (⟨#[32]⟩ : ByteArray).data.toList).toArray = (tx x y).data := by
  rcases six h1 (by omega) with rfl | rfl | rfl | rfl | rfl | rfl <;> rcases six (x := y) (by omega) h2 with rfl | rfl | rfl | rfl | rfl | rfl <;> first | omega | kernel_rfl
theorem infoS : (Tryz.prog.info? 9).map (fun i => (i.zero, i.size, i.bytes)) = some (some (.string ⟨#[]⟩), 1, 16) := by kernel_rfl
set_option maxHeartbeats 4000000 in
set_option maxRecDepth 100000 in
theorem print_any (v vb : Value) (x y : Nat) (w : World) (ht : IsTier w v) (hb : IsBet w vb x y) (hp : P10 w) : Calls Tryz.prog 27 #[gameV v, vb] w (RetB (.tuple #[.string (tx x y), .int .i64 0]) w) := by
  obtain ⟨e0, he0, hz0, hz1, hz2⟩ := info_parts infoS
  have HP := Lib.hid hp
  clear hp
  have hX1 := (Below.alloc (Below.refl w.heap.size w) (Nat.le_refl _) (.cells #[.string nmB, .int .i64 1, .int .i64 200, .int .i64 2, .int .i64 6, .int .i64 0, .int .i64 0, .int .i64 0, .int .i64 4, .int .i64 4, .int .i64 32, .int .i64 1230, .int .i64 30, .int .i64 15, .int .i64 90, .int .i64 5000, .int .i64 0, .int .i64 1, .int .i64 0, .int .i64 0, .slice none 0 0, v] 27))
  have HBT := Lib.hid hb
  have HT := Lib.hid ht
  obtain ⟨b, o, c, vm, rfl, _, _, _, _, hm⟩ := hb
  clear hm
  have HX := Lib.hid (hX1.alloc hX1.size (.cells #[.slice (some ⟨b, o, none⟩) 1 c, .bool false, .int .i64 1, .int .i64 0] 79))
  have HG := Lib.hid ((Cel.new w #[.string nmB, .int .i64 1, .int .i64 200, .int .i64 2, .int .i64 6, .int .i64 0, .int .i64 0, .int .i64 0, .int .i64 4, .int .i64 4, .int .i64 32, .int .i64 1230, .int .i64 30, .int .i64 15, .int .i64 90, .int .i64 5000, .int .i64 0, .int .i64 1, .int .i64 0, .int .i64 0, .slice none 0 0, v] 27).alloc (.cells #[.slice (some ⟨b, o, none⟩) 1 c, .bool false, .int .i64 1, .int .i64 0] 79))
  have HL := Lib.hid (show Cel ((w.alloc (.cells #[.string nmB, .int .i64 1, .int .i64 200, .int .i64 2, .int .i64 6, .int .i64 0, .int .i64 0, .int .i64 0, .int .i64 4, .int .i64 4, .int .i64 32, .int .i64 1230, .int .i64 30, .int .i64 15, .int .i64 90, .int .i64 5000, .int .i64 0, .int .i64 1, .int .i64 0, .int .i64 0, .slice none 0 0, v] 27)).alloc (.cells #[.slice (some ⟨b, o, none⟩) 1 c, .bool false, .int .i64 1, .int .i64 0] 79)) (w.heap.size + 1) #[.slice (some ⟨b, o, none⟩) 1 c, .bool false, .int .i64 1, .int .i64 0] 79 by
    have := (Cel.new (w.alloc (.cells #[.string nmB, .int .i64 1, .int .i64 200, .int .i64 2, .int .i64 6, .int .i64 0, .int .i64 0, .int .i64 0, .int .i64 4, .int .i64 4, .int .i64 32, .int .i64 1230, .int .i64 30, .int .i64 15, .int .i64 90, .int .i64 5000, .int .i64 0, .int .i64 1, .int .i64 0, .int .i64 0, .slice none 0 0, v] 27)) #[.slice (some ⟨b, o, none⟩) 1 c, .bool false, .int .i64 1, .int .i64 0] 79)
    simpa using this)
  replace HT := Lib.hid (HT.out.below HX.out (Nat.le_refl _))
  replace HBT := Lib.hid (HBT.out.below HX.out (Nat.le_refl _))
  clear hX1 ht
  have HC := Lib.hid fun W vb (h1 : IsTier W v) (h2 : IsBet W vb x y) => BCheck_any v vb x y W h1 h2
  unfold gameV at *
  go_enter Tryz.func27, Tryz.ntmps27
  go_wp2_with (first
    | (refine wpList_load_row rfl 27 _ rfl w.heap.size rfl _ _ _ _ HG.out Tryz.underlying27 rfl (by kernel_rfl) ?_)
    | (go_at_call 51; (with_reducible refine (HC.out _ _ HT.out HBT.out).mono ?_)
       rintro e w1 ⟨rfl, hb1⟩
       replace HX := Lib.hid (HX.out.trans (hb1.mono HX.out.size))
       replace HG := Lib.hid (HG.out.below hb1 HG.out.lt)
       replace HL := Lib.hid (HL.out.below hb1 HL.out.lt)
       replace HBT := Lib.hid (HBT.out.below hb1 (Nat.le_refl _))
       have l0 := HL.out.cell 0
       have ll := HL.out.lt
       simp at l0
       clear hb1))
  obtain ⟨b1, o1, c1, vm1, heq, hc1, hbl, hv, hn, hm⟩ := HBT.out
  cases heq
  have HM := Lib.hid hm
  obtain ⟨hx1, hxy, hy2, mb, mo, mc, rfl, hmc, hmb, hm0, hm1⟩ := hm
  have hx1' : 1 ≤ x := by omega
  have hxy' : x < y := by omega
  have hy2' : y ≤ 6 := by omega
  clear hm0 hm1
  refine wp_loop_rounds 2 ?_
  rw [rounds_succ]
  go_wp2
  obtain ⟨W2, hW2⟩ : ∃ W2, W2 = w1.alloc (.cells #[.slice (some ⟨mb, mo, none⟩) 2 mc, .slice none 0 0] 118) := ⟨_, rfl⟩
  have hb1 : Below w1.heap.size w1 W2 := by rw [hW2]; exact (Below.refl _ _).alloc (Nat.le_refl _) _
  have HK := Lib.hid (show Cel W2 w1.heap.size #[.slice (some ⟨mb, mo, none⟩) 2 mc, .slice none 0 0] 118 by rw [hW2]; exact Cel.new _ _ _)
  have hws : w.heap.size + 1 < w1.heap.size := HL.out.lt
  rw [← hW2]
  replace HX := Lib.hid (HX.out.trans (hb1.mono HX.out.size))
  replace HG := Lib.hid (HG.out.below hb1 HG.out.lt)
  replace HL := Lib.hid (HL.out.below hb1 HL.out.lt)
  replace HM := Lib.hid (HM.out.below hb1 (Nat.le_refl _))
  clear hW2 hb1 l0 ll hbl hv hn hmb
  obtain ⟨_, _, _, _, _, _, hq, _, hmb, hm0, hm1⟩ := HM.out
  cases hq
  refine wp_loop_rounds 3 ?_
  rw [rounds_succ]
  go_wp2_with (first
    | (go_at_call 52
       refine (format_dg hx1' (by omega) _ (HP.out.grow HX.out)).mono ?_
       rintro e w3 ⟨rfl, hb1⟩
       replace HX := Lib.hid (HX.out.trans (hb1.mono HX.out.size))
       replace HG := Lib.hid (HG.out.below hb1 HG.out.lt)
       replace HL := Lib.hid (HL.out.below hb1 HL.out.lt)
       replace HK := Lib.hid (HK.out.below hb1 HK.out.lt)
       have HWS := Lib.hid (show w1.heap.size < w3.heap.size from HK.out.lt)
       replace hm0 := (hb1.cell (p := ⟨mb, mo, none⟩) hmb).trans hm0
       replace hm1 := (hb1.cell (p := ⟨mb, mo + 1, none⟩) hmb).trans hm1
       replace hmb := Nat.lt_of_lt_of_le hmb hb1.size
       clear hb1)
    | (at_builtin
       refine wpList_append_lies _ rfl _ _ 36 rfl w.heap.size 9 e0 (.string ⟨#[]⟩) 1 16 Tryz.underlying36 he0 hz0 hz1 hz2 rfl (by decide) (.slice none 0 0) 0 [] (by rfl) (World.ownsRow_nil _ _ _ _) ⟨w3.heap.size, 0, none⟩ 1 1 [.string (dg x)] (by rfl) (by rfl) (World.news_of_block (cs := #[.string (dg x)]) (t := 9) (fr := (0, 0)) (heap_alloc_new w3 _)) (by simp [Value.oneCell']) (by omega) (by unfold maxLen; omega) (by omega) (by have := HX.out.size; simp; omega) (w3.heap.size + 1) (by simp) ?_
       intro g8 c8 w4 own8 gr8 at8 lt8
       have hb1 : Below w3.heap.size w3 w4 := ((Below.refl w3.heap.size w3).alloc (Nat.le_refl _) _).grown gr8 (by simp) (fun k hk => by cases hk)
       have hg8 : w3.heap.size < g8 := by rcases at8 with hc | hc; cases hc; omega
       have HG8 := Lib.hid hg8
       replace HX := Lib.hid (HX.out.trans (hb1.mono HX.out.size))
       replace HG := Lib.hid (HG.out.below hb1 HG.out.lt)
       replace HL := Lib.hid (HL.out.below hb1 HL.out.lt)
       replace HK := Lib.hid (HK.out.below hb1 HK.out.lt)
       replace hm0 := (hb1.cell (p := ⟨mb, mo, none⟩) hmb).trans hm0
       replace hm1 := (hb1.cell (p := ⟨mb, mo + 1, none⟩) hmb).trans hm1
       have HMB := Lib.hid hmb
       replace hmb := Nat.lt_of_lt_of_le hmb hb1.size
       have HO := Lib.hid own8
       clear own8 gr8 at8 lt8 hb1 hg8))
  rw [rounds_succ]
  go_wp2_with (first
    | (go_at_call 52
       refine (format_dg (show 1 ≤ y by omega) hy2' _ (HP.out.grow HX.out)).mono ?_
       rintro e w5 ⟨rfl, hb1⟩
       replace HX := Lib.hid (HX.out.trans (hb1.mono HX.out.size))
       replace HG := Lib.hid (HG.out.below hb1 HG.out.lt)
       replace HL := Lib.hid (HL.out.below hb1 HL.out.lt)
       replace HK := Lib.hid (HK.out.below hb1 HK.out.lt)
       replace HO := Lib.hid (HO.out.kept (row := none) ⟨hb1.os, hb1.tape, hb1.output, hb1.size, fun k hk _ => hb1.block k hk⟩ (.inr (fun hc => by cases hc)))
       clear hb1 hm0 hm1 hmb)
    | (at_builtin
       refine wpList_append_lies _ rfl _ _ 36 rfl w.heap.size 9 e0 (.string ⟨#[]⟩) 1 16 Tryz.underlying36 he0 hz0 hz1 hz2 rfl (by decide) (.slice (some ⟨g8, 0, none⟩) 1 c8) 1 [.string (dg x)] (by rfl) (HO.out.alloc _) ⟨w5.heap.size, 0, none⟩ 1 1 [.string (dg y)] (by rfl) (by rfl) (World.news_of_block (cs := #[.string (dg y)]) (t := 9) (fr := (0, 0)) (heap_alloc_new w5 _)) (by simp [Value.oneCell']) (by omega) (by unfold maxLen; omega) (by omega) (by have := HX.out.size; simp; omega) (w5.heap.size + 1) (by simp) ?_
       intro g9 c9 w6 own9 gr9 at9 lt9
       have hgb : w5.grownBy w6 (some g8) := ((World.grownBy_alloc w5 _ _).trans gr9)
       have hn0 : w.heap.size ≠ g8 := by have := HG8.out; have := HWS.out; omega
       have hn1 : w.heap.size + 1 ≠ g8 := by have := HG8.out; have := HWS.out; omega
       have hn2 : w1.heap.size ≠ g8 := by have := HG8.out; have := HWS.out; omega
       replace HX := Lib.hid (gb_below HX.out hgb HX.out.size (by have := HG8.out; have := HWS.out; omega))
       replace HG := Lib.hid (cel_gb HG.out hgb hn0)
       replace HL := Lib.hid (cel_gb HL.out hgb hn1)
       replace HK := Lib.hid (cel_gb HK.out hgb hn2)
       have k1 := HK.out.cell 1
       have kl := HK.out.lt
       have l1 := HL.out.cell 1
       have l2 := HL.out.cell 2
       have l3 := HL.out.cell 3
       have ll := HL.out.lt
       have g20 := HG.out.cell 20
       have gl := HG.out.lt
       simp at k1 l1 l2 l3 g20
       have HO9 := Lib.hid own9
       clear own9 gr9 at9 lt9 hn0 hn1 hn2 hgb HO))
  rw [rounds_succ]
  go_wp2
  refine wp_loop_rounds 1 ?_
  rw [rounds_succ]
  go_wp2
  rw [rounds_succ]
  go_wp2
  refine wp_loop_rounds 1 ?_
  rw [rounds_succ]
  go_wp2_with fail
  obtain ⟨hc9, cs, hq, hq0, hq1⟩ := own_two HO9.out
  have hj := join_dg hx1' hxy' hy2'
  have hlen : (Lib.join ([dg x, dg y].map (·.data.toList)) (⟨#[32]⟩ : ByteArray).data.toList).length ≤ 140737488355328 := by
    have : (Lib.join ([dg x, dg y].map (·.data.toList)) (⟨#[32]⟩ : ByteArray).data.toList).length = 3 := by
      have h2 := congrArg Array.size hj
      simp only [List.size_toArray] at h2
      rw [h2]; rfl
    omega
  refine (Tryz.strings_Join g9 0 c9 [dg x, dg y] ⟨#[32]⟩ w6 (fun j z hz => by
    rcases j with _ | _ | j
    · simp at hz; subst hz; rw [hq.cell, ← hq0]
    · simp at hz; subst hz; rw [hq.cell, ← hq1]
    · simp at hz) hq.lt (by simp) hc9 hlen).mono ?_
  rw [hj]
  rintro e w7 ⟨rfl, hb1⟩
  have HX7 := Lib.hid (HX.out.trans (hb1.mono HX.out.size))
  clear hb1 hj hlen
  go_wp2
  go_ret2
  exact ⟨rfl, HX7.out⟩
end Go.Proofs.YtnnocbelgfhecaaGreatDoor
/- Digests. -/
set_option linter.unusedSimpArgs false
namespace Go.Proofs.YtnnocbelgfhecaaGreatDoor
open Go.ChangeShapes Go.WideShapes Go.ChangeAt Go.RowKit Go.Lott
/-- The steps of a digest. -/
def mixA (x : Int) : Int := IntKind.u64.wrap (bits BinOp.xor IntKind.u64 x (x / 1073741824) * 13787848793156543929)
def mixB (a : Int) : Int := IntKind.u64.wrap (bits BinOp.xor IntKind.u64 a (a / 134217728) * 10723151780598845931)
def mixC (b : Int) : Int := bits BinOp.xor IntKind.u64 b (b / 2147483648)
def mixI (x : Int) : Int := mixC (mixB (mixA x))
def byI (s : ByteArray) (k : Nat) : Int := ((s.data.toList[k]?.getD 0).toNat : Int)
theorem byI_eq (s : ByteArray) (k : Nat) (h : k < s.size) : byI s k = (s[k].toNat : Int) := by
  unfold byI
  have : s.data.toList[k]? = some s[k] := by
    rw [Array.getElem?_toList]
    exact Array.getElem?_eq_getElem h
  rw [this]; rfl
theorem wrap_by (u : UInt8) : IntKind.u64.wrap (u.toNat : Int) = u.toNat := by
  have h : u.toNat < 256 := u.toNat_lt
  show (u.toNat : Int) % 18446744073709551616 = u.toNat
  omega
def sumI (s : ByteArray) : Nat → Int
  | 0 => 14695981039346656037
  | k + 1 => IntKind.u64.wrap (bits BinOp.xor IntKind.u64 (sumI s k) (byI s k) * 1099511628211)
theorem sumI_succ (s : ByteArray) (k : Nat) : sumI s (k + 1) = IntKind.u64.wrap (bits BinOp.xor IntKind.u64 (sumI s k) (byI s k) * 1099511628211) := rfl
def keyI (key : Int) (s : ByteArray) : Int := mixI (bits BinOp.xor IntKind.u64 (mixI key) (sumI s s.size))
theorem mix_any (x : Int) (w : World) : Calls Tryz.prog 118 #[.int .u64 x] w (RetS (.int .u64 (mixI x)) w) := by
  go_enter Tryz.func118, Tryz.ntmps118
  go_wp2
  go_ret
  exact ⟨rfl, rfl⟩
set_option maxHeartbeats 1000000 in
theorem sum_any (s : ByteArray) (w : World) (hs : s.size ≤ 1000) : Calls Tryz.prog 119 #[.string s] w (RetS (.int .u64 (sumI s s.size)) w) := by
  go_enter Tryz.func119, Tryz.ntmps119
  go_wp2
  go_loop [3, 7] (fun x i => ∃ k : Nat, k ≤ s.size ∧ i = .int .i64 k ∧ x = .int .u64 (sumI s k)) (fun _ i => s.size - (intOf i).toNat)
  case atStart => exact ⟨0, by omega, rfl, rfl⟩
  case round =>
    obtain ⟨k, hk, rfl, rfl⟩ := hrel
    by_cases hlt : k < s.size
    · have HB := Lib.hid (byI_eq s k hlt)
      go_wp2
      go_round
      case rel => exact ⟨k + 1, by omega, by go_num, by rw [sumI_succ, HB.out, wrap_by]⟩
      case measure => simp [intOf]; omega
    · obtain rfl : k = s.size := by omega
      go_wp2
      go_ret
      exact ⟨rfl, rfl⟩
theorem keyed_any (key : Int) (s : ByteArray) (w : World) (hs : s.size ≤ 1000) : Calls Tryz.prog 85 #[.int .u64 key, .string s] w (RetS (.int .u64 (keyI key s)) w) := by
  have HS := Lib.hid (sum_any s)
  have HZ := Lib.hid hs
  clear hs
  go_enter Tryz.func85, Tryz.ntmps85
  go_wp2_with (first
    | (go_at_call 118; (with_reducible refine (mix_any _ _).mono ?_); rintro e w' ⟨rfl, rfl⟩)
    | (go_at_call 119; (with_reducible refine (HS.out _ HZ.out).mono ?_); rintro e w' ⟨rfl, rfl⟩))
  go_ret
  exact ⟨rfl, rfl⟩
end Go.Proofs.YtnnocbelgfhecaaGreatDoor
