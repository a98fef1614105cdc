/- The examples of the laws on syndicates. -/
import Derived.Test.YtkpmbkkhdhjbnaaSyg
import Derived.Test.YtkpmbkkhdhjbnaaSyk
import Derived.Test.YtkpmbkkhdhjbnaaAne
namespace Go.Proofs.Ytkpmbkkhdhjbnaa
open Go.ChangeShapes Go.WideShapes Go.ChangeAt Go.RowKit Go.Lott
open Go.Lott.Syn Go.Lott.Spl
set_option maxHeartbeats 2000000 in
/-- Two rows of the same numbers. -/
theorem ssame_any (a a' : Option Addr) (n cap cap' : Nat) (P P' : Nat → Int) (w : World) (h : IsRow w a n P) (h' : IsRow w a' n P') (hp : ∀ i, i < n → P i = P' i) :
    Calls Try.prog 28 #[.slice a n cap, .slice a' n cap'] w (RetB (.bool true) w) := by
  have HA := Lib.hid h
  have HB := Lib.hid h'
  have HP := Lib.hid hp
  clear h h' hp
  go_enter Try.func28, Try.ntmps28
  go_wp2
  go_loopw [13] (fun i wr => ∃ k : Nat, k ≤ n ∧ i = .int .i64 k ∧ Below w.heap.size w wr) (fun i _ => n - (intOf i).toNat)
  case atStart => exact ⟨0, by omega, rfl, Below.refl _ _⟩
  case round =>
    obtain ⟨k, hk, rfl, hbel⟩ := hrel
    by_cases hlt : k < n
    · obtain ⟨b, o, rfl, hb, hmx, hc⟩ := HA.out.resolve_left (by omega)
      obtain ⟨b', o', rfl, hb', _, hc'⟩ := HB.out.resolve_left (by omega)
      have ck := (hbel.cell (p := ⟨b, _, none⟩) hb).trans (hc k hlt)
      have ck' := (hbel.cell (p := ⟨b', _, none⟩) hb').trans (hc' k hlt)
      rw [← HP.out k hlt] at ck'
      have hbs := hbel.size
      have s1 : ∀ x : Sub wr.heap.size wr, x.w.cell? ⟨b, o + k, none⟩ = some (.int .i64 (P k)) := Sub.cell ck (Nat.lt_of_lt_of_le hb hbs)
      have s2 : ∀ x : Sub wr.heap.size wr, x.w.cell? ⟨b', o' + k, none⟩ = some (.int .i64 (P k)) := Sub.cell ck' (Nat.lt_of_lt_of_le hb' hbs)
      unfold maxLen at hmx
      have i1 : (0 : Int) ≤ (k : Int) := by omega
      have i2 : (k : Int) < (n : Int) := by omega
      clear hc hc'
      go_wp2
      refine wp_region_below (by kernel_rfl) (by kernel_rfl) ?_
      repeat (go_big_quiet_step (fail))
      refine wpQuiet_nil ?_
      rintro w2 ⟨⟨_, hb2⟩, rfl⟩
      go_wp2
      go_roundw
      case rel => exact ⟨k + 1, hlt, by go_num, hbel.trans (hb2.mono hbs)⟩
      case measure => simp [intOf]; omega
    · obtain rfl : k = n := by omega
      go_wp2
      go_ret
      exact ⟨rfl, hbel⟩

set_option maxHeartbeats 2000000 in
theorem shares_any (a a' : Option Addr) (n cap cap' : Nat) (z z' : Nat → Nat → Int) (w : World) (h : IsRows 2 w a n z) (h' : IsRows 2 w a' n z') (hp : ∀ i, i < n → z i 0 = z' i 0 ∧ z i 1 = z' i 1) :
    Calls Try.prog 31 #[.slice a n cap, .slice a' n cap'] w (RetB (.bool true) w) := by
  have HA := Lib.hid h
  have HB := Lib.hid h'
  have HP := Lib.hid hp
  clear h h' hp
  go_enter Try.func31, Try.ntmps31
  go_wp2
  go_loopw [13] (fun i wr => ∃ k : Nat, k ≤ n ∧ i = .int .i64 k ∧ Below w.heap.size w wr) (fun i _ => n - (intOf i).toNat)
  case atStart => exact ⟨0, by omega, rfl, Below.refl _ _⟩
  case round =>
    obtain ⟨k, hk, rfl, hbel⟩ := hrel
    by_cases hlt : k < n
    · obtain ⟨b, o, rfl, hb, hmx, hc⟩ := HA.out.resolve_left (by omega)
      obtain ⟨b', o', rfl, hb', _, hc'⟩ := HB.out.resolve_left (by omega)
      have hbs := hbel.size
      have c0 := (hbel.cell (p := ⟨b, _, none⟩) hb).trans (hc k 0 hlt (by omega))
      have c1 := (hbel.cell (p := ⟨b, _, none⟩) hb).trans (hc k 1 hlt (by omega))
      have d0 := (hbel.cell (p := ⟨b', _, none⟩) hb').trans (hc' k 0 hlt (by omega))
      have d1 := (hbel.cell (p := ⟨b', _, none⟩) hb').trans (hc' k 1 hlt (by omega))
      rw [← (HP.out k hlt).1] at d0
      rw [← (HP.out k hlt).2] at d1
      have s0 : ∀ x : Sub wr.heap.size wr, x.w.cell? ⟨b, o + k * 2, none⟩ = some (.int .i64 (z k 0)) := Sub.cell c0 (Nat.lt_of_lt_of_le hb hbs)
      have s1 : ∀ x : Sub wr.heap.size wr, x.w.cell? ⟨b, o + k * 2 + 1, none⟩ = some (.int .i64 (z k 1)) := Sub.cell c1 (Nat.lt_of_lt_of_le hb hbs)
      have s2 : ∀ x : Sub wr.heap.size wr, x.w.cell? ⟨b', o' + k * 2, none⟩ = some (.int .i64 (z k 0)) := Sub.cell d0 (Nat.lt_of_lt_of_le hb' hbs)
      have s3 : ∀ x : Sub wr.heap.size wr, x.w.cell? ⟨b', o' + k * 2 + 1, none⟩ = some (.int .i64 (z k 1)) := Sub.cell d1 (Nat.lt_of_lt_of_le hb' hbs)
      unfold maxLen at hmx
      have i1 : (0 : Int) ≤ (k : Int) := by omega
      have i2 : (k : Int) < (n : Int) := by omega
      clear hc hc' c0 c1 d0 d1
      go_wp2
      refine wp_region_below (by kernel_rfl) (by kernel_rfl) ?_
      repeat (go_big_quiet_step (fail))
      refine wpQuiet_nil ?_
      rintro w2 ⟨⟨_, hb2⟩, rfl⟩
      go_wp2
      go_roundw
      case rel => exact ⟨k + 1, hlt, by go_num, hbel.trans (hb2.mono hbs)⟩
      case measure => simp [intOf]; omega
    · obtain rfl : k = n := by omega
      go_wp2
      go_ret
      exact ⟨rfl, hbel⟩
theorem rows_new (w : World) (l : List Sh) (cs : Array Value) (t : TypeId) (h : cs.toList = fl2 l) (hn : l.length ≤ maxLen) : IsRows 2 (w.alloc (.cells cs t)) (some ⟨w.heap.size, 0, none⟩) l.length (zL l) :=
  IsRows.of_rw2 ⟨cs, Cel.new w cs t, fun i hi => by rw [← Array.getElem?_toList, ← Array.getElem?_toList, h]; exact fl2_get l i hi⟩ hn
theorem row_new1 (w : World) (x : Int) (t : TypeId) : IsRow (w.alloc (.cells #[.int .i64 x] t)) (some ⟨w.heap.size, 0, none⟩) 1 (fun _ => x) := by
  refine .inr ⟨w.heap.size, 0, rfl, by simp, by decide, fun i hi => ?_⟩
  have hc := Cel.new w #[.int .i64 x] t
  rw [hc.cell]
  obtain rfl : i = 0 := by omega
  rfl
theorem ord111 : Ord (rv 1000 (Spl.sm (ptW (zL [(7, 1), (3, 1), (5, 1)])) 3) (ptW (zL [(7, 1), (3, 1), (5, 1)]))) 3 [0, 1, 2] := by
  refine ⟨fun x => ?_, ?_⟩
  · simp; omega
  · generalize hR : rv 1000 (Spl.sm (ptW (zL [(7, 1), (3, 1), (5, 1)])) 3) (ptW (zL [(7, 1), (3, 1), (5, 1)])) = R
    have h0 : R 0 = 1 := by rw [← hR]; decide +kernel
    have h1 : R 1 = 1 := by rw [← hR]; decide +kernel
    have h2 : R 2 = 1 := by rw [← hR]; decide +kernel
    refine .cons ?_ (.cons ?_ (.cons ?_ .nil))
    · intro a ha
      simp only [List.mem_cons, List.not_mem_nil, or_false] at ha
      rcases ha with rfl | rfl
      · exact .inr ⟨by rw [h0, h1], by omega⟩
      · exact .inr ⟨by rw [h0, h2], by omega⟩
    · intro a ha
      simp only [List.mem_cons, List.not_mem_nil, or_false] at ha
      subst ha
      exact .inr ⟨by rw [h1, h2], by omega⟩
    · intro a ha; cases ha
theorem spl111 : IsSpl 1000 3 (ptW (zL [(7, 1), (3, 1), (5, 1)])) (P3 334 333 333) := by
  refine ⟨[0, 1, 2], ord111, fun i hi => ?_⟩
  have h0 : P3 334 333 333 0 = qv 1000 (Spl.sm (ptW (zL [(7, 1), (3, 1), (5, 1)])) 3) (ptW (zL [(7, 1), (3, 1), (5, 1)])) 0 + pick [0, 1, 2] (lf 1000 (ptW (zL [(7, 1), (3, 1), (5, 1)])) 3).toNat 0 := by decide +kernel
  have h1 : P3 334 333 333 1 = qv 1000 (Spl.sm (ptW (zL [(7, 1), (3, 1), (5, 1)])) 3) (ptW (zL [(7, 1), (3, 1), (5, 1)])) 1 + pick [0, 1, 2] (lf 1000 (ptW (zL [(7, 1), (3, 1), (5, 1)])) 3).toNat 1 := by decide +kernel
  have h2 : P3 334 333 333 2 = qv 1000 (Spl.sm (ptW (zL [(7, 1), (3, 1), (5, 1)])) 3) (ptW (zL [(7, 1), (3, 1), (5, 1)])) 2 + pick [0, 1, 2] (lf 1000 (ptW (zL [(7, 1), (3, 1), (5, 1)])) 3).toNat 2 := by decide +kernel
  rcases (show i = 0 ∨ i = 1 ∨ i = 2 by omega) with rfl | rfl | rfl
  · exact h0
  · exact h1
  · exact h2
theorem spl5 : IsSpl 5 1 (ptW (zL [(1, 9)])) (fun _ => 5) := by
  refine ⟨[0], ⟨fun x => by simp, .cons (fun a ha => by cases ha) .nil⟩, fun i hi => ?_⟩
  obtain rfl : i = 0 := by omega
  decide +kernel
theorem isRow_congr {w : World} {a : Option Addr} {n : Nat} {P P' : Nat → Int} (h : IsRow w a n P) (hp : ∀ i, i < n → P i = P' i) : IsRow w a n P' := by
  rcases h with h | ⟨b, o, e1, e2, e3, e4⟩
  · exact .inl h
  · exact .inr ⟨b, o, e1, e2, e3, fun i hi => by rw [e4 i hi, hp i hi]⟩
theorem pay111 (w : World) : Calls Try.prog 24 #[.int .i64 1000, .slice (some ⟨w.heap.size, 0, none⟩) 3 3] (w.alloc (.cells #[.int .i64 7, .int .i64 1, .int .i64 3, .int .i64 1, .int .i64 5, .int .i64 1] 46)) fun e w' =>
    Below w.heap.size w w' ∧ ∃ b cap, e = .returned (.tuple #[.slice (some ⟨b, 0, none⟩) 3 cap, .int .i64 0]) ∧ IsRow w' (some ⟨b, 0, none⟩) 3 (P3 334 333 333) := by
  refine (sPay_any 1000 _ 3 3 (zL [(7, 1), (3, 1), (5, 1)]) _ (rows_new w [(7, 1), (3, 1), (5, 1)] _ _ rfl (by decide)) (by decide) (by decide)).mono fun e w' h => ?_
  obtain ⟨hb, ⟨_, b, cap, P, he, hr, hs⟩ | ⟨hne, _⟩⟩ := h
  · exact ⟨((Below.refl _ _).alloc (Nat.le_refl _) _).trans (hb.mono (by simp)), b, cap, he, isRow_congr hr (IsSpl.unique hs spl111)⟩
  · exact absurd (by decide +kernel) hne
theorem pay9 (w : World) : Calls Try.prog 23 #[.int .i64 5, .slice (some ⟨w.heap.size, 0, none⟩) 1 1] (w.alloc (.cells #[.int .i64 1, .int .i64 9] 46)) fun e w' =>
    Below w.heap.size w w' ∧ ∃ b cap, e = .returned (.tuple #[.slice (some ⟨b, 0, none⟩) 1 cap, .int .i64 0]) ∧ IsRow w' (some ⟨b, 0, none⟩) 1 (fun _ => 5) := by
  refine (Contribute_any 5 _ 1 1 (zL [(1, 9)]) _ (rows_new w [(1, 9)] _ _ rfl (by decide)) (by decide) (by decide)).mono fun e w' h => ?_
  obtain ⟨hb, ⟨_, b, cap, P, he, hr, hs⟩ | ⟨hne, _⟩⟩ := h
  · exact ⟨((Below.refl _ _).alloc (Nat.le_refl _) _).trans (hb.mono (by simp)), b, cap, he, isRow_congr hr (IsSpl.unique hs spl5)⟩
  · exact absurd (by decide +kernel) hne
theorem tr351 (w : World) : Calls Try.prog 29 #[.slice (some ⟨w.heap.size, 0, none⟩) 2 2, .int .i64 3, .int .i64 5, .int .i64 1] (w.alloc (.cells #[.int .i64 7, .int .i64 2, .int .i64 3, .int .i64 4] 46)) fun e w' =>
    Below w.heap.size w w' ∧ ∃ a cap, e = .returned (.tuple #[.slice a 3 cap, .int .i64 0]) ∧ IsRows 2 w' a 3 (zL [(3, 3), (5, 1), (7, 2)]) ∧ 3 ≤ cap := by
  refine (Transfer_any _ 2 2 (zL [(7, 2), (3, 4)]) 3 5 1 _ (rows_new w [(7, 2), (3, 4)] _ _ rfl (by decide)) (by decide) (by decide)).mono fun e w' h => ?_
  have ht : trS (zL [(7, 2), (3, 4)]) 3 5 1 2 = [(3, 3), (5, 1), (7, 2)] := by decide +kernel
  obtain ⟨hb, ⟨_, a, cap, he, hr, hc⟩ | ⟨hne, _⟩⟩ := h
  · rw [ht] at he hr hc
    exact ⟨((Below.refl _ _).alloc (Nat.le_refl _) _).trans (hb.mono (by simp)), a, cap, he, hr, hc⟩
  · exact absurd (by decide +kernel) hne
set_option maxHeartbeats 2000000 in
set_option maxRecDepth 100000 in
theorem sawake_any (w : World) : Calls Try.prog 22 #[] w (RetB (.bool true) w) := by
  have HPAY := Lib.hid pay111
  have HCO := Lib.hid pay9
  have HTR := Lib.hid tr351
  have HS3 := Lib.hid (fun (a : Option Addr) (c : Nat) (w1 w2 : World) (hr : IsRow w1 a 3 (P3 334 333 333)) (hb : Below w1.heap.size w1 w2) => ssame_any a (some ⟨w2.heap.size, 0, none⟩) 3 c 3 _ (P3 334 333 333) (w2.alloc (.cells #[.int .i64 334, .int .i64 333, .int .i64 333] 3)) ((hr.below hb (Nat.le_refl _)).below ((Below.refl _ _).alloc (Nat.le_refl _) _) (Nat.le_refl _)) (isRow3 w2 334 333 333 3) (fun _ _ => rfl))
  have HS1 := Lib.hid (fun (a : Option Addr) (c : Nat) (w1 w2 : World) (hr : IsRow w1 a 1 (fun _ => 5)) (hb : Below w1.heap.size w1 w2) => ssame_any a (some ⟨w2.heap.size, 0, none⟩) 1 c 1 _ (fun _ => 5) (w2.alloc (.cells #[.int .i64 5] 3)) ((hr.below hb (Nat.le_refl _)).below ((Below.refl _ _).alloc (Nat.le_refl _) _) (Nat.le_refl _)) (row_new1 w2 5 3) (fun _ _ => rfl))
  have HSH := Lib.hid (fun (a : Option Addr) (c : Nat) (w1 w2 : World) (hr : IsRows 2 w1 a 3 (zL [(3, 3), (5, 1), (7, 2)])) (hb : Below w1.heap.size w1 w2) => shares_any a (some ⟨w2.heap.size, 0, none⟩) 3 c 3 _ (zL [(3, 3), (5, 1), (7, 2)]) (w2.alloc (.cells #[.int .i64 3, .int .i64 3, .int .i64 5, .int .i64 1, .int .i64 7, .int .i64 2] 46)) ((hr.below hb (Nat.le_refl _)).below ((Below.refl _ _).alloc (Nat.le_refl _) _) (Nat.le_refl _)) (rows_new w2 [(3, 3), (5, 1), (7, 2)] _ _ rfl (by decide)) (fun _ _ => ⟨rfl, rfl⟩))
  have HCK := Lib.hid (fun (a : Option Addr) (c : Nat) (w1 w2 : World) (hr : IsRows 2 w1 a 3 (zL [(3, 3), (5, 1), (7, 2)])) (hb : Below w1.heap.size w1 w2) (hc : 3 ≤ c) => (show Calls Try.prog 26 #[.slice a 3 c] w2 (RetB (.int .i64 0) w2) from sCheck_any a 3 c (zL [(3, 3), (5, 1), (7, 2)]) w2 (hr.below hb (Nat.le_refl _)) (by decide) hc))
  go_enter Try.func22, Try.ntmps22
  go_wp2_with (first
    | (go_at_call 24; ((with_reducible refine (HPAY.out _).mono ?_); rintro e w1 ⟨hb1, b1, c1, rfl, r1⟩; have HR1 := Lib.hid r1; have HB1 := Lib.hid hb1; clear r1 hb1))
    | (go_at_call 29; ((with_reducible refine (HTR.out _).mono ?_); rintro e w2 ⟨hb2, a2, c2, rfl, r2, l2⟩; have HR2 := Lib.hid r2; have HL2 := Lib.hid l2; have HB2 := Lib.hid hb2; clear r2 hb2 l2))
    | (go_at_call 23; ((with_reducible refine (HCO.out _).mono ?_); rintro e w3 ⟨hb3, b3, c3, rfl, r3⟩; have HR3 := Lib.hid r3; have HB3 := Lib.hid hb3; have HB13 := Lib.hid (HB2.out.trans (hb3.mono HB2.out.size)); clear r3 hb3))
    | (go_at_call 28; ((with_reducible refine (HS3.out _ _ _ _ HR1.out HB13.out).mono ?_); rintro e w4 ⟨rfl, hb4⟩; have HB4 := Lib.hid (((Below.refl w3.heap.size w3).alloc (Nat.le_refl _) (.cells #[.int .i64 334, .int .i64 333, .int .i64 333] 3)).trans (hb4.mono (by simp))); have HB24 := Lib.hid (HB3.out.trans (HB4.out.mono HB3.out.size)); clear hb4))
    | (go_at_call 31; ((with_reducible refine (HSH.out _ _ _ _ HR2.out HB24.out).mono ?_); rintro e w5 ⟨rfl, hb5⟩; have HB5 := Lib.hid (((Below.refl w4.heap.size w4).alloc (Nat.le_refl _) (.cells #[.int .i64 3, .int .i64 3, .int .i64 5, .int .i64 1, .int .i64 7, .int .i64 2] 46)).trans (hb5.mono (by simp))); have HB35 := Lib.hid (HB4.out.trans (HB5.out.mono HB4.out.size)); clear hb5))
    | (go_at_call 28; ((with_reducible refine (HS1.out _ _ _ _ HR3.out HB35.out).mono ?_); rintro e w6 ⟨rfl, hb6⟩; have HB6 := Lib.hid (((Below.refl w5.heap.size w5).alloc (Nat.le_refl _) (.cells #[.int .i64 5] 3)).trans (hb6.mono (by simp))); have HB26 := Lib.hid (HB24.out.trans ((HB5.out.trans (HB6.out.mono HB5.out.size)).mono HB24.out.size)); clear hb6))
    | (go_at_call 26; ((with_reducible refine (HCK.out _ _ _ _ HR2.out HB26.out HL2.out).mono ?_); rintro e w7 ⟨rfl, hb7⟩; have HB27 := Lib.hid (HB26.out.trans (hb7.mono HB26.out.size)); clear hb7)))
  go_ret
  have x2 := HB1.out.trans (HB2.out.mono HB1.out.size)
  exact ⟨rfl, x2.trans (HB27.out.mono x2.size)⟩
end Go.Proofs.Ytkpmbkkhdhjbnaa
