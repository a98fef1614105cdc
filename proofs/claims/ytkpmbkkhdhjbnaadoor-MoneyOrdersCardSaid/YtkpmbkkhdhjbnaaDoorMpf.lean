/- The examples of the law. -/
import Derived.Test.YtkpmbkkhdhjbnaaDoorMpe
import Derived.Test.YtkpmbkkhdhjbnaaDoorMpb
import Derived.Test.YtkpmbkkhdhjbnaaDoorAna
namespace Go.Lott.Spl
def P3 (x y z : Int) : Nat → Int := fun i => if i = 0 then x else if i = 1 then y else z
theorem ord124 : Ord (rv 10 (sm (P3 1 2 4) 3) (P3 1 2 4)) 3 [1, 2, 0] := by
  refine ⟨fun x => ?_, ?_⟩
  · simp; omega
  · have h : ∀ i j, (if rv 10 (sm (P3 1 2 4) 3) (P3 1 2 4) j < rv 10 (sm (P3 1 2 4) 3) (P3 1 2 4) i then true else false) = true → bef (rv 10 (sm (P3 1 2 4) 3) (P3 1 2 4)) i j := fun i j h => by
      split at h
      · exact .inl (by assumption)
      · cases h
    refine .cons ?_ (.cons ?_ (.cons ?_ .nil))
    · intro a ha
      simp only [List.mem_cons, List.not_mem_nil, or_false] at ha
      rcases ha with rfl | rfl
      · exact h 1 2 (by decide +kernel)
      · exact h 1 0 (by decide +kernel)
    · intro a ha
      simp only [List.mem_cons, List.not_mem_nil, or_false] at ha
      subst ha
      exact h 2 0 (by decide +kernel)
    · intro a ha; cases ha
theorem spl124 : IsSpl 10 3 (P3 1 2 4) (P3 1 3 6) := by
  refine ⟨[1, 2, 0], ord124, fun i hi => ?_⟩
  have h0 : P3 1 3 6 0 = qv 10 (sm (P3 1 2 4) 3) (P3 1 2 4) 0 + pick [1, 2, 0] (lf 10 (P3 1 2 4) 3).toNat 0 := by decide +kernel
  have h1 : P3 1 3 6 1 = qv 10 (sm (P3 1 2 4) 3) (P3 1 2 4) 1 + pick [1, 2, 0] (lf 10 (P3 1 2 4) 3).toNat 1 := by decide +kernel
  have h2 : P3 1 3 6 2 = qv 10 (sm (P3 1 2 4) 3) (P3 1 2 4) 2 + pick [1, 2, 0] (lf 10 (P3 1 2 4) 3).toNat 2 := by decide +kernel
  rcases (show i = 0 ∨ i = 1 ∨ i = 2 by omega) with rfl | rfl | rfl
  · exact h0
  · exact h1
  · exact h2
end Go.Lott.Spl
namespace Go.Proofs.YtkpmbkkhdhjbnaaDoor
open Go.ChangeShapes Go.WideShapes Go.ChangeAt Go.RowKit Go.Lott
open Go.Lott.Spl Go.Lott.Mny
set_option maxHeartbeats 2000000 in
/-- Two rows of the same numbers. -/
theorem same_any (a a' : Option Addr) (n cap cap' : Nat) (P P' : Nat → Int) (w : World) (h : IsRow w a n P) (h' : IsRow w a' n P') (hp : ∀ i, i < n → P i = P' i) :
    Calls Tryd.prog 13 #[.slice a n cap, .slice a' n cap'] w (RetB (.bool true) w) := by
  have HA := Lib.hid h
  have HB := Lib.hid h'
  have HP := Lib.hid hp
  clear h h' hp
  go_enter Tryd.func13, Tryd.ntmps13
  go_wp2
  go_loopw [13] (fun i wr => ∃ k : Nat, k ≤ n ∧ i = .int .i64 k ∧ Below w.heap.size w wr) (fun i _ => n - (intOf i).toNat)
  case atStart => exact ⟨0, by omega, rfl, Below.refl _ _⟩
  case round =>
    obtain ⟨k, hk, rfl, hbel⟩ := hrel
    by_cases hlt : k < n
    · obtain ⟨b, o, rfl, hb, hmx, hc⟩ := HA.out.resolve_left (by omega)
      obtain ⟨b', o', rfl, hb', _, hc'⟩ := HB.out.resolve_left (by omega)
      have ck := (hbel.cell (p := ⟨b, _, none⟩) hb).trans (hc k hlt)
      have ck' := (hbel.cell (p := ⟨b', _, none⟩) hb').trans (hc' k hlt)
      rw [← HP.out k hlt] at ck'
      have hbs := hbel.size
      have s1 : ∀ x : Sub wr.heap.size wr, x.w.cell? ⟨b, o + k, none⟩ = some (.int .i64 (P k)) := Sub.cell ck (Nat.lt_of_lt_of_le hb hbs)
      have s2 : ∀ x : Sub wr.heap.size wr, x.w.cell? ⟨b', o' + k, none⟩ = some (.int .i64 (P k)) := Sub.cell ck' (Nat.lt_of_lt_of_le hb' hbs)
      unfold maxLen at hmx
      have i1 : (0 : Int) ≤ (k : Int) := by omega
      have i2 : (k : Int) < (n : Int) := by omega
      clear hc hc'
      go_wp2
      refine wp_region_below (by kernel_rfl) (by kernel_rfl) ?_
      repeat (go_big_quiet_step (fail))
      refine wpQuiet_nil ?_
      rintro w2 ⟨⟨_, hb2⟩, rfl⟩
      go_wp2
      go_roundw
      case rel => exact ⟨k + 1, hlt, by go_num, hbel.trans (hb2.mono hbs)⟩
      case measure => simp [intOf]; omega
    · obtain rfl : k = n := by omega
      go_wp2
      go_ret
      exact ⟨rfl, hbel⟩
theorem isRow3 (w : World) (x y z : Int) (t : TypeId) : IsRow (w.alloc (.cells #[.int .i64 x, .int .i64 y, .int .i64 z] t)) (some ⟨w.heap.size, 0, none⟩) 3 (P3 x y z) := by
  refine .inr ⟨w.heap.size, 0, rfl, by simp, by decide, fun i hi => ?_⟩
  have hc := Cel.new w #[.int .i64 x, .int .i64 y, .int .i64 z] t
  rw [hc.cell]
  rcases (show i = 0 ∨ i = 1 ∨ i = 2 by omega) with rfl | rfl | rfl <;> rfl
theorem split124 (w : World) : Calls Tryd.prog 11 #[.int .i64 10, .slice (some ⟨w.heap.size, 0, none⟩) 3 3] (w.alloc (.cells #[.int .i64 1, .int .i64 2, .int .i64 4] 3)) fun e w' =>
    Below w.heap.size w w' ∧ ∃ b cap, e = .returned (.tuple #[.slice (some ⟨b, 0, none⟩) 3 cap, .int .i64 0]) ∧ IsRow w' (some ⟨b, 0, none⟩) 3 (P3 1 3 6) := by
  refine (Split_any 10 _ 3 3 (P3 1 2 4) _ (isRow3 w 1 2 4 3) (by decide)).mono fun e w' h => ?_
  obtain ⟨hb, ⟨_, b, cap, P, he, hr, hs⟩ | ⟨hne, _⟩⟩ := h
  · refine ⟨((Below.refl _ _).alloc (Nat.le_refl _) _).trans (hb.mono (by simp)), b, cap, he, ?_⟩
    have hu := IsSpl.unique hs spl124
    rcases hr with hr | ⟨b', o', e1, e2, e3, e4⟩
    · omega
    · exact .inr ⟨b', o', e1, e2, e3, fun i hi => by rw [e4 i hi, hu i hi]⟩
  · exact absurd (by decide +kernel) hne
theorem same136 (b1 c1 : Nat) (w1 w2 : World) (hr : IsRow w1 (some ⟨b1, 0, none⟩) 3 (P3 1 3 6)) (hb : Below w1.heap.size w1 w2) :
    Calls Tryd.prog 13 #[.slice (some ⟨b1, 0, none⟩) 3 c1, .slice (some ⟨w2.heap.size, 0, none⟩) 3 3] (w2.alloc (.cells #[.int .i64 1, .int .i64 3, .int .i64 6] 3))
      fun e w4 => e = .returned (.bool true) ∧ Below w1.heap.size w1 w4 := by
  have r := isRow3 w2 1 3 6 3
  have b3 := hb.alloc hb.size (.cells #[.int .i64 1, .int .i64 3, .int .i64 6] 3)
  exact (same_any _ _ 3 c1 3 _ _ _ (hr.below b3 (Nat.le_refl _)) r (fun _ _ => rfl)).mono fun e w4 h => ⟨h.1, b3.trans (h.2.mono b3.size)⟩
theorem maw2 (w : World) : Calls Tryd.prog 17 #[.string ⟨#[49, 50, 46, 51, 52]⟩] w (RetS (.tuple #[.int .i64 1234, .int .i64 0]) w) := mParse_any ⟨#[49, 50, 46, 51, 52]⟩ w (by decide)
theorem maw3 (w : World) : Calls Tryd.prog 21 #[.int .i64 1234, .int .i64 100] w (RetB (.tuple #[.int .i64 1200, .int .i64 34, .int .i64 0]) w) := Round_any 1234 100 w
theorem mT1234 : mTB 1234 = ⟨#[49, 50, 46, 51, 52]⟩ := by
  refine bytes_of ?_
  rw [mTB_list, mT_yes (by decide), show (1234 / 100 : Int).toNat = 12 from rfl, Lib.decDigits_two (by decide) (by decide)]
  rfl
theorem maw4 (w : World) (hp : P10 w) : Calls Tryd.prog 19 #[.int .i64 1234] w (RetB (.string ⟨#[49, 50, 46, 51, 52]⟩) w) := by
  have := mFormat_any 1234 w hp
  rw [mT1234] at this; exact this
theorem maw5 (w : World) : Calls Tryd.prog 15 #[.int .i64 5] w (RetS (.bool true) w) := Valid_any 5 w
set_option maxHeartbeats 1000000 in
set_option maxRecDepth 100000 in
theorem mawake_any (w : World) (hp : P10 w) : Calls Tryd.prog 14 #[] w (RetB (.bool true) w) := by
  have HT := Lib.hid hp
  have HS := Lib.hid split124
  clear hp
  go_enter Tryd.func14, Tryd.ntmps14
  go_wp2_with (first
    | (go_at_call 11; ((with_reducible refine (HS.out _).mono ?_); rintro e w1 ⟨hb1, b1, c1, rfl, r1⟩; have HR1 := Lib.hid r1; have HB1 := Lib.hid hb1; clear r1 hb1))
    | (go_at_call 17; ((with_reducible refine (maw2 _).mono ?_); rintro e w' ⟨rfl, rfl⟩))
    | (go_at_call 21; ((with_reducible refine (maw3 _).mono ?_); rintro e w2 ⟨rfl, hb2⟩; have HB2 := Lib.hid hb2; clear hb2))
    | (go_at_call 13; ((with_reducible refine (same136 _ _ _ _ HR1.out HB2.out).mono ?_); rintro e w3 ⟨rfl, hb3⟩; have HB3 := Lib.hid (HB1.out.trans (hb3.mono HB1.out.size)); clear hb3))
    | (go_at_call 19; ((with_reducible refine (maw4 _ (HT.out.grow HB3.out)).mono ?_); rintro e w4 ⟨rfl, hb4⟩; have HB4 := Lib.hid (HB3.out.trans (hb4.mono HB3.out.size)); clear hb4))
    | (go_at_call 15; ((with_reducible refine (maw5 _).mono ?_); rintro e w' ⟨rfl, rfl⟩)))
  go_ret
  exact ⟨rfl, HB4.out⟩
end Go.Proofs.YtkpmbkkhdhjbnaaDoor
