/- The law's example. -/
import Derived.Test.YtkpmbkkhdhjbnaaAne
namespace Go.Proofs.Ytkpmbkkhdhjbnaa
open Go.ChangeShapes Go.WideShapes Go.ChangeAt Go.RowKit Go.Lott
open Go.Lott.Spl
theorem same3 (b1 c1 : Nat) (w1 w2 : World) (hr : IsRow w1 (some ⟨b1, 0, none⟩) 3 (P3 302115 332326 365559)) (hb : Below w1.heap.size w1 w2) :
    Calls Try.prog 16 #[.slice (some ⟨b1, 0, none⟩) 3 c1, .slice (some ⟨w2.heap.size + 1, 0, none⟩) 3 3] ((w2.alloc (.cells #[.int .i64 5, .int .i64 6, .int .i64 7] 3)).alloc (.cells #[.int .i64 302115, .int .i64 332326, .int .i64 365559] 3))
      fun e w4 => e = .returned (.bool true) ∧ Below w1.heap.size w1 w4 := by
  have e : (w2.alloc (.cells #[.int .i64 5, .int .i64 6, .int .i64 7] 3)).heap.size = w2.heap.size + 1 := by simp
  have r := isRow3 (w2.alloc (.cells #[.int .i64 5, .int .i64 6, .int .i64 7] 3)) 302115 332326 365559 3
  rw [e] at r
  have b2 := hb.alloc hb.size (.cells #[.int .i64 5, .int .i64 6, .int .i64 7] 3)
  have b3 := b2.alloc b2.size (.cells #[.int .i64 302115, .int .i64 332326, .int .i64 365559] 3)
  exact (same_any _ _ 3 c1 3 _ _ _ (hr.below b3 (Nat.le_refl _)) r (fun _ _ => rfl)).mono fun e w4 h => ⟨h.1, b3.trans (h.2.mono b3.size)⟩
set_option maxHeartbeats 1000000 in
set_option maxRecDepth 100000 in
theorem awake_any (w : World) : Calls Try.prog 17 #[] w (RetB (.bool true) w) := by
  have HPAY := Lib.hid pays3
  have HCA := Lib.hid cash3
  have HLE := Lib.hid left3
  go_enter Try.func17, Try.ntmps17
  go_wp2_with (first
    | (go_at_call 14; ((with_reducible refine (HPAY.out _).mono ?_); rintro e w1 ⟨hb1, b1, c1, rfl, r1⟩; have HR1 := Lib.hid r1; have HB1 := Lib.hid hb1; clear r1 hb1))
    | (go_at_call 18; ((with_reducible refine (HCA.out _).mono ?_); rintro e w2 ⟨rfl, hb2⟩; have HB2 := Lib.hid (((Below.refl _ _).alloc (Nat.le_refl _) _).trans (hb2.mono (by simp))); clear hb2))
    | (go_at_call 20; ((with_reducible refine (HLE.out _).mono ?_); rintro e w3 ⟨rfl, rfl⟩))
    | (go_at_call 16; ((with_reducible refine (same3 _ _ _ _ HR1.out HB2.out).mono ?_); rintro e w4 ⟨rfl, hb4⟩; have HB4 := Lib.hid hb4; clear hb4)))
  go_ret
  exact ⟨rfl, HB1.out.trans (HB4.out.mono HB1.out.size)⟩
end Go.Proofs.Ytkpmbkkhdhjbnaa
