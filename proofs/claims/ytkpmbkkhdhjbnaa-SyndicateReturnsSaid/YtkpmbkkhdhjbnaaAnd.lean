/- The payments of a plan. -/
import Derived.Test.YtkpmbkkhdhjbnaaAnc
namespace Go.Lott.Spl
/-- The weights of the years. -/
def wt (g : Int) : Nat → Int
  | 0 => 1000000
  | k + 1 => wt g k + wt g k * g / 10000
theorem wt_top : ∀ k, k ≤ 40 → wt 2000 k ≤ 2000000000 := by decide +kernel
theorem wt_ge {g : Int} (h : 0 ≤ g) : ∀ k, 1000000 ≤ wt g k
  | 0 => Int.le_refl _
  | k + 1 => by
    have h1 := wt_ge h k
    have : 0 ≤ wt g k * g / 10000 := Int.ediv_nonneg (Int.mul_nonneg (by omega) h) (by omega)
    show 1000000 ≤ wt g k + wt g k * g / 10000
    omega
theorem wt_mono {g : Int} (h : 0 ≤ g) (h' : g ≤ 2000) : ∀ k, wt g k ≤ wt 2000 k
  | 0 => Int.le_refl _
  | k + 1 => by
    have h1 := wt_mono h h' k
    have h2 := wt_ge h k
    have h3 : wt g k * g ≤ wt 2000 k * 2000 := by
      have a := Int.mul_le_mul_of_nonneg_left h' (show 0 ≤ wt g k by omega)
      omega
    have h4 := Int.ediv_le_ediv (a := wt g k * g) (b := wt 2000 k * 2000) (c := 10000) (by omega) h3
    show wt g k + wt g k * g / 10000 ≤ wt 2000 k + wt 2000 k * 2000 / 10000
    omega
theorem wt_bd {g : Int} (h : 0 ≤ g) (h' : g ≤ 2000) {k : Nat} (hk : k ≤ 40) : 1000000 ≤ wt g k ∧ wt g k ≤ 2000000000 := ⟨wt_ge h k, Int.le_trans (wt_mono h h' k) (wt_top k hk)⟩
def PB (m y g : Int) : Prop := (0 ≤ m ∧ m ≤ 1000000000000) ∧ 1 ≤ y ∧ y ≤ 40 ∧ 0 ≤ g ∧ g ≤ 2000
theorem PB.sok {m g : Int} {n : Nat} (h : PB m n g) : SOk m (wt g) n := by
  obtain ⟨⟨m0, m1⟩, n1, n2, g0, g1⟩ := h
  have hb : ∀ i, i < n → 1000000 ≤ wt g i ∧ wt g i ≤ 2000000000 := fun i hi => wt_bd g0 g1 (by omega)
  refine ⟨m0, m1, by omega, by omega, fun i hi => by have := hb i hi; omega, ?_⟩
  have h1 := sm_mono (f := wt g) (n := n) (fun k hk => by have := hb k hk; omega) (show 1 ≤ n by omega)
  have h2 : sm (wt g) 1 = 1000000 := by simp [sm, wt]
  omega
end Go.Lott.Spl
namespace Go.Proofs.Ytkpmbkkhdhjbnaa
open Go.ChangeShapes Go.WideShapes Go.ChangeAt Go.RowKit Go.Lott
open Go.Lott.Spl
/-- What Payments gives. -/
def PayPost (m y g : Int) (w : World) (e : Ending) (w' : World) : Prop :=
  Below w.heap.size w w' ∧ ((∃ n : Nat, y = n ∧ PB m n g ∧ ∃ b cap P, e = .returned (.tuple #[.slice (some ⟨b, 0, none⟩) n cap, .int .i64 0]) ∧ IsRow w' (some ⟨b, 0, none⟩) n P ∧ IsSpl m n (wt g) P) ∨
    (¬ PB m y g ∧ e = .returned (.tuple #[.slice none 0 0, .int .i64 2])))
theorem Split_ok (m : Int) (a : Option Addr) (n cap : Nat) (ws : Nat → Int) (w : World) (hr : IsRow w a n ws) (hk : SOk m ws n) :
    Calls Try.prog 36 #[.int .i64 m, .slice a n cap] w fun e w' => Below w.heap.size w w' ∧ ∃ b cap P, e = .returned (.tuple #[.slice (some ⟨b, 0, none⟩) n cap, .int .i64 0]) ∧ IsRow w' (some ⟨b, 0, none⟩) n P ∧ IsSpl m n ws P := by
  refine (Split_any m a n cap ws w hr (by have := hk.n2; unfold maxLen; omega)).mono fun e w' h => ?_
  obtain ⟨hb, h | ⟨hne, _⟩⟩ := h
  · exact ⟨hb, h.2⟩
  · exact absurd (splE_ok hk) hne
theorem rSplit_ok (m : Int) (a : Option Addr) (n cap : Nat) (ws : Nat → Int) (w : World) (hr : IsRow w a n ws) (hk : SOk m ws n) :
    Calls Try.prog 38 #[.int .i64 m, .slice a n cap] w fun e w' => Below w.heap.size w w' ∧ ∃ b cap P, e = .returned (.tuple #[.slice (some ⟨b, 0, none⟩) n cap, .int .i64 0]) ∧ IsRow w' (some ⟨b, 0, none⟩) n P ∧ IsSpl m n ws P := by
  refine (rSplit_any m a n cap ws w hr (by have := hk.n2; unfold maxLen; omega)).mono fun e w' h => ?_
  obtain ⟨hb, h | ⟨hne, _⟩⟩ := h
  · exact ⟨hb, h.2⟩
  · exact absurd (splE_ok hk) hne
set_option maxHeartbeats 4000000 in
theorem Weights_any (n : Nat) (g : Int) (w : World) (h2 : n ≤ 40) (g0 : 0 ≤ g) (g1 : g ≤ 2000) (h1 : 1 ≤ n) :
    Calls Try.prog 39 #[.int .i64 n, .int .i64 g] w fun e w' => Below w.heap.size w w' ∧ ∃ b cap, e = .returned (.slice (some ⟨b, 0, none⟩) n cap) ∧ IsRow w' (some ⟨b, 0, none⟩) n (wt g) := by
  obtain ⟨i0, hi, hz0, hz1, hz2⟩ := info_parts info3
  go_enter Try.func39, Try.ntmps39
  go_wp2
  go_loopw [5, 6, 7] (fun vl vw vi wr => ∃ (k : Nat) (v8 : Value), v8 = vl ∧ vi = .int .i64 k ∧ k ≤ n ∧ vw = .int .i64 (wt g k) ∧ wr.ownsRow w.heap.size 3 1 v8 k (fl k (wt g)) ∧ Below w.heap.size w wr) (fun _ _ vi _ => n - (intOf vi).toNat)
  case atStart => exact ⟨0, .slice none 0 0, rfl, rfl, by omega, rfl, ⟨rfl, .inl ⟨rfl, rfl⟩⟩, Below.refl _ _⟩
  case round =>
    obtain ⟨k, v8, rfl, rfl, hk, rfl, o8, hbel⟩ := hrel
    have O8 := Lib.hid o8
    have hbs := hbel.size
    clear o8
    by_cases hlt : k < n
    · obtain ⟨b0, b1⟩ := wt_bd g0 g1 (show k ≤ 40 by omega)
      have m0 : 0 ≤ wt g k * g := Int.mul_nonneg (by omega) g0
      have m1 : wt g k * g ≤ 4000000000000 := by
        have a := Int.mul_le_mul_of_nonneg_left g1 (show 0 ≤ wt g k by omega)
        omega
      have td : (wt g k * g).tdiv 10000 = wt g k * g / 10000 := Int.tdiv_eq_ediv_of_nonneg m0
      have wr1 : IntKind.i64.wrap (wt g k * g) = wt g k * g := IntWalk.i64_in _ (by omega)
      have d0 : 0 ≤ wt g k * g / 10000 := by omega
      have d1 : wt g k * g / 10000 ≤ 400000000 := by omega
      have HN := Lib.hid (show wt g (k + 1) = wt g k + wt g k * g / 10000 from rfl)
      have HF := Lib.hid (fl_succ k (wt g))
      have hi63 : (k : Int) < (n : Int) := by omega
      have hi64 : (n : Int) ≤ 40 := by omega
      have tok1 : True := trivial
      go_wp2_with (at_builtin; have _t := tok1; refine wpList_append_lies _ rfl _ _ 22 rfl w.heap.size 3 i0 (.int .i64 0) 1 8 Try.underlying22 hi hz0 hz1 hz2 rfl (by decide) v8 k (fl k (wt g)) (by rfl) (O8.out.alloc _) ⟨wr.heap.size, 0, none⟩ 1 1 [.int .i64 (wt g k)] (by rfl) (by rfl) (World.news_of_block (cs := #[.int .i64 (wt g k)]) (t := 3) (fr := (0, 0)) (heap_alloc_new wr _)) (by simp [Value.oneCell']) (by omega) (by unfold maxLen; omega) (by omega) (by simp; omega) (wr.heap.size + 1) (by simp) ?_; intro g8 c8 w1 own8 gr8 at8 lt8; clear tok1)
      have hb1 := (hbel.alloc hbs (.cells #[.int .i64 (wt g k)] 3)).grown gr8 (by simp; omega) (own_ge O8.out)
      rw [← HF.out] at own8
      have H8 := Lib.hid own8
      clear own8 gr8 at8 lt8
      go_roundw
      case rel => exact ⟨k + 1, _, rfl, by go_num, hlt, by rw [HN.out], H8.out, hb1⟩
      case measure => simp [intOf]; omega
    · obtain rfl : k = n := by omega
      obtain ⟨g8, c8, rfl, hg8, hl8⟩ := O8.out.form (by omega)
      have HR := Lib.hid (IsRow.of_rw (rw_of_owns O8.out) (show k ≤ maxLen by unfold maxLen; omega))
      go_wp2
      go_ret
      exact ⟨hbel, g8, c8, rfl, HR.out⟩
set_option maxHeartbeats 4000000 in
theorem rPays_any (m y g : Int) (w : World) : Calls Try.prog 15 #[.int .i64 m, .int .i64 y, .int .i64 g] w (PayPost m y g w) := by
  have hv := rValid_any m w
  by_cases hm : ¬ (0 ≤ m ∧ m ≤ 1000000000000)
  · have HN := Lib.hid (show ¬ PB m y g from fun h => hm h.1)
    rw [show amB m = false from decide_eq_false hm] at hv
    have HV := Lib.hid hv
    clear hv hm
    go_enter Try.func15, Try.ntmps15
    go_wp2_with (go_at_call 37; ((with_reducible refine (HV.out).mono ?_); rintro e w' ⟨rfl, rfl⟩))
    go_ret2
    exact ⟨Below.refl _ _, .inr ⟨HN.out, rfl⟩⟩
  have hm := Classical.not_not.1 hm
  rw [(amB_iff m).2 hm] at hv
  have HV := Lib.hid hv
  clear hv
  by_cases y0 : y < 1
  · have HN := Lib.hid (show ¬ PB m y g from fun h => by have := h.2.1; omega)
    go_enter Try.func15, Try.ntmps15
    go_wp2_with (go_at_call 37; ((with_reducible refine (HV.out).mono ?_); rintro e w' ⟨rfl, rfl⟩))
    go_ret2
    exact ⟨Below.refl _ _, .inr ⟨HN.out, rfl⟩⟩
  have y1 : 1 ≤ y := by omega
  clear y0
  by_cases y2 : 40 < y
  · have HN := Lib.hid (show ¬ PB m y g from fun h => by have := h.2.2.1; omega)
    go_enter Try.func15, Try.ntmps15
    go_wp2_with (go_at_call 37; ((with_reducible refine (HV.out).mono ?_); rintro e w' ⟨rfl, rfl⟩))
    go_ret2
    exact ⟨Below.refl _ _, .inr ⟨HN.out, rfl⟩⟩
  have y3 : y ≤ 40 := by omega
  clear y2
  by_cases g2 : g < 0
  · have HN := Lib.hid (show ¬ PB m y g from fun h => by have := h.2.2.2.1; omega)
    go_enter Try.func15, Try.ntmps15
    go_wp2_with (go_at_call 37; ((with_reducible refine (HV.out).mono ?_); rintro e w' ⟨rfl, rfl⟩))
    go_ret2
    exact ⟨Below.refl _ _, .inr ⟨HN.out, rfl⟩⟩
  have g0 : 0 ≤ g := by omega
  clear g2
  by_cases g3 : 2000 < g
  · have HN := Lib.hid (show ¬ PB m y g from fun h => by have := h.2.2.2.2; omega)
    go_enter Try.func15, Try.ntmps15
    go_wp2_with (go_at_call 37; ((with_reducible refine (HV.out).mono ?_); rintro e w' ⟨rfl, rfl⟩))
    go_ret2
    exact ⟨Below.refl _ _, .inr ⟨HN.out, rfl⟩⟩
  have g1 : g ≤ 2000 := by omega
  clear g3
  obtain ⟨n, rfl⟩ := Int.eq_ofNat_of_zero_le (show 0 ≤ y by omega)
  have HPB := Lib.hid (show PB m n g from ⟨hm, y1, y3, g0, g1⟩)
  have HW := Lib.hid (fun w => Weights_any n g w (by omega) g0 g1 (by omega))
  have HS := Lib.hid (fun a cap w h => rSplit_ok m a n cap (wt g) w h HPB.out.sok)
  go_enter Try.func15, Try.ntmps15
  go_wp2_with (first
    | (go_at_call 37; ((with_reducible refine (HV.out).mono ?_); rintro e w' ⟨rfl, rfl⟩))
    | (go_at_call 39; ((with_reducible refine (HW.out _).mono ?_); rintro e w1 ⟨hb1, b1, c1, rfl, r1⟩; have HR1 := Lib.hid r1; clear r1))
    | (go_at_call 38; ((with_reducible refine (HS.out _ _ _ HR1.out).mono ?_); rintro e w2 ⟨hb2, b2, c2, P, rfl, r2, sp⟩; have HR2 := Lib.hid r2; have HSP := Lib.hid sp; clear r2 sp)))
  go_ret2
  exact ⟨hb1.trans (hb2.mono hb1.size), .inl ⟨n, rfl, HPB.out, b2, c2, P, rfl, HR2.out, HSP.out⟩⟩
set_option maxRecDepth 100000 in
set_option maxHeartbeats 4000000 in
theorem Pays_any (m y g : Int) (w : World) : Calls Try.prog 14 #[.int .i64 m, .int .i64 y, .int .i64 g] w (PayPost m y g w) := by
  have hv := Valid_any m w
  by_cases hm : ¬ (0 ≤ m ∧ m ≤ 1000000000000)
  · have HN := Lib.hid (show ¬ PB m y g from fun h => hm h.1)
    rw [show amB m = false from decide_eq_false hm] at hv
    have HV := Lib.hid hv
    clear hv hm
    go_enter Try.func14, Try.ntmps14
    go_wp2_with (go_at_call 35; ((with_reducible refine (HV.out).mono ?_); rintro e w' ⟨rfl, rfl⟩))
    go_ret2
    exact ⟨Below.refl _ _, .inr ⟨HN.out, rfl⟩⟩
  have hm := Classical.not_not.1 hm
  rw [(amB_iff m).2 hm] at hv
  have HV := Lib.hid hv
  clear hv
  by_cases y0 : y < 1
  · have HN := Lib.hid (show ¬ PB m y g from fun h => by have := h.2.1; omega)
    go_enter Try.func14, Try.ntmps14
    go_wp2_with (go_at_call 35; ((with_reducible refine (HV.out).mono ?_); rintro e w' ⟨rfl, rfl⟩))
    go_ret2
    exact ⟨Below.refl _ _, .inr ⟨HN.out, rfl⟩⟩
  have y1 : 1 ≤ y := by omega
  clear y0
  by_cases y2 : 40 < y
  · have HN := Lib.hid (show ¬ PB m y g from fun h => by have := h.2.2.1; omega)
    go_enter Try.func14, Try.ntmps14
    go_wp2_with (go_at_call 35; ((with_reducible refine (HV.out).mono ?_); rintro e w' ⟨rfl, rfl⟩))
    go_ret2
    exact ⟨Below.refl _ _, .inr ⟨HN.out, rfl⟩⟩
  have y3 : y ≤ 40 := by omega
  clear y2
  by_cases g2 : g < 0
  · have HN := Lib.hid (show ¬ PB m y g from fun h => by have := h.2.2.2.1; omega)
    go_enter Try.func14, Try.ntmps14
    go_wp2_with (go_at_call 35; ((with_reducible refine (HV.out).mono ?_); rintro e w' ⟨rfl, rfl⟩))
    go_ret2
    exact ⟨Below.refl _ _, .inr ⟨HN.out, rfl⟩⟩
  have g0 : 0 ≤ g := by omega
  clear g2
  by_cases g3 : 2000 < g
  · have HN := Lib.hid (show ¬ PB m y g from fun h => by have := h.2.2.2.2; omega)
    go_enter Try.func14, Try.ntmps14
    go_wp2_with (go_at_call 35; ((with_reducible refine (HV.out).mono ?_); rintro e w' ⟨rfl, rfl⟩))
    go_ret2
    exact ⟨Below.refl _ _, .inr ⟨HN.out, rfl⟩⟩
  have g1 : g ≤ 2000 := by omega
  clear g3
  obtain ⟨n, rfl⟩ := Int.eq_ofNat_of_zero_le (show 0 ≤ y by omega)
  have HPB := Lib.hid (show PB m n g from ⟨hm, y1, y3, g0, g1⟩)
  have HS := Lib.hid (fun a cap w h => Split_ok m a n cap (wt g) w h HPB.out.sok)
  obtain ⟨i0, hi, hz0, hz1, hz2⟩ := info_parts info3
  have tok1 : True := trivial
  have hb8 : i0.bytes * n ≤ 281474976710656 := by rw [hz2]; omega
  have hml : n ≤ maxLen := by unfold maxLen; omega
  go_enter Try.func14, Try.ntmps14
  go_wp2_with (first
    | (go_at_call 35; ((with_reducible refine (HV.out).mono ?_); rintro e w' ⟨rfl, rfl⟩))
    | (have _t := tok1; refine wpList_make_full _ rfl _ _ 22 rfl 0 3 i0 (.int .i64 0) 1 Try.underlying22 hi hz0 hz1 .i64 .i64 (n : Int) (n : Int) n (by rfl) (by rfl) rfl rfl hb8 hml (Nat.zero_le _) ?_; intro wA oA gA; clear tok1))
  have b1 : Below w.heap.size w wA := (Below.refl _ _).grown gA (Nat.le_refl _) (fun k hk => by cases hk)
  have HC := Lib.hid (cel_of_made oA)
  go_loopw [9, 33] (fun vw vi wr => ∃ k : Nat, k ≤ n ∧ vi = .int .i64 k ∧ vw = .int .i64 (wt g k) ∧ Cel wr w.heap.size (fv n (upTo (wt g) k)) 3 ∧ Below w.heap.size w wr) (fun _ vi _ => n - (intOf vi).toNat)
  case atStart => exact ⟨0, by omega, rfl, rfl, by rw [fv_congr (g := fun _ => 0) (fun k _ => by unfold upTo; rw [if_neg (by omega)])]; exact HC.out, b1⟩
  case round =>
    obtain ⟨k, hk, rfl, rfl, hcel, hbel⟩ := hrel
    have HC1 := Lib.hid hcel
    clear hcel
    by_cases hlt : k < n
    · obtain ⟨b0, b1⟩ := wt_bd g0 g1 (show k ≤ 40 by omega)
      have m0 : 0 ≤ wt g k * g := Int.mul_nonneg (by omega) g0
      have m1 : wt g k * g ≤ 4000000000000 := by
        have a := Int.mul_le_mul_of_nonneg_left g1 (show 0 ≤ wt g k by omega)
        omega
      have td : (wt g k * g).tdiv 10000 = wt g k * g / 10000 := Int.tdiv_eq_ediv_of_nonneg m0
      have wr1 : IntKind.i64.wrap (wt g k * g) = wt g k * g := IntWalk.i64_in _ (by omega)
      have d0 : 0 ≤ wt g k * g / 10000 := by omega
      have d1 : wt g k * g / 10000 ≤ 400000000 := by omega
      have HN := Lib.hid (show wt g (k + 1) = wt g k + wt g k * g / 10000 from rfl)
      have c1 := HC1.out.at hlt
      have f1 := HC1.out.free k
      have HU := Lib.hid (fun i => upTo_next (wt g) k i)
      have i1 : (0 : Int) ≤ (k : Int) := by omega
      have i2 : (k : Int) < (n : Int) := by omega
      go_wp2
      go_roundw
      case rel => exact ⟨k + 1, hlt, by go_num, by rw [HN.out], by rw [← fv_congr (fun i _ => HU.out i)]; exact HC1.out.put k _, hbel.setCell (Nat.le_refl _) _⟩
      case measure => simp [intOf]; omega
    · obtain rfl : k = n := by omega
      have HR := Lib.hid (show IsRow wr (some ⟨w.heap.size, 0, none⟩) k (wt g) from .inr ⟨_, 0, rfl, HC1.out.lt, by unfold maxLen; omega, fun i hi => by rw [Nat.zero_add, HC1.out.at hi]; unfold upTo; rw [if_pos hi]⟩)
      have hbs := hbel.size
      go_wp2_with (go_at_call 36; ((with_reducible refine (HS.out _ _ _ HR.out).mono ?_); rintro e w2 ⟨hb2, b2, c2, P, rfl, r2, sp⟩; have HR2 := Lib.hid r2; have HSP := Lib.hid sp; clear r2 sp))
      go_ret2
      exact ⟨hbel.trans (hb2.mono hbs), .inl ⟨k, rfl, HPB.out, b2, c2, P, rfl, HR2.out, HSP.out⟩⟩
set_option maxHeartbeats 2000000 in
/-- Two rows of the same numbers. -/
theorem same_any (a a' : Option Addr) (n cap cap' : Nat) (P P' : Nat → Int) (w : World) (h : IsRow w a n P) (h' : IsRow w a' n P') (hp : ∀ i, i < n → P i = P' i) :
    Calls Try.prog 16 #[.slice a n cap, .slice a' n cap'] w (RetB (.bool true) w) := by
  have HA := Lib.hid h
  have HB := Lib.hid h'
  have HP := Lib.hid hp
  clear h h' hp
  go_enter Try.func16, Try.ntmps16
  go_wp2
  go_loopw [13] (fun i wr => ∃ k : Nat, k ≤ n ∧ i = .int .i64 k ∧ Below w.heap.size w wr) (fun i _ => n - (intOf i).toNat)
  case atStart => exact ⟨0, by omega, rfl, Below.refl _ _⟩
  case round =>
    obtain ⟨k, hk, rfl, hbel⟩ := hrel
    by_cases hlt : k < n
    · obtain ⟨b, o, rfl, hb, hmx, hc⟩ := HA.out.resolve_left (by omega)
      obtain ⟨b', o', rfl, hb', _, hc'⟩ := HB.out.resolve_left (by omega)
      have ck := (hbel.cell (p := ⟨b, _, none⟩) hb).trans (hc k hlt)
      have ck' := (hbel.cell (p := ⟨b', _, none⟩) hb').trans (hc' k hlt)
      rw [← HP.out k hlt] at ck'
      have hbs := hbel.size
      have s1 : ∀ x : Sub wr.heap.size wr, x.w.cell? ⟨b, o + k, none⟩ = some (.int .i64 (P k)) := Sub.cell ck (Nat.lt_of_lt_of_le hb hbs)
      have s2 : ∀ x : Sub wr.heap.size wr, x.w.cell? ⟨b', o' + k, none⟩ = some (.int .i64 (P k)) := Sub.cell ck' (Nat.lt_of_lt_of_le hb' hbs)
      unfold maxLen at hmx
      have i1 : (0 : Int) ≤ (k : Int) := by omega
      have i2 : (k : Int) < (n : Int) := by omega
      clear hc hc'
      go_wp2
      refine wp_region_below (by kernel_rfl) (by kernel_rfl) ?_
      repeat (go_big_quiet_step (fail))
      refine wpQuiet_nil ?_
      rintro w2 ⟨⟨_, hb2⟩, rfl⟩
      go_wp2
      go_roundw
      case rel => exact ⟨k + 1, hlt, by go_num, hbel.trans (hb2.mono hbs)⟩
      case measure => simp [intOf]; omega
    · obtain rfl : k = n := by omega
      go_wp2
      go_ret
      exact ⟨rfl, hbel⟩
end Go.Proofs.Ytkpmbkkhdhjbnaa
