/- The report of a settlement: the reference's. -/
import Derived.Test.YtgmilhhifigkkaaDoorRpf
import Derived.Laws.Concat
namespace Go.Proofs.YtgmilhhifigkkaaDoor
open Go.ChangeShapes Go.WideShapes Go.ChangeAt Go.RowKit Go.Lott
open Go.Lott.Mny Go.Lott.Rp
attribute [local go_sem ↓] Go.wp_at_zero Go.wp_at_succ
theorem one_row (w : World) (t : Int) (h : Nat) (hh : w.heap.size = h) : IsRow (w.alloc (.cells #[.int .i64 t] 3)).drew (some ⟨h, 0, none⟩) 1 (fun _ => t) := by
  subst hh
  exact
  .inr ⟨_, 0, rfl, by simp, by decide, fun i hi => by
    obtain rfl : i = 0 := by omega
    simp⟩
set_option maxHeartbeats 4000000 in
set_option maxRecDepth 100000 in
theorem rSettl_any (t a b c d e : Int) (w : World) (ht : I64 t) (ha : I64 a) (hb : I64 b) (hc : I64 c) (hd : I64 d) (he : I64 e) :
    Calls Tryd.prog 10 #[.int .i64 t, .agg #[.int .i64 a, .int .i64 b, .int .i64 c, .int .i64 d, .int .i64 e]] w (RetB (.string (setB t a b c d e)) w) := by
  have HT := Lib.hid ht
  obtain ⟨a0, a1⟩ := ha
  obtain ⟨b0, b1⟩ := hb
  obtain ⟨c0, c1⟩ := hc
  obtain ⟨d0, d1⟩ := hd
  obtain ⟨e0, e1⟩ := he
  have HE := Lib.hid (setB_eq t a b c d e)
  have za : (sumB ⟨#[115, 97, 108, 101, 115]⟩ a).size ≤ 100 := Nat.le_trans (sumB_size _ _) (by decide)
  have zb : (sumB ⟨#[114, 101, 102, 117, 110, 100, 115]⟩ b).size ≤ 100 := Nat.le_trans (sumB_size _ _) (by decide)
  have zc : (sumB ⟨#[99, 97, 115, 104, 101, 100]⟩ c).size ≤ 100 := Nat.le_trans (sumB_size _ _) (by decide)
  have zd : (sumB ⟨#[99, 111, 109, 109, 105, 115, 115, 105, 111, 110]⟩ d).size ≤ 100 := Nat.le_trans (sumB_size _ _) (by decide)
  have ze : (sumB ⟨#[100, 117, 101]⟩ e).size ≤ 100 := Nat.le_trans (sumB_size _ _) (by decide)
  have zt : (listB ⟨#[115, 101, 116, 116, 108, 101, 109, 101, 110, 116]⟩ 1 (fun _ => t)).size ≤ 100 := Nat.le_trans (listB_size _ _ _ (fun _ _ => ht)) (by decide)
  have q0 : (9223372036854775807 < (listB ⟨#[115, 101, 116, 116, 108, 101, 109, 101, 110, 116]⟩ 1 (fun _ => t)).size + (sumB ⟨#[115, 97, 108, 101, 115]⟩ a).size) = False := by simp only [eq_iff_iff, iff_false]; omega
  have q1 : (9223372036854775807 < (listB ⟨#[115, 101, 116, 116, 108, 101, 109, 101, 110, 116]⟩ 1 (fun _ => t)).size + (sumB ⟨#[115, 97, 108, 101, 115]⟩ a).size + (sumB ⟨#[114, 101, 102, 117, 110, 100, 115]⟩ b).size) = False := by simp only [eq_iff_iff, iff_false]; omega
  have q2 : (9223372036854775807 < (listB ⟨#[115, 101, 116, 116, 108, 101, 109, 101, 110, 116]⟩ 1 (fun _ => t)).size + (sumB ⟨#[115, 97, 108, 101, 115]⟩ a).size + (sumB ⟨#[114, 101, 102, 117, 110, 100, 115]⟩ b).size + (sumB ⟨#[99, 97, 115, 104, 101, 100]⟩ c).size) = False := by simp only [eq_iff_iff, iff_false]; omega
  have q3 : (9223372036854775807 < (listB ⟨#[115, 101, 116, 116, 108, 101, 109, 101, 110, 116]⟩ 1 (fun _ => t)).size + (sumB ⟨#[115, 97, 108, 101, 115]⟩ a).size + (sumB ⟨#[114, 101, 102, 117, 110, 100, 115]⟩ b).size + (sumB ⟨#[99, 97, 115, 104, 101, 100]⟩ c).size + (sumB ⟨#[99, 111, 109, 109, 105, 115, 115, 105, 111, 110]⟩ d).size) = False := by simp only [eq_iff_iff, iff_false]; omega
  have q4 : (9223372036854775807 < (listB ⟨#[115, 101, 116, 116, 108, 101, 109, 101, 110, 116]⟩ 1 (fun _ => t)).size + (sumB ⟨#[115, 97, 108, 101, 115]⟩ a).size + (sumB ⟨#[114, 101, 102, 117, 110, 100, 115]⟩ b).size + (sumB ⟨#[99, 97, 115, 104, 101, 100]⟩ c).size + (sumB ⟨#[99, 111, 109, 109, 105, 115, 115, 105, 111, 110]⟩ d).size + (sumB ⟨#[100, 117, 101]⟩ e).size) = False := by simp only [eq_iff_iff, iff_false]; omega
  clear ht za zb zc zd ze zt
  have HI := Lib.hid ((((Below.refl (w.heap.size + 1) (w.alloc (.cells #[.int .i64 a, .int .i64 b, .int .i64 c, .int .i64 d, .int .i64 e] 23))).alloc (by simp) (.cells #[.int .i64 t] 3))).drew)
  have HC := Lib.hid (fun w' (h : Below (w.heap.size + 1) (w.alloc (.cells #[.int .i64 a, .int .i64 b, .int .i64 c, .int .i64 d, .int .i64 e] 23)) w') =>
    (⟨(h.cell (p := ⟨w.heap.size, 0, none⟩) (by simp)).trans (by simp), (h.cell (p := ⟨w.heap.size, 1, none⟩) (by simp)).trans (by simp), (h.cell (p := ⟨w.heap.size, 2, none⟩) (by simp)).trans (by simp), (h.cell (p := ⟨w.heap.size, 3, none⟩) (by simp)).trans (by simp), (h.cell (p := ⟨w.heap.size, 4, none⟩) (by simp)).trans (by simp)⟩ :
      w'.cell? ⟨w.heap.size, 0, none⟩ = some (.int .i64 a) ∧ w'.cell? ⟨w.heap.size, 1, none⟩ = some (.int .i64 b) ∧ w'.cell? ⟨w.heap.size, 2, none⟩ = some (.int .i64 c) ∧ w'.cell? ⟨w.heap.size, 3, none⟩ = some (.int .i64 d) ∧ w'.cell? ⟨w.heap.size, 4, none⟩ = some (.int .i64 e)))
  go_enter Tryd.func10, Tryd.ntmps10
  go_wp2
  go_region_held3 (fun w' => w'.cell? ⟨w.heap.size, 0, none⟩ = some (.int .i64 a) ∧ w'.cell? ⟨w.heap.size, 1, none⟩ = some (.int .i64 b) ∧ w'.cell? ⟨w.heap.size, 2, none⟩ = some (.int .i64 c) ∧ w'.cell? ⟨w.heap.size, 3, none⟩ = some (.int .i64 d) ∧ w'.cell? ⟨w.heap.size, 4, none⟩ = some (.int .i64 e))
    (first | exact HS.out | go_keep)
    (first
      | (go_at_call 29; refine (rList_any _ _ 1 1 (fun _ => t) _ (by decide) (by decide) (one_row _ _ _ (by simp)) (fun _ _ => HT.out)).mono ?_; rintro e w1 ⟨rfl, hb1⟩; have HB := Lib.hid (HI.out.trans (hb1.mono (by simp))); have HS := Lib.hid (HC.out _ HB.out); clear hb1)
      | (go_at_call 30; refine (rSum_any _ _ _ (by decide) (by omega) (by omega)).mono ?_; rintro e w1 ⟨rfl, hb1⟩; replace HB := Lib.hid (HB.out.trans (hb1.mono (by have := HB.out.size; simpa using this))); replace HS := Lib.hid (HC.out _ HB.out); clear hb1))
  all_goals
    go_wp2
    go_ret
    exact ⟨ret_str HE.out, ((Below.refl _ _).alloc (Nat.le_refl _) _).trans (HB.out.mono (by omega))⟩
end Go.Proofs.YtgmilhhifigkkaaDoor
