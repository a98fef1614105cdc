/- The laws ReportSettles and ReportTells: their walks. -/
import Derived.Test.YtgmilhhifigkkaaDoorRpg
namespace Go.Lott.Rp
open Go.Lott.Mny
theorem mT_at (m q : Nat) (l : List UInt8) (h : m ≤ 1000000000000) (hq : m / 100 = q) (hl : Lib.decDigits q = l) : mT (m : Int) = l ++ [46, UInt8.ofNat (48 + m % 100 / 10), UInt8.ofNat (48 + m % 10)] := by
  rw [mT_yes ⟨by omega, by omega⟩, show ((m : Int) / 100).toNat = q by omega, hl]; rfl
theorem dd1 (n : Nat) (h : n < 10) : Lib.decDigits n = [UInt8.ofNat (48 + n)] := by rw [Lib.decDigits_one h]
theorem amT_0 : amT 0 = [48, 46, 48, 48] := by
  rw [amT_pos (by decide), show (0 : Int) = ((0 : Nat) : Int) from rfl, mT_at 0 0 _ (by decide) rfl (dd1 0 (by decide))]; rfl
theorem amT_1234 : amT 1234 = [49, 50, 46, 51, 52] := by
  rw [amT_pos (by decide), show (1234 : Int) = ((1234 : Nat) : Int) from rfl, mT_at 1234 12 _ (by decide) rfl (Lib.decDigits_two (by decide) (by decide))]; rfl
theorem amT_m50 : amT (-50) = [45, 48, 46, 53, 48] := by
  rw [amT_neg (by decide), show (-(-50) : Int) = ((50 : Nat) : Int) from rfl, mT_at 50 0 _ (by decide) rfl (dd1 0 (by decide))]; rfl
theorem itoa_3 : Lib.itoa 3 = [51] := by unfold Lib.itoa; rw [if_neg (by decide)]; exact dd1 3 (by decide)
end Go.Lott.Rp
namespace Go.Proofs.YtgmilhhifigkkaaDoor
open Go.ChangeShapes Go.WideShapes Go.ChangeAt Go.RowKit Go.Lott
open Go.Lott.Mny Go.Lott.Rp
def setX : ByteArray := ⟨#[115, 101, 116, 116, 108, 101, 109, 101, 110, 116, 32, 51, 10, 115, 97, 108, 101, 115, 32, 49, 50, 46, 51, 52, 10, 114, 101, 102, 117, 110, 100, 115, 32, 48, 46, 48, 48, 10, 99, 97, 115, 104, 101, 100, 32, 48, 46, 48, 48, 10, 99, 111, 109, 109, 105, 115, 115, 105, 111, 110, 32, 48, 46, 48, 48, 10, 100, 117, 101, 32, 45, 48, 46, 53, 48, 10]⟩
theorem setX_eq : setB 3 1234 0 0 0 (-50) = setX := bytes_of (by
  rw [setB_list]; unfold setT; rw [itoa_3, amT_1234, amT_0, amT_m50]; rfl)
theorem settles_ex (w : World) (hp : P10 w) : Calls Tryd.prog 9 #[.int .i64 3, .agg #[.int .i64 1234, .int .i64 0, .int .i64 0, .int .i64 0, .int .i64 (-50)]] w (RetB (.string setX) w) := by
  rw [← setX_eq]
  exact settl_any 3 1234 0 0 0 (-50) w (by unfold I64; decide) (by unfold I64; decide) (by unfold I64; decide) (by unfold I64; decide) (by unfold I64; decide) (by unfold I64; decide) hp
theorem settles_any (w : World) (hp : P10 w) : Calls Tryd.prog 11 #[] w (RetB (.bool true) w) := by
  have HE := Lib.hid (settles_ex w hp)
  clear hp
  go_enter Tryd.func11, Tryd.ntmps11
  go_wp2_with (go_at_call 9; refine HE.out.mono ?_; rintro e w1 ⟨rfl, hb1⟩; have HB := Lib.hid hb1; clear hb1)
  go_ret
  exact ⟨ret_bool (by rw [ByteArray.toList_eq]; rfl), HB.out⟩
theorem set_cells {W W1 : World} {a b c d e : Int} {t : TypeId} (h : W1 = W.alloc (.cells #[.int .i64 a, .int .i64 b, .int .i64 c, .int .i64 d, .int .i64 e] t)) :
    (∀ x : Sub W1.heap.size W1, x.w.cell? ⟨W.heap.size, 0, none⟩ = some (.int .i64 a)) ∧ (∀ x : Sub W1.heap.size W1, x.w.cell? ⟨W.heap.size, 1, none⟩ = some (.int .i64 b)) ∧ (∀ x : Sub W1.heap.size W1, x.w.cell? ⟨W.heap.size, 2, none⟩ = some (.int .i64 c)) ∧
    (∀ x : Sub W1.heap.size W1, x.w.cell? ⟨W.heap.size, 3, none⟩ = some (.int .i64 d)) ∧ (∀ x : Sub W1.heap.size W1, x.w.cell? ⟨W.heap.size, 4, none⟩ = some (.int .i64 e)) := by
  subst h
  exact ⟨Sub.cell (by simp) (by simp), Sub.cell (by simp) (by simp), Sub.cell (by simp) (by simp), Sub.cell (by simp) (by simp), Sub.cell (by simp) (by simp)⟩
set_option maxHeartbeats 4000000 in
set_option maxRecDepth 100000 in
theorem reportSettles_walki (t a b c d e : Int) (W : World) (ht : I64 t) (ha : I64 a) (hb : I64 b) (hc : I64 c) (hd : I64 d) (he : I64 e) (hp : P10 W) :
    Calls Tryd.prog 3 #[.int .i64 t, .agg #[.int .i64 a, .int .i64 b, .int .i64 c, .int .i64 d, .int .i64 e]] W (RetB (.bool true) W) := by
  have HI := Lib.hid (And.intro ht (And.intro ha (And.intro hb (And.intro hc (And.intro hd he)))))
  clear ht ha hb hc hd he
  obtain ⟨W1, hW1⟩ : ∃ W1 : World, W1 = W.alloc (.cells #[.int .i64 a, .int .i64 b, .int .i64 c, .int .i64 d, .int .i64 e] 23) := ⟨_, rfl⟩
  have HB1 : Hid (Below W.heap.size W W1) := by rw [hW1]; exact (Below.refl _ _).alloc (Nat.le_refl _) _
  have HG := Lib.hid (set_cells hW1)
  have hlt : W.heap.size < W1.heap.size := by rw [hW1]; simp
  have hS : ∀ x : Sub W1.heap.size W1, P10 x.w := fun x => hp.grow (HB1.out.trans (x.h.mono (by omega)))
  have H1 := Lib.hid fun x : Sub W1.heap.size W1 => settl_any t a b c d e x.w HI.out.1 HI.out.2.1 HI.out.2.2.1 HI.out.2.2.2.1 HI.out.2.2.2.2.1 HI.out.2.2.2.2.2 (hS x)
  have H2 := Lib.hid fun x : Sub W1.heap.size W1 => rSettl_any t a b c d e x.w HI.out.1 HI.out.2.1 HI.out.2.2.1 HI.out.2.2.2.1 HI.out.2.2.2.2.1 HI.out.2.2.2.2.2
  have H3 := Lib.hid fun x : Sub W1.heap.size W1 => settles_any x.w (hS x)
  have HW := Lib.hid hW1
  clear hS hp hW1
  go_enter Tryd.func3, Tryd.ntmps3
  go_wp2
  rw [← HW.out]
  obtain ⟨g0, g1, g2, g3, g4⟩ := HG.out
  refine wp_region_below (by kernel_rfl) (by kernel_rfl) ?_
  repeat (go_big_quiet_step (((first | (go_at_call 9; exact Sub.ofB _ (Nat.le_refl _) (H1.out _)) | (go_at_call 10; exact Sub.ofB _ (Nat.le_refl _) (H2.out _)) | (go_at_call 11; exact Sub.ofB _ (Nat.le_refl _) (H3.out _))))))
  refine wpQuiet_nil ?_
  rintro wx ⟨⟨_, hbx⟩, rfl⟩
  go_wp2
  go_ret
  exact ⟨ret_bool (by simp), HB1.out.trans (hbx.mono (by omega))⟩
end Go.Proofs.YtgmilhhifigkkaaDoor
