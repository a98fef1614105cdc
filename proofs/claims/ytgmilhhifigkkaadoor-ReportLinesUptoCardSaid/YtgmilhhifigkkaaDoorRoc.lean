/- The law ReportOrders: its walk. -/
import Derived.Test.YtgmilhhifigkkaaDoorRob
namespace Go.Lott.Rp
open Go.Lott.Mny
theorem amT_100 : amT 100 = [49, 46, 48, 48] := by
  rw [amT_pos (by decide), show (100 : Int) = ((100 : Nat) : Int) from rfl, mT_at 100 1 _ (by decide) rfl (dd1 1 (by decide))]; rfl
theorem amT_10 : amT 10 = [48, 46, 49, 48] := by
  rw [amT_pos (by decide), show (10 : Int) = ((10 : Nat) : Int) from rfl, mT_at 10 0 _ (by decide) rfl (dd1 0 (by decide))]; rfl
theorem amT_20 : amT 20 = [48, 46, 50, 48] := by
  rw [amT_pos (by decide), show (20 : Int) = ((20 : Nat) : Int) from rfl, mT_at 20 0 _ (by decide) rfl (dd1 0 (by decide))]; rfl
theorem amT_70 : amT 70 = [48, 46, 55, 48] := by
  rw [amT_pos (by decide), show (70 : Int) = ((70 : Nat) : Int) from rfl, mT_at 70 0 _ (by decide) rfl (dd1 0 (by decide))]; rfl
theorem itoa_0 : Lib.itoa 0 = [48] := by unfold Lib.itoa; rw [if_neg (by decide)]; exact dd1 0 (by decide)
end Go.Lott.Rp
namespace Go.Proofs.YtgmilhhifigkkaaDoor
open Go.ChangeShapes Go.WideShapes Go.ChangeAt Go.RowKit Go.Lott
open Go.Lott.Mny Go.Lott.Rp
def ordX : ByteArray := ⟨#[111, 114, 100, 101, 114, 32, 55, 10, 103, 114, 111, 115, 115, 32, 49, 46, 48, 48, 10, 116, 97, 120, 32, 48, 46, 49, 48, 10, 111, 102, 102, 115, 101, 116, 32, 48, 32, 48, 46, 50, 48, 10, 110, 101, 116, 32, 48, 46, 55, 48, 10]⟩
theorem ordX_eq : (⟨(ordT (⟨#[55]⟩ : ByteArray).data.toList 100 10 (fun _ => 20) 1 70).toArray⟩ : ByteArray) = ordX := by
  simp only [ordT, offT]
  rw [amT_100, amT_10, amT_20, amT_70, show ((0 : Nat) : Int) = 0 from rfl, itoa_0]; rfl
theorem orders_ex (w : World) (hp : P10 w) : Calls Tryd.prog 14 #[.string ⟨#[55]⟩, .agg #[.int .i64 100, .int .i64 10, .slice (some ⟨w.heap.size, 0, none⟩) 1 1, .int .i64 70]] (w.alloc (.cells #[.int .i64 20] 3)) (RetB (.string ordX) (w.alloc (.cells #[.int .i64 20] 3))) := by
  have hr : NRow (w.alloc (.cells #[.int .i64 20] 3)) (some ⟨w.heap.size, 0, none⟩) 1 (fun _ => 20) := by
    refine ⟨.inr ⟨_, 0, rfl, by simp, by decide, fun i hi => ?_⟩, fun _ _ => (by unfold I64; decide : I64 20)⟩
    obtain rfl : i = 0 := by omega
    simp
  have h := order_any ⟨#[55]⟩ 100 10 70 (some ⟨w.heap.size, 0, none⟩) 1 1 (fun _ => 20) _ (by decide) (by unfold I64; decide) (by unfold I64; decide) (by unfold I64; decide) hr (by decide) (hp.grow ((Below.refl _ _).alloc (Nat.le_refl _) _))
  rw [ordX_eq] at h
  exact h
theorem orders_any (w : World) (hp : P10 w) : Calls Tryd.prog 13 #[] w (RetB (.bool true) w) := by
  have HE := Lib.hid (orders_ex w hp)
  have hx : ordX.toList = [111, 114, 100, 101, 114, 32, 55, 10, 103, 114, 111, 115, 115, 32, 49, 46, 48, 48, 10, 116, 97, 120, 32, 48, 46, 49, 48, 10, 111, 102, 102, 115, 101, 116, 32, 48, 32, 48, 46, 50, 48, 10, 110, 101, 116, 32, 48, 46, 55, 48, 10] := by rw [ByteArray.toList_eq]; rfl
  clear hp
  go_enter Tryd.func13, Tryd.ntmps13
  go_wp2_with (go_at_call 14; refine HE.out.mono ?_; rintro e w1 ⟨rfl, hb1⟩; have HB := Lib.hid (((Below.refl _ _).alloc (Nat.le_refl w.heap.size) _).trans (hb1.mono (by simp))); clear hb1)
  go_ret
  exact ⟨rfl, HB.out⟩
set_option maxHeartbeats 4000000 in
set_option maxRecDepth 100000 in
theorem reportOrders_walk (s : ByteArray) (g t : Int) (a : Option Addr) (n cap : Nat) (z : Nat → Int) (m : Int) (W : World) (hs : s.size ≤ 140737488351232) (hg : I64 g) (ht : I64 t) (hr : NRow W a n z) (hm : I64 m) (hp : P10 W) :
    Calls Tryd.prog 5 #[.string s, .agg #[.int .i64 g, .int .i64 t, .slice a n cap, .int .i64 m]] W (RetB (.bool true) W) := by
  obtain ⟨V, hV⟩ : ∃ V : World, V = W.alloc (.cells #[.int .i64 g, .int .i64 t, .slice a n cap, .int .i64 m] 31) := ⟨_, rfl⟩
  have HBV : Hid (Below W.heap.size W V) := by rw [hV]; exact (Below.refl _ _).alloc (Nat.le_refl _) _
  have HG := Lib.hid (bt_cells hV)
  have HW := Lib.hid hV
  have hlV : W.heap.size < V.heap.size := by rw [hV]; simp
  have HP := Lib.hid fun (y : World) (h : Below V.heap.size V y) => hp.grow (HBV.out.trans (h.mono HBV.out.size))
  have HR := Lib.hid fun (y : World) (h : Below V.heap.size V y) => (⟨hr.1.below (HBV.out.trans (h.mono HBV.out.size)) (Nat.le_refl _), hr.2⟩ : NRow y a n z)
  clear hV hp hr
  by_cases hn : 100 < n
  · have hn' : (100 : Int) < (n : Int) := by omega
    have H3 := Lib.hid (orders_any V (HP.out V (Below.refl _ _)))
    go_enter Tryd.func5, Tryd.ntmps5
    go_wp2_with fail
    rw [← HW.out]
    go_wp2_with (go_at_call 13; refine H3.out.mono ?_; rintro e w1 ⟨rfl, hb1⟩; have HB := Lib.hid (HBV.out.trans (hb1.mono HBV.out.size)); clear hb1)
    go_ret
    exact ⟨rfl, HB.out⟩
  · have hn' : (n : Int) ≤ 100 := by omega
    have H1 := Lib.hid fun x : Sub V.heap.size V => order_any s g t m a n cap z x.w hs hg ht hm (HR.out _ x.h) (by omega) (HP.out _ x.h)
    have H2 := Lib.hid fun x : Sub V.heap.size V => rOrder_any s g t m a n cap z x.w hs hg ht hm (HR.out _ x.h) (by omega)
    have H3 := Lib.hid fun x : Sub V.heap.size V => orders_any x.w (HP.out _ x.h)
    clear hn hg ht hm hs
    go_enter Tryd.func5, Tryd.ntmps5
    go_wp2_with fail
    rw [← HW.out]
    have g0 := fun x : Sub V.heap.size V => (HG.out x.w x.h).1
    have g1 := fun x : Sub V.heap.size V => (HG.out x.w x.h).2.1
    have g2 := fun x : Sub V.heap.size V => (HG.out x.w x.h).2.2.1
    have g3 := fun x : Sub V.heap.size V => (HG.out x.w x.h).2.2.2
    refine wp_region_below (by kernel_rfl) (by kernel_rfl) ?_
    repeat (go_big_quiet_step (((first | (go_at_call 14; exact Sub.ofB _ (Nat.le_refl _) (H1.out _)) | (go_at_call 15; exact Sub.ofB _ (Nat.le_refl _) (H2.out _)) | (go_at_call 13; exact Sub.ofB _ (Nat.le_refl _) (H3.out _))))))
    refine wpQuiet_nil ?_
    rintro wx ⟨⟨_, hbx⟩, rfl⟩
    go_wp2
    go_ret
    exact ⟨ret_bool (by simp), HBV.out.trans (hbx.mono HBV.out.size)⟩
end Go.Proofs.YtgmilhhifigkkaaDoor
