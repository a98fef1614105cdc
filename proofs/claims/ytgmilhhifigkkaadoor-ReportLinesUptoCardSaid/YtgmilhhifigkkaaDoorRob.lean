/- The report of a payment: the reference's. -/
import Derived.Test.YtgmilhhifigkkaaDoorRoa
namespace Go.Proofs.YtgmilhhifigkkaaDoor
open Go.ChangeShapes Go.WideShapes Go.ChangeAt Go.RowKit Go.Lott
open Go.Lott.Mny Go.Lott.Rp
/-- The reference's text behind k offsets. -/
def ordP (s : ByteArray) (g t : Int) (z : Nat → Int) (k : Nat) : ByteArray := ⟨(ln wOrd [s.data.toList] ++ ln wGross [amT g] ++ ln wTax [amT t] ++ offT z k).toArray⟩
theorem ordP_list (s : ByteArray) (g t : Int) (z : Nat → Int) (k : Nat) : (ordP s g t z k).data.toList = ln wOrd [s.data.toList] ++ ln wGross [amT g] ++ ln wTax [amT t] ++ offT z k := by simp [ordP]
theorem ordP_zero (s : ByteArray) (g t : Int) (z : Nat → Int) : (((⟨#[111, 114, 100, 101, 114, 32]⟩ : ByteArray) ++ s ++ (⟨#[10]⟩ : ByteArray)) ++ sumB ⟨#[103, 114, 111, 115, 115]⟩ g) ++ sumB ⟨#[116, 97, 120]⟩ t = ordP s g t z 0 := bytes_of (by
  rw [ordP_list]
  simp only [ByteArray.data_append, Array.toList_append, sumB_list, offT, List.append_nil, ln_one]
  simp [wOrd, wGross, wTax])
theorem ordP_succ (s : ByteArray) (g t : Int) (z : Nat → Int) (k : Nat) : (((ordP s g t z k ++ (⟨#[111, 102, 102, 115, 101, 116, 32]⟩ : ByteArray)) ++ itB (k : Int) ++ (⟨#[32]⟩ : ByteArray)) ++ amB8 (z k)) ++ (⟨#[10]⟩ : ByteArray) = ordP s g t z (k + 1) := bytes_of (by
  rw [ordP_list]
  simp only [ByteArray.data_append, Array.toList_append, ordP_list, itB_list, amB8_list, offT, ln, vals]
  simp [wOff])
theorem offT_len (z : Nat → Int) : ∀ k, k ≤ 100 → (offT z k).length ≤ 30 * k
  | 0, _ => by simp [offT]
  | k + 1, hk => by
    have h := offT_len z k (by omega)
    have h1 := amT_size15 (z k)
    have h2 := itoa_two (show k < 100 by omega)
    show (offT z k ++ ln wOff [Lib.itoa k, amT (z k)]).length ≤ _
    rw [List.length_append, ln_len]
    simp only [vals, List.flatMap_cons, List.flatMap_nil, List.length_append, List.length_cons, List.length_nil, wOff]
    omega
theorem ordP_size (s : ByteArray) (g t : Int) (z : Nat → Int) {k : Nat} (hk : k ≤ 100) : (ordP s g t z k).size ≤ s.size + 90 + 30 * k := by
  have e : (ordP s g t z k).data.toList.length = (ordP s g t z k).size := by simp
  have e2 : s.data.toList.length = s.size := by simp
  rw [← e, ordP_list]
  have h := offT_len z k hk
  have h1 := amT_size15 g
  have h2 := amT_size15 t
  simp only [List.length_append, ln_len, vals, List.flatMap_cons, List.flatMap_nil, List.length_cons, List.length_nil, wOrd, wGross, wTax, e2]
  omega
theorem bt_cells {W V : World} {g t m : Int} {v : Value} {T : TypeId} (h : V = W.alloc (.cells #[.int .i64 g, .int .i64 t, v, .int .i64 m] T)) (y : World) (hy : Below V.heap.size V y) :
    y.cell? ⟨W.heap.size, 0, none⟩ = some (.int .i64 g) ∧ y.cell? ⟨W.heap.size, 1, none⟩ = some (.int .i64 t) ∧ y.cell? ⟨W.heap.size, 2, none⟩ = some v ∧ y.cell? ⟨W.heap.size, 3, none⟩ = some (.int .i64 m) := by
  have c : Cel V W.heap.size _ T := h ▸ Cel.new _ _ _
  have d := c.below hy c.lt
  exact ⟨d.cell 0, d.cell 1, d.cell 2, d.cell 3⟩
theorem qf {n : Nat} (h : n ≤ 9223372036854775807) : (9223372036854775807 < n) = False := by simp only [eq_iff_iff, iff_false]; omega
set_option maxHeartbeats 4000000 in
set_option maxRecDepth 100000 in
theorem rOrder_any (s : ByteArray) (g t m : Int) (a : Option Addr) (n cap : Nat) (z : Nat → Int) (W : World) (hs : s.size ≤ 140737488351232) (hg : I64 g) (ht : I64 t) (hm : I64 m) (hr : NRow W a n z) (hn : n ≤ 100) :
    Calls Tryd.prog 15 #[.string s, .agg #[.int .i64 g, .int .i64 t, .slice a n cap, .int .i64 m]] W (RetB (.string ⟨(ordT s.data.toList g t z n m).toArray⟩) W) := by
  have HR := Lib.hid hr.1
  have HZ := Lib.hid hr.2
  obtain ⟨V, hV⟩ : ∃ V : World, V = W.alloc (.cells #[.int .i64 g, .int .i64 t, .slice a n cap, .int .i64 m] 31) := ⟨_, rfl⟩
  have HBV : Hid (Below W.heap.size W V) := by rw [hV]; exact (Below.refl _ _).alloc (Nat.le_refl _) _
  have HG := Lib.hid (bt_cells hV)
  have HW := Lib.hid hV
  have HX := Lib.hid (Below.refl V.heap.size V)
  have hlV : W.heap.size < V.heap.size := by rw [hV]; simp
  obtain ⟨b1, hb1⟩ : ∃ b : ByteArray, b = sumB ⟨#[103, 114, 111, 115, 115]⟩ g := ⟨_, rfl⟩
  obtain ⟨b2, hb2⟩ : ∃ b : ByteArray, b = sumB ⟨#[116, 97, 120]⟩ t := ⟨_, rfl⟩
  obtain ⟨b3, hb3⟩ : ∃ b : ByteArray, b = sumB ⟨#[110, 101, 116]⟩ m := ⟨_, rfl⟩
  have n1 : b1.size ≤ 100 := by rw [hb1]; exact Nat.le_trans (sumB_size _ _) (by decide)
  have n2 : b2.size ≤ 100 := by rw [hb2]; exact Nat.le_trans (sumB_size _ _) (by decide)
  have n3 : b3.size ≤ 100 := by rw [hb3]; exact Nat.le_trans (sumB_size _ _) (by decide)
  have E1 := Lib.hid fun w => rSum_any ⟨#[103, 114, 111, 115, 115]⟩ g w (by decide) hg.1 hg.2
  have E2 := Lib.hid fun w => rSum_any ⟨#[116, 97, 120]⟩ t w (by decide) ht.1 ht.2
  have E3 := Lib.hid fun w => rSum_any ⟨#[110, 101, 116]⟩ m w (by decide) hm.1 hm.2
  have HP0 := Lib.hid (ordP_zero s g t z)
  have HPn : Hid (ordP s g t z n ++ b3 = ⟨(ordT s.data.toList g t z n m).toArray⟩) := Lib.hid (bytes_of (by
    rw [hb3, ByteArray.data_append, Array.toList_append, ordP_list, sumB_list]
    unfold ordT; rfl))
  rw [← hb1] at E1 HP0
  rw [← hb2] at E2 HP0
  rw [← hb3] at E3
  clear hb1 hb2 hb3 hV hr hg ht hm
  have q1 := qf (show 6 + s.size ≤ _ by omega)
  have q2 := qf (show 6 + s.size + 1 ≤ _ by omega)
  have q3 := qf (show 6 + s.size + 1 + b1.size ≤ _ by omega)
  have q4 := qf (show 6 + s.size + 1 + b1.size + b2.size ≤ _ by omega)
  go_enter Tryd.func15, Tryd.ntmps15
  go_wp2
  rw [← HW.out]
  have g0 := fun x : Sub V.heap.size V => (HG.out x.w x.h).1
  have g1 := fun x : Sub V.heap.size V => (HG.out x.w x.h).2.1
  have F1 := Lib.hid fun x : Sub V.heap.size V => E1.out x.w
  have F2 := Lib.hid fun x : Sub V.heap.size V => E2.out x.w
  refine wp_region_below (by kernel_rfl) (by kernel_rfl) ?_
  repeat (go_big_quiet_step (((go_at_call 30; first | (with_reducible exact Sub.ofB _ (Nat.le_refl _) (F1.out _)) | (with_reducible exact Sub.ofB _ (Nat.le_refl _) (F2.out _))))))
  refine wpQuiet_nil ?_
  rintro w1 ⟨⟨_, hb⟩, rfl⟩
  replace HX := Lib.hid (HX.out.trans hb)
  clear hb g0 g1 F1 F2 q1 q2 q3 q4
  rw [HP0.out]
  go_wp2
  go_loopw [5, 6] (fun vs vi wr => ∃ (k : Nat) (x : ByteArray), vs = .string x ∧ Hid (x = ordP s g t z k) ∧ vi = .int .i64 k ∧ k ≤ n ∧ x.size ≤ s.size + 90 + 30 * k ∧ Below V.heap.size V wr) (fun _ vi _ => n - (intOf vi).toNat)
  case atStart => exact ⟨0, _, rfl, rfl, rfl, by omega, ordP_size s g t z (by omega), HX.out⟩
  case round =>
    obtain ⟨k, x, rfl, hx, rfl, hk, hxs, hb⟩ := hrel
    have HXr := Lib.hid hb
    clear hb
    have d2 := (HG.out wr HXr.out).2.2.1
    have d3 := (HG.out wr HXr.out).2.2.2
    by_cases hlt : k < n
    · obtain ⟨z0, z1⟩ := HZ.out k hlt
      rcases HR.out.below HBV.out (Nat.le_refl _) with h0 | ⟨b, o, ha, hb, hm, hc⟩
      · omega
      · subst ha
        have zi := itB_two (show k < 100 by omega)
        have za := amB8_size15 (z k)
        have q1 := qf (show x.size + 7 ≤ _ by omega)
        have q2 := qf (show x.size + 7 + (itB (k : Int)).size ≤ _ by omega)
        have q3 := qf (show x.size + 7 + (itB (k : Int)).size + 1 ≤ _ by omega)
        have q4 := qf (show x.size + 7 + (itB (k : Int)).size + 1 + (amB8 (z k)).size ≤ _ by omega)
        have q5 := qf (show x.size + 7 + (itB (k : Int)).size + 1 + (amB8 (z k)).size + 1 ≤ _ by omega)
        have hkI : (k : Int) < (n : Int) := by omega
        have hk0 : (0 : Int) ≤ (k : Int) := by omega
        have hk9 : (k : Int) ≤ 100 := by omega
        have HN := Lib.hid (ordP_succ s g t z k)
        have HSz := Lib.hid (ordP_size s g t z (k := k + 1) (by omega))
        have F1 := Lib.hid fun y : Sub wr.heap.size wr => rFormat_any (k : Int) y.w (by omega) (by omega)
        have F2 := Lib.hid fun y : Sub wr.heap.size wr => rAmount_any (z k) y.w z0 z1
        have g2 := fun y : Sub wr.heap.size wr => (HG.out y.w (HXr.out.trans (y.h.mono HXr.out.size))).2.2.1
        have c0 : ∀ y : Sub wr.heap.size wr, y.w.cell? ⟨b, o + k, none⟩ = some (.int .i64 (z k)) := fun y => by
          rw [(HXr.out.trans (y.h.mono HXr.out.size)).cell (p := ⟨b, o + k, none⟩) hb]; exact hc k hlt
        clear hc zi za
        go_wp2
        refine wp_region_below (by kernel_rfl) (by kernel_rfl) ?_
        repeat (go_big_quiet_step (((first | (go_at_call 32; exact Sub.ofB _ (Nat.le_refl _) (F1.out _)) | (go_at_call 33; exact Sub.ofB _ (Nat.le_refl _) (F2.out _))))))
        refine wpQuiet_nil ?_
        rintro w2 ⟨⟨_, hb2⟩, rfl⟩
        replace HXr := Lib.hid (HXr.out.trans (hb2.mono HXr.out.size))
        clear q1 q2 q3 q4 q5 F1 F2 g2 c0 hb2
        go_wp2
        go_roundw
        case rel => exact ⟨k + 1, _, rfl, by rw [hx.out]; exact HN.out, by go_num, hlt, by rw [hx.out, HN.out]; exact HSz.out, HXr.out⟩
        case measure => simp [intOf]; omega
    · obtain rfl : k = n := by omega
      have q1 := qf (show x.size + b3.size ≤ _ by omega)
      go_wp2_with (go_at_call 30; refine (E3.out _).mono ?_; rintro e w9 ⟨rfl, hb9⟩; replace HXr := Lib.hid (HXr.out.trans (hb9.mono HXr.out.size)); clear hb9)
      go_ret
      exact ⟨ret_str (by rw [hx.out]; exact HPn.out), HBV.out.trans (HXr.out.mono HBV.out.size)⟩
end Go.Proofs.YtgmilhhifigkkaaDoor
