/- Format of package money and of its reference. -/
import Derived.Test.YtgmilhhifigkkaaDoorMpa
import Derived.Test.YtgmilhhifigkkaaDoorNump
import Derived.Test.YtgmilhhifigkkaaDoorVal
namespace Go.Proofs.YtgmilhhifigkkaaDoor
open Go.ChangeShapes Go.WideShapes Go.ChangeAt Go.RowKit Go.Lott
open Go.Lott.Mny
theorem mdec_short : ∀ (k N : Nat), N < 10 ^ (k + 1) → (Lib.decDigits N).length ≤ k + 1
  | 0, N, h => by rw [Lib.decDigits_one (by simpa using h)]; simp
  | k + 1, N, h => by
    by_cases c : N < 10
    · rw [Lib.decDigits_one c]; simp
    · rw [Lib.decDigits, dif_neg c, List.length_append]
      have := mdec_short k (N / 10) (by rw [Nat.pow_succ] at h; omega)
      simp; omega
theorem mit_size {n : Int} (h0 : 0 ≤ n) (h1 : n ≤ 9223372036854775807) : (itB n).size ≤ 20 := by
  have e : (10 : Nat) ^ 19 = 10000000000000000000 := rfl
  have := mdec_short 18 n.toNat (by show _ < 10 ^ 19; omega)
  unfold itB Lib.itoa; rw [if_neg (by omega)]
  show (Lib.decDigits n.toNat).toArray.size ≤ 20
  simp; omega
theorem strTwo_size (a b : Int) : (strOfNums [a, b]).size = 2 := rfl
/-- The text of an amount. -/
def mTB (m : Int) : ByteArray := ⟨(mT m).toArray⟩
theorem mTB_list (m : Int) : (mTB m).data.toList = mT m := by simp [mTB]
theorem mTB_no {m : Int} (h : ¬ (0 ≤ m ∧ m ≤ 1000000000000)) : ByteArray.empty = mTB m := by
  refine bytes_of ?_; rw [mTB_list, mT_no h]; rfl
theorem two_list (a b : Int) : (strOfNums [a, b]).data.toList = [UInt8.ofNat a.toNat, UInt8.ofNat b.toNat] := rfl
theorem mTB_yes {m : Int} (h : 0 ≤ m ∧ m ≤ 1000000000000) : (itB (m / 100) ++ (⟨#[46]⟩ : ByteArray)) ++ strOfNums [48 + m % 100 / 10, 48 + m % 10] = mTB m := by
  refine bytes_of ?_
  rw [mTB_list, mT_yes h, ByteArray.data_append, Array.toList_append, ByteArray.data_append, Array.toList_append, two_list]
  have e1 : (itB (m / 100)).data.toList = Lib.decDigits (m / 100).toNat := by
    unfold itB Lib.itoa; rw [if_neg (by omega)]
  have e2 : (48 + m % 100 / 10).toNat = 48 + m.toNat % 100 / 10 := by omega
  have e3 : (48 + m % 10).toNat = 48 + m.toNat % 10 := by omega
  rw [e1, e2, e3, List.append_assoc]; rfl
theorem conv2 (a b : Int) (w : World) (h : Nat) (hh : w.heap.size = h) : (convert 55 9 (.slice (some ⟨h, 0, none⟩) 2 2)).run Tryd.prog (w.alloc (.cells #[.int .u8 a, .int .u8 b] 5)) = .ok (.string (strOfNums [a, b])) (w.alloc (.cells #[.int .u8 a, .int .u8 b] 5)) := by
  subst hh
  exact run_convert_bytes_arg _ 55 5 Tryd.underlying55 Tryd.underlying5 _ 0 2 2 [a, b] rfl (fun i hi => by
    rcases (show i = 0 ∨ i = 1 by have : i < 2 := hi; omega) with rfl | rfl <;> simp) 9 Tryd.underlying9
theorem conv2g (a b : Int) (W : World) (B : Nat) (h : W.heap[B]? = some (.cells #[.int .u8 a, .int .u8 b] 5 (0, 0))) : (convert 55 9 (.slice (some ⟨B, 0, none⟩) 2 2)).run Tryd.prog W = .ok (.string (strOfNums [a, b])) W := by
  exact run_convert_bytes_arg _ 55 5 Tryd.underlying55 Tryd.underlying5 _ 0 2 2 [a, b] rfl (fun i hi => by
    rcases (show i = 0 ∨ i = 1 by have : i < 2 := hi; omega) with rfl | rfl <;> simp [World.cell?, h]) 9 Tryd.underlying9
theorem nFormat_any (n : Int) (w : World) (h0 : -9223372036854775808 ≤ n) (h1 : n ≤ 9223372036854775807) (hp : P10 w) : Calls Tryd.prog 26 #[.int .i64 n] w (RetB (.string (itB n)) w) := Format_any n w h0 h1 hp
set_option maxHeartbeats 2000000 in
set_option maxRecDepth 100000 in
theorem mFormat_any (m : Int) (w : World) (hp : P10 w) : Calls Tryd.prog 41 #[.int .i64 m] w (RetB (.string (mTB m)) w) := by
  have hv := fun w => Valid_any m w
  by_cases hm : 0 ≤ m ∧ m ≤ 1000000000000
  · have HV := Lib.hid (mTB_yes hm)
    rw [(amB_iff m).2 hm] at hv
    have HM := Lib.hid hv
    have HT := Lib.hid hp
    obtain ⟨m0, m1⟩ := hm
    clear hv hp
    go_enter Tryd.func41, Tryd.ntmps41
    have hcv := conv2
    have e100 : m.tmod 100 = m % 100 := Int.tmod_eq_emod_of_nonneg m0
    have d100 : m.tdiv 100 = m / 100 := Int.tdiv_eq_ediv_of_nonneg m0
    have q0 : 0 ≤ m / 100 := by omega
    have q1 : m / 100 ≤ 10000000000 := by omega
    have r0 : 0 ≤ m % 100 := by omega
    have r1 : m % 100 ≤ 99 := by omega
    have HF := Lib.hid (fun (W : World) (hb : Below w.heap.size w W) => Format_any (m / 100) W (by omega) (by omega) (HT.out.grow hb))
    have t1 : (m % 100).tdiv 10 = m % 100 / 10 := Int.tdiv_eq_ediv_of_nonneg r0
    have t2 : (m % 100).tmod 10 = m % 10 := by rw [Int.tmod_eq_emod_of_nonneg r0]; omega
    have s1 : IntKind.i64.wrap (m / 100) = m / 100 := IntWalk.i64_in _ (by omega)
    have s2 : IntKind.i64.wrap (m % 100 / 10) = m % 100 / 10 := IntWalk.i64_in _ (by omega)
    have s3 : IntKind.i64.wrap (m % 10) = m % 10 := IntWalk.i64_in _ (by omega)
    have s4 : IntKind.i64.wrap (48 + m % 100 / 10) = 48 + m % 100 / 10 := IntWalk.i64_in _ (by omega)
    have s5 : IntKind.i64.wrap (48 + m % 10) = 48 + m % 10 := IntWalk.i64_in _ (by omega)
    have s6 : IntKind.u8.wrap (48 + m % 100 / 10) = 48 + m % 100 / 10 := by simp [IntKind.wrap, IntKind.bits, IntKind.signed]; omega
    have s7 : IntKind.u8.wrap (48 + m % 10) = 48 + m % 10 := by simp [IntKind.wrap, IntKind.bits, IntKind.signed]; omega
    have z1 := mit_size q0 (by omega)
    have z2 := strTwo_size
    have hcv2 := conv2g (48 + m % 100 / 10) (48 + m % 10) (w.alloc (.cells #[.int .u8 (48 + m % 100 / 10), .int .u8 (48 + m % 10)] 5)).drew w.heap.size (heap_alloc_new w _)
    go_wp2_with (go_at_call 40; refine (HM.out _).mono ?_; rintro e w' ⟨rfl, rfl⟩)
    go_region_with (go_at_call 26; first
      | ((with_reducible refine (HF.out _ (Below.refl _ _).drew).mono ?_); rintro e w1 ⟨rfl, hb1⟩; have HB1 := Lib.hid ((Below.refl w.heap.size w).drew.trans hb1); have hcv1 := fun a b => conv2 a b w1 _ rfl; clear hb1)
      | ((with_reducible refine (HF.out _ ((Below.refl _ _).alloc (Nat.le_refl _) _).drew).mono ?_); rintro e w1 ⟨rfl, hb1⟩; have HB1 := Lib.hid (((Below.refl w.heap.size w).alloc (Nat.le_refl _) _).drew.trans (hb1.mono (by simp))); have hcv1 := conv2g (48 + m % 100 / 10) (48 + m % 10) w1 w.heap.size ((hb1.block _ (by simp)).trans (heap_alloc_new w _)); clear hb1))
    all_goals
      go_wp2
      go_ret
      first
        | exact ⟨ret_str HV.out, HB1.out⟩
        | exact ⟨ret_str HV.out, HB1.out.alloc HB1.out.size _⟩
  · have HV := Lib.hid (mTB_no hm)
    rw [show amB m = false from decide_eq_false hm] at hv
    have HM := Lib.hid hv
    clear hv hm
    go_enter Tryd.func41, Tryd.ntmps41
    go_wp2_with (go_at_call 40; refine (HM.out _).mono ?_; rintro e w' ⟨rfl, rfl⟩)
    go_ret
    exact ⟨ret_str HV.out, Below.refl _ _⟩
end Go.Proofs.YtgmilhhifigkkaaDoor
