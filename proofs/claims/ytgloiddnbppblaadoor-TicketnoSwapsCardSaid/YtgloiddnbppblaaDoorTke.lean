/- The laws TicketnoDetects and TicketnoSwaps: one replaced digit, two exchanged neighbours. -/
import Derived.Test.YtgloiddnbppblaaDoorTkd
import Derived.Deep.RegionHeld3
import Derived.Deep.DrawnRows
namespace Go.Proofs.YtgloiddnbppblaaDoor
open Go.ChangeShapes Go.WideShapes Go.ChangeAt Go.RowKit Go.Lott

theorem bl_ext (s : ByteArray) (i j k : Nat) (hj : j ≤ s.size) (hk : i + k < j) : Num.bl (s.extract i j).data.toList k = Num.bl s.data.toList (i + k) := by
  rw [bl_eq _ k (by simp; omega), bl_eq _ (i + k) (by omega), ByteArray.getElem_extract]
theorem bl_cat (a b : ByteArray) (k : Nat) : Num.bl (a ++ b).data.toList k = if k < a.size then Num.bl a.data.toList k else Num.bl b.data.toList (k - a.size) := by
  rw [ByteArray.data_append, Array.toList_append]
  split
  · rename_i h; exact Num.bl_left (by rw [len_eq]; exact h)
  · rename_i h; rw [Num.bl_right (by rw [len_eq]; omega), len_eq]
theorem conv1d (a : Int) (w : World) : (convert 44 9 (.slice (some ⟨w.heap.size, 0, none⟩) 1 1)).run Tryd.prog (w.alloc (.cells #[.int .u8 a] 5)).drew = .ok (.string (strOfNums [a])) (w.alloc (.cells #[.int .u8 a] 5)).drew :=
  run_convert_bytes_arg _ 44 5 Tryd.underlying44 Tryd.underlying5 _ 0 1 1 [a] rfl (fun i hi => by
    obtain rfl : i = 0 := by simpa using hi
    simp) 9 Tryd.underlying9
/-- A text of which one byte is replaced. -/
def repB (s : ByteArray) (i : Nat) (c : Int) : ByteArray := s.extract 0 i ++ strOfNums [c] ++ s.extract (i + 1) s.size
theorem repB_size (s : ByteArray) {i : Nat} (c : Int) (h : i < s.size) : (repB s i c).size = s.size := by
  unfold repB
  rw [ByteArray.size_append, ByteArray.size_append, strOne_size]; simp; omega
theorem repB_bl (s : ByteArray) {i : Nat} (c : Int) (h : i < s.size) (c0 : 0 ≤ c) (c1 : c ≤ 255) : Num.bl (repB s i c).data.toList i = c ∧ ∀ j, j < s.size → j ≠ i → Num.bl (repB s i c).data.toList j = Num.bl s.data.toList j := by
  have hz : (s.extract 0 i).size = i := by simp; omega
  have hz2 : (s.extract 0 i ++ strOfNums [c]).size = i + 1 := by rw [ByteArray.size_append, strOne_size, hz]
  constructor
  · unfold repB
    rw [bl_cat, if_pos (by omega), bl_cat, if_neg (by omega), hz, Nat.sub_self]
    show (((UInt8.ofNat c.toNat).toNat : Nat) : Int) = c
    have : c.toNat < 256 := by omega
    rw [UInt8.toNat_ofNat', Nat.mod_eq_of_lt (by omega)]; omega
  · intro j hj hne
    unfold repB
    rw [bl_cat, hz2]
    by_cases c2 : j < i + 1
    · rw [if_pos c2, bl_cat, hz, if_pos (by omega), bl_ext s 0 i j (by omega) (by omega), Nat.zero_add]
    · rw [if_neg c2, bl_ext s (i + 1) s.size (j - (i + 1)) (Nat.le_refl _) (by omega)]; congr 1; omega
/-- A text of which two neighbours are exchanged. -/
def swB (s : ByteArray) (i : Nat) : ByteArray := s.extract 0 i ++ s.extract (i + 1) (i + 2) ++ s.extract i (i + 1) ++ s.extract (i + 2) s.size
theorem swB_bl (s : ByteArray) {i : Nat} (h : i + 1 < s.size) : Num.bl (swB s i).data.toList i = Num.bl s.data.toList (i + 1) ∧ Num.bl (swB s i).data.toList (i + 1) = Num.bl s.data.toList i ∧
    ∀ j, j < s.size → j ≠ i → j ≠ i + 1 → Num.bl (swB s i).data.toList j = Num.bl s.data.toList j := by
  have z1 : (s.extract 0 i).size = i := by simp; omega
  have z2 : (s.extract 0 i ++ s.extract (i + 1) (i + 2)).size = i + 1 := by rw [ByteArray.size_append, z1, ByteArray.size_extract]; omega
  have z3 : (s.extract 0 i ++ s.extract (i + 1) (i + 2) ++ s.extract i (i + 1)).size = i + 2 := by rw [ByteArray.size_append, z2, ByteArray.size_extract]; omega
  unfold swB
  refine ⟨?_, ?_, fun j hj n1 n2 => ?_⟩
  · rw [bl_cat, z3, if_pos (by omega), bl_cat, z2, if_pos (by omega), bl_cat, z1, if_neg (by omega), Nat.sub_self, bl_ext s (i + 1) (i + 2) 0 (by omega) (by omega)]
  · rw [bl_cat, z3, if_pos (by omega), bl_cat, z2, if_neg (by omega), Nat.sub_self, bl_ext s i (i + 1) 0 (by omega) (by omega), Nat.add_zero]
  · rw [bl_cat, z3]
    by_cases c : j < i + 2
    · rw [if_pos c, bl_cat, z2, if_pos (by omega), bl_cat, z1, if_pos (by omega), bl_ext s 0 i j (by omega) (by omega), Nat.zero_add]
    · rw [if_neg c, bl_ext s (i + 2) s.size (j - (i + 2)) (Nat.le_refl _) (by omega)]; congr 1; omega
theorem mk_dig {t q : Int} (h : Num.tkV t q = true) : ∀ k, k < 14 → 48 ≤ Num.bl (bsL (Num.mkL t q)).data.toList k ∧ Num.bl (bsL (Num.mkL t q)).data.toList k ≤ 57 := fun k hk => by
  have := (Num.mk_parts h).2.1 k hk
  rw [Nat.zero_add] at this
  rw [bsL_list]; exact this
set_option maxHeartbeats 4000000 in
theorem ticketnoDetects_walk (t q a d : Int) (W : World) (_ : (Lit.int .i64 t).wf = true) (_ : (Lit.int .i64 q).wf = true) (ha : (Lit.int .i64 a).wf = true) (hd : (Lit.int .i64 d).wf = true) (hp : P10W W) :
    Calls Tryd.prog 16 #[.int .i64 t, .int .i64 q, .int .i64 a, .int .i64 d] W (RetB (.bool true) W) := by
  have hbel := Below.refl W.heap.size W
  have HT := Lib.hid hp
  clear hp
  obtain ⟨a0, a1⟩ := wf_int ha
  obtain ⟨d0, d1⟩ := wf_int hd
  clear ha hd
  have hM := fun w h => tMake_any t q w h
  cases hv : Num.tkV t q with
  | false =>
    obtain ⟨m1, m2⟩ := mk_no hv
    rw [m1, m2] at hM
    have HM := Lib.hid hM
    clear hM hv m1 m2
    go_enter Tryd.func16, Tryd.ntmps16
    go_wp2_with (first | (go_at_call 18; ((with_reducible refine (HM.out _ (HT.out.grow hbel)).mono ?_); rintro e w1 ⟨rfl, hb1⟩; replace hbel := hbel.trans (hb1.mono hbel.size); clear hb1)) | (go_at_call 20; ((with_reducible refine (tLives_any _ (HT.out.grow hbel)).mono ?_); rintro e w1 ⟨rfl, hb1⟩; replace hbel := hbel.trans (hb1.mono hbel.size); clear hb1)))
    all_goals first
      | (go_ret; exact ⟨rfl, hbel⟩)
      | (exfalso; omega)
  | true =>
    obtain ⟨m1, m2⟩ := mk_yes hv
    rw [m1, m2] at hM
    have hz : (bsL (Num.mkL t q)).size = 14 := by rw [bsL_size, Num.mk_len]
    have hdg := mk_dig hv
    have he : Num.tkE (bsL (Num.mkL t q)).data.toList = 0 := by rw [bsL_list]; exact (Num.mk_fine hv).2.2
    generalize bsL (Num.mkL t q) = s at *
    have HM := Lib.hid hM
    have HDG := Lib.hid hdg
    have HZ := Lib.hid hz
    have HE := Lib.hid he
    have z0 : (14 : Int) ≤ (s.size : Int) := by omega
    have z1 : (s.size : Int) ≤ 14 := by omega
    clear hM hv m1 m2 hz hdg he
    by_cases hb : a < 0 ∨ 14 ≤ a ∨ d < 0 ∨ 9 < d
    · by_cases b1 : a < 0
      · clear hb
        go_enter Tryd.func16, Tryd.ntmps16
        go_wp2_with (first | (go_at_call 18; ((with_reducible refine (HM.out _ (HT.out.grow hbel)).mono ?_); rintro e w1 ⟨rfl, hb1⟩; replace hbel := hbel.trans (hb1.mono hbel.size); clear hb1)) | (go_at_call 20; ((with_reducible refine (tLives_any _ (HT.out.grow hbel)).mono ?_); rintro e w1 ⟨rfl, hb1⟩; replace hbel := hbel.trans (hb1.mono hbel.size); clear hb1)))
        all_goals first
          | (go_ret; exact ⟨rfl, hbel⟩)
          | (exfalso; omega)
      · by_cases b2 : 14 ≤ a
        · have b3 : (s.size : Int) ≤ a := by omega
          clear hb
          go_enter Tryd.func16, Tryd.ntmps16
          go_wp2_with (first | (go_at_call 18; ((with_reducible refine (HM.out _ (HT.out.grow hbel)).mono ?_); rintro e w1 ⟨rfl, hb1⟩; replace hbel := hbel.trans (hb1.mono hbel.size); clear hb1)) | (go_at_call 20; ((with_reducible refine (tLives_any _ (HT.out.grow hbel)).mono ?_); rintro e w1 ⟨rfl, hb1⟩; replace hbel := hbel.trans (hb1.mono hbel.size); clear hb1)))
          all_goals first
            | (go_ret; exact ⟨rfl, hbel⟩)
            | (exfalso; omega)
        · have b3 : a < (s.size : Int) := by omega
          by_cases b4 : d < 0
          · clear hb
            go_enter Tryd.func16, Tryd.ntmps16
            go_wp2_with (first | (go_at_call 18; ((with_reducible refine (HM.out _ (HT.out.grow hbel)).mono ?_); rintro e w1 ⟨rfl, hb1⟩; replace hbel := hbel.trans (hb1.mono hbel.size); clear hb1)) | (go_at_call 20; ((with_reducible refine (tLives_any _ (HT.out.grow hbel)).mono ?_); rintro e w1 ⟨rfl, hb1⟩; replace hbel := hbel.trans (hb1.mono hbel.size); clear hb1)))
            all_goals first
              | (go_ret; exact ⟨rfl, hbel⟩)
              | (exfalso; omega)
          · have b5 : 9 < d := by omega
            clear hb
            go_enter Tryd.func16, Tryd.ntmps16
            go_wp2_with (first | (go_at_call 18; ((with_reducible refine (HM.out _ (HT.out.grow hbel)).mono ?_); rintro e w1 ⟨rfl, hb1⟩; replace hbel := hbel.trans (hb1.mono hbel.size); clear hb1)) | (go_at_call 20; ((with_reducible refine (tLives_any _ (HT.out.grow hbel)).mono ?_); rintro e w1 ⟨rfl, hb1⟩; replace hbel := hbel.trans (hb1.mono hbel.size); clear hb1)))
            all_goals first
              | (go_ret; exact ⟨rfl, hbel⟩)
              | (exfalso; omega)
    · obtain ⟨i, rfl⟩ := Int.eq_ofNat_of_zero_le (show 0 ≤ a by omega)
      have hi : i < 14 := by omega
      have his : i < s.size := by rw [HZ.out]; exact hi
      have hiI : (i : Int) < (s.size : Int) := by omega
      have d2 : 0 ≤ d := by omega
      have d3 : d ≤ 9 := by omega
      have hg := HDG.out i hi
      rw [bl_eq s i his] at hg
      obtain ⟨g0, g1⟩ := hg
      clear hb
      by_cases hc : (s[i].toNat : Int) = 48 + d
      · have hc1 : ((s[i].toNat : Int) == 48 + d) = true := by rw [beq_iff_eq]; exact hc
        have hV := fun w h => tValid_any s w h
        rw [HE.out, decide_eq_true rfl] at hV
        have HV := Lib.hid hV
        clear hV hc
        go_enter Tryd.func16, Tryd.ntmps16
        go_wp2_with (first | (go_at_call 18; ((with_reducible refine (HM.out _ (HT.out.grow hbel)).mono ?_); rintro e w1 ⟨rfl, hb1⟩; replace hbel := hbel.trans (hb1.mono hbel.size); clear hb1)) | (go_at_call 41; ((with_reducible refine (HV.out _ (HT.out.grow hbel).q).mono ?_); rintro e w1 ⟨rfl, hb1⟩; replace hbel := hbel.trans (hb1.mono hbel.size); clear hb1)) | (go_at_call 20; ((with_reducible refine (tLives_any _ (HT.out.grow hbel)).mono ?_); rintro e w1 ⟨rfl, hb1⟩; replace hbel := hbel.trans (hb1.mono hbel.size); clear hb1)))
        go_ret
        exact ⟨rfl, hbel⟩
      · have hc1 : ((s[i].toNat : Int) == 48 + d) = false := by rw [beq_eq_false_iff_ne]; exact hc
        have hV := fun w h => tValid_any (repB s i (48 + d)) w h
        obtain ⟨r1, r2⟩ := repB_bl s (i := i) (48 + d) his (by omega) (by omega)
        have hne : Num.tkE (repB s i (48 + d)).data.toList ≠ 0 := Num.detects hi HE.out (HDG.out i hi) (by rw [r1]; omega) (by rw [r1, bl_eq s i his]; exact fun c => hc c.symm) (fun j hj hji => r2 j (by rw [HZ.out]; exact hj) hji)
        rw [decide_eq_false hne] at hV
        have HV := Lib.hid hV
        clear hV hc r1 r2 hne
        go_enter Tryd.func16, Tryd.ntmps16
        go_wp2_with (first | (go_at_call 18; ((with_reducible refine (HM.out _ (HT.out.grow hbel)).mono ?_); rintro e w1 ⟨rfl, hb1⟩; replace hbel := hbel.trans (hb1.mono hbel.size); clear hb1)) | (go_at_call 41; ((with_reducible refine (HV.out _ (HT.out.grow hbel).q).mono ?_); rintro e w1 ⟨rfl, hb1⟩; replace hbel := hbel.trans (hb1.mono hbel.size); clear hb1)) | (go_at_call 20; ((with_reducible refine (tLives_any _ (HT.out.grow hbel)).mono ?_); rintro e w1 ⟨rfl, hb1⟩; replace hbel := hbel.trans (hb1.mono hbel.size); clear hb1)))
        have hcv := conv1
        have hs1 := strOne_size
        have w1 : IntKind.i64.wrap ((i : Int) + 1) = (i : Int) + 1 := IntWalk.i64_in _ (by omega)
        have w2 : (0 : Int) ≤ (i : Int) + 1 := by omega
        have w3 : ((i : Int) + 1).toNat = i + 1 := by omega
        have w4 : (i : Int) + 1 ≤ (s.size : Int) := by omega
        have w5 : (i : Int) ≤ (s.size : Int) := by omega
        have w6 : (0 : Int) ≤ (i : Int) := by omega
        have hcw := conv1d
        have hbS := hbel.size
        go_region_with (first | (go_at_call 41; refine (HV.out _ (HT.out.grow ((hbel.alloc hbS _).drew)).q).mono ?_; rintro e w2 ⟨rfl, hb2⟩; have hbel2 := ((hbel.alloc hbS _).drew).trans (hb2.mono (by simp; omega))) | (go_at_call 20; refine (tLives_any _ (HT.out.grow hbel2)).mono ?_; rintro e w3 ⟨rfl, hb3⟩; have hbel3 := hbel2.trans (hb3.mono hbel2.size)))
        all_goals (go_wp2; go_ret; exact ⟨rfl, by assumption⟩)
set_option maxHeartbeats 4000000 in
theorem ticketnoSwaps_walk (t q a : Int) (W : World) (_ : (Lit.int .i64 t).wf = true) (_ : (Lit.int .i64 q).wf = true) (ha : (Lit.int .i64 a).wf = true) (hp : P10W W) :
    Calls Tryd.prog 17 #[.int .i64 t, .int .i64 q, .int .i64 a] W (RetB (.bool true) W) := by
  have hbel := Below.refl W.heap.size W
  have HT := Lib.hid hp
  clear hp
  obtain ⟨a0, a1⟩ := wf_int ha
  clear ha
  have hM := fun w h => tMake_any t q w h
  cases hv : Num.tkV t q with
  | false =>
    obtain ⟨m1, m2⟩ := mk_no hv
    rw [m1, m2] at hM
    have HM := Lib.hid hM
    clear hM hv m1 m2
    go_enter Tryd.func17, Tryd.ntmps17
    go_wp2_with (first | (go_at_call 18; ((with_reducible refine (HM.out _ (HT.out.grow hbel)).mono ?_); rintro e w1 ⟨rfl, hb1⟩; replace hbel := hbel.trans (hb1.mono hbel.size); clear hb1)) | (go_at_call 20; ((with_reducible refine (tLives_any _ (HT.out.grow hbel)).mono ?_); rintro e w1 ⟨rfl, hb1⟩; replace hbel := hbel.trans (hb1.mono hbel.size); clear hb1)))
    all_goals first
      | (go_ret; exact ⟨rfl, hbel⟩)
      | (exfalso; omega)
  | true =>
    obtain ⟨m1, m2⟩ := mk_yes hv
    rw [m1, m2] at hM
    have hz : (bsL (Num.mkL t q)).size = 14 := by rw [bsL_size, Num.mk_len]
    have hdg := mk_dig hv
    have he : Num.tkE (bsL (Num.mkL t q)).data.toList = 0 := by rw [bsL_list]; exact (Num.mk_fine hv).2.2
    generalize bsL (Num.mkL t q) = s at *
    have HM := Lib.hid hM
    have HDG := Lib.hid hdg
    have HZ := Lib.hid hz
    have HE := Lib.hid he
    have z0 : (14 : Int) ≤ (s.size : Int) := by omega
    have z1 : (s.size : Int) ≤ 14 := by omega
    have z2 : ((s.size : Int) != 14) = false := by rw [bne_eq_false_iff_eq]; omega
    clear hM hv m1 m2 hz hdg he
    by_cases hb : a < 0 ∨ 12 < a
    · by_cases b1 : a < 0
      · clear hb
        go_enter Tryd.func17, Tryd.ntmps17
        go_wp2_with (first | (go_at_call 18; ((with_reducible refine (HM.out _ (HT.out.grow hbel)).mono ?_); rintro e w1 ⟨rfl, hb1⟩; replace hbel := hbel.trans (hb1.mono hbel.size); clear hb1)) | (go_at_call 20; ((with_reducible refine (tLives_any _ (HT.out.grow hbel)).mono ?_); rintro e w1 ⟨rfl, hb1⟩; replace hbel := hbel.trans (hb1.mono hbel.size); clear hb1)))
        all_goals first
          | (go_ret; exact ⟨rfl, hbel⟩)
          | (exfalso; omega)
      · have b2 : 12 < a := by omega
        clear hb
        go_enter Tryd.func17, Tryd.ntmps17
        go_wp2_with (first | (go_at_call 18; ((with_reducible refine (HM.out _ (HT.out.grow hbel)).mono ?_); rintro e w1 ⟨rfl, hb1⟩; replace hbel := hbel.trans (hb1.mono hbel.size); clear hb1)) | (go_at_call 20; ((with_reducible refine (tLives_any _ (HT.out.grow hbel)).mono ?_); rintro e w1 ⟨rfl, hb1⟩; replace hbel := hbel.trans (hb1.mono hbel.size); clear hb1)))
        all_goals first
          | (go_ret; exact ⟨rfl, hbel⟩)
          | (exfalso; omega)
    · obtain ⟨i, rfl⟩ := Int.eq_ofNat_of_zero_le (show 0 ≤ a by omega)
      have hi : i < 13 := by omega
      have his : i < s.size := by rw [HZ.out]; omega
      have his1 : i + 1 < s.size := by rw [HZ.out]; omega
      have hiI : (i : Int) < (s.size : Int) := by omega
      have hi12 : (i : Int) ≤ 12 := by omega
      clear hb
      have w1 : IntKind.i64.wrap ((i : Int) + 1) = (i : Int) + 1 := IntWalk.i64_in _ (by omega)
      have w2 : (0 : Int) ≤ (i : Int) + 1 := by omega
      have w3 : ((i : Int) + 1).toNat = i + 1 := by omega
      have w4 : (i : Int) + 1 < (s.size : Int) := by omega
      have w4' : (i : Int) + 1 ≤ (s.size : Int) := by omega
      have w5 : (i : Int) ≤ (s.size : Int) := by omega
      have w6 : (0 : Int) ≤ (i : Int) := by omega
      have v1 : IntKind.i64.wrap ((i : Int) + 2) = (i : Int) + 2 := IntWalk.i64_in _ (by omega)
      have v2 : (0 : Int) ≤ (i : Int) + 2 := by omega
      have v3 : ((i : Int) + 2).toNat = i + 2 := by omega
      have v4 : (i : Int) + 2 ≤ (s.size : Int) := by omega
      have v5 : (i : Int) + 1 ≤ (i : Int) + 2 := by omega
      have v6 : (i : Int) ≤ (i : Int) + 1 := by omega
      by_cases hc : (s[i].toNat : Int) = (s[i + 1].toNat : Int)
      · have hc1 : ((s[i].toNat : Int) == (s[i + 1].toNat : Int)) = true := by rw [beq_iff_eq]; exact hc
        clear hc
        go_enter Tryd.func17, Tryd.ntmps17
        go_wp2_with (first | (go_at_call 18; ((with_reducible refine (HM.out _ (HT.out.grow hbel)).mono ?_); rintro e w1 ⟨rfl, hb1⟩; replace hbel := hbel.trans (hb1.mono hbel.size); clear hb1)))
        refine wp_region_below (by kernel_rfl) (by kernel_rfl) ?_
        repeat (go_big_quiet_step (fail))
        refine wpQuiet_nil ?_
        rintro w1 ⟨⟨_, hb1⟩, rfl⟩
        have hbel1 := hbel.trans (hb1.mono hbel.size)
        go_wp2_with (go_at_call 20; refine (tLives_any _ (HT.out.grow hbel1)).mono ?_; rintro e w3 ⟨rfl, hb3⟩)
        go_ret
        exact ⟨rfl, hbel1.trans (hb3.mono hbel1.size)⟩
      · have hc1 : ((s[i].toNat : Int) == (s[i + 1].toNat : Int)) = false := by rw [beq_eq_false_iff_ne]; exact hc
        have hV := fun w h => tValid_any (swB s i) w h
        obtain ⟨r1, r2, r3⟩ := swB_bl s his1
        have hne : Num.tkE (swB s i).data.toList ≠ 0 := Num.swaps hi HE.out (HDG.out i (by omega)) (HDG.out (i + 1) (by omega)) (by rw [bl_eq s i his, bl_eq s (i + 1) his1]; exact hc) r1 r2 (fun j hj n1 n2 => r3 j (by rw [HZ.out]; exact hj) n1 n2)
        rw [decide_eq_false hne] at hV
        have HV := Lib.hid hV
        clear hV hc r1 r2 r3 hne
        go_enter Tryd.func17, Tryd.ntmps17
        go_wp2_with (first | (go_at_call 18; ((with_reducible refine (HM.out _ (HT.out.grow hbel)).mono ?_); rintro e w1 ⟨rfl, hb1⟩; replace hbel := hbel.trans (hb1.mono hbel.size); clear hb1)))
        refine wp_region_below (by kernel_rfl) (by kernel_rfl) ?_
        repeat (go_big_quiet_step (fail))
        refine wpQuiet_nil ?_
        rintro w1 ⟨⟨_, hb1⟩, rfl⟩
        have hbel1 := hbel.trans (hb1.mono hbel.size)
        go_wp2
        have HS : Hid (∀ x : Sub w1.heap.size w1, P10W x.w) := Lib.hid (fun x => HT.out.grow (hbel1.trans (x.h.mono hbel1.size)))
        refine wp_region_below (by kernel_rfl) (by kernel_rfl) ?_
        repeat (go_big_quiet_step (first | (go_at_call 41; exact Sub.ofB _ (by simp) (HV.out _ (HS.out _).q)) | (go_at_call 20; exact Sub.ofB _ (by simp) (tLives_any _ (HS.out _)))))
        refine wpQuiet_nil ?_
        rintro w2 ⟨⟨_, hb2⟩, rfl⟩
        go_wp2
        go_ret
        exact ⟨rfl, hbel1.trans (hb2.mono hbel1.size)⟩
end Go.Proofs.YtgloiddnbppblaaDoor
