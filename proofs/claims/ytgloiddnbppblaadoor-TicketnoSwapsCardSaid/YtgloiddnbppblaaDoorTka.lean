/- Ticket numbers: padded, value, check, valid of the program. -/
import Derived.Test.YtgloiddnbppblaaDoorTabn
import Derived.Test.YtgloiddnbppblaaDoorNumv
import Derived.Test.YtgloiddnbppblaaDoorTkm
import Derived.Laws.Rows
namespace Go.Proofs.YtgloiddnbppblaaDoor
open Go.ChangeShapes Go.WideShapes Go.ChangeAt Go.RowKit Go.Lott

theorem P10W.p {w : World} (h : P10W w) : P10 w := h.1
theorem P10W.q {w : World} (h : P10W w) : Wts w := h.2
/-- A list of bytes as a text. -/
def bsL (l : List UInt8) : ByteArray := ⟨l.toArray⟩
theorem bsL_list (l : List UInt8) : (bsL l).data.toList = l := by simp [bsL]
theorem bsL_size (l : List UInt8) : (bsL l).size = l.length := by simp [bsL, ByteArray.size]
def zsB (x : Int) : ByteArray := bsL (List.replicate x.toNat 48)
theorem zsB_size (x : Int) : (zsB x).size = x.toNat := by unfold zsB; rw [bsL_size]; simp
theorem repeatL_one (c : UInt8) : ∀ n, Lib.repeatL [c] n = List.replicate n c
  | 0 => rfl
  | n + 1 => by unfold Lib.repeatL; rw [repeatL_one c n]; rfl
theorem Repeat_v (x : Int) (w : World) (h0 : 0 ≤ x) (h1 : x ≤ 100) : Calls Tryd.prog 59 #[.string ⟨#[48]⟩, .int .i64 x] w (RetB (.string (zsB x)) w) := by
  obtain ⟨n, rfl⟩ := Int.eq_ofNat_of_zero_le h0
  have hc := Tryd.strings_Repeat ⟨#[48]⟩ n w (by omega) (by show 1 * n ≤ _; omega)
  refine hc.mono fun _ _ ⟨he, hb⟩ => ⟨?_, hb⟩
  rw [he]
  show Ending.returned (.string ⟨(Lib.repeatL [48] n).toArray⟩) = _
  rw [repeatL_one]
  rfl
theorem pad_eq (k n : Nat) (h : n < 10 ^ (k + 1)) : zsB (((k + 1 : Nat) : Int) - ((itB (n : Int)).size : Int)) ++ itB (n : Int) = bsL (Num.padR (k + 1) n) := by
  refine bytes_of ?_
  have e : Lib.itoa (n : Int) = Lib.decDigits n := by unfold Lib.itoa; rw [if_neg (by omega)]; rfl
  have hs : (itB (n : Int)).size = (Lib.decDigits n).length := by rw [← len_eq, itB_list, e]
  have hl := Num.dec_len k n h
  rw [ByteArray.data_append, Array.toList_append, itB_list, e, bsL_list, Num.padR_dec k n h]
  unfold zsB
  rw [bsL_list, hs, show (((k + 1 : Nat) : Int) - ((Lib.decDigits n).length : Int)).toNat = k + 1 - (Lib.decDigits n).length by omega]
theorem it_sz (k n : Nat) (h : n < 10 ^ (k + 1)) : (itB (n : Int)).size ≤ k + 1 := by
  have e : Lib.itoa (n : Int) = Lib.decDigits n := by unfold Lib.itoa; rw [if_neg (by omega)]; rfl
  rw [← len_eq, itB_list, e]; exact Num.dec_len k n h
set_option maxHeartbeats 1000000 in
theorem pad2_any (n : Int) (w : World) (h0 : 0 ≤ n) (h1 : n < 10 ^ 2) (hp : P10 w) : Calls Tryd.prog 43 #[.int .i64 n, .int .i64 2] w (RetB (.string (bsL (Num.padR 2 n.toNat))) w) := by
  obtain ⟨N, rfl⟩ := Int.eq_ofNat_of_zero_le h0
  rw [Int.toNat_natCast]
  have hN : N < 10 ^ (1 + 1) := by omega
  have hF := fun w => Format_any (N : Int) w (by omega) (by omega)
  have HE := Lib.hid (pad_eq 1 N hN)
  have hz := it_sz 1 N hN
  have hzs := zsB_size
  generalize itB (N : Int) = b at *
  have HF := Lib.hid hF
  have hbel := Below.refl w.heap.size w
  have HT := Lib.hid hp
  clear hp hF hN
  have hmx : (0 : Int) ≤ 2 - (b.size : Int) := by omega
  have HX : Hid (zsB (max 0 (2 - (b.size : Int))) ++ b = bsL (Num.padR 2 N)) := Lib.hid (by rw [Int.max_eq_right hmx]; exact HE.out)
  go_enter Tryd.func43, Tryd.ntmps43
  go_wp2_with (first | (go_at_call 37; refine (HF.out _ (HT.out.grow hbel)).mono ?_; rintro e w1 ⟨rfl, hb1⟩; replace hbel := hbel.trans (hb1.mono hbel.size); clear hb1) | (go_at_call 59; refine (Repeat_v _ _ (by omega) (by omega)).mono ?_; rintro e w1 ⟨rfl, hb1⟩; replace hbel := hbel.trans (hb1.mono hbel.size); clear hb1))
  go_ret
  exact ⟨ret_str HX.out, hbel⟩
set_option maxHeartbeats 1000000 in
theorem pad10_any (n : Int) (w : World) (h0 : 0 ≤ n) (h1 : n < 10 ^ 10) (hp : P10 w) : Calls Tryd.prog 43 #[.int .i64 n, .int .i64 10] w (RetB (.string (bsL (Num.padR 10 n.toNat))) w) := by
  obtain ⟨N, rfl⟩ := Int.eq_ofNat_of_zero_le h0
  rw [Int.toNat_natCast]
  have hN : N < 10 ^ (9 + 1) := by omega
  have hF := fun w => Format_any (N : Int) w (by omega) (by omega)
  have HE := Lib.hid (pad_eq 9 N hN)
  have hz := it_sz 9 N hN
  have hzs := zsB_size
  generalize itB (N : Int) = b at *
  have HF := Lib.hid hF
  have hbel := Below.refl w.heap.size w
  have HT := Lib.hid hp
  clear hp hF hN
  have hmx : (0 : Int) ≤ 10 - (b.size : Int) := by omega
  have HX : Hid (zsB (max 0 (10 - (b.size : Int))) ++ b = bsL (Num.padR 10 N)) := Lib.hid (by rw [Int.max_eq_right hmx]; exact HE.out)
  go_enter Tryd.func43, Tryd.ntmps43
  go_wp2_with (first | (go_at_call 37; refine (HF.out _ (HT.out.grow hbel)).mono ?_; rintro e w1 ⟨rfl, hb1⟩; replace hbel := hbel.trans (hb1.mono hbel.size); clear hb1) | (go_at_call 59; refine (Repeat_v _ _ (by omega) (by omega)).mono ?_; rintro e w1 ⟨rfl, hb1⟩; replace hbel := hbel.trans (hb1.mono hbel.size); clear hb1))
  go_ret
  exact ⟨ret_str HX.out, hbel⟩
theorem tvalid_any (t q : Int) (w : World) : Calls Tryd.prog 42 #[.int .i64 t, .int .i64 q] w (RetS (.bool (Num.tkV t q)) w) := by
  by_cases h : 1 ≤ t ∧ t ≤ 32 ∧ 1 ≤ q ∧ q ≤ 1048576
  · have HV := Lib.hid ((Num.tkV_iff t q).2 h)
    obtain ⟨a, b, c, d⟩ := h
    go_enter Tryd.func42, Tryd.ntmps42
    go_wp2
    go_ret
    exact ⟨ret_bool HV.out.symm, rfl⟩
  · have HV := Lib.hid (show Num.tkV t q = false from decide_eq_false h)
    by_cases a : 1 ≤ t
    · by_cases b : t ≤ 32
      · by_cases c : 1 ≤ q
        · have d : ¬ q ≤ 1048576 := fun d => h ⟨a, b, c, d⟩
          clear h
          go_enter Tryd.func42, Tryd.ntmps42
          go_wp2
          go_ret
          exact ⟨ret_bool HV.out.symm, rfl⟩
        · clear h
          go_enter Tryd.func42, Tryd.ntmps42
          go_wp2
          go_ret
          exact ⟨ret_bool HV.out.symm, rfl⟩
      · clear h
        go_enter Tryd.func42, Tryd.ntmps42
        go_wp2
        go_ret
        exact ⟨ret_bool HV.out.symm, rfl⟩
    · clear h
      go_enter Tryd.func42, Tryd.ntmps42
      go_wp2
      go_ret
      exact ⟨ret_bool HV.out.symm, rfl⟩
/-- The value of a text of digits, at most 12 of them. -/
theorem dv_next (s : ByteArray) {k : Nat} (hk : k < s.size) : Num.dv s.data.toList 0 (k + 1) = Num.dv s.data.toList 0 k * 10 + ((s[k].toNat : Int) - 48) := by
  rw [← bl_eq s k hk]
  show _ * 10 + (Num.bl s.data.toList (0 + k) - 48) = _
  rw [Nat.zero_add]
theorem dv_12 {l : List UInt8} {n : Nat} (h : Num.Digs l 0 n) (hn : n ≤ 12) : ∀ k, k ≤ n → 0 ≤ Num.dv l 0 k ∧ Num.dv l 0 k ≤ 999999999999 := fun k hk => by
  obtain ⟨h0, h1⟩ := Num.dv_bd (h.less hk)
  have h2 : (10 : Int) ^ k ≤ (10 : Int) ^ 12 := by
    have : (10 : Nat) ^ k ≤ 10 ^ 12 := Nat.pow_le_pow_right (by decide) (by omega)
    exact_mod_cast this
  have h3 : (10 : Int) ^ 12 = 1000000000000 := rfl
  omega
set_option maxHeartbeats 1000000 in
theorem tValue_any (s : ByteArray) (w : World) (hd : Num.Digs s.data.toList 0 s.size) (hs : s.size ≤ 12) : Calls Tryd.prog 57 #[.string s] w (RetS (.int .i64 (Num.dv s.data.toList 0 s.size)) w) := by
  have HB := Lib.hid (dv_12 hd hs)
  have HD := Lib.hid hd
  clear hd
  go_enter Tryd.func57, Tryd.ntmps57
  go_wp2
  go_loop [3, 7] (fun v i => ∃ k : Nat, k ≤ s.size ∧ v = .int .i64 (Num.dv s.data.toList 0 k) ∧ i = .int .i64 k ∧ 0 ≤ Num.dv s.data.toList 0 k ∧ Num.dv s.data.toList 0 k ≤ 999999999999) (fun _ i => s.size - (intOf i).toNat)
  case atStart => exact ⟨0, by omega, rfl, rfl, by simp [Num.dv], by simp [Num.dv]⟩
  case round =>
    obtain ⟨k, hk, rfl, rfl, v0, v1⟩ := hrel
    by_cases hlt : k < s.size
    · have hlt' : (k : Int) < (s.size : Int) := by omega
      have hb := HD.out k hlt
      rw [Nat.zero_add, bl_eq s k hlt] at hb
      obtain ⟨b0, b1⟩ := hb
      have hN := dv_next s hlt
      have hM := HB.out (k + 1) hlt
      rw [hN] at hM
      obtain ⟨m0, m1⟩ := hM
      have HN := Lib.hid hN
      clear hN
      go_wp2
      go_round
      case rel => exact ⟨k + 1, by omega, by rw [HN.out]; go_num, by go_num, by rw [HN.out]; omega, by rw [HN.out]; omega⟩
      case measure => simp [intOf]; omega
    · obtain rfl : k = s.size := by omega
      go_wp2
      go_ret
      exact ⟨rfl, rfl⟩
set_option maxHeartbeats 1000000 in
theorem trNumber_any (s : ByteArray) (w : World) (hd : Num.Digs s.data.toList 0 s.size) (hs : s.size ≤ 12) : Calls Tryd.prog 58 #[.string s] w (RetS (.int .i64 (Num.dv s.data.toList 0 s.size)) w) := by
  have HB := Lib.hid (dv_12 hd hs)
  have HD := Lib.hid hd
  clear hd
  go_enter Tryd.func58, Tryd.ntmps58
  go_wp2
  go_loop [3, 4] (fun v i => ∃ k : Nat, k ≤ s.size ∧ v = .int .i64 (Num.dv s.data.toList 0 k) ∧ i = .int .i64 k ∧ 0 ≤ Num.dv s.data.toList 0 k ∧ Num.dv s.data.toList 0 k ≤ 999999999999) (fun _ i => s.size - (intOf i).toNat)
  case atStart => exact ⟨0, by omega, rfl, rfl, by simp [Num.dv], by simp [Num.dv]⟩
  case round =>
    obtain ⟨k, hk, rfl, rfl, v0, v1⟩ := hrel
    by_cases hlt : k < s.size
    · have hlt' : (k : Int) < (s.size : Int) := by omega
      have hb := HD.out k hlt
      rw [Nat.zero_add, bl_eq s k hlt] at hb
      obtain ⟨b0, b1⟩ := hb
      have hN := dv_next s hlt
      have hM := HB.out (k + 1) hlt
      rw [hN] at hM
      obtain ⟨m0, m1⟩ := hM
      have HN := Lib.hid hN
      clear hN
      go_wp2
      go_round
      case rel => exact ⟨k + 1, by omega, by rw [HN.out]; go_num, by go_num, by rw [HN.out]; omega, by rw [HN.out]; omega⟩
      case measure => simp [intOf]; omega
    · obtain rfl : k = s.size := by omega
      go_wp2
      go_ret
      exact ⟨rfl, rfl⟩
theorem Wts.block {w : World} (h : Wts w) : ∃ t fr, w.heap[0]? = some (.cells #[.int .i64 15, .int .i64 50, .int .i64 5, .int .i64 49, .int .i64 34, .int .i64 81, .int .i64 76, .int .i64 27, .int .i64 90, .int .i64 9, .int .i64 30, .int .i64 3] t fr) := by
  have h1 : w.var? Tryd.prog "lottery/ticketno.weights" = some #[.int .i64 15, .int .i64 50, .int .i64 5, .int .i64 49, .int .i64 34, .int .i64 81, .int .i64 76, .int .i64 27, .int .i64 90, .int .i64 9, .int .i64 30, .int .i64 3] := h
  unfold World.var? at h1
  rw [gWName] at h1
  change (match w.heap[0]? with | some (.cells cs _ _) => some cs | _ => none) = _ at h1
  cases hb : w.heap[0]? with
  | none => rw [hb] at h1; cases h1
  | some o =>
    rw [hb] at h1
    cases o with
    | cells cs t fr => injection h1 with h1; subst h1; exact ⟨t, fr, rfl⟩
    | _ => cases h1
def wtsV : Value := .agg #[.int .i64 15, .int .i64 50, .int .i64 5, .int .i64 49, .int .i64 34, .int .i64 81, .int .i64 76, .int .i64 27, .int .i64 90, .int .i64 9, .int .i64 30, .int .i64 3]
theorem wt_index {k : Nat} (hk : k < 12) (w : World) : (Instr.index 53 (.agg #[.int .i64 15, .int .i64 50, .int .i64 5, .int .i64 49, .int .i64 34, .int .i64 81, .int .i64 76, .int .i64 27, .int .i64 90, .int .i64 9, .int .i64 30, .int .i64 3]) (.int .i64 (k : Int))).run Tryd.prog w = .ok (.int .i64 (Num.wt k)) w := by
  rcases (show k = 0 ∨ k = 1 ∨ k = 2 ∨ k = 3 ∨ k = 4 ∨ k = 5 ∨ k = 6 ∨ k = 7 ∨ k = 8 ∨ k = 9 ∨ k = 10 ∨ k = 11 by omega) with rfl | rfl | rfl | rfl | rfl | rfl | rfl | rfl | rfl | rfl | rfl | rfl <;> kernel_rfl
theorem wt_bd {k : Nat} (hk : k < 12) : 0 ≤ Num.wt k ∧ Num.wt k ≤ 90 := by
  rcases (show k = 0 ∨ k = 1 ∨ k = 2 ∨ k = 3 ∨ k = 4 ∨ k = 5 ∨ k = 6 ∨ k = 7 ∨ k = 8 ∨ k = 9 ∨ k = 10 ∨ k = 11 by omega) with rfl | rfl | rfl | rfl | rfl | rfl | rfl | rfl | rfl | rfl | rfl | rfl <;> decide
set_option maxHeartbeats 1000000 in
theorem tCheck_any (s : ByteArray) (w : World) (hd : Num.Digs s.data.toList 0 12) (hs : 12 ≤ s.size) (hw : Wts w) : Calls Tryd.prog 44 #[.string s] w (RetS (.int .i64 (Num.chkI s.data.toList)) w) := by
  obtain ⟨tt, fr, hg1⟩ := hw.block
  have HB := Lib.hid (Num.rs_bd hd)
  have HD := Lib.hid hd
  have HG := Lib.hid hg1
  clear hd hw hg1
  go_enter Tryd.func44, Tryd.ntmps44
  go_wp2_with (refine wpList_load_row rfl 53 _ rfl 0 rfl tt _ fr _ HG.out Tryd.underlying53 rfl (by kernel_rfl) ?_)
  go_loop [3, 7] (fun v i => ∃ k : Nat, k ≤ 12 ∧ v = .int .i64 (Num.rs s.data.toList k) ∧ i = .int .i64 k ∧ 0 ≤ Num.rs s.data.toList k ∧ Num.rs s.data.toList k ≤ 810 * (k : Int)) (fun _ i => 12 - (intOf i).toNat)
  case atStart => exact ⟨0, by omega, rfl, rfl, by simp [Num.rs], by simp [Num.rs]⟩
  case round =>
    obtain ⟨k, hk, rfl, rfl, v0, v1⟩ := hrel
    by_cases hlt : k < 12
    · have hlt' : (k : Int) < (s.size : Int) := by omega
      have hks : k < s.size := by omega
      have hb := HD.out k hlt
      rw [Nat.zero_add, bl_eq s k hks] at hb
      obtain ⟨b0, b1⟩ := hb
      obtain ⟨q0, q1⟩ := wt_bd hlt
      have hI := wt_index hlt
      obtain ⟨m0, m1⟩ := HB.out (k + 1) hlt
      have hN : Num.rs s.data.toList (k + 1) = Num.rs s.data.toList k + Num.wt k * ((s[k].toNat : Int) - 48) := by rw [← bl_eq s k hks]; rfl
      rw [hN] at m0 m1
      obtain ⟨p0, p1⟩ := Num.prod_bd (x := Num.wt k) (y := (s[k].toNat : Int) - 48) (M := 90) (N := 9) q0 q1 (by omega) (by omega)
      have HN := Lib.hid hN
      clear hN
      go_wp2
      go_round
      case rel => exact ⟨k + 1, by omega, by rw [HN.out], by go_num, by rw [HN.out]; omega, by rw [HN.out]; omega⟩
      case measure => simp [intOf]; omega
    · obtain rfl : k = 12 := by omega
      go_wp2
      go_ret
      exact ⟨rfl, rfl⟩
end Go.Proofs.YtgloiddnbppblaaDoor
