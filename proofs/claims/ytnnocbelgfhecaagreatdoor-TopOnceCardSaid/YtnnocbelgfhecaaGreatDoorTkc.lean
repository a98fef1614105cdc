/- Ticket numbers: padded, value, check, valid of the program. -/
import Derived.Test.YtnnocbelgfhecaaGreatDoorTabn
import Derived.Test.YtnnocbelgfhecaaGreatDoorTkm
import Derived.Laws.Rows
namespace Go.Proofs.YtnnocbelgfhecaaGreatDoor
open Go.ChangeShapes Go.WideShapes Go.ChangeAt Go.RowKit Go.Lott

theorem itB_list (n : Int) : (itB n).data.toList = Lib.itoa n := by simp [itB]
theorem P10W.p {w : World} (h : P10W w) : P10 w := h.1
theorem P10W.q {w : World} (h : P10W w) : Wts w := h.2
/-- A list of bytes as a text. -/
def bsL (l : List UInt8) : ByteArray := ⟨l.toArray⟩
theorem bsL_list (l : List UInt8) : (bsL l).data.toList = l := by simp [bsL]
theorem bsL_size (l : List UInt8) : (bsL l).size = l.length := by simp [bsL, ByteArray.size]
def zsB (x : Int) : ByteArray := bsL (List.replicate x.toNat 48)
theorem zsB_size (x : Int) : (zsB x).size = x.toNat := by unfold zsB; rw [bsL_size]; simp
theorem repeatL_one (c : UInt8) : ∀ n, Lib.repeatL [c] n = List.replicate n c
  | 0 => rfl
  | n + 1 => by unfold Lib.repeatL; rw [repeatL_one c n]; rfl
theorem Repeat_v (x : Int) (w : World) (h0 : 0 ≤ x) (h1 : x ≤ 100) : Calls Tryz.prog 102 #[.string ⟨#[48]⟩, .int .i64 x] w (RetB (.string (zsB x)) w) := by
  obtain ⟨n, rfl⟩ := Int.eq_ofNat_of_zero_le h0
  have hc := Tryz.strings_Repeat ⟨#[48]⟩ n w (by omega) (by show 1 * n ≤ _; omega)
  refine hc.mono fun _ _ ⟨he, hb⟩ => ⟨?_, hb⟩
  rw [he]
  show Ending.returned (.string ⟨(Lib.repeatL [48] n).toArray⟩) = _
  rw [repeatL_one]
  rfl
theorem pad_eq (k n : Nat) (h : n < 10 ^ (k + 1)) : zsB (((k + 1 : Nat) : Int) - ((itB (n : Int)).size : Int)) ++ itB (n : Int) = bsL (Num.padR (k + 1) n) := by
  refine bytes_of ?_
  have e : Lib.itoa (n : Int) = Lib.decDigits n := by unfold Lib.itoa; rw [if_neg (by omega)]; rfl
  have hs : (itB (n : Int)).size = (Lib.decDigits n).length := by rw [← len_eq, itB_list, e]
  have hl := Num.dec_len k n h
  rw [ByteArray.data_append, Array.toList_append, itB_list, e, bsL_list, Num.padR_dec k n h]
  unfold zsB
  rw [bsL_list, hs, show (((k + 1 : Nat) : Int) - ((Lib.decDigits n).length : Int)).toNat = k + 1 - (Lib.decDigits n).length by omega]
theorem it_sz (k n : Nat) (h : n < 10 ^ (k + 1)) : (itB (n : Int)).size ≤ k + 1 := by
  have e : Lib.itoa (n : Int) = Lib.decDigits n := by unfold Lib.itoa; rw [if_neg (by omega)]; rfl
  rw [← len_eq, itB_list, e]; exact Num.dec_len k n h
set_option maxHeartbeats 1000000 in
theorem pad2_any (n : Int) (w : World) (h0 : 0 ≤ n) (h1 : n < 10 ^ 2) (hp : P10 w) : Calls Tryz.prog 70 #[.int .i64 n, .int .i64 2] w (RetB (.string (bsL (Num.padR 2 n.toNat))) w) := by
  obtain ⟨N, rfl⟩ := Int.eq_ofNat_of_zero_le h0
  rw [Int.toNat_natCast]
  have hN : N < 10 ^ (1 + 1) := by omega
  have hF := fun w => Format_any (N : Int) w (by omega) (by omega)
  have HE := Lib.hid (pad_eq 1 N hN)
  have hz := it_sz 1 N hN
  have hzs := zsB_size
  generalize itB (N : Int) = b at *
  have HF := Lib.hid hF
  have hbel := Below.refl w.heap.size w
  have HT := Lib.hid hp
  clear hp hF hN
  have hmx : (0 : Int) ≤ 2 - (b.size : Int) := by omega
  have HX : Hid (zsB (max 0 (2 - (b.size : Int))) ++ b = bsL (Num.padR 2 N)) := Lib.hid (by rw [Int.max_eq_right hmx]; exact HE.out)
  go_enter Tryz.func70, Tryz.ntmps70
  go_wp2_with (first | (go_at_call 52; refine (HF.out _ (HT.out.grow hbel)).mono ?_; rintro e w1 ⟨rfl, hb1⟩; replace hbel := hbel.trans (hb1.mono hbel.size); clear hb1) | (go_at_call 102; refine (Repeat_v _ _ (by omega) (by omega)).mono ?_; rintro e w1 ⟨rfl, hb1⟩; replace hbel := hbel.trans (hb1.mono hbel.size); clear hb1))
  go_ret
  exact ⟨ret_str HX.out, hbel⟩
set_option maxHeartbeats 1000000 in
theorem pad10_any (n : Int) (w : World) (h0 : 0 ≤ n) (h1 : n < 10 ^ 10) (hp : P10 w) : Calls Tryz.prog 70 #[.int .i64 n, .int .i64 10] w (RetB (.string (bsL (Num.padR 10 n.toNat))) w) := by
  obtain ⟨N, rfl⟩ := Int.eq_ofNat_of_zero_le h0
  rw [Int.toNat_natCast]
  have hN : N < 10 ^ (9 + 1) := by omega
  have hF := fun w => Format_any (N : Int) w (by omega) (by omega)
  have HE := Lib.hid (pad_eq 9 N hN)
  have hz := it_sz 9 N hN
  have hzs := zsB_size
  generalize itB (N : Int) = b at *
  have HF := Lib.hid hF
  have hbel := Below.refl w.heap.size w
  have HT := Lib.hid hp
  clear hp hF hN
  have hmx : (0 : Int) ≤ 10 - (b.size : Int) := by omega
  have HX : Hid (zsB (max 0 (10 - (b.size : Int))) ++ b = bsL (Num.padR 10 N)) := Lib.hid (by rw [Int.max_eq_right hmx]; exact HE.out)
  go_enter Tryz.func70, Tryz.ntmps70
  go_wp2_with (first | (go_at_call 52; refine (HF.out _ (HT.out.grow hbel)).mono ?_; rintro e w1 ⟨rfl, hb1⟩; replace hbel := hbel.trans (hb1.mono hbel.size); clear hb1) | (go_at_call 102; refine (Repeat_v _ _ (by omega) (by omega)).mono ?_; rintro e w1 ⟨rfl, hb1⟩; replace hbel := hbel.trans (hb1.mono hbel.size); clear hb1))
  go_ret
  exact ⟨ret_str HX.out, hbel⟩
theorem tvalid_any (t q : Int) (w : World) : Calls Tryz.prog 69 #[.int .i64 t, .int .i64 q] w (RetS (.bool (Num.tkV t q)) w) := by
  by_cases h : 1 ≤ t ∧ t ≤ 32 ∧ 1 ≤ q ∧ q ≤ 1048576
  · have HV := Lib.hid ((Num.tkV_iff t q).2 h)
    obtain ⟨a, b, c, d⟩ := h
    go_enter Tryz.func69, Tryz.ntmps69
    go_wp2
    go_ret
    exact ⟨ret_bool HV.out.symm, rfl⟩
  · have HV := Lib.hid (show Num.tkV t q = false from decide_eq_false h)
    by_cases a : 1 ≤ t
    · by_cases b : t ≤ 32
      · by_cases c : 1 ≤ q
        · have d : ¬ q ≤ 1048576 := fun d => h ⟨a, b, c, d⟩
          clear h
          go_enter Tryz.func69, Tryz.ntmps69
          go_wp2
          go_ret
          exact ⟨ret_bool HV.out.symm, rfl⟩
        · clear h
          go_enter Tryz.func69, Tryz.ntmps69
          go_wp2
          go_ret
          exact ⟨ret_bool HV.out.symm, rfl⟩
      · clear h
        go_enter Tryz.func69, Tryz.ntmps69
        go_wp2
        go_ret
        exact ⟨ret_bool HV.out.symm, rfl⟩
    · clear h
      go_enter Tryz.func69, Tryz.ntmps69
      go_wp2
      go_ret
      exact ⟨ret_bool HV.out.symm, rfl⟩
/-- The value of a text of digits, at most 12 of them. -/
theorem dv_next (s : ByteArray) {k : Nat} (hk : k < s.size) : Num.dv s.data.toList 0 (k + 1) = Num.dv s.data.toList 0 k * 10 + ((s[k].toNat : Int) - 48) := by
  rw [← bl_eq s k hk]
  show _ * 10 + (Num.bl s.data.toList (0 + k) - 48) = _
  rw [Nat.zero_add]
theorem dv_12 {l : List UInt8} {n : Nat} (h : Num.Digs l 0 n) (hn : n ≤ 12) : ∀ k, k ≤ n → 0 ≤ Num.dv l 0 k ∧ Num.dv l 0 k ≤ 999999999999 := fun k hk => by
  obtain ⟨h0, h1⟩ := Num.dv_bd (h.less hk)
  have h2 : (10 : Int) ^ k ≤ (10 : Int) ^ 12 := by
    have : (10 : Nat) ^ k ≤ 10 ^ 12 := Nat.pow_le_pow_right (by decide) (by omega)
    exact_mod_cast this
  have h3 : (10 : Int) ^ 12 = 1000000000000 := rfl
  omega
set_option maxHeartbeats 1000000 in
theorem tValue_any (s : ByteArray) (w : World) (hd : Num.Digs s.data.toList 0 s.size) (hs : s.size ≤ 12) : Calls Tryz.prog 72 #[.string s] w (RetS (.int .i64 (Num.dv s.data.toList 0 s.size)) w) := by
  have HB := Lib.hid (dv_12 hd hs)
  have HD := Lib.hid hd
  clear hd
  go_enter Tryz.func72, Tryz.ntmps72
  go_wp2
  go_loop [3, 7] (fun v i => ∃ k : Nat, k ≤ s.size ∧ v = .int .i64 (Num.dv s.data.toList 0 k) ∧ i = .int .i64 k ∧ 0 ≤ Num.dv s.data.toList 0 k ∧ Num.dv s.data.toList 0 k ≤ 999999999999) (fun _ i => s.size - (intOf i).toNat)
  case atStart => exact ⟨0, by omega, rfl, rfl, by simp [Num.dv], by simp [Num.dv]⟩
  case round =>
    obtain ⟨k, hk, rfl, rfl, v0, v1⟩ := hrel
    by_cases hlt : k < s.size
    · have hlt' : (k : Int) < (s.size : Int) := by omega
      have hb := HD.out k hlt
      rw [Nat.zero_add, bl_eq s k hlt] at hb
      obtain ⟨b0, b1⟩ := hb
      have hN := dv_next s hlt
      have hM := HB.out (k + 1) hlt
      rw [hN] at hM
      obtain ⟨m0, m1⟩ := hM
      have HN := Lib.hid hN
      clear hN
      go_wp2
      go_round
      case rel => exact ⟨k + 1, by omega, by rw [HN.out]; go_num, by go_num, by rw [HN.out]; omega, by rw [HN.out]; omega⟩
      case measure => simp [intOf]; omega
    · obtain rfl : k = s.size := by omega
      go_wp2
      go_ret
      exact ⟨rfl, rfl⟩
theorem Wts.block {w : World} (h : Wts w) : ∃ t fr, w.heap[0]? = some (.cells #[.int .i64 15, .int .i64 50, .int .i64 5, .int .i64 49, .int .i64 34, .int .i64 81, .int .i64 76, .int .i64 27, .int .i64 90, .int .i64 9, .int .i64 30, .int .i64 3] t fr) := by
  have h1 : w.var? Tryz.prog "lottery/ticketno.weights" = some #[.int .i64 15, .int .i64 50, .int .i64 5, .int .i64 49, .int .i64 34, .int .i64 81, .int .i64 76, .int .i64 27, .int .i64 90, .int .i64 9, .int .i64 30, .int .i64 3] := h
  unfold World.var? at h1
  rw [gWName] at h1
  change (match w.heap[0]? with | some (.cells cs _ _) => some cs | _ => none) = _ at h1
  cases hb : w.heap[0]? with
  | none => rw [hb] at h1; cases h1
  | some o =>
    rw [hb] at h1
    cases o with
    | cells cs t fr => injection h1 with h1; subst h1; exact ⟨t, fr, rfl⟩
    | _ => cases h1
def wtsV : Value := .agg #[.int .i64 15, .int .i64 50, .int .i64 5, .int .i64 49, .int .i64 34, .int .i64 81, .int .i64 76, .int .i64 27, .int .i64 90, .int .i64 9, .int .i64 30, .int .i64 3]
theorem wt_index {k : Nat} (hk : k < 12) (w : World) : (Instr.index 177 (.agg #[.int .i64 15, .int .i64 50, .int .i64 5, .int .i64 49, .int .i64 34, .int .i64 81, .int .i64 76, .int .i64 27, .int .i64 90, .int .i64 9, .int .i64 30, .int .i64 3]) (.int .i64 (k : Int))).run Tryz.prog w = .ok (.int .i64 (Num.wt k)) w := by
  rcases (show k = 0 ∨ k = 1 ∨ k = 2 ∨ k = 3 ∨ k = 4 ∨ k = 5 ∨ k = 6 ∨ k = 7 ∨ k = 8 ∨ k = 9 ∨ k = 10 ∨ k = 11 by omega) with rfl | rfl | rfl | rfl | rfl | rfl | rfl | rfl | rfl | rfl | rfl | rfl <;> kernel_rfl
theorem wt_bd {k : Nat} (hk : k < 12) : 0 ≤ Num.wt k ∧ Num.wt k ≤ 90 := by
  rcases (show k = 0 ∨ k = 1 ∨ k = 2 ∨ k = 3 ∨ k = 4 ∨ k = 5 ∨ k = 6 ∨ k = 7 ∨ k = 8 ∨ k = 9 ∨ k = 10 ∨ k = 11 by omega) with rfl | rfl | rfl | rfl | rfl | rfl | rfl | rfl | rfl | rfl | rfl | rfl <;> decide
set_option maxHeartbeats 1000000 in
theorem tCheck_any (s : ByteArray) (w : World) (hd : Num.Digs s.data.toList 0 12) (hs : 12 ≤ s.size) (hw : Wts w) : Calls Tryz.prog 71 #[.string s] w (RetS (.int .i64 (Num.chkI s.data.toList)) w) := by
  obtain ⟨tt, fr, hg1⟩ := hw.block
  have HB := Lib.hid (Num.rs_bd hd)
  have HD := Lib.hid hd
  have HG := Lib.hid hg1
  clear hd hw hg1
  go_enter Tryz.func71, Tryz.ntmps71
  go_wp2_with (refine wpList_load_row rfl 177 _ rfl 0 rfl tt _ fr _ HG.out Tryz.underlying177 rfl (by kernel_rfl) ?_)
  go_loop [3, 7] (fun v i => ∃ k : Nat, k ≤ 12 ∧ v = .int .i64 (Num.rs s.data.toList k) ∧ i = .int .i64 k ∧ 0 ≤ Num.rs s.data.toList k ∧ Num.rs s.data.toList k ≤ 810 * (k : Int)) (fun _ i => 12 - (intOf i).toNat)
  case atStart => exact ⟨0, by omega, rfl, rfl, by simp [Num.rs], by simp [Num.rs]⟩
  case round =>
    obtain ⟨k, hk, rfl, rfl, v0, v1⟩ := hrel
    by_cases hlt : k < 12
    · have hlt' : (k : Int) < (s.size : Int) := by omega
      have hks : k < s.size := by omega
      have hb := HD.out k hlt
      rw [Nat.zero_add, bl_eq s k hks] at hb
      obtain ⟨b0, b1⟩ := hb
      obtain ⟨q0, q1⟩ := wt_bd hlt
      have hI := wt_index hlt
      obtain ⟨m0, m1⟩ := HB.out (k + 1) hlt
      have hN : Num.rs s.data.toList (k + 1) = Num.rs s.data.toList k + Num.wt k * ((s[k].toNat : Int) - 48) := by rw [← bl_eq s k hks]; rfl
      rw [hN] at m0 m1
      obtain ⟨p0, p1⟩ := Num.prod_bd (x := Num.wt k) (y := (s[k].toNat : Int) - 48) (M := 90) (N := 9) q0 q1 (by omega) (by omega)
      have HN := Lib.hid hN
      clear hN
      go_wp2
      go_round
      case rel => exact ⟨k + 1, by omega, by rw [HN.out], by go_num, by rw [HN.out]; omega, by rw [HN.out]; omega⟩
      case measure => simp [intOf]; omega
    · obtain rfl : k = 12 := by omega
      go_wp2
      go_ret
      exact ⟨rfl, rfl⟩
end Go.Proofs.YtnnocbelgfhecaaGreatDoor
/- Ticket numbers: digits and check of the reference; Make of both. -/
namespace Go.Proofs.YtnnocbelgfhecaaGreatDoor
open Go.ChangeShapes Go.WideShapes Go.ChangeAt Go.RowKit Go.Lott

/-- What is left to lay is in front of what is laid. -/
def DI (w N k Z : Nat) (b : ByteArray) : Prop := Num.padR (w - k) Z ++ b.data.toList = Num.padR w N
theorem DI.next {w N k Z : Nat} {b : ByteArray} (h : DI w N k Z b) (hk : k < w) : DI w N (k + 1) (Z / 10) (strOfNums [48 + (Z : Int) % 10] ++ b) := by
  unfold DI at *
  rw [← h, ByteArray.data_append, Array.toList_append, one_list, ← List.append_assoc]
  congr 1
  rw [show w - k = (w - (k + 1)) + 1 by omega]
  rfl
theorem DI.done {w N Z : Nat} {b : ByteArray} (h : DI w N w Z b) : b = bsL (Num.padR w N) := by
  refine bytes_of ?_
  unfold DI at h
  rw [Nat.sub_self] at h
  rw [bsL_list, ← h]; rfl
/-- The number of a ticket, and its error. -/
def mkB (t q : Int) : ByteArray := if Num.tkV t q then bsL (Num.mkL t q) else ⟨#[]⟩
def mkE (t q : Int) : Int := if Num.tkV t q then 0 else 2
theorem mk_yes {t q : Int} (h : Num.tkV t q = true) : mkB t q = bsL (Num.mkL t q) ∧ mkE t q = 0 := by unfold mkB mkE; rw [h]; exact ⟨rfl, rfl⟩
theorem mk_no {t q : Int} (h : Num.tkV t q = false) : mkB t q = ⟨#[]⟩ ∧ mkE t q = 2 := by unfold mkB mkE; rw [h]; exact ⟨rfl, rfl⟩
theorem ret_si {k : IntKind} {a a' : ByteArray} {b b' : Int} (h : a = a') (h' : b = b') : Ending.returned (.tuple #[.string a, .int k b]) = .returned (.tuple #[.string a', .int k b']) := by rw [h, h']
theorem bs_app (l m : List UInt8) : bsL l ++ bsL m = bsL (l ++ m) := bytes_of (by rw [ByteArray.data_append, Array.toList_append, bsL_list, bsL_list, bsL_list])
set_option maxHeartbeats 1000000 in
theorem tMake_any (t q : Int) (w : World) (ht : P10W w) : Calls Tryz.prog 44 #[.int .i64 t, .int .i64 q] w (RetB (.tuple #[.string (mkB t q), .int .i64 (mkE t q)]) w) := by
  have hbel := Below.refl w.heap.size w
  have HT := Lib.hid ht
  clear ht
  cases hv : Num.tkV t q with
  | false =>
    have HV := Lib.hid (mk_no hv)
    have hc := tvalid_any t q
    rw [hv] at hc
    have HC := Lib.hid hc
    clear hc hv
    go_enter Tryz.func44, Tryz.ntmps44
    go_wp2_with (first | (go_at_call 69; refine (HC.out _).mono ?_; rintro e w' ⟨rfl, rfl⟩))
    go_ret2
    exact ⟨ret_si HV.out.1.symm HV.out.2.symm, hbel⟩
  | true =>
    have HV := Lib.hid (mk_yes hv)
    have hc := tvalid_any t q
    rw [hv] at hc
    have HC := Lib.hid hc
    obtain ⟨t1, t2, q1, q2⟩ := (Num.tkV_iff t q).1 hv
    have hb := (Num.mk_parts hv).1
    have hp2 := fun w h => pad2_any t w (by omega) (by omega) h
    have hp10 := fun w h => pad10_any q w (by omega) (by omega) h
    have hbe : bsL (Num.padR 2 t.toNat) ++ bsL (Num.padR 10 q.toNat) = bsL (Num.bodyL t q) := bs_app _ _
    have hbz : (bsL (Num.bodyL t q)).size = 12 := by rw [bsL_size, Num.body_len]
    have z2 : (bsL (Num.padR 2 t.toNat)).size = 2 := by rw [bsL_size, Num.padR_len]
    have z10 : (bsL (Num.padR 10 q.toNat)).size = 10 := by rw [bsL_size, Num.padR_len]
    have hk := fun w h => tCheck_any (bsL (Num.bodyL t q)) w (by rw [bsL_list]; exact hb) (by omega) h
    rw [bsL_list] at hk
    have hcb := Num.chkI_bd (Num.bodyL t q)
    have hp3 := fun w h => pad2_any (Num.chkI (Num.bodyL t q)) w (by omega) (by omega) h
    have z3 : (bsL (Num.padR 2 (Num.chkI (Num.bodyL t q)).toNat)).size = 2 := by rw [bsL_size, Num.padR_len]
    have hfin : bsL (Num.bodyL t q) ++ bsL (Num.padR 2 (Num.chkI (Num.bodyL t q)).toNat) = bsL (Num.mkL t q) := bs_app _ _
    generalize Num.chkI (Num.bodyL t q) = C at *
    generalize bsL (Num.padR 2 C.toNat) = b3 at *
    generalize bsL (Num.bodyL t q) = b0 at *
    generalize bsL (Num.padR 2 t.toNat) = b1 at *
    generalize bsL (Num.padR 10 q.toNat) = b2 at *
    have HP2 := Lib.hid hp2
    have HP10 := Lib.hid hp10
    have HP3 := Lib.hid hp3
    have HK := Lib.hid hk
    have HF := Lib.hid (hfin.trans HV.out.1.symm)
    have c1 : b1.size ≤ 2 := by omega
    have c2 : b2.size ≤ 10 := by omega
    have c3 : b3.size ≤ 2 := by omega
    have c0 : b0.size ≤ 12 := by omega
    clear hp2 hp10 hp3 hk hb hc hv hcb hfin hbz z2 z10 z3
    go_enter Tryz.func44, Tryz.ntmps44
    go_wp2_with (first | (go_at_call 69; refine (HC.out _).mono ?_; rintro e w' ⟨rfl, rfl⟩) | (go_at_call 70; ((with_reducible refine (HP2.out _ (HT.out.grow hbel).p).mono ?_); rintro e w1 ⟨rfl, hb1⟩; replace hbel := hbel.trans (hb1.mono hbel.size); clear hb1)) | (go_at_call 70; ((with_reducible refine (HP10.out _ (HT.out.grow hbel).p).mono ?_); rintro e w1 ⟨rfl, hb1⟩; replace hbel := hbel.trans (hb1.mono hbel.size); clear hb1)) | (go_at_call 71; ((with_reducible refine (HK.out _ (HT.out.grow hbel).q).mono ?_); rintro e w' ⟨rfl, rfl⟩)) | (go_at_call 70; ((with_reducible refine (HP3.out _ (HT.out.grow hbel).p).mono ?_); rintro e w1 ⟨rfl, hb1⟩; replace hbel := hbel.trans (hb1.mono hbel.size); clear hb1)))
    go_ret2
    exact ⟨ret_si HF.out HV.out.2.symm, hbel⟩
theorem mkB_11 : mkB 1 1 = ⟨#[48, 49, 48, 48, 48, 48, 48, 48, 48, 48, 48, 49, 52, 53]⟩ := by decide +kernel
end Go.Proofs.YtnnocbelgfhecaaGreatDoor
/- Ticket numbers: Parse and Valid of both. -/
namespace Go.Proofs.YtnnocbelgfhecaaGreatDoor
open Go.ChangeShapes Go.WideShapes Go.ChangeAt Go.RowKit Go.Lott

theorem part_list (s : ByteArray) (i n : Nat) (h : i + n ≤ s.size) : (s.extract i (i + n)).size = n ∧ ∀ j, j < n → Num.bl (s.extract i (i + n)).data.toList j = Num.bl s.data.toList (i + j) := by
  have hz : (s.extract i (i + n)).size = n := by simp; omega
  refine ⟨hz, fun j hj => ?_⟩
  rw [bl_eq _ j (by omega), bl_eq _ (i + j) (by omega), ByteArray.getElem_extract]
theorem tValue_part (s : ByteArray) (i n : Nat) (w : World) (hd : Num.Digs s.data.toList i n) (h : i + n ≤ s.size) (hn : n ≤ 12) : Calls Tryz.prog 72 #[.string (s.extract i (i + n))] w (RetS (.int .i64 (Num.dv s.data.toList i n)) w) := by
  obtain ⟨hz, hb⟩ := part_list s i n h
  have := tValue_any (s.extract i (i + n)) w (by rw [hz]; exact fun j hj => by rw [Nat.zero_add, hb j hj]; exact hd j hj) (by omega)
  rw [hz, Num.dv_congr (l' := s.data.toList) (i' := i) (fun j hj => by rw [Nat.zero_add]; exact hb j hj)] at this
  exact this
theorem ok_no {s : ByteArray} (h : s.size ≠ 14) : Num.tkOk s.data.toList = false := by
  cases c : Num.tkOk s.data.toList with
  | false => rfl
  | true => have := ((Num.tkOk_iff _).1 c).1; rw [len_eq] at this; exact (h this).elim
theorem ok_yes14 {s : ByteArray} (h : s.size = 14) (hd : Dg s 14) : Num.tkOk s.data.toList = true := (Num.tkOk_iff _).2 ⟨by rw [len_eq]; exact h, fun j hj => by rw [Nat.zero_add]; exact hd j hj⟩
def tkVal (s : ByteArray) : Value := .tuple #[.int .i64 (Num.tkT s.data.toList), .int .i64 (Num.tkS s.data.toList), .int .i64 (Num.tkE s.data.toList)]
set_option maxHeartbeats 4000000 in
theorem tParse_any (s : ByteArray) (w : World) (hw : Wts w) : Calls Tryz.prog 46 #[.string s] w (RetB (tkVal s) w) := by
  have hbel := Below.refl w.heap.size w
  unfold tkVal
  by_cases hz : s.size = 14
  · cases hok : Num.tkOk s.data.toList with
    | false =>
      have HV := Lib.hid (Num.tk_syntax hok)
      have HN : Hid (¬ Dg s 14) := Lib.hid (fun c => by rw [ok_yes14 hz c] at hok; cases hok)
      have hsz : ((s.size : Int) != 14) = false := by rw [bne_eq_false_iff_eq]; omega
      have z0 : (14 : Int) ≤ (s.size : Int) := by omega
      have z1 : (s.size : Int) ≤ 14 := by omega
      clear hz hok
      go_enter Tryz.func46, Tryz.ntmps46
      go_wp2
      go_loop [13] (fun i => ∃ k : Nat, k ≤ 14 ∧ i = .int .i64 k ∧ Dg s k) (fun i => 14 - (intOf i).toNat)
      case atStart => exact ⟨0, by omega, rfl, fun j hj => by omega⟩
      case round =>
        obtain ⟨k, hk, rfl, hD⟩ := hrel
        have HD := Lib.hid hD
        clear hD
        by_cases hlt : k < 14
        · have hlt' : (k : Int) < (s.size : Int) := by omega
          have hks : k < s.size := by omega
          go_wp2
          all_goals first
            | (go_ret3; exact ⟨ret_three HV.out.1 HV.out.2.1 HV.out.2.2, hbel⟩)
            | (exact ⟨⟨k + 1, by omega, by go_num, HD.out.next hks (by omega) (by omega)⟩, by simp [intOf]; omega⟩)
        · obtain rfl : k = 14 := by omega
          exact (HN.out HD.out).elim
    | true =>
      have HO := Lib.hid hok
      have HDG := Lib.hid ((Num.tkOk_iff _).1 hok).2
      obtain ⟨d1, d2, d3, d4⟩ := Num.ok_parts hok
      have hV1 := fun w => tValue_part s 12 2 w d3 (by omega) (by omega)
      have hV2 := fun w => tValue_part s 0 2 w d1 (by omega) (by omega)
      have hV3 := fun w => tValue_part s 2 10 w d2 (by omega) (by omega)
      have hK := fun w h => tCheck_any s w d4 (by omega) h
      have hT := fun w => tvalid_any (Num.dv s.data.toList 0 2) (Num.dv s.data.toList 2 10) w
      rw [show 12 + 2 = s.size by omega] at hV1
      rw [show 0 + 2 = 2 from rfl] at hV2
      rw [show 2 + 10 = 12 from rfl] at hV3
      have HS := Lib.hid (@Num.tk_sign s.data.toList hok)
      have HR := Lib.hid (@Num.tk_range s.data.toList hok)
      have HF := Lib.hid (@Num.tk_fine s.data.toList hok)
      have hsz : ((s.size : Int) != 14) = false := by rw [bne_eq_false_iff_eq]; omega
      have z0 : (14 : Int) ≤ (s.size : Int) := by omega
      have z1 : (s.size : Int) ≤ 14 := by omega
      have z0' : 14 ≤ s.size := by omega
      have HW := Lib.hid hw
      clear hok d1 d2 d3 d4 hz hw
      cases hc : Num.tkC s.data.toList with
      | false =>
        have hcn : Num.dv s.data.toList 12 2 ≠ Num.chkI s.data.toList := of_decide_eq_false hc
        have HV := Lib.hid (HS.out hc)
        generalize Num.dv s.data.toList 12 2 = x at *
        generalize Num.chkI s.data.toList = y at *
        have hne : (x != y) = true := by rw [bne_iff_ne]; exact hcn
        have HV1 := Lib.hid hV1
        have HK := Lib.hid hK
        clear hV1 hV2 hV3 hK hT HS HR HF hc hcn
        go_enter Tryz.func46, Tryz.ntmps46
        go_wp2
        go_loopw [13] (fun i wr => ∃ k : Nat, k ≤ 14 ∧ i = .int .i64 k ∧ wr = w) (fun i _ => 14 - (intOf i).toNat)
        case atStart => exact ⟨0, by omega, rfl, rfl⟩
        case round =>
          obtain ⟨k, hk, rfl, hwr⟩ := hrel
          subst hwr
          by_cases hlt : k < 14
          · have hlt' : (k : Int) < (s.size : Int) := by omega
            have hks : k < s.size := by omega
            have hb := HDG.out k hlt
            rw [Nat.zero_add, bl_eq s k hks] at hb
            obtain ⟨b0, b1⟩ := hb
            go_wp2
            go_roundw
            case rel => exact ⟨k + 1, by omega, by go_num, by first | rfl | trivial⟩
            case measure => simp [intOf]; omega
          · obtain rfl : k = 14 := by omega
            go_wp2_with (first | (go_at_call 72; ((with_reducible refine (HV1.out _).mono ?_); rintro e w' ⟨rfl, rfl⟩)) | (go_at_call 71; ((with_reducible refine (HK.out _ HW.out).mono ?_); rintro e w' ⟨rfl, rfl⟩)))
            go_ret3
            exact ⟨ret_three HV.out.1 HV.out.2.1 HV.out.2.2, hbel⟩
      | true =>
        have hcn : Num.dv s.data.toList 12 2 = Num.chkI s.data.toList := of_decide_eq_true hc
        rw [hcn] at hV1
        generalize Num.chkI s.data.toList = y at *
        cases hv : Num.tkV (Num.dv s.data.toList 0 2) (Num.dv s.data.toList 2 10) with
        | false =>
          have HV := Lib.hid (HR.out hc hv)
          rw [hv] at hT
          generalize Num.dv s.data.toList 0 2 = x2 at *
          generalize Num.dv s.data.toList 2 10 = x3 at *
          have HV1 := Lib.hid hV1
          have HV2 := Lib.hid hV2
          have HV3 := Lib.hid hV3
          have HK := Lib.hid hK
          have HT := Lib.hid hT
          clear hV1 hV2 hV3 hK hT HS HR HF hc hcn hv
          go_enter Tryz.func46, Tryz.ntmps46
          go_wp2
          go_loopw [13] (fun i wr => ∃ k : Nat, k ≤ 14 ∧ i = .int .i64 k ∧ wr = w) (fun i _ => 14 - (intOf i).toNat)
          case atStart => exact ⟨0, by omega, rfl, rfl⟩
          case round =>
            obtain ⟨k, hk, rfl, hwr⟩ := hrel
            subst hwr
            by_cases hlt : k < 14
            · have hlt' : (k : Int) < (s.size : Int) := by omega
              have hks : k < s.size := by omega
              have hb := HDG.out k hlt
              rw [Nat.zero_add, bl_eq s k hks] at hb
              obtain ⟨b0, b1⟩ := hb
              go_wp2
              go_roundw
              case rel => exact ⟨k + 1, by omega, by go_num, by first | rfl | trivial⟩
              case measure => simp [intOf]; omega
            · obtain rfl : k = 14 := by omega
              go_wp2_with (first | (go_at_call 72; ((with_reducible refine (HV1.out _).mono ?_); rintro e w' ⟨rfl, rfl⟩)) | (go_at_call 71; ((with_reducible refine (HK.out _ HW.out).mono ?_); rintro e w' ⟨rfl, rfl⟩)))
              refine wp_region_below (by kernel_rfl) (by kernel_rfl) ?_
              have y1 : (12 : Int) ≤ (s.size : Int) := by omega
              have y2 : 12 ≤ s.size := by omega
              have y3 : (2 : Int) ≤ (s.size : Int) := by omega
              have y4 : 2 ≤ s.size := by omega
              repeat (go_big_quiet_step (first | (go_at_call 72; with_reducible exact Sub.ofS _ (HV2.out _)) | (go_at_call 72; with_reducible exact Sub.ofS _ (HV3.out _))))
              refine wpQuiet_nil ?_
              rintro w1 ⟨⟨_, hb1⟩, rfl⟩
              go_wp2_with (first | (go_at_call 69; ((with_reducible refine (HT.out _).mono ?_); rintro e w' ⟨rfl, rfl⟩)))
              go_ret3
              exact ⟨ret_three HV.out.1 HV.out.2.1 HV.out.2.2, hb1⟩
        | true =>
          have HV := Lib.hid (HF.out hc hv)
          rw [hv] at hT
          generalize Num.dv s.data.toList 0 2 = x2 at *
          generalize Num.dv s.data.toList 2 10 = x3 at *
          have HV1 := Lib.hid hV1
          have HV2 := Lib.hid hV2
          have HV3 := Lib.hid hV3
          have HK := Lib.hid hK
          have HT := Lib.hid hT
          clear hV1 hV2 hV3 hK hT HS HR HF hc hcn hv
          go_enter Tryz.func46, Tryz.ntmps46
          go_wp2
          go_loopw [13] (fun i wr => ∃ k : Nat, k ≤ 14 ∧ i = .int .i64 k ∧ wr = w) (fun i _ => 14 - (intOf i).toNat)
          case atStart => exact ⟨0, by omega, rfl, rfl⟩
          case round =>
            obtain ⟨k, hk, rfl, hwr⟩ := hrel
            subst hwr
            by_cases hlt : k < 14
            · have hlt' : (k : Int) < (s.size : Int) := by omega
              have hks : k < s.size := by omega
              have hb := HDG.out k hlt
              rw [Nat.zero_add, bl_eq s k hks] at hb
              obtain ⟨b0, b1⟩ := hb
              go_wp2
              go_roundw
              case rel => exact ⟨k + 1, by omega, by go_num, by first | rfl | trivial⟩
              case measure => simp [intOf]; omega
            · obtain rfl : k = 14 := by omega
              go_wp2_with (first | (go_at_call 72; ((with_reducible refine (HV1.out _).mono ?_); rintro e w' ⟨rfl, rfl⟩)) | (go_at_call 71; ((with_reducible refine (HK.out _ HW.out).mono ?_); rintro e w' ⟨rfl, rfl⟩)))
              refine wp_region_below (by kernel_rfl) (by kernel_rfl) ?_
              have y1 : (12 : Int) ≤ (s.size : Int) := by omega
              have y2 : 12 ≤ s.size := by omega
              have y3 : (2 : Int) ≤ (s.size : Int) := by omega
              have y4 : 2 ≤ s.size := by omega
              repeat (go_big_quiet_step (first | (go_at_call 72; with_reducible exact Sub.ofS _ (HV2.out _)) | (go_at_call 72; with_reducible exact Sub.ofS _ (HV3.out _))))
              refine wpQuiet_nil ?_
              rintro w1 ⟨⟨_, hb1⟩, rfl⟩
              go_wp2_with (first | (go_at_call 69; ((with_reducible refine (HT.out _).mono ?_); rintro e w' ⟨rfl, rfl⟩)))
              go_ret3
              exact ⟨ret_three HV.out.1 HV.out.2.1 HV.out.2.2, hb1⟩
  · have HV := Lib.hid (Num.tk_syntax (ok_no hz))
    have hsz : ((s.size : Int) != 14) = true := by rw [bne_iff_ne]; omega
    clear hz
    go_enter Tryz.func46, Tryz.ntmps46
    go_wp2
    go_ret3
    exact ⟨ret_three HV.out.1 HV.out.2.1 HV.out.2.2, hbel⟩
end Go.Proofs.YtnnocbelgfhecaaGreatDoor
