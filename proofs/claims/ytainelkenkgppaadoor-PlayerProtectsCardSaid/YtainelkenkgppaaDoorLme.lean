/- The limit of a kind that holds: the program's function, with its closure, and the reference's. -/
import Derived.Test.YtainelkenkgppaaDoorIr
import Derived.Test.YtainelkenkgppaaDoorChk
import Derived.Test.YtainelkenkgppaaDoorLmp
import Derived.Test.YtainelkenkgppaaDoorKitb
namespace Go.Lott.Lm
/-- The limit that a step begins with. -/
def lim1 (s : St) (t : Int) : Int := if s.wt = true ∧ s.fr ≤ t then s.pend else s.lim
theorem settle_eq (s : St) (t : Int) : settle s t = ⟨lim1 s t, s.pend, s.fr, if s.wt = true ∧ s.fr ≤ t then false else s.wt⟩ := by
  unfold settle lim1; split <;> rfl
theorem step_a {s : St} {a n L : Int} (hL : lim1 s a = L) (h : n ≠ 0) (h' : L = 0 ∨ n < L) : stepE s a n = ⟨n, s.pend, s.fr, false⟩ := by
  unfold stepE; rw [settle_eq, hL, if_pos ⟨h, h'⟩]
theorem step_b {s : St} {a n L : Int} (hL : lim1 s a = L) (h : n = L) : stepE s a n = ⟨L, s.pend, s.fr, false⟩ := by
  unfold stepE; rw [settle_eq, hL, if_neg (by show ¬ (n ≠ 0 ∧ (L = 0 ∨ n < L)); omega), if_neg (by show ¬ n ≠ L; omega)]
theorem step_c {s : St} {a n L : Int} (hL : lim1 s a = L) (h : n ≠ L) (h' : ¬ (n ≠ 0 ∧ (L = 0 ∨ n < L))) : stepE s a n = ⟨L, n, a + 10080, true⟩ := by
  unfold stepE; rw [settle_eq, hL, if_neg h', if_pos h]
theorem eff_lim {l : List Cg} {k : Nat} {t : Int} {s : St} (h : foldE l k = s) : effE l k t = lim1 s t := by
  unfold effE; rw [h, settle_eq]
theorem fold_next {z : Nat → Nat → Int} {k i : Nat} {s s' : St} (h : foldE (row4 z i) k = s) (h' : stepE s (z i 0) (kd (rw4 z i) k) = s') : foldE (row4 z (i + 1)) k = s' := by
  rw [row4_succ, foldE_snoc, h]; exact h'
def tm (n : Int) : Bool := decide (0 ≤ n ∧ n ≤ 1073741824)
end Go.Lott.Lm
namespace Go.Proofs.YtainelkenkgppaaDoor
open Go.ChangeShapes Go.WideShapes Go.ChangeAt Go.RowKit Go.Lott
open Go.Lott.Lm
theorem lT_any (n : Int) (w : World) : Calls Tryd.prog 29 #[.int .i64 n] w (RetS (.bool (tm n)) w) := by
  by_cases h : 0 ≤ n
  · go_enter Tryd.func29, Tryd.ntmps29
    go_wp2
    go_ret
    exact ⟨ret_bool (by simp [tm, h]), rfl⟩
  · go_enter Tryd.func29, Tryd.ntmps29
    go_wp2
    go_ret
    exact ⟨ret_bool (by rw [tm, decide_eq_false (by omega)]), rfl⟩
theorem rT_any (n : Int) (w : World) : Calls Tryd.prog 39 #[.int .i64 n] w (RetS (.bool (tm n)) w) := by
  by_cases h : 0 ≤ n
  · go_enter Tryd.func39, Tryd.ntmps39
    go_wp2
    go_ret
    exact ⟨ret_bool (by simp [tm, h]), rfl⟩
  · go_enter Tryd.func39, Tryd.ntmps39
    go_wp2
    go_ret
    exact ⟨ret_bool (by rw [tm, decide_eq_false (by omega)]), rfl⟩
theorem part_any (c : Cg) (k : Nat) (hk : k < 3) (w : World) : Calls Tryd.prog 42 #[.agg #[.int .i64 c.2.1, .int .i64 c.2.2.1, .int .i64 c.2.2.2], .int .i64 k] w (RetB (.int .i64 (kd c k)) w) := by
  rcases (show k = 0 ∨ k = 1 ∨ k = 2 by omega) with rfl | rfl | rfl
  all_goals
    go_enter Tryd.func42, Tryd.ntmps42
    go_wp2
    go_ret
    exact ⟨ret_int (by simp [kd]), (Below.refl _ _).alloc (Nat.le_refl _) _⟩
set_option maxHeartbeats 4000000 in
set_option maxRecDepth 100000 in
theorem one_any (a : Option Addr) (len cap : Nat) (z : Nat → Nat → Int) (k : Nat) (t : Int) (w : World) (hk : k < 3) (hlen : len < 1000000000) (hv : ∀ i, i < len → 0 ≤ z i 0 ∧ z i 0 ≤ 1073741824) (hr : IsRows 4 w a len z) :
    Calls Tryd.prog 67 #[.slice a len cap, .int .i64 k, .int .i64 t] w (RetB (.int .i64 (effE (row4 z len) k t)) w) := by
  have HR := Lib.hid hr
  have HV := Lib.hid hv
  have HP := Lib.hid (fun (i : Nat) (W : World) => (show Calls Tryd.prog 42 #[.agg #[.int .i64 (z i 1), .int .i64 (z i 2), .int .i64 (z i 3)], .int .i64 k] W (RetB (.int .i64 (kd (rw4 z i) k)) W) from part_any (rw4 z i) k hk W))
  clear hr hv
  go_enter Tryd.func67, Tryd.ntmps67
  go_wp2
  go_loopw [7, 8, 9, 10, 11] (fun v7 v8 v9 v10 v11 wr => ∃ (i : Nat) (s : St), foldE (row4 z i) k = s ∧ v11 = .int .i64 i ∧ i ≤ len ∧ v7 = .int .i64 s.lim ∧ v8 = .bool s.wt ∧ v9 = .int .i64 s.pend ∧ v10 = .int .i64 s.fr ∧ Below w.heap.size w wr) (fun _ _ _ _ vi _ => len - (intOf vi).toNat)
  case atStart => exact ⟨0, _, rfl, rfl, by omega, rfl, rfl, rfl, rfl, Below.refl _ _⟩
  case round =>
    obtain ⟨i, s, hf, rfl, hi, rfl, rfl, rfl, rfl, hbel⟩ := hrel
    replace hf := Lib.hid hf
    by_cases hlt : i < len
    · rcases HR.out with h0 | ⟨b, o, ha, hb, hm, hcell⟩
      · omega
      · subst ha
        have c0 : wr.cell? ⟨b, o + i * 4, none⟩ = some (.int .i64 (z i 0)) := (hbel.cell (p := ⟨b, _, none⟩) hb).trans (hcell i 0 hlt (by omega))
        have c1 : wr.cell? ⟨b, o + i * 4 + 1, none⟩ = some (.int .i64 (z i 1)) := (hbel.cell (p := ⟨b, _, none⟩) hb).trans (hcell i 1 hlt (by omega))
        have c2 : wr.cell? ⟨b, o + i * 4 + 1 + 1, none⟩ = some (.int .i64 (z i 2)) := (hbel.cell (p := ⟨b, _, none⟩) hb).trans (hcell i 2 hlt (by omega))
        have c3 : wr.cell? ⟨b, o + i * 4 + 1 + 2, none⟩ = some (.int .i64 (z i 3)) := (hbel.cell (p := ⟨b, _, none⟩) hb).trans (hcell i 3 hlt (by omega))
        clear hcell
        obtain ⟨v1, v2⟩ := HV.out i hlt
        have hC := HP.out i
        obtain ⟨N, hN⟩ : ∃ N, kd (rw4 z i) k = N := ⟨_, rfl⟩
        rw [hN] at hC
        have HC := Lib.hid hC
        clear hC
        obtain ⟨L, hL⟩ : ∃ L, lim1 s (z i 0) = L := ⟨_, rfl⟩
        have HL := Lib.hid hL
        by_cases hw : s.wt = true
        · by_cases hfr : s.fr ≤ z i 0
          · have e1 : s.pend = L := by rw [← hL]; unfold lim1; rw [if_pos ⟨hw, hfr⟩]
            clear hL
            have HN := Lib.hid hN
            clear hN
            by_cases n1 : N = L
            · have HST := Lib.hid (step_b HL.out n1)
              subst n1
              go_wp2_with (go_at_call 42; ((with_reducible refine (HC.out _).mono ?_); rintro e w1 ⟨rfl, hb1⟩; have d0 := (hb1.cell (p := ⟨b, o + i * 4, none⟩) (Nat.lt_of_lt_of_le hb hbel.size)).trans c0; have HB1 := Lib.hid (hbel.trans (hb1.mono hbel.size)); clear hb1))
              go_roundw
              case rel => exact ⟨i + 1, ⟨N, s.pend, s.fr, false⟩, fold_next hf.out (by rw [HN.out]; exact HST.out), by go_num, hlt, (by first | rfl | simp [e1]), rfl, (by first | rfl | simp [e1]), rfl, HB1.out⟩
              case measure => simp [intOf]; omega
            · have b1 : (N == L) = false := by rw [beq_eq_false_iff_ne]; exact n1
              by_cases n2 : N = 0
              · have HST := Lib.hid (step_c HL.out n1 (by omega))
                have b2 : (N != 0) = false := by rw [bne_eq_false_iff_eq]; exact n2
                clear n1 n2
                go_wp2_with (go_at_call 42; ((with_reducible refine (HC.out _).mono ?_); rintro e w1 ⟨rfl, hb1⟩; have d0 := (hb1.cell (p := ⟨b, o + i * 4, none⟩) (Nat.lt_of_lt_of_le hb hbel.size)).trans c0; have HB1 := Lib.hid (hbel.trans (hb1.mono hbel.size)); clear hb1))
                go_roundw
                case rel => exact ⟨i + 1, ⟨L, N, z i 0 + 10080, true⟩, fold_next hf.out (by rw [HN.out]; exact HST.out), by go_num, hlt, (by first | rfl | simp [e1]), rfl, (by first | rfl | simp [e1]), rfl, HB1.out⟩
                case measure => simp [intOf]; omega
              · have b2 : (N != 0) = true := by rw [bne_iff_ne]; exact n2
                by_cases n3 : L = 0
                · have HST := Lib.hid (step_a HL.out n2 (.inl n3))
                  have b3 : (L == 0) = true := by rw [beq_iff_eq]; exact n3
                  clear n1 n2 n3
                  go_wp2_with (go_at_call 42; ((with_reducible refine (HC.out _).mono ?_); rintro e w1 ⟨rfl, hb1⟩; have d0 := (hb1.cell (p := ⟨b, o + i * 4, none⟩) (Nat.lt_of_lt_of_le hb hbel.size)).trans c0; have HB1 := Lib.hid (hbel.trans (hb1.mono hbel.size)); clear hb1))
                  go_roundw
                  case rel => exact ⟨i + 1, ⟨N, s.pend, s.fr, false⟩, fold_next hf.out (by rw [HN.out]; exact HST.out), by go_num, hlt, (by first | rfl | simp [e1]), rfl, (by first | rfl | simp [e1]), rfl, HB1.out⟩
                  case measure => simp [intOf]; omega
                · have b3 : (L == 0) = false := by rw [beq_eq_false_iff_ne]; exact n3
                  by_cases n4 : N < L
                  · have HST := Lib.hid (step_a HL.out n2 (.inr n4))
                    clear n1 n2 n3
                    go_wp2_with (go_at_call 42; ((with_reducible refine (HC.out _).mono ?_); rintro e w1 ⟨rfl, hb1⟩; have d0 := (hb1.cell (p := ⟨b, o + i * 4, none⟩) (Nat.lt_of_lt_of_le hb hbel.size)).trans c0; have HB1 := Lib.hid (hbel.trans (hb1.mono hbel.size)); clear hb1))
                    go_roundw
                    case rel => exact ⟨i + 1, ⟨N, s.pend, s.fr, false⟩, fold_next hf.out (by rw [HN.out]; exact HST.out), by go_num, hlt, (by first | rfl | simp [e1]), rfl, (by first | rfl | simp [e1]), rfl, HB1.out⟩
                    case measure => simp [intOf]; omega
                  · have HST := Lib.hid (step_c HL.out n1 (by omega))
                    have n5 : L ≤ N := by omega
                    clear n1 n2 n3 n4
                    go_wp2_with (go_at_call 42; ((with_reducible refine (HC.out _).mono ?_); rintro e w1 ⟨rfl, hb1⟩; have d0 := (hb1.cell (p := ⟨b, o + i * 4, none⟩) (Nat.lt_of_lt_of_le hb hbel.size)).trans c0; have HB1 := Lib.hid (hbel.trans (hb1.mono hbel.size)); clear hb1))
                    go_roundw
                    case rel => exact ⟨i + 1, ⟨L, N, z i 0 + 10080, true⟩, fold_next hf.out (by rw [HN.out]; exact HST.out), by go_num, hlt, (by first | rfl | simp [e1]), rfl, (by first | rfl | simp [e1]), rfl, HB1.out⟩
                    case measure => simp [intOf]; omega
          · have e1 : s.lim = L := by rw [← hL]; unfold lim1; rw [if_neg (fun c => hfr c.2)]
            have hfr' : z i 0 < s.fr := by omega
            clear hL hfr
            have HN := Lib.hid hN
            clear hN
            by_cases n1 : N = L
            · have HST := Lib.hid (step_b HL.out n1)
              subst n1
              go_wp2_with (go_at_call 42; ((with_reducible refine (HC.out _).mono ?_); rintro e w1 ⟨rfl, hb1⟩; have d0 := (hb1.cell (p := ⟨b, o + i * 4, none⟩) (Nat.lt_of_lt_of_le hb hbel.size)).trans c0; have HB1 := Lib.hid (hbel.trans (hb1.mono hbel.size)); clear hb1))
              go_roundw
              case rel => exact ⟨i + 1, ⟨N, s.pend, s.fr, false⟩, fold_next hf.out (by rw [HN.out]; exact HST.out), by go_num, hlt, (by first | rfl | simp [e1]), rfl, (by first | rfl | simp [e1]), rfl, HB1.out⟩
              case measure => simp [intOf]; omega
            · have b1 : (N == L) = false := by rw [beq_eq_false_iff_ne]; exact n1
              by_cases n2 : N = 0
              · have HST := Lib.hid (step_c HL.out n1 (by omega))
                have b2 : (N != 0) = false := by rw [bne_eq_false_iff_eq]; exact n2
                clear n1 n2
                go_wp2_with (go_at_call 42; ((with_reducible refine (HC.out _).mono ?_); rintro e w1 ⟨rfl, hb1⟩; have d0 := (hb1.cell (p := ⟨b, o + i * 4, none⟩) (Nat.lt_of_lt_of_le hb hbel.size)).trans c0; have HB1 := Lib.hid (hbel.trans (hb1.mono hbel.size)); clear hb1))
                go_roundw
                case rel => exact ⟨i + 1, ⟨L, N, z i 0 + 10080, true⟩, fold_next hf.out (by rw [HN.out]; exact HST.out), by go_num, hlt, (by first | rfl | simp [e1]), rfl, (by first | rfl | simp [e1]), rfl, HB1.out⟩
                case measure => simp [intOf]; omega
              · have b2 : (N != 0) = true := by rw [bne_iff_ne]; exact n2
                by_cases n3 : L = 0
                · have HST := Lib.hid (step_a HL.out n2 (.inl n3))
                  have b3 : (L == 0) = true := by rw [beq_iff_eq]; exact n3
                  clear n1 n2 n3
                  go_wp2_with (go_at_call 42; ((with_reducible refine (HC.out _).mono ?_); rintro e w1 ⟨rfl, hb1⟩; have d0 := (hb1.cell (p := ⟨b, o + i * 4, none⟩) (Nat.lt_of_lt_of_le hb hbel.size)).trans c0; have HB1 := Lib.hid (hbel.trans (hb1.mono hbel.size)); clear hb1))
                  go_roundw
                  case rel => exact ⟨i + 1, ⟨N, s.pend, s.fr, false⟩, fold_next hf.out (by rw [HN.out]; exact HST.out), by go_num, hlt, (by first | rfl | simp [e1]), rfl, (by first | rfl | simp [e1]), rfl, HB1.out⟩
                  case measure => simp [intOf]; omega
                · have b3 : (L == 0) = false := by rw [beq_eq_false_iff_ne]; exact n3
                  by_cases n4 : N < L
                  · have HST := Lib.hid (step_a HL.out n2 (.inr n4))
                    clear n1 n2 n3
                    go_wp2_with (go_at_call 42; ((with_reducible refine (HC.out _).mono ?_); rintro e w1 ⟨rfl, hb1⟩; have d0 := (hb1.cell (p := ⟨b, o + i * 4, none⟩) (Nat.lt_of_lt_of_le hb hbel.size)).trans c0; have HB1 := Lib.hid (hbel.trans (hb1.mono hbel.size)); clear hb1))
                    go_roundw
                    case rel => exact ⟨i + 1, ⟨N, s.pend, s.fr, false⟩, fold_next hf.out (by rw [HN.out]; exact HST.out), by go_num, hlt, (by first | rfl | simp [e1]), rfl, (by first | rfl | simp [e1]), rfl, HB1.out⟩
                    case measure => simp [intOf]; omega
                  · have HST := Lib.hid (step_c HL.out n1 (by omega))
                    have n5 : L ≤ N := by omega
                    clear n1 n2 n3 n4
                    go_wp2_with (go_at_call 42; ((with_reducible refine (HC.out _).mono ?_); rintro e w1 ⟨rfl, hb1⟩; have d0 := (hb1.cell (p := ⟨b, o + i * 4, none⟩) (Nat.lt_of_lt_of_le hb hbel.size)).trans c0; have HB1 := Lib.hid (hbel.trans (hb1.mono hbel.size)); clear hb1))
                    go_roundw
                    case rel => exact ⟨i + 1, ⟨L, N, z i 0 + 10080, true⟩, fold_next hf.out (by rw [HN.out]; exact HST.out), by go_num, hlt, (by first | rfl | simp [e1]), rfl, (by first | rfl | simp [e1]), rfl, HB1.out⟩
                    case measure => simp [intOf]; omega
        · have e1 : s.lim = L := by rw [← hL]; unfold lim1; rw [if_neg (fun c => hw c.1)]
          have hw' : s.wt = false := by simpa using hw
          clear hL hw
          have HN := Lib.hid hN
          clear hN
          by_cases n1 : N = L
          · have HST := Lib.hid (step_b HL.out n1)
            subst n1
            go_wp2_with (go_at_call 42; ((with_reducible refine (HC.out _).mono ?_); rintro e w1 ⟨rfl, hb1⟩; have d0 := (hb1.cell (p := ⟨b, o + i * 4, none⟩) (Nat.lt_of_lt_of_le hb hbel.size)).trans c0; have HB1 := Lib.hid (hbel.trans (hb1.mono hbel.size)); clear hb1))
            go_roundw
            case rel => exact ⟨i + 1, ⟨N, s.pend, s.fr, false⟩, fold_next hf.out (by rw [HN.out]; exact HST.out), by go_num, hlt, (by first | rfl | simp [e1]), rfl, (by first | rfl | simp [e1]), rfl, HB1.out⟩
            case measure => simp [intOf]; omega
          · have b1 : (N == L) = false := by rw [beq_eq_false_iff_ne]; exact n1
            by_cases n2 : N = 0
            · have HST := Lib.hid (step_c HL.out n1 (by omega))
              have b2 : (N != 0) = false := by rw [bne_eq_false_iff_eq]; exact n2
              clear n1 n2
              go_wp2_with (go_at_call 42; ((with_reducible refine (HC.out _).mono ?_); rintro e w1 ⟨rfl, hb1⟩; have d0 := (hb1.cell (p := ⟨b, o + i * 4, none⟩) (Nat.lt_of_lt_of_le hb hbel.size)).trans c0; have HB1 := Lib.hid (hbel.trans (hb1.mono hbel.size)); clear hb1))
              go_roundw
              case rel => exact ⟨i + 1, ⟨L, N, z i 0 + 10080, true⟩, fold_next hf.out (by rw [HN.out]; exact HST.out), by go_num, hlt, (by first | rfl | simp [e1]), rfl, (by first | rfl | simp [e1]), rfl, HB1.out⟩
              case measure => simp [intOf]; omega
            · have b2 : (N != 0) = true := by rw [bne_iff_ne]; exact n2
              by_cases n3 : L = 0
              · have HST := Lib.hid (step_a HL.out n2 (.inl n3))
                have b3 : (L == 0) = true := by rw [beq_iff_eq]; exact n3
                clear n1 n2 n3
                go_wp2_with (go_at_call 42; ((with_reducible refine (HC.out _).mono ?_); rintro e w1 ⟨rfl, hb1⟩; have d0 := (hb1.cell (p := ⟨b, o + i * 4, none⟩) (Nat.lt_of_lt_of_le hb hbel.size)).trans c0; have HB1 := Lib.hid (hbel.trans (hb1.mono hbel.size)); clear hb1))
                go_roundw
                case rel => exact ⟨i + 1, ⟨N, s.pend, s.fr, false⟩, fold_next hf.out (by rw [HN.out]; exact HST.out), by go_num, hlt, (by first | rfl | simp [e1]), rfl, (by first | rfl | simp [e1]), rfl, HB1.out⟩
                case measure => simp [intOf]; omega
              · have b3 : (L == 0) = false := by rw [beq_eq_false_iff_ne]; exact n3
                by_cases n4 : N < L
                · have HST := Lib.hid (step_a HL.out n2 (.inr n4))
                  clear n1 n2 n3
                  go_wp2_with (go_at_call 42; ((with_reducible refine (HC.out _).mono ?_); rintro e w1 ⟨rfl, hb1⟩; have d0 := (hb1.cell (p := ⟨b, o + i * 4, none⟩) (Nat.lt_of_lt_of_le hb hbel.size)).trans c0; have HB1 := Lib.hid (hbel.trans (hb1.mono hbel.size)); clear hb1))
                  go_roundw
                  case rel => exact ⟨i + 1, ⟨N, s.pend, s.fr, false⟩, fold_next hf.out (by rw [HN.out]; exact HST.out), by go_num, hlt, (by first | rfl | simp [e1]), rfl, (by first | rfl | simp [e1]), rfl, HB1.out⟩
                  case measure => simp [intOf]; omega
                · have HST := Lib.hid (step_c HL.out n1 (by omega))
                  have n5 : L ≤ N := by omega
                  clear n1 n2 n3 n4
                  go_wp2_with (go_at_call 42; ((with_reducible refine (HC.out _).mono ?_); rintro e w1 ⟨rfl, hb1⟩; have d0 := (hb1.cell (p := ⟨b, o + i * 4, none⟩) (Nat.lt_of_lt_of_le hb hbel.size)).trans c0; have HB1 := Lib.hid (hbel.trans (hb1.mono hbel.size)); clear hb1))
                  go_roundw
                  case rel => exact ⟨i + 1, ⟨L, N, z i 0 + 10080, true⟩, fold_next hf.out (by rw [HN.out]; exact HST.out), by go_num, hlt, (by first | rfl | simp [e1]), rfl, (by first | rfl | simp [e1]), rfl, HB1.out⟩
                  case measure => simp [intOf]; omega
    · obtain rfl : i = len := by omega
      have HE := Lib.hid (eff_lim (t := t) hf.out)
      by_cases hw : s.wt = true
      · by_cases hfr : s.fr ≤ t
        · have e1 : lim1 s t = s.pend := by unfold lim1; rw [if_pos ⟨hw, hfr⟩]
          rw [e1] at HE
          clear e1
          go_wp2
          go_ret
          exact ⟨ret_int HE.out.symm, hbel⟩
        · have e1 : lim1 s t = s.lim := by unfold lim1; rw [if_neg (fun c => hfr c.2)]
          rw [e1] at HE
          clear e1
          go_wp2
          go_ret
          exact ⟨ret_int HE.out.symm, hbel⟩
      · have e1 : lim1 s t = s.lim := by unfold lim1; rw [if_neg (fun c => hw c.1)]
        have hw' : s.wt = false := by simpa using hw
        rw [e1] at HE
        clear e1 hw
        go_wp2
        go_ret
        exact ⟨ret_int HE.out.symm, hbel⟩
/-- The closure's four boxes hold a state. -/
structure StW (h : Nat) (s : St) (W : World) : Prop where
  l : Cel W h #[.int .i64 s.lim] 3
  p : Cel W (h + 1) #[.int .i64 s.pend] 3
  f : Cel W (h + 2) #[.int .i64 s.fr] 3
  w : Cel W (h + 3) #[.bool s.wt] 4
theorem StW.below {h : Nat} {s : St} {W W1 : World} {B : Nat} (S : StW h s W) (hb : Below B W W1) (hB : h + 3 < B) : StW h s W1 := ⟨S.l.below hb (by omega), S.p.below hb (by omega), S.f.below hb (by omega), S.w.below hb (by omega)⟩
theorem StW.alloc {h : Nat} {s : St} {W : World} (S : StW h s W) (o : Obj) : StW h s (W.alloc o) := ⟨S.l.alloc o, S.p.alloc o, S.f.alloc o, S.w.alloc o⟩
theorem StW.drew {h : Nat} {s : St} {W : World} (S : StW h s W) : StW h s W.drew := ⟨S.l, S.p, S.f, S.w⟩
theorem StW.stL {h : Nat} {s : St} {W : World} (S : StW h s W) (x : Int) : StW h { s with lim := x } (W.setCell ⟨h, 0, none⟩ (.int .i64 x)) :=
  ⟨S.l.set 0 _, S.p.other (by simp) _, S.f.other (by simp) _, S.w.other (by simp) _⟩
theorem StW.stP {h : Nat} {s : St} {W : World} (S : StW h s W) (x : Int) : StW h { s with pend := x } (W.setCell ⟨h + 1, 0, none⟩ (.int .i64 x)) :=
  ⟨S.l.other (by simp) _, S.p.set 0 _, S.f.other (by simp) _, S.w.other (by simp) _⟩
theorem StW.stF {h : Nat} {s : St} {W : World} (S : StW h s W) (x : Int) : StW h { s with fr := x } (W.setCell ⟨h + 2, 0, none⟩ (.int .i64 x)) :=
  ⟨S.l.other (by simp) _, S.p.other (by simp) _, S.f.set 0 _, S.w.other (by simp) _⟩
theorem StW.stW {h : Nat} {s : St} {W : World} (S : StW h s W) (x : Bool) : StW h { s with wt := x } (W.setCell ⟨h + 3, 0, none⟩ (.bool x)) :=
  ⟨S.l.other (by simp) _, S.p.other (by simp) _, S.f.other (by simp) _, S.w.set 0 _⟩
theorem settle_any (h : Nat) (s : St) (t : Int) (W : World) (S : StW h s W) :
    Calls Tryd.prog 65 #[.int .i64 t, .pointer (some ⟨h + 3, 0, none⟩), .pointer (some ⟨h + 2, 0, none⟩), .pointer (some ⟨h + 1, 0, none⟩), .pointer (some ⟨h, 0, none⟩)] W
      fun e w' => e = .returned (.tuple #[]) ∧ StW h (Lm.settle s t) w' ∧ Below h W w' ∧ (∀ b, h + 4 ≤ b → w'.heap[b]? = W.heap[b]?) := by
  have HS := Lib.hid S
  have cl := S.l.cell 0
  have cp := S.p.cell 0
  have cf := S.f.cell 0
  have cw := S.w.cell 0
  have fl := S.l.free 0
  have fw := S.w.free 0
  simp at cl cp cf cw
  clear S
  by_cases hw : s.wt = true
  · by_cases hfr : s.fr ≤ t
    · have HE := Lib.hid (show Lm.settle s t = { s with lim := s.pend, wt := false } by unfold Lm.settle; rw [if_pos ⟨hw, hfr⟩])
      rw [hw] at cw
      go_enter Tryd.func65, Tryd.ntmps65
      go_wp2
      go_end0
      refine ⟨rfl, ?_, ?_, ?_⟩
      · rw [HE.out]; exact (HS.out.stL s.pend).stW false
      · exact ((Below.refl h W).setCell (Nat.le_refl h) _).setCell (Nat.le_add_right h 3) _
      · intro b hb; rw [Below.heap_setCell _ _ _ _ (show b ≠ h + 3 by omega), Below.heap_setCell _ _ _ _ (show b ≠ h by omega)]
    · have HE := Lib.hid (show Lm.settle s t = s by unfold Lm.settle; rw [if_neg (fun c => hfr c.2)])
      rw [hw] at cw
      go_enter Tryd.func65, Tryd.ntmps65
      go_wp2
      go_end0
      exact ⟨rfl, by rw [HE.out]; exact HS.out, Below.refl _ _, fun _ _ => rfl⟩
  · have HE := Lib.hid (show Lm.settle s t = s by unfold Lm.settle; rw [if_neg (fun c => hw c.1)])
    have hw' : s.wt = false := by simpa using hw
    rw [hw'] at cw
    clear hw
    go_enter Tryd.func65, Tryd.ntmps65
    go_wp2
    go_end0
    exact ⟨rfl, by rw [HE.out]; exact HS.out, Below.refl _ _, fun _ _ => rfl⟩
end Go.Proofs.YtainelkenkgppaaDoor
