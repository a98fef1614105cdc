/- The check of a syndicate. -/
import Derived.Test.YtkpmbkkhdhjbnaaSyd
namespace Go.Proofs.Ytkpmbkkhdhjbnaa
open Go.ChangeShapes Go.WideShapes Go.ChangeAt Go.RowKit Go.Lott
open Go.Lott.Syn
set_option maxHeartbeats 4000000 in
theorem sCheck_any (a : Option Addr) (n cap : Nat) (z : Nat → Nat → Int) (w : World) (hr : IsRows 2 w a n z) (hn : n ≤ 1000000) (hcap : n ≤ cap) :
    Calls Try.prog 26 #[.slice a n cap] w (RetB (.int .i64 (ckS z n)) w) := by
  have HR := Lib.hid hr
  clear hr
  by_cases hl : n < 1 ∨ 64 < n
  · have HV := Lib.hid (ce_out (z := z) hl)
    by_cases h0 : n < 1
    · have h1 : (n : Int) < 1 := by omega
      clear hl h0
      go_enter Try.func26, Try.ntmps26
      go_wp2
      go_ret
      exact ⟨ret_int HV.out, Below.refl _ _⟩
    · have h1 : ¬ (n : Int) < 1 := by omega
      have h2 : (64 : Int) < (n : Int) := by omega
      clear hl h0
      go_enter Try.func26, Try.ntmps26
      go_wp2
      go_ret
      exact ⟨ret_int HV.out, Below.refl _ _⟩
  · have HL := Lib.hid hl
    have h1 : (1 : Int) ≤ (n : Int) := by omega
    have h2 : (n : Int) ≤ 64 := by omega
    clear hl
    obtain ⟨b, o, rfl, hbb, _, hcell⟩ := HR.out.resolve_left (by omega)
    have HCL := Lib.hid hcell
    clear hcell
    go_enter Try.func26, Try.ntmps26
    go_wp2
    go_loopw [15] (fun i wr => ∃ k : Nat, k ≤ n ∧ i = .int .i64 k ∧ ceA z k = 0 ∧ Below w.heap.size w wr) (fun i _ => n - (intOf i).toNat)
    case atStart => exact ⟨0, by omega, rfl, rfl, Below.refl _ _⟩
    case round =>
      obtain ⟨k, hk, rfl, hce, hbel⟩ := hrel
      have HCE := Lib.hid hce
      clear hce
      have hbs := hbel.size
      by_cases hlt : k < n
      · have c0 : wr.cell? ⟨b, o + k * 2, none⟩ = some (.int .i64 (z k 0)) := (hbel.cell (p := ⟨b, _, none⟩) hbb).trans (HCL.out k 0 hlt (by omega))
        have c1 : wr.cell? ⟨b, o + k * 2 + 1, none⟩ = some (.int .i64 (z k 1)) := (hbel.cell (p := ⟨b, _, none⟩) hbb).trans (HCL.out k 1 hlt (by omega))
        by_cases hv : z k 0 < 1 ∨ z k 1 < 1 ∨ 1000000 < z k 1
        · have HV := Lib.hid (ce_range HL.out hlt HCE.out hv)
          by_cases v1 : z k 0 < 1
          · clear hv
            go_wp2
            go_ret
            exact ⟨ret_int HV.out, hbel.alloc hbs _⟩
          · by_cases v2 : z k 1 < 1
            · clear hv
              go_wp2
              go_ret
              exact ⟨ret_int HV.out, hbel.alloc hbs _⟩
            · have v3 : 1000000 < z k 1 := by omega
              clear hv
              go_wp2
              go_ret
              exact ⟨ret_int HV.out, hbel.alloc hbs _⟩
        · have HNV := Lib.hid hv
          obtain ⟨v1, v2, v3⟩ : ¬ z k 0 < 1 ∧ ¬ z k 1 < 1 ∧ ¬ 1000000 < z k 1 := by omega
          clear hv
          have kz : (0 : Int) ≤ (k : Int) := by omega
          have kn : (k : Int) ≤ (cap : Int) := by omega
          have kc : k ≤ cap := by omega
          have HB0 := Lib.hid (hbel.alloc hbs (.cells #[.int .i64 (z k 0), .int .i64 (z k 1)] 46))
          have hW0 : w.heap.size ≤ (wr.alloc (.cells #[.int .i64 (z k 0), .int .i64 (z k 1)] 46)).heap.size := HB0.out.size
          have HF := Lib.hid (fun (x : Sub (wr.alloc (.cells #[.int .i64 (z k 0), .int .i64 (z k 1)] 46)).heap.size (wr.alloc (.cells #[.int .i64 (z k 0), .int .i64 (z k 1)] 46))) =>
            find_any (some ⟨b, o, none⟩) k cap z (z k 0) x.w ((HR.out.front hk).below (HB0.out.trans (x.h.mono hW0)) (Nat.le_refl _)) (by omega))
          have s1 : ∀ x : Sub (wr.alloc (.cells #[.int .i64 (z k 0), .int .i64 (z k 1)] 46)).heap.size (wr.alloc (.cells #[.int .i64 (z k 0), .int .i64 (z k 1)] 46)), x.w.cell? ⟨wr.heap.size, 0, none⟩ = some (.int .i64 (z k 0)) := Sub.cell (by simp) (by simp)
          clear hW0
          by_cases hd : 0 ≤ fnd z (z k 0) k
          · have HV := Lib.hid (ce_dup HL.out hlt HCE.out HNV.out hd)
            have d1 : decide (0 ≤ fnd z (z k 0) k) = true := decide_eq_true hd
            clear hd
            go_wp2
            refine wp_region_below (by kernel_rfl) (by kernel_rfl) ?_
            repeat (go_big_quiet_step ((go_at_call 46; exact Sub.ofB _ (by simp) (HF.out _))))
            refine wpQuiet_nil ?_
            rintro w2 ⟨⟨_, hb2⟩, rfl⟩
            go_wp2
            go_ret
            exact ⟨ret_int HV.out, HB0.out.trans (hb2.mono HB0.out.size)⟩
          · have HV := Lib.hid (ce_next HCE.out HNV.out hd)
            have d1 : decide (0 ≤ fnd z (z k 0) k) = false := decide_eq_false hd
            clear hd
            go_wp2
            refine wp_region_below (by kernel_rfl) (by kernel_rfl) ?_
            repeat (go_big_quiet_step ((go_at_call 46; exact Sub.ofB _ (by simp) (HF.out _))))
            refine wpQuiet_nil ?_
            rintro w2 ⟨⟨_, hb2⟩, rfl⟩
            go_wp2
            go_roundw
            case rel => exact ⟨k + 1, hlt, by go_num, HV.out, HB0.out.trans (hb2.mono HB0.out.size)⟩
            case measure => simp [intOf]; omega
      · obtain rfl : k = n := by omega
        have HV := Lib.hid (ce_fine HL.out HCE.out)
        go_wp2
        go_ret
        exact ⟨ret_int HV.out, hbel⟩
set_option maxHeartbeats 4000000 in
theorem rsCheck_any (a : Option Addr) (n cap : Nat) (z : Nat → Nat → Int) (w : World) (hr : IsRows 2 w a n z) (hn : n ≤ 1000000) :
    Calls Try.prog 27 #[.slice a n cap] w (RetS (.int .i64 (ckS z n)) w) := by
  have HR := Lib.hid hr
  clear hr
  by_cases hl : n < 1 ∨ 64 < n
  · have HV := Lib.hid (ce_out (z := z) hl)
    by_cases h0 : n < 1
    · have h1 : (n : Int) < 1 := by omega
      clear hl h0
      go_enter Try.func27, Try.ntmps27
      go_wp2
      go_ret
      exact ⟨ret_int HV.out, rfl⟩
    · have h1 : ¬ (n : Int) < 1 := by omega
      have h2 : (64 : Int) < (n : Int) := by omega
      clear hl h0
      go_enter Try.func27, Try.ntmps27
      go_wp2
      go_ret
      exact ⟨ret_int HV.out, rfl⟩
  · have HL := Lib.hid hl
    have h1 : (1 : Int) ≤ (n : Int) := by omega
    have h2 : (n : Int) ≤ 64 := by omega
    clear hl
    obtain ⟨b, o, rfl, hbb, _, hcell⟩ := HR.out.resolve_left (by omega)
    have HCL := Lib.hid hcell
    clear hcell
    go_enter Try.func27, Try.ntmps27
    go_wp2
    go_loop [3] (fun i => ∃ k : Nat, k ≤ n ∧ i = .int .i64 k ∧ ceA z k = 0) (fun i => n - (intOf i).toNat)
    case atStart => exact ⟨0, by omega, rfl, rfl⟩
    case round =>
      obtain ⟨k, hk, rfl, hce⟩ := hrel
      have HCE := Lib.hid hce
      clear hce
      by_cases hlt : k < n
      · have c0 : w.cell? ⟨b, o + k * 2, none⟩ = some (.int .i64 (z k 0)) := HCL.out k 0 hlt (by omega)
        have c1 : w.cell? ⟨b, o + k * 2 + 1, none⟩ = some (.int .i64 (z k 1)) := HCL.out k 1 hlt (by omega)
        by_cases hv : z k 0 < 1 ∨ z k 1 < 1 ∨ 1000000 < z k 1
        · have HV := Lib.hid (ce_range HL.out hlt HCE.out hv)
          by_cases v1 : z k 0 < 1
          · clear hv
            go_wp2
            go_ret
            exact ⟨ret_int HV.out, rfl⟩
          · by_cases v2 : z k 1 < 1
            · clear hv
              go_wp2
              go_ret
              exact ⟨ret_int HV.out, rfl⟩
            · have v3 : 1000000 < z k 1 := by omega
              clear hv
              go_wp2
              go_ret
              exact ⟨ret_int HV.out, rfl⟩
        · have HNV := Lib.hid hv
          obtain ⟨v1, v2, v3⟩ : ¬ z k 0 < 1 ∧ ¬ z k 1 < 1 ∧ ¬ 1000000 < z k 1 := by omega
          clear hv
          have HF := Lib.hid (rFind_any (some ⟨b, o, none⟩) n cap z (z k 0) w HR.out hn)
          by_cases hd : 0 ≤ fnd z (z k 0) k
          · have HV := Lib.hid (ce_dup HL.out hlt HCE.out HNV.out hd)
            have d1 : fnd z (z k 0) n < (k : Int) := by
              rcases fnd_spec z (z k 0) k with ⟨e, _⟩ | ⟨i, e, hi, hz, ha⟩
              · omega
              · rw [fnd_at (n := n) (by omega) hz ha]; omega
            clear hd
            go_wp2_with (go_at_call 33; ((with_reducible refine (HF.out).mono ?_); rintro e w' ⟨rfl, rfl⟩))
            go_ret
            exact ⟨ret_int HV.out, rfl⟩
          · have HV := Lib.hid (ce_next HCE.out HNV.out hd)
            have d1 : ¬ fnd z (z k 0) n < (k : Int) := by
              rcases fnd_spec z (z k 0) k with ⟨_, ha⟩ | ⟨i, e, hi, hz, ha⟩
              · rw [fnd_at (i := k) hlt rfl ha]; omega
              · omega
            clear hd
            go_wp2_with (go_at_call 33; ((with_reducible refine (HF.out).mono ?_); rintro e w' ⟨rfl, rfl⟩))
            go_round
            case rel => exact ⟨k + 1, hlt, by go_num, HV.out⟩
            case measure => simp [intOf]; omega
      · obtain rfl : k = n := by omega
        have HV := Lib.hid (ce_fine HL.out HCE.out)
        go_wp2
        go_ret
        exact ⟨ret_int HV.out, rfl⟩
end Go.Proofs.Ytkpmbkkhdhjbnaa
