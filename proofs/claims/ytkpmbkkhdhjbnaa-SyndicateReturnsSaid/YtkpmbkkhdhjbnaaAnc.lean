/- The present value of a plan. -/
import Derived.Test.YtkpmbkkhdhjbnaaAnb
namespace Go.Proofs.Ytkpmbkkhdhjbnaa
open Go.ChangeShapes Go.WideShapes Go.ChangeAt Go.RowKit Go.Lott
open Go.Lott.Spl
set_option maxHeartbeats 4000000 in
theorem Cash_any (a : Option Addr) (n cap : Nat) (ws : Nat → Int) (r : Int) (w : World) (hr : IsRow w a n ws) (hn : n ≤ maxLen) :
    Calls Try.prog 18 #[.slice a n cap, .int .i64 r] w (RetB (.tuple #[.int .i64 (caV n ws r), .int .i64 (caE n ws r)]) w) := by
  have hc := aCheck_any a n cap ws w hr hn
  by_cases hk : ckE n ws = 0
  · rw [hk] at hc
    have HK := Lib.hid hk
    have HC := Lib.hid hc
    obtain ⟨n1, n2, hsu⟩ := ck_of hk
    have HSU := Lib.hid hsu
    clear hk hc hsu
    by_cases hp0 : r < 0
    · have HV := Lib.hid (ca_out (p := r) HK.out (.inl hp0))
      go_enter Try.func18, Try.ntmps18
      go_wp2_with (go_at_call 40; ((with_reducible refine (HC.out).mono ?_); rintro e w' ⟨rfl, rfl⟩))
      go_ret2
      exact ⟨ret_two HV.out.1.symm HV.out.2.symm, Below.refl _ _⟩
    · by_cases hp1 : 10000 < r
      · have HV := Lib.hid (ca_out (p := r) HK.out (.inr hp1))
        have hp2 : 0 ≤ r := by omega
        clear hp0
        go_enter Try.func18, Try.ntmps18
        go_wp2_with (go_at_call 40; ((with_reducible refine (HC.out).mono ?_); rintro e w' ⟨rfl, rfl⟩))
        go_ret2
        exact ⟨ret_two HV.out.1.symm HV.out.2.symm, Below.refl _ _⟩
      · have r0 : 0 ≤ r := by omega
        have r1 : r ≤ 10000 := by omega
        clear hp0 hp1
        have HV := Lib.hid (ca_in (p := r) HK.out r0 r1)
        obtain ⟨b, o, rfl, hb, _, hcl⟩ := hr.resolve_left (by omega)
        have HCL := Lib.hid hcl
        have HB := Lib.hid (cs_bd r0 (su_of HSU.out).1)
        have HA := Lib.hid ((su_of HSU.out).1)
        clear hcl hr
        go_enter Try.func18, Try.ntmps18
        go_wp2_with (go_at_call 40; ((with_reducible refine (HC.out).mono ?_); rintro e w' ⟨rfl, rfl⟩))
        go_loopw [8, 29] (fun v i wr => ∃ k : Nat, k ≤ n ∧ i = .int .i64 k ∧ v = .int .i64 (cs n ws r k) ∧ Below w.heap.size w wr) (fun _ i _ => n - (intOf i).toNat)
        case atStart => exact ⟨0, by omega, rfl, rfl, Below.refl _ _⟩
        case round =>
          obtain ⟨k, hk, rfl, rfl, hbel⟩ := hrel
          by_cases hlt : k < n
          · obtain ⟨b0, b1⟩ := HB.out k hk
            obtain ⟨q0, q1⟩ := quo_le b0 r0
            obtain ⟨w0, w1⟩ := HA.out (n - 1 - k) (by omega)
            have ck : wr.cell? ⟨b, o + (n - 1 - k), none⟩ = some (.int .i64 (ws (n - 1 - k))) := (hbel.cell (p := ⟨b, _, none⟩) hb).trans (HCL.out (n - 1 - k) (by omega))
            have hbs := hbel.size
            have HN := Lib.hid (show cs n ws r (k + 1) = cs n ws r k * 10000 / (10000 + r) + ws (n - 1 - k) from rfl)
            have hmd := fun w => MulDiv_any (cs n ws r k) 10000 (10000 + r) w (by omega) (by omega) (by omega) (by omega) (by omega) (by omega)
            obtain ⟨e1, e2, e3⟩ := md_fine (a := cs n ws r k) (b := 10000) (c := 10000 + r) ⟨b0, by omega, by omega⟩ (by omega)
            unfold mdV at hmd
            rw [← e1, ← e2, ← e3] at hmd
            have HMD := Lib.hid hmd
            clear hmd e1 e2 e3
            have wr0 : IntKind.i64.wrap (10000 + r) = 10000 + r := IntWalk.i64_in _ (by omega)
            have j1 : ((n : Int) - 1 - (k : Int)).toNat = n - 1 - k := by omega
            have j2 : (0 : Int) ≤ (n : Int) - 1 - (k : Int) := by omega
            have j3 : (n : Int) - 1 - (k : Int) < (n : Int) := by omega
            have j4 : (n : Int) ≤ 40 := by omega
            have j5 : (k : Int) < (n : Int) := by omega
            generalize cs n ws r k * 10000 / (10000 + r) = Q at *
            generalize cs n ws r k * 10000 % (10000 + r) = R at *
            go_wp2_with (go_at_call 41; ((with_reducible refine (HMD.out _).mono ?_); rintro e w1 ⟨rfl, hb1⟩; have ck1 := (hb1.cell (p := ⟨b, _, none⟩) (show b < wr.heap.size by omega)).trans ck; have HB1 := Lib.hid hb1; clear hb1))
            go_roundw
            case rel => exact ⟨k + 1, hlt, by go_num, by rw [HN.out], hbel.trans (HB1.out.mono hbs)⟩
            case measure => simp [intOf]; omega
          · obtain rfl : k = n := by omega
            go_wp2
            go_ret2
            exact ⟨ret_two HV.out.1.symm HV.out.2.symm, hbel⟩
  · have HV := Lib.hid (ca_ck (p := r) hk)
    have HC := Lib.hid hc
    have hk1 : (ckE n ws != 0) = true := by rw [bne_iff_ne]; exact hk
    clear hc hk
    go_enter Try.func18, Try.ntmps18
    go_wp2_with (go_at_call 40; ((with_reducible refine (HC.out).mono ?_); rintro e w' ⟨rfl, rfl⟩))
    go_ret2
    exact ⟨ret_two HV.out.1.symm HV.out.2.symm, Below.refl _ _⟩
set_option maxHeartbeats 4000000 in
theorem rCash_any (a : Option Addr) (n cap : Nat) (ws : Nat → Int) (r : Int) (w : World) (hr : IsRow w a n ws) (hn : n ≤ maxLen) :
    Calls Try.prog 19 #[.slice a n cap, .int .i64 r] w (RetB (.tuple #[.int .i64 (caV n ws r), .int .i64 (caE n ws r)]) w) := by
  have hc := raCheck_any a n cap ws w hr hn
  by_cases hk : ckE n ws = 0
  · rw [hk] at hc
    have HK := Lib.hid hk
    have HC := Lib.hid hc
    obtain ⟨n1, n2, hsu⟩ := ck_of hk
    have HSU := Lib.hid hsu
    clear hk hc hsu
    by_cases hp0 : r < 0
    · have HV := Lib.hid (ca_out (p := r) HK.out (.inl hp0))
      go_enter Try.func19, Try.ntmps19
      go_wp2_with (go_at_call 42; ((with_reducible refine (HC.out).mono ?_); rintro e w' ⟨rfl, rfl⟩))
      go_ret2
      exact ⟨ret_two HV.out.1.symm HV.out.2.symm, Below.refl _ _⟩
    · by_cases hp1 : 10000 < r
      · have HV := Lib.hid (ca_out (p := r) HK.out (.inr hp1))
        have hp2 : 0 ≤ r := by omega
        clear hp0
        go_enter Try.func19, Try.ntmps19
        go_wp2_with (go_at_call 42; ((with_reducible refine (HC.out).mono ?_); rintro e w' ⟨rfl, rfl⟩))
        go_ret2
        exact ⟨ret_two HV.out.1.symm HV.out.2.symm, Below.refl _ _⟩
      · have r0 : 0 ≤ r := by omega
        have r1 : r ≤ 10000 := by omega
        clear hp0 hp1
        have HV := Lib.hid (ca_in (p := r) HK.out r0 r1)
        obtain ⟨b, o, rfl, hb, _, hcl⟩ := hr.resolve_left (by omega)
        have HCL := Lib.hid hcl
        have HB := Lib.hid (cs_bd r0 (su_of HSU.out).1)
        have HA := Lib.hid ((su_of HSU.out).1)
        clear hcl hr
        go_enter Try.func19, Try.ntmps19
        go_wp2_with (go_at_call 42; ((with_reducible refine (HC.out).mono ?_); rintro e w' ⟨rfl, rfl⟩))
        go_loopw [7, 8] (fun v i wr => ∃ k : Nat, k ≤ n ∧ i = .int .i64 ((n : Int) - 1 - k) ∧ v = .int .i64 (cs n ws r k) ∧ Below w.heap.size w wr) (fun _ i _ => (intOf i + 1).toNat)
        case atStart => exact ⟨0, by omega, by simp, rfl, Below.refl _ _⟩
        case round =>
          obtain ⟨k, hk, rfl, rfl, hbel⟩ := hrel
          by_cases hlt : k < n
          · obtain ⟨b0, b1⟩ := HB.out k hk
            obtain ⟨q0, q1⟩ := quo_le b0 r0
            obtain ⟨w0, w1⟩ := HA.out (n - 1 - k) (by omega)
            have ck : wr.cell? ⟨b, o + (n - 1 - k), none⟩ = some (.int .i64 (ws (n - 1 - k))) := (hbel.cell (p := ⟨b, _, none⟩) hb).trans (HCL.out (n - 1 - k) (by omega))
            have s1 : ∀ x : Sub wr.heap.size wr, x.w.cell? ⟨b, o + (n - 1 - k), none⟩ = some (.int .i64 (ws (n - 1 - k))) := Sub.cell ck (by have := hbel.size; simp; omega)
            have HN := Lib.hid (show cs n ws r (k + 1) = cs n ws r k * 10000 / (10000 + r) + ws (n - 1 - k) from rfl)
            have wr0 : IntKind.i64.wrap (10000 + r) = 10000 + r := IntWalk.i64_in _ (by omega)
            have wr1 : IntKind.i64.wrap (cs n ws r k * 10000) = cs n ws r k * 10000 := IntWalk.i64_in _ (by omega)
            have nz : 10000 + r ≠ 0 := by omega
            have td : (cs n ws r k * 10000).tdiv (10000 + r) = cs n ws r k * 10000 / (10000 + r) := Int.tdiv_eq_ediv_of_nonneg (by omega)
            have j1 : ((n : Int) - 1 - (k : Int)).toNat = n - 1 - k := by omega
            have j2 : (0 : Int) ≤ (n : Int) - 1 - (k : Int) := by omega
            have j3 : (n : Int) - 1 - (k : Int) < (n : Int) := by omega
            have j4 : (n : Int) ≤ 40 := by omega
            have j5 : (k : Int) < (n : Int) := by omega
            go_wp2
            refine wp_region_below (by kernel_rfl) (by kernel_rfl) ?_
            repeat (go_big_quiet_step (fail))
            refine wpQuiet_nil ?_
            rintro w2 ⟨⟨_, hb2⟩, rfl⟩
            go_wp2
            go_roundw
            case rel => exact ⟨k + 1, hlt, by congr 1; push_cast; omega, by rw [HN.out], hbel.trans (hb2.mono hbel.size)⟩
            case measure => simp [intOf]; omega
          · obtain rfl : k = n := by omega
            have j0 : (k : Int) - 1 - (k : Int) = -1 := by omega
            rw [j0]
            go_wp2
            go_ret2
            exact ⟨ret_two HV.out.1.symm HV.out.2.symm, hbel⟩
  · have HV := Lib.hid (ca_ck (p := r) hk)
    have HC := Lib.hid hc
    have hk1 : (ckE n ws != 0) = true := by rw [bne_iff_ne]; exact hk
    clear hc hk
    go_enter Try.func19, Try.ntmps19
    go_wp2_with (go_at_call 42; ((with_reducible refine (HC.out).mono ?_); rintro e w' ⟨rfl, rfl⟩))
    go_ret2
    exact ⟨ret_two HV.out.1.symm HV.out.2.symm, Below.refl _ _⟩
end Go.Proofs.Ytkpmbkkhdhjbnaa
