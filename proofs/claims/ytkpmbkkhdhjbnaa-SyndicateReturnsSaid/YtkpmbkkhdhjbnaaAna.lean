/- Sums of amounts. -/
import Derived.Test.YtkpmbkkhdhjbnaaMoq
namespace Go.Lott.Spl
def suE (n : Nat) (ws : Nat → Int) : Int := if wB ws n then (if sm ws n ≤ 1000000000000 then 0 else 9) else 2
def suV (n : Nat) (ws : Nat → Int) : Int := if suE n ws = 0 then sm ws n else 0
theorem su_bad {n i : Nat} {ws : Nat → Int} (hi : i < n) (h : ¬ (0 ≤ ws i ∧ ws i ≤ 1000000000000)) : suV n ws = 0 ∧ suE n ws = 2 := by
  have e : suE n ws = 2 := by unfold suE; rw [if_neg (fun hb => h ((wB_iff ws n).1 hb i hi))]
  exact ⟨by unfold suV; rw [e]; rfl, e⟩
theorem su_big {n k : Nat} {ws : Nat → Int} (hk : k ≤ n) (h : ∀ i, i < n → 0 ≤ ws i ∧ ws i ≤ 1000000000000) (hs : 1000000000000 < sm ws k) : suV n ws = 0 ∧ suE n ws = 9 := by
  have := sm_mono (f := ws) (fun k hk => (h k hk).1) hk
  have e : suE n ws = 9 := by unfold suE; rw [if_pos ((wB_iff ws n).2 h), if_neg (by omega)]
  exact ⟨by unfold suV; rw [e]; rfl, e⟩
theorem su_ok {n : Nat} {ws : Nat → Int} (h : ∀ i, i < n → 0 ≤ ws i ∧ ws i ≤ 1000000000000) (hs : sm ws n ≤ 1000000000000) : suV n ws = sm ws n ∧ suE n ws = 0 := by
  have e : suE n ws = 0 := by unfold suE; rw [if_pos ((wB_iff ws n).2 h), if_pos hs]
  exact ⟨by unfold suV; rw [e]; rfl, e⟩
theorem su_of {n : Nat} {ws : Nat → Int} (h : suE n ws = 0) : (∀ i, i < n → 0 ≤ ws i ∧ ws i ≤ 1000000000000) ∧ sm ws n ≤ 1000000000000 ∧ suV n ws = sm ws n := by
  refine ⟨?_, ?_, by unfold suV; rw [if_pos h]⟩
  · by_cases c : wB ws n = true
    · exact (wB_iff ws n).1 c
    · unfold suE at h; rw [if_neg c] at h; omega
  · unfold suE at h
    split at h
    · split at h <;> omega
    · omega
end Go.Lott.Spl
namespace Go.Proofs.Ytkpmbkkhdhjbnaa
open Go.ChangeShapes Go.WideShapes Go.ChangeAt Go.RowKit Go.Lott
open Go.Lott.Spl
set_option maxHeartbeats 4000000 in
theorem Sum_any (a : Option Addr) (n cap : Nat) (ws : Nat → Int) (w : World) (hr : IsRow w a n ws) (hn : n ≤ maxLen) :
    Calls Try.prog 43 #[.slice a n cap] w (RetS (.tuple #[.int .i64 (suV n ws), .int .i64 (suE n ws)]) w) := by
  unfold maxLen at hn
  have HR := Lib.hid hr
  clear hr
  by_cases hall : ∀ i, i < n → 0 ≤ ws i ∧ ws i ≤ 1000000000000
  · have HA := Lib.hid hall
    clear hall
    go_enter Try.func43, Try.ntmps43
    go_wp2
    go_loop [11] (fun i => ∃ k : Nat, k ≤ n ∧ i = .int .i64 k) (fun i => n - (intOf i).toNat)
    case atStart => exact ⟨0, by omega, rfl⟩
    case round =>
      obtain ⟨k, hk, rfl⟩ := hrel
      by_cases hlt : k < n
      · obtain ⟨b, o, rfl, hb, _, hc⟩ := HR.out.resolve_left (by omega)
        have ck := hc k hlt
        clear hc
        have hv := fun w => Valid_any (ws k) w
        rw [(amB_iff _).2 (HA.out k hlt)] at hv
        have HW := Lib.hid hv
        clear hv
        go_wp2_with (go_at_call 35; ((with_reducible refine (HW.out _).mono ?_); rintro e w' ⟨rfl, rfl⟩))
        go_round
        case rel => exact ⟨k + 1, hlt, by go_num⟩
        case measure => simp [intOf]; omega
      · obtain rfl : k = n := by omega
        go_wp2
        go_loop [6, 21] (fun v i => ∃ l : Nat, l ≤ k ∧ i = .int .i64 l ∧ v = .int .i64 (Spl.sm ws l) ∧ 0 ≤ Spl.sm ws l ∧ Spl.sm ws l ≤ 1000000000000) (fun _ i => k - (intOf i).toNat)
        case atStart => exact ⟨0, by omega, rfl, rfl, by simp [Spl.sm], by simp [Spl.sm]⟩
        case round =>
          obtain ⟨l, hl, rfl, rfl, s0, s1⟩ := hrel
          by_cases hlt : l < k
          · obtain ⟨b, o, rfl, hb, _, hc⟩ := HR.out.resolve_left (by omega)
            have ck := hc l hlt
            clear hc
            obtain ⟨w0, w1⟩ := HA.out l hlt
            by_cases ht : Spl.sm ws l + ws l ≤ 1000000000000
            · go_wp2
              go_round
              case rel => exact ⟨l + 1, hlt, by go_num, rfl, by show 0 ≤ Spl.sm ws l + ws l; omega, ht⟩
              case measure => simp [intOf]; omega
            · have HV := Lib.hid (su_big (k := l + 1) hlt HA.out (by show _ < Spl.sm ws l + ws l; omega))
              have ht2 : 1000000000000 < Spl.sm ws l + ws l := by omega
              clear ht
              go_wp2
              go_ret2
              exact ⟨ret_two HV.out.1.symm HV.out.2.symm, rfl⟩
          · obtain rfl : l = k := by omega
            have HV := Lib.hid (su_ok HA.out s1)
            go_wp2
            go_ret2
            exact ⟨ret_two HV.out.1.symm HV.out.2.symm, rfl⟩
  · have HN := Lib.hid hall
    clear hall
    go_enter Try.func43, Try.ntmps43
    go_wp2
    go_loop [11] (fun i => ∃ k : Nat, k ≤ n ∧ i = .int .i64 k ∧ ∀ j, j < k → 0 ≤ ws j ∧ ws j ≤ 1000000000000) (fun i => n - (intOf i).toNat)
    case atStart => exact ⟨0, by omega, rfl, fun j hj => by omega⟩
    case round =>
      obtain ⟨k, hk, rfl, hall⟩ := hrel
      have HA := Lib.hid hall
      clear hall
      by_cases hlt : k < n
      · obtain ⟨b, o, rfl, hb, _, hc⟩ := HR.out.resolve_left (by omega)
        have ck := hc k hlt
        clear hc
        have hv := fun w => Valid_any (ws k) w
        by_cases hw : 0 ≤ ws k ∧ ws k ≤ 1000000000000
        · rw [(amB_iff _).2 hw] at hv
          have HW := Lib.hid hv
          have HB := Lib.hid hw
          clear hv hw
          go_wp2_with (go_at_call 35; ((with_reducible refine (HW.out _).mono ?_); rintro e w' ⟨rfl, rfl⟩))
          go_round
          case rel => exact ⟨k + 1, hlt, by go_num, all_next HA.out HB.out⟩
          case measure => simp [intOf]; omega
        · have HV := Lib.hid (su_bad hlt hw)
          rw [show amB (ws k) = false from decide_eq_false hw] at hv
          have HW := Lib.hid hv
          clear hv hw
          go_wp2_with (go_at_call 35; ((with_reducible refine (HW.out _).mono ?_); rintro e w' ⟨rfl, rfl⟩))
          go_ret2
          exact ⟨ret_two HV.out.1.symm HV.out.2.symm, rfl⟩
      · obtain rfl : k = n := by omega
        exact absurd HA.out HN.out
set_option maxHeartbeats 4000000 in
theorem rSum_any (a : Option Addr) (n cap : Nat) (ws : Nat → Int) (w : World) (hr : IsRow w a n ws) (hn : n ≤ maxLen) :
    Calls Try.prog 44 #[.slice a n cap] w (RetS (.tuple #[.int .i64 (suV n ws), .int .i64 (suE n ws)]) w) := by
  unfold maxLen at hn
  have HR := Lib.hid hr
  clear hr
  by_cases hall : ∀ i, i < n → 0 ≤ ws i ∧ ws i ≤ 1000000000000
  · have HA := Lib.hid hall
    clear hall
    go_enter Try.func44, Try.ntmps44
    go_wp2
    go_loop [4] (fun i => ∃ k : Nat, k ≤ n ∧ i = .int .i64 k) (fun i => n - (intOf i).toNat)
    case atStart => exact ⟨0, by omega, rfl⟩
    case round =>
      obtain ⟨k, hk, rfl⟩ := hrel
      by_cases hlt : k < n
      · obtain ⟨b, o, rfl, hb, _, hc⟩ := HR.out.resolve_left (by omega)
        have ck := hc k hlt
        clear hc
        have hv := fun w => rValid_any (ws k) w
        rw [(amB_iff _).2 (HA.out k hlt)] at hv
        have HW := Lib.hid hv
        clear hv
        go_wp2_with (go_at_call 37; ((with_reducible refine (HW.out _).mono ?_); rintro e w' ⟨rfl, rfl⟩))
        go_round
        case rel => exact ⟨k + 1, hlt, by go_num⟩
        case measure => simp [intOf]; omega
      · obtain rfl : k = n := by omega
        go_wp2
        go_loop [5, 6] (fun v i => ∃ l : Nat, l ≤ k ∧ i = .int .i64 l ∧ v = .int .i64 (Spl.sm ws l) ∧ 0 ≤ Spl.sm ws l ∧ Spl.sm ws l ≤ 1000000000000) (fun _ i => k - (intOf i).toNat)
        case atStart => exact ⟨0, by omega, rfl, rfl, by simp [Spl.sm], by simp [Spl.sm]⟩
        case round =>
          obtain ⟨l, hl, rfl, rfl, s0, s1⟩ := hrel
          by_cases hlt : l < k
          · obtain ⟨b, o, rfl, hb, _, hc⟩ := HR.out.resolve_left (by omega)
            have ck := hc l hlt
            clear hc
            obtain ⟨w0, w1⟩ := HA.out l hlt
            by_cases ht : Spl.sm ws l + ws l ≤ 1000000000000
            · go_wp2
              go_round
              case rel => exact ⟨l + 1, hlt, by go_num, rfl, by show 0 ≤ Spl.sm ws l + ws l; omega, ht⟩
              case measure => simp [intOf]; omega
            · have HV := Lib.hid (su_big (k := l + 1) hlt HA.out (by show _ < Spl.sm ws l + ws l; omega))
              have ht2 : 1000000000000 < Spl.sm ws l + ws l := by omega
              clear ht
              go_wp2
              go_ret2
              exact ⟨ret_two HV.out.1.symm HV.out.2.symm, rfl⟩
          · obtain rfl : l = k := by omega
            have HV := Lib.hid (su_ok HA.out s1)
            go_wp2
            go_ret2
            exact ⟨ret_two HV.out.1.symm HV.out.2.symm, rfl⟩
  · have HN := Lib.hid hall
    clear hall
    go_enter Try.func44, Try.ntmps44
    go_wp2
    go_loop [4] (fun i => ∃ k : Nat, k ≤ n ∧ i = .int .i64 k ∧ ∀ j, j < k → 0 ≤ ws j ∧ ws j ≤ 1000000000000) (fun i => n - (intOf i).toNat)
    case atStart => exact ⟨0, by omega, rfl, fun j hj => by omega⟩
    case round =>
      obtain ⟨k, hk, rfl, hall⟩ := hrel
      have HA := Lib.hid hall
      clear hall
      by_cases hlt : k < n
      · obtain ⟨b, o, rfl, hb, _, hc⟩ := HR.out.resolve_left (by omega)
        have ck := hc k hlt
        clear hc
        have hv := fun w => rValid_any (ws k) w
        by_cases hw : 0 ≤ ws k ∧ ws k ≤ 1000000000000
        · rw [(amB_iff _).2 hw] at hv
          have HW := Lib.hid hv
          have HB := Lib.hid hw
          clear hv hw
          go_wp2_with (go_at_call 37; ((with_reducible refine (HW.out _).mono ?_); rintro e w' ⟨rfl, rfl⟩))
          go_round
          case rel => exact ⟨k + 1, hlt, by go_num, all_next HA.out HB.out⟩
          case measure => simp [intOf]; omega
        · have HV := Lib.hid (su_bad hlt hw)
          rw [show amB (ws k) = false from decide_eq_false hw] at hv
          have HW := Lib.hid hv
          clear hv hw
          go_wp2_with (go_at_call 37; ((with_reducible refine (HW.out _).mono ?_); rintro e w' ⟨rfl, rfl⟩))
          go_ret2
          exact ⟨ret_two HV.out.1.symm HV.out.2.symm, rfl⟩
      · obtain rfl : k = n := by omega
        exact absurd HA.out HN.out
end Go.Proofs.Ytkpmbkkhdhjbnaa
