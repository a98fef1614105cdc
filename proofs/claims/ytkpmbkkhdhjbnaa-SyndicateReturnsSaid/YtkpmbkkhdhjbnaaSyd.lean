/- The search of a share and the check of a syndicate. -/
import Derived.Test.YtkpmbkkhdhjbnaaSyr
import Derived.Test.YtkpmbkkhdhjbnaaSyb
namespace Go.Proofs.Ytkpmbkkhdhjbnaa
open Go.ChangeShapes Go.WideShapes Go.ChangeAt Go.RowKit Go.Lott
open Go.Lott.Syn
theorem has_any (x y m : Int) (bm : Nat) (w : World) (hb : bm < w.heap.size) (hc : w.cell? ⟨bm, 0, none⟩ = some (.int .i64 m)) :
    Calls Try.prog 61 #[.agg #[.int .i64 x, .int .i64 y], .pointer (some ⟨bm, 0, none⟩)] w (RetB (.bool (x == m)) w) := by
  go_enter Try.func61, Try.ntmps61
  go_wp2
  go_ret
  exact ⟨rfl, (Below.refl _ _).alloc (Nat.le_refl _) _⟩
set_option maxHeartbeats 2000000 in
theorem index_any (a : Option Addr) (n cap : Nat) (z : Nat → Nat → Int) (m : Int) (bm : Nat) (w : World) (hr : IsRows 2 w a n z) (hn : n ≤ 1000000) (hb : bm < w.heap.size) (hc : w.cell? ⟨bm, 0, none⟩ = some (.int .i64 m)) :
    Calls Try.prog 60 #[.slice a n cap, .func (.func 61) #[] #[.pointer (some ⟨bm, 0, none⟩)]] w (RetB (.int .i64 (fnd z m n)) w) := by
  have HR := Lib.hid hr
  have HC := Lib.hid hc
  clear hr hc
  go_enter Try.func60, Try.ntmps60
  go_wp2
  go_loopw [9] (fun i wr => ∃ k : Nat, k ≤ n ∧ i = .int .i64 k ∧ (∀ j, j < k → z j 0 ≠ m) ∧ Below w.heap.size w wr) (fun i _ => n - (intOf i).toNat)
  case atStart => exact ⟨0, by omega, rfl, fun j hj => by omega, Below.refl _ _⟩
  case round =>
    obtain ⟨k, hk, rfl, hall, hbel⟩ := hrel
    have HA := Lib.hid hall
    clear hall
    have hbs := hbel.size
    by_cases hlt : k < n
    · obtain ⟨b, o, rfl, hbb, _, hcell⟩ := HR.out.resolve_left (by omega)
      have c0 : wr.cell? ⟨b, o + k * 2, none⟩ = some (.int .i64 (z k 0)) := (hbel.cell (p := ⟨b, _, none⟩) hbb).trans (hcell k 0 hlt (by omega))
      have c1 : wr.cell? ⟨b, o + k * 2 + 1, none⟩ = some (.int .i64 (z k 1)) := (hbel.cell (p := ⟨b, _, none⟩) hbb).trans (hcell k 1 hlt (by omega))
      have cm : wr.cell? ⟨bm, 0, none⟩ = some (.int .i64 m) := (hbel.cell (p := ⟨bm, _, none⟩) hb).trans HC.out
      clear hcell
      have HH := Lib.hid (fun (o : Obj) => has_any (z k 0) (z k 1) m bm (wr.alloc o) (by simp; omega) (by rw [← cm]; exact ((Below.refl _ _).alloc (Nat.le_refl _) _).cell (p := ⟨bm, 0, none⟩) (by show bm < wr.heap.size; omega)))
      by_cases hv : z k 0 = m
      · have HV := Lib.hid (fnd_at hlt hv HA.out)
        have hv1 : (z k 0 == m) = true := by rw [beq_iff_eq]; exact hv
        clear hv cm
        go_wp2_with (go_at_call 61; ((with_reducible refine (HH.out _).mono ?_); rintro e w1 ⟨rfl, hb1⟩; have HB1 := Lib.hid ((hbel.alloc hbs _).trans (hb1.mono (by simp; omega))); clear hb1))
        go_ret
        exact ⟨ret_int HV.out.symm, HB1.out⟩
      · have hv1 : (z k 0 == m) = false := by rw [beq_eq_false_iff_ne]; exact hv
        have HV := Lib.hid hv
        clear hv cm
        go_wp2_with (go_at_call 61; ((with_reducible refine (HH.out _).mono ?_); rintro e w1 ⟨rfl, hb1⟩; have HB1 := Lib.hid ((hbel.alloc hbs _).trans (hb1.mono (by simp; omega))); clear hb1))
        go_roundw
        case rel => exact ⟨k + 1, hlt, by go_num, fun j hj => by
          rcases Nat.lt_or_ge j k with c | c
          · exact HA.out j c
          · obtain rfl : j = k := by omega
            exact HV.out, HB1.out⟩
        case measure => simp [intOf]; omega
    · obtain rfl : k = n := by omega
      have HV := Lib.hid (fnd_no HA.out)
      go_wp2
      go_ret
      exact ⟨ret_int HV.out.symm, hbel⟩
theorem find_any (a : Option Addr) (n cap : Nat) (z : Nat → Nat → Int) (m : Int) (w : World) (hr : IsRows 2 w a n z) (hn : n ≤ 1000000) :
    Calls Try.prog 46 #[.slice a n cap, .int .i64 m] w (RetB (.int .i64 (fnd z m n)) w) := by
  have hb1 : Below w.heap.size w (w.alloc (.cells #[.int .i64 m] 3)) := (Below.refl _ _).alloc (Nat.le_refl _) _
  have HI := Lib.hid (index_any a n cap z m w.heap.size (w.alloc (.cells #[.int .i64 m] 3)) (hr.below hb1 (Nat.le_refl _)) hn (by simp) (by simp))
  clear hr
  go_enter Try.func46, Try.ntmps46
  go_wp2_with (go_at_call 60; ((with_reducible refine (HI.out).mono ?_); rintro e w2 ⟨rfl, hb2⟩; have HB2 := Lib.hid (hb1.trans (hb2.mono (by simp))); clear hb2))
  go_ret
  exact ⟨rfl, HB2.out⟩
set_option maxHeartbeats 2000000 in
theorem rFind_any (a : Option Addr) (n cap : Nat) (z : Nat → Nat → Int) (m : Int) (w : World) (hr : IsRows 2 w a n z) (hn : n ≤ 1000000) :
    Calls Try.prog 33 #[.slice a n cap, .int .i64 m] w (RetS (.int .i64 (fnd z m n)) w) := by
  have HR := Lib.hid hr
  clear hr
  go_enter Try.func33, Try.ntmps33
  go_wp2
  go_loop [5] (fun i => ∃ k : Nat, k ≤ n ∧ i = .int .i64 k ∧ (∀ j, j < k → z j 0 ≠ m)) (fun i => n - (intOf i).toNat)
  case atStart => exact ⟨0, by omega, rfl, fun j hj => by omega⟩
  case round =>
    obtain ⟨k, hk, rfl, hall⟩ := hrel
    have HA := Lib.hid hall
    clear hall
    by_cases hlt : k < n
    · obtain ⟨b, o, rfl, hbb, _, hcell⟩ := HR.out.resolve_left (by omega)
      have c0 : w.cell? ⟨b, o + k * 2, none⟩ = some (.int .i64 (z k 0)) := hcell k 0 hlt (by omega)
      clear hcell
      by_cases hv : z k 0 = m
      · have HV := Lib.hid (fnd_at hlt hv HA.out)
        have hv1 : (z k 0 == m) = true := by rw [beq_iff_eq]; exact hv
        clear hv
        go_wp2
        go_ret
        exact ⟨ret_int HV.out.symm, rfl⟩
      · have hv1 : (z k 0 == m) = false := by rw [beq_eq_false_iff_ne]; exact hv
        have HV := Lib.hid hv
        clear hv
        go_wp2
        go_round
        case rel => exact ⟨k + 1, hlt, by go_num, fun j hj => by
          rcases Nat.lt_or_ge j k with c | c
          · exact HA.out j c
          · obtain rfl : j = k := by omega
            exact HV.out⟩
        case measure => simp [intOf]; omega
    · obtain rfl : k = n := by omega
      have HV := Lib.hid (fnd_no HA.out)
      go_wp2
      go_ret
      exact ⟨ret_int HV.out.symm, rfl⟩
end Go.Proofs.Ytkpmbkkhdhjbnaa
