/- What was spent in a period: package limit and its reference compute the same plain sums. -/
import Derived.Test.YtainelkenkgppaaDoorCald
import Derived.Test.YtainelkenkgppaaDoorKitb
import Derived.Test.YtainelkenkgppaaDoorIr
namespace Go.Proofs.YtainelkenkgppaaDoor
open Go.ChangeShapes Go.WideShapes Go.ChangeAt Go.RowKit Go.Lott

/-- Does a purchase count in the period from f to t? -/
def cnt (f t a m : Int) : Bool := decide (f ≤ a ∧ a ≤ t ∧ -1000000000000 ≤ m ∧ m ≤ 1000000000000)
def sm (z : Nat → Nat → Int) (f t : Int) : Nat → Int
  | 0 => 0
  | k + 1 => sm z f t k + if cnt f t (z k 0) (z k 1) then z k 1 else 0
theorem sm_bd (z : Nat → Nat → Int) (f t : Int) : ∀ k : Nat, -1000000000000 * (k : Int) ≤ sm z f t k ∧ sm z f t k ≤ 1000000000000 * (k : Int)
  | 0 => by simp [sm]
  | k + 1 => by
    have ih := sm_bd z f t k
    unfold sm
    by_cases h : cnt f t (z k 0) (z k 1) = true
    · rw [if_pos h]; simp [cnt] at h; omega
    · rw [if_neg h]; omega
def clamp (n : Int) : Int := if n < 0 then 0 else if 1000000000000 < n then 1000000000000 else n
def vald (a m : Int) : Bool := decide ((0 ≤ a ∧ a ≤ 1073741824) ∧ -1000000000000 ≤ m ∧ m ≤ 1000000000000)

theorem lIsTime_any (n : Int) (w : World) : Calls Tryd.prog 29 #[.int .i64 n] w (RetS (.bool (isT n)) w) := by
  by_cases h : 0 ≤ n
  · go_enter Tryd.func29, Tryd.ntmps29
    go_wp2
    go_ret
    exact ⟨ret_bool (by simp [isT, h]), rfl⟩
  · go_enter Tryd.func29, Tryd.ntmps29
    go_wp2
    go_ret
    exact ⟨ret_bool (by rw [isT, decide_eq_false (by omega)]), rfl⟩
theorem r21IsTime_any (n : Int) (w : World) : Calls Tryd.prog 39 #[.int .i64 n] w (RetS (.bool (isT n)) w) := by
  by_cases h : 0 ≤ n
  · go_enter Tryd.func39, Tryd.ntmps39
    go_wp2
    go_ret
    exact ⟨ret_bool (by simp [isT, h]), rfl⟩
  · go_enter Tryd.func39, Tryd.ntmps39
    go_wp2
    go_ret
    exact ⟨ret_bool (by rw [isT, decide_eq_false (by omega)]), rfl⟩
theorem valid_any (a m : Int) (w : World) : Calls Tryd.prog 33 #[.agg #[.int .i64 a, .int .i64 m]] w (RetB (.bool (vald a m)) w) := by
  go_enter Tryd.func33, Tryd.ntmps33
  go_wp2_with (go_at_call 29; refine (lIsTime_any _ _).mono ?_; rintro e w' ⟨rfl, rfl⟩)
  all_goals
    go_ret
    refine ⟨ret_bool ?_, (Below.refl _ _).alloc (Nat.le_refl _) _⟩
    rw [Bool.eq_iff_iff]
    simp_all [vald, isT]
    try omega
theorem perF_0 (t k : Int) : 0 ≤ perF t k := by
  unfold perF
  split
  · split <;> omega
  · omega
theorem perL_m (t k : Int) : perL t k ≤ 1073741824 := by
  unfold perL
  split
  · split <;> omega
  · omega
theorem sm_yes {z : Nat → Nat → Int} {f t : Int} {k : Nat} (h : cnt f t (z k 0) (z k 1) = true) : sm z f t (k + 1) = sm z f t k + z k 1 := by
  show sm z f t k + (if cnt f t (z k 0) (z k 1) then z k 1 else 0) = _
  rw [if_pos h]
theorem sm_no {z : Nat → Nat → Int} {f t : Int} {k : Nat} (h : ¬ cnt f t (z k 0) (z k 1) = true) : sm z f t (k + 1) = sm z f t k := by
  show sm z f t k + (if cnt f t (z k 0) (z k 1) then z k 1 else 0) = _
  rw [if_neg h]; omega
theorem clamp_ways {n : Int} : (n < 0 ∧ clamp n = 0) ∨ (0 ≤ n ∧ 1000000000000 < n ∧ clamp n = 1000000000000) ∨ (0 ≤ n ∧ n ≤ 1000000000000 ∧ clamp n = n) := by
  unfold clamp; split
  · exact .inl ⟨by omega, rfl⟩
  · split
    · exact .inr (.inl ⟨by omega, by omega, rfl⟩)
    · exact .inr (.inr ⟨by omega, by omega, rfl⟩)
set_option maxHeartbeats 2000000 in
theorem Spent1_any (kind t : Int) (a : Option Addr) (len cap : Nat) (z : Nat → Nat → Int) (bt bh : Nat) (w : World) (ht : Tab w) (hk1 : 1 ≤ kind) (hk2 : kind ≤ 3) (ht0 : isT t = true) (hlen : len ≤ 300)
    (hct : w.cell? ⟨bt, 0, none⟩ = some (.int .i64 t)) (hch : w.cell? ⟨bh, 0, none⟩ = some (.slice a len cap)) (hr : IsRows 2 w a len z) :
    Calls Tryd.prog 31 #[.int .i64 kind, .pointer (some ⟨bt, 0, none⟩), .pointer (some ⟨bh, 0, none⟩)] w (RetB (.int .i64 (clamp (sm z (perF t kind) (perL t kind) len))) w) := by
  have HT := Lib.hid ht
  have HR := Lib.hid hr
  have he := perE_yes ht0 hk1 hk2
  clear ht hr
  go_enter Tryd.func31, Tryd.ntmps31
  go_wp2_with (go_at_call 32; refine (Period_any _ _ _ HT.out).mono ?_; rintro e w' ⟨rfl, rfl⟩)
  go_loopw [8, 22] (fun v i wr => ∃ k : Nat, k ≤ len ∧ i = .int .i64 k ∧ v = .int .i64 (sm z (perF t kind) (perL t kind) k) ∧ Below w.heap.size w wr) (fun _ i _ => len - (intOf i).toNat)
  case atStart => exact ⟨0, by omega, by simp, rfl, Below.refl _ _⟩
  case round =>
    obtain ⟨k, hk, rfl, rfl, hbel⟩ := hrel
    by_cases hlt : k < len
    · rcases HR.out with h0 | ⟨b, o, ha, hb, hm, hcell⟩
      · omega
      · subst ha
        have c0 : wr.cell? ⟨b, o + k * 2, none⟩ = some (.int .i64 (z k 0)) := (hbel.cell (p := ⟨b, _, none⟩) hb).trans (hcell k 0 hlt (by omega))
        have c1 : wr.cell? ⟨b, o + k * 2 + 1, none⟩ = some (.int .i64 (z k 1)) := (hbel.cell (p := ⟨b, _, none⟩) hb).trans (hcell k 1 hlt (by omega))
        clear hcell
        have sb := sm_bd z (perF t kind) (perL t kind) k
        have pf := perF_0 t kind
        have pl := perL_m t kind
        by_cases hc : cnt (perF t kind) (perL t kind) (z k 0) (z k 1) = true
        · have HS := Lib.hid (sm_yes hc)
          have hv : vald (z k 0) (z k 1) = true := by simp [cnt] at hc; simp [vald]; omega
          obtain ⟨g1, g2, g3, g4⟩ : perF t kind ≤ z k 0 ∧ z k 0 ≤ perL t kind ∧ -1000000000000 ≤ z k 1 ∧ z k 1 ≤ 1000000000000 := by simpa [cnt] using hc
          clear hc
          go_wp2_with (go_at_call 33; refine (valid_any _ _ _).mono ?_; rintro e w1 ⟨rfl, hb1⟩; obtain ⟨hcl, hfz⟩ := bcell hb1)
          go_roundw
          case rel => exact ⟨k + 1, by omega, by go_num, by rw [HS.out], (hbel.alloc hbel.size _).trans (hb1.mono (by have := hbel.size; simp; omega))⟩
          case measure => simp [intOf]; omega
        · have HS := Lib.hid (sm_no hc)
          by_cases hv : vald (z k 0) (z k 1) = true
          · have hv2 : (0 ≤ z k 0 ∧ z k 0 ≤ 1073741824) ∧ -1000000000000 ≤ z k 1 ∧ z k 1 ≤ 1000000000000 := by simpa [vald] using hv
            obtain ⟨_, v3, v4⟩ := hv2
            by_cases g1 : perF t kind ≤ z k 0
            · have g2 : perL t kind < z k 0 := by simp [cnt] at hc; omega
              clear hc
              go_wp2_with (go_at_call 33; refine (valid_any _ _ _).mono ?_; rintro e w1 ⟨rfl, hb1⟩; obtain ⟨hcl, hfz⟩ := bcell hb1)
              go_roundw
              case rel => exact ⟨k + 1, by omega, by go_num, by rw [HS.out], (hbel.alloc hbel.size _).trans (hb1.mono (by have := hbel.size; simp; omega))⟩
              case measure => simp [intOf]; omega
            · have g1' : z k 0 < perF t kind := by omega
              clear hc g1
              go_wp2_with (go_at_call 33; refine (valid_any _ _ _).mono ?_; rintro e w1 ⟨rfl, hb1⟩; obtain ⟨hcl, hfz⟩ := bcell hb1)
              go_roundw
              case rel => exact ⟨k + 1, by omega, by go_num, by rw [HS.out], (hbel.alloc hbel.size _).trans (hb1.mono (by have := hbel.size; simp; omega))⟩
              case measure => simp [intOf]; omega
          · have hv' : vald (z k 0) (z k 1) = false := by simpa using hv
            clear hc hv
            go_wp2_with (go_at_call 33; refine (valid_any _ _ _).mono ?_; rintro e w1 ⟨rfl, hb1⟩; obtain ⟨hcl, hfz⟩ := bcell hb1)
            go_roundw
            case rel => exact ⟨k + 1, by omega, by go_num, by rw [HS.out], (hbel.alloc hbel.size _).trans (hb1.mono (by have := hbel.size; simp; omega))⟩
            case measure => simp [intOf]; omega
    · obtain rfl : k = len := by omega
      have hcw := clamp_ways (n := sm z (perF t kind) (perL t kind) k)
      rcases hcw with ⟨h1, h2⟩ | ⟨h1, h2, h3⟩ | ⟨h1, h2, h3⟩
      · have HC := Lib.hid h2; clear h2
        go_wp2
        go_ret
        exact ⟨ret_int HC.out.symm, hbel⟩
      · have HC := Lib.hid h3; clear h3
        go_wp2
        go_ret
        exact ⟨ret_int HC.out.symm, hbel⟩
      · have HC := Lib.hid h3; clear h3
        go_wp2
        go_ret
        exact ⟨ret_int HC.out.symm, hbel⟩
end Go.Proofs.YtainelkenkgppaaDoor
