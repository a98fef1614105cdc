/- Checks of a plan, what is left of it, its cash. -/
import Derived.Test.YtkpmbkkhdhjbnaaAna
namespace Go.Lott.Spl
def ckE (n : Nat) (ws : Nat → Int) : Int := if n < 1 ∨ 40 < n then 3 else suE n ws
def ckV (n : Nat) (ws : Nat → Int) : Int := if n < 1 ∨ 40 < n then 0 else suV n ws
theorem ck_len {n : Nat} {ws : Nat → Int} (h : n < 1 ∨ 40 < n) : ckV n ws = 0 ∧ ckE n ws = 3 := ⟨if_pos h, if_pos h⟩
theorem ck_in {n : Nat} {ws : Nat → Int} (h : 1 ≤ n) (h' : n ≤ 40) : ckV n ws = suV n ws ∧ ckE n ws = suE n ws := ⟨if_neg (by omega), if_neg (by omega)⟩
theorem ck_of {n : Nat} {ws : Nat → Int} (h : ckE n ws = 0) : 1 ≤ n ∧ n ≤ 40 ∧ suE n ws = 0 := by
  unfold ckE at h
  split at h
  · omega
  · exact ⟨by omega, by omega, h⟩
/-- What is left from the place p on. -/
def leE (n : Nat) (ws : Nat → Int) (p : Int) : Int := if ckE n ws ≠ 0 then ckE n ws else if p < 0 ∨ (n : Int) < p then 2 else suE (n - p.toNat) (fun i => ws (p.toNat + i))
def leV (n : Nat) (ws : Nat → Int) (p : Int) : Int := if ckE n ws ≠ 0 then 0 else if p < 0 ∨ (n : Int) < p then 0 else suV (n - p.toNat) (fun i => ws (p.toNat + i))
theorem le_ck {n : Nat} {ws : Nat → Int} {p : Int} (h : ckE n ws ≠ 0) : leV n ws p = 0 ∧ leE n ws p = ckE n ws := ⟨if_pos h, if_pos h⟩
theorem le_out {n : Nat} {ws : Nat → Int} {p : Int} (h : ckE n ws = 0) (h' : p < 0 ∨ (n : Int) < p) : leV n ws p = 0 ∧ leE n ws p = 2 := by
  unfold leV leE; rw [if_neg (by omega), if_pos h', if_neg (by omega), if_pos h']; exact ⟨rfl, rfl⟩
theorem le_in {n q : Nat} {ws : Nat → Int} (h : ckE n ws = 0) (h' : q ≤ n) : leV n ws q = suV (n - q) (fun i => ws (q + i)) ∧ leE n ws q = suE (n - q) (fun i => ws (q + i)) := by
  unfold leV leE; rw [if_neg (by omega), if_neg (by omega), if_neg (by omega), if_neg (by omega)]; exact ⟨rfl, rfl⟩
/-- The worth of the last k payments. -/
def cs (n : Nat) (ws : Nat → Int) (r : Int) : Nat → Int
  | 0 => 0
  | k + 1 => cs n ws r k * 10000 / (10000 + r) + ws (n - 1 - k)
theorem quo_le {v r : Int} (h : 0 ≤ v) (h0 : 0 ≤ r) : 0 ≤ v * 10000 / (10000 + r) ∧ v * 10000 / (10000 + r) ≤ v := by
  refine ⟨Int.ediv_nonneg (by omega) (by omega), ?_⟩
  apply Int.ediv_le_of_le_mul (by omega)
  have : 0 ≤ v * r := Int.mul_nonneg h h0
  have e : v * (10000 + r) = v * 10000 + v * r := Int.mul_add v 10000 r
  omega
theorem cs_bd {n : Nat} {ws : Nat → Int} {r : Int} (h0 : 0 ≤ r) (h : ∀ i, i < n → 0 ≤ ws i ∧ ws i ≤ 1000000000000) : ∀ k, k ≤ n → 0 ≤ cs n ws r k ∧ cs n ws r k ≤ 1000000000000 * (k : Int)
  | 0, _ => by simp [cs]
  | k + 1, hk => by
    obtain ⟨h1, h2⟩ := cs_bd h0 h k (by omega)
    obtain ⟨h3, h4⟩ := quo_le h1 h0
    obtain ⟨h5, h6⟩ := h (n - 1 - k) (by omega)
    show 0 ≤ _ / _ + _ ∧ _ / _ + _ ≤ _
    push_cast
    omega
def caE (n : Nat) (ws : Nat → Int) (r : Int) : Int := if ckE n ws ≠ 0 then ckE n ws else if r < 0 ∨ 10000 < r then 2 else 0
def caV (n : Nat) (ws : Nat → Int) (r : Int) : Int := if ckE n ws ≠ 0 then 0 else if r < 0 ∨ 10000 < r then 0 else cs n ws r n
theorem ca_ck {n : Nat} {ws : Nat → Int} {p : Int} (h : ckE n ws ≠ 0) : caV n ws p = 0 ∧ caE n ws p = ckE n ws := ⟨if_pos h, if_pos h⟩
theorem ca_out {n : Nat} {ws : Nat → Int} {p : Int} (h : ckE n ws = 0) (h' : p < 0 ∨ 10000 < p) : caV n ws p = 0 ∧ caE n ws p = 2 := by
  unfold caV caE; rw [if_neg (by omega), if_pos h', if_neg (by omega), if_pos h']; exact ⟨rfl, rfl⟩
theorem ca_in {n : Nat} {ws : Nat → Int} {p : Int} (h : ckE n ws = 0) (h1 : 0 ≤ p) (h2 : p ≤ 10000) : caV n ws p = cs n ws p n ∧ caE n ws p = 0 := by
  unfold caV caE; rw [if_neg (by omega), if_neg (by omega), if_neg (by omega), if_neg (by omega)]; exact ⟨rfl, rfl⟩
end Go.Lott.Spl
namespace Go.Proofs.Ytkpmbkkhdhjbnaa
open Go.ChangeShapes Go.WideShapes Go.ChangeAt Go.RowKit Go.Lott
open Go.Lott.Spl
theorem isRow_tail {w : World} {b o n : Nat} {ws : Nat → Int} (h : IsRow w (some ⟨b, o, none⟩) n ws) {q : Nat} (hq : q ≤ n) : IsRow w (some ⟨b, o + q, none⟩) (n - q) (fun i => ws (q + i)) := by
  by_cases hz : n - q = 0
  · exact .inl hz
  · rcases h with h | ⟨b', o', e, h1, h2, h3⟩
    · omega
    · injection e with e; injection e with e1 e2
      subst e1; subst e2
      exact .inr ⟨b, o + q, rfl, h1, by omega, fun i hi => by rw [Nat.add_assoc]; exact h3 (q + i) (by omega)⟩
set_option maxHeartbeats 2000000 in
theorem aCheck_any (a : Option Addr) (n cap : Nat) (ws : Nat → Int) (w : World) (hr : IsRow w a n ws) (hn : n ≤ maxLen) :
    Calls Try.prog 40 #[.slice a n cap] w (RetS (.tuple #[.int .i64 (ckV n ws), .int .i64 (ckE n ws)]) w) := by
  unfold maxLen at hn
  by_cases h0 : n < 1
  · have HV := Lib.hid (ck_len (ws := ws) (.inl h0))
    obtain rfl : n = 0 := by omega
    go_enter Try.func40, Try.ntmps40
    go_wp2
    go_ret2
    exact ⟨ret_two HV.out.1.symm HV.out.2.symm, rfl⟩
  · by_cases h4 : 40 < n
    · have HV := Lib.hid (ck_len (ws := ws) (.inr h4))
      have i1 : (1 : Int) ≤ (n : Int) := by omega
      have i2 : (40 : Int) < (n : Int) := by omega
      clear h0 h4
      go_enter Try.func40, Try.ntmps40
      go_wp2
      go_ret2
      exact ⟨ret_two HV.out.1.symm HV.out.2.symm, rfl⟩
    · have HV := Lib.hid (ck_in (ws := ws) (show 1 ≤ n by omega) (by omega))
      have i1 : (1 : Int) ≤ (n : Int) := by omega
      have i2 : (n : Int) ≤ 40 := by omega
      have HS := Lib.hid (Sum_any a n cap ws w hr (by unfold maxLen; omega))
      clear h0 h4
      go_enter Try.func40, Try.ntmps40
      go_wp2_with (go_at_call 43; ((with_reducible refine (HS.out).mono ?_); rintro e w' ⟨rfl, rfl⟩))
      go_ret2
      exact ⟨ret_two HV.out.1.symm HV.out.2.symm, rfl⟩
set_option maxHeartbeats 2000000 in
theorem raCheck_any (a : Option Addr) (n cap : Nat) (ws : Nat → Int) (w : World) (hr : IsRow w a n ws) (hn : n ≤ maxLen) :
    Calls Try.prog 42 #[.slice a n cap] w (RetS (.int .i64 (ckE n ws)) w) := by
  unfold maxLen at hn
  by_cases h0 : n < 1
  · have HV := Lib.hid (ck_len (ws := ws) (.inl h0))
    obtain rfl : n = 0 := by omega
    go_enter Try.func42, Try.ntmps42
    go_wp2
    go_ret
    exact ⟨(by rw [HV.out.2]; rfl), rfl⟩
  · by_cases h4 : 40 < n
    · have HV := Lib.hid (ck_len (ws := ws) (.inr h4))
      have i1 : (1 : Int) ≤ (n : Int) := by omega
      have i2 : (40 : Int) < (n : Int) := by omega
      clear h0 h4
      go_enter Try.func42, Try.ntmps42
      go_wp2
      go_ret
      exact ⟨(by rw [HV.out.2]; rfl), rfl⟩
    · have HV := Lib.hid (ck_in (ws := ws) (show 1 ≤ n by omega) (by omega))
      have i1 : (1 : Int) ≤ (n : Int) := by omega
      have i2 : (n : Int) ≤ 40 := by omega
      have HS := Lib.hid (rSum_any a n cap ws w hr (by unfold maxLen; omega))
      clear h0 h4
      go_enter Try.func42, Try.ntmps42
      go_wp2_with (go_at_call 44; ((with_reducible refine (HS.out).mono ?_); rintro e w' ⟨rfl, rfl⟩))
      go_ret
      exact ⟨(by rw [HV.out.2]; rfl), rfl⟩
set_option maxHeartbeats 2000000 in
theorem Left_any (a : Option Addr) (n cap : Nat) (ws : Nat → Int) (p : Int) (w : World) (hr : IsRow w a n ws) (hn : n ≤ maxLen) (hcap : n ≤ cap) :
    Calls Try.prog 20 #[.slice a n cap, .int .i64 p] w (RetS (.tuple #[.int .i64 (leV n ws p), .int .i64 (leE n ws p)]) w) := by
  have hc := aCheck_any a n cap ws w hr hn
  by_cases hk : ckE n ws = 0
  · rw [hk] at hc
    have HK := Lib.hid hk
    have HC := Lib.hid hc
    obtain ⟨n1, n2, _⟩ := ck_of hk
    clear hk hc
    by_cases hp0 : p < 0
    · have HV := Lib.hid (le_out (p := p) HK.out (.inl hp0))
      go_enter Try.func20, Try.ntmps20
      go_wp2_with (go_at_call 40; ((with_reducible refine (HC.out).mono ?_); rintro e w' ⟨rfl, rfl⟩))
      go_ret2
      exact ⟨ret_two HV.out.1.symm HV.out.2.symm, rfl⟩
    · by_cases hp1 : (n : Int) < p
      · have HV := Lib.hid (le_out (p := p) HK.out (.inr hp1))
        have hp2 : 0 ≤ p := by omega
        clear hp0
        go_enter Try.func20, Try.ntmps20
        go_wp2_with (go_at_call 40; ((with_reducible refine (HC.out).mono ?_); rintro e w' ⟨rfl, rfl⟩))
        go_ret2
        exact ⟨ret_two HV.out.1.symm HV.out.2.symm, rfl⟩
      · obtain ⟨q, rfl⟩ := Int.eq_ofNat_of_zero_le (show 0 ≤ p by omega)
        obtain ⟨b, o, rfl, _⟩ := hr.resolve_left (by omega)
        have HV := Lib.hid (le_in (q := q) HK.out (by omega))
        have hqn : q ≤ n := by omega
        have HS := Lib.hid (Sum_any (if cap = q then some ⟨b, o, none⟩ else some ⟨b, o + q, none⟩) (n - q) (cap - q) (fun i => ws (q + i)) w (by
          by_cases hz : n - q = 0
          · exact .inl hz
          · rw [if_neg (by omega)]; exact isRow_tail hr hqn) (Nat.le_trans (Nat.sub_le n q) hn))
        have i0 : (0 : Int) ≤ (q : Int) := by omega
        have i1 : (q : Int) ≤ (n : Int) := by omega
        have i2 : (q : Int) ≤ (cap : Int) := by omega
        have i3 : q ≤ n := by omega
        clear hp0 hp1 hr
        go_enter Try.func20, Try.ntmps20
        go_wp2_with (first
          | (go_at_call 40; ((with_reducible refine (HC.out).mono ?_); rintro e w' ⟨rfl, rfl⟩))
          | (go_at_call 43; ((with_reducible refine (HS.out).mono ?_); rintro e w' ⟨rfl, rfl⟩)))
        all_goals
          go_ret2
          exact ⟨ret_two HV.out.1.symm HV.out.2.symm, rfl⟩
  · have HV := Lib.hid (le_ck (p := p) hk)
    have HC := Lib.hid hc
    have hk1 : (ckE n ws != 0) = true := by rw [bne_iff_ne]; exact hk
    clear hc hk
    go_enter Try.func20, Try.ntmps20
    go_wp2_with (go_at_call 40; ((with_reducible refine (HC.out).mono ?_); rintro e w' ⟨rfl, rfl⟩))
    go_ret2
    exact ⟨ret_two HV.out.1.symm HV.out.2.symm, rfl⟩
set_option maxHeartbeats 2000000 in
theorem rLeft_any (a : Option Addr) (n cap : Nat) (ws : Nat → Int) (p : Int) (w : World) (hr : IsRow w a n ws) (hn : n ≤ maxLen) (hcap : n ≤ cap) :
    Calls Try.prog 21 #[.slice a n cap, .int .i64 p] w (RetS (.tuple #[.int .i64 (leV n ws p), .int .i64 (leE n ws p)]) w) := by
  have hc := raCheck_any a n cap ws w hr hn
  by_cases hk : ckE n ws = 0
  · rw [hk] at hc
    have HK := Lib.hid hk
    have HC := Lib.hid hc
    obtain ⟨n1, n2, _⟩ := ck_of hk
    clear hk hc
    by_cases hp0 : p < 0
    · have HV := Lib.hid (le_out (p := p) HK.out (.inl hp0))
      go_enter Try.func21, Try.ntmps21
      go_wp2_with (go_at_call 42; ((with_reducible refine (HC.out).mono ?_); rintro e w' ⟨rfl, rfl⟩))
      go_ret2
      exact ⟨ret_two HV.out.1.symm HV.out.2.symm, rfl⟩
    · by_cases hp1 : (n : Int) < p
      · have HV := Lib.hid (le_out (p := p) HK.out (.inr hp1))
        have hp2 : 0 ≤ p := by omega
        clear hp0
        go_enter Try.func21, Try.ntmps21
        go_wp2_with (go_at_call 42; ((with_reducible refine (HC.out).mono ?_); rintro e w' ⟨rfl, rfl⟩))
        go_ret2
        exact ⟨ret_two HV.out.1.symm HV.out.2.symm, rfl⟩
      · obtain ⟨q, rfl⟩ := Int.eq_ofNat_of_zero_le (show 0 ≤ p by omega)
        obtain ⟨b, o, rfl, _⟩ := hr.resolve_left (by omega)
        have HV := Lib.hid (le_in (q := q) HK.out (by omega))
        have hqn : q ≤ n := by omega
        have HS := Lib.hid (rSum_any (if cap = q then some ⟨b, o, none⟩ else some ⟨b, o + q, none⟩) (n - q) (cap - q) (fun i => ws (q + i)) w (by
          by_cases hz : n - q = 0
          · exact .inl hz
          · rw [if_neg (by omega)]; exact isRow_tail hr hqn) (Nat.le_trans (Nat.sub_le n q) hn))
        have i0 : (0 : Int) ≤ (q : Int) := by omega
        have i1 : (q : Int) ≤ (n : Int) := by omega
        have i2 : (q : Int) ≤ (cap : Int) := by omega
        have i3 : q ≤ n := by omega
        clear hp0 hp1 hr
        go_enter Try.func21, Try.ntmps21
        go_wp2_with (first
          | (go_at_call 42; ((with_reducible refine (HC.out).mono ?_); rintro e w' ⟨rfl, rfl⟩))
          | (go_at_call 44; ((with_reducible refine (HS.out).mono ?_); rintro e w' ⟨rfl, rfl⟩)))
        all_goals
          go_ret2
          exact ⟨ret_two HV.out.1.symm HV.out.2.symm, rfl⟩
  · have HV := Lib.hid (le_ck (p := p) hk)
    have HC := Lib.hid hc
    have hk1 : (ckE n ws != 0) = true := by rw [bne_iff_ne]; exact hk
    clear hc hk
    go_enter Try.func21, Try.ntmps21
    go_wp2_with (go_at_call 42; ((with_reducible refine (HC.out).mono ?_); rintro e w' ⟨rfl, rfl⟩))
    go_ret2
    exact ⟨ret_two HV.out.1.symm HV.out.2.symm, rfl⟩
end Go.Proofs.Ytkpmbkkhdhjbnaa
