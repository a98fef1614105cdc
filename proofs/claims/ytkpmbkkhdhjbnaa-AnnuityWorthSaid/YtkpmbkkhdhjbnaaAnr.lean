/- The law AnnuityRests: its walk. -/
import Derived.Test.YtkpmbkkhdhjbnaaAnl
namespace Go.Lott.Spl
theorem sm_head (f : Nat → Int) : ∀ m, sm f (m + 1) = f 0 + sm (fun i => f (1 + i)) m
  | 0 => by simp [sm]
  | m + 1 => by
    have h := sm_head f m
    show sm f (m + 1) + f (m + 1) = f 0 + (sm (fun i => f (1 + i)) m + f (1 + m))
    rw [h, Nat.add_comm 1 m]; omega
/-- The sum from q on. -/
def tl (n : Nat) (ws : Nat → Int) (q : Nat) : Int := sm (fun i => ws (q + i)) (n - q)
theorem tl_next {n q : Nat} {ws : Nat → Int} (h : q < n) : tl n ws q = ws q + tl n ws (q + 1) := by
  unfold tl
  obtain ⟨m, hm⟩ : ∃ m, n - q = m + 1 := ⟨n - q - 1, by omega⟩
  rw [hm, sm_head, show n - (q + 1) = m by omega]
  show ws (q + 0) + sm (fun i => ws (q + (1 + i))) m = _
  rw [Nat.add_zero]
  congr 1
  exact sm_congr fun i _ => by rw [Nat.add_assoc]
theorem tl_end (n : Nat) (ws : Nat → Int) : tl n ws n = 0 := by unfold tl; rw [Nat.sub_self]; rfl
theorem tl_bd {n : Nat} {ws : Nat → Int} (h : ∀ i, i < n → 0 ≤ ws i ∧ ws i ≤ 1000000000000) (hs : sm ws n ≤ 1000000000000) : ∀ q, q ≤ n → 0 ≤ tl n ws q ∧ tl n ws q ≤ 1000000000000
  | 0, _ => by
    have e : tl n ws 0 = sm ws n := by unfold tl; rw [Nat.sub_zero]; exact sm_congr fun i _ => by rw [Nat.zero_add]
    rw [e]; exact ⟨sm_nonneg fun k hk => (h k hk).1, hs⟩
  | q + 1, hq => by
    have h1 := tl_bd h hs q (by omega)
    have h2 := tl_next (ws := ws) (show q < n by omega)
    have h3 := (h q (by omega)).1
    exact ⟨sm_nonneg fun k hk => (h _ (by omega)).1, by omega⟩
theorem le_of {n : Nat} {ws : Nat → Int} (h : leE n ws 0 = 0) : ckE n ws = 0 ∧ (∀ i, i < n → 0 ≤ ws i ∧ ws i ≤ 1000000000000) ∧ sm ws n ≤ 1000000000000 := by
  have hc : ckE n ws = 0 := by
    rcases Classical.em (ckE n ws = 0) with c | c
    · exact c
    · rw [(le_ck c).2] at h; exact h
  obtain ⟨a, b, _⟩ := su_of (ck_of hc).2.2
  exact ⟨hc, a, b⟩
theorem le_tl {n q : Nat} {ws : Nat → Int} (h : leE n ws 0 = 0) (hq : q ≤ n) : leV n ws q = tl n ws q ∧ leE n ws q = 0 := by
  obtain ⟨hc, ha, hs⟩ := le_of h
  obtain ⟨e1, e2⟩ := le_in (q := q) hc hq
  obtain ⟨f1, f2⟩ := su_ok (n := n - q) (ws := fun i => ws (q + i)) (fun i hi => ha _ (by omega)) (tl_bd ha hs q hq).2
  rw [e1, e2]; exact ⟨f1, f2⟩
end Go.Lott.Spl
namespace Go.Proofs.Ytkpmbkkhdhjbnaa
open Go.ChangeShapes Go.WideShapes Go.ChangeAt Go.RowKit Go.Lott
open Go.Lott.Spl
set_option maxRecDepth 100000 in
set_option maxHeartbeats 2000000 in
theorem annuityRests_walk (a : Option Addr) (len cap : Nat) (z : Nat → Int) (W : World) (hz : IsRow W a len z ∧ len ≤ cap) :
    Calls Try.prog 7 #[.slice a len cap] W (RetB (.bool true) W) := by
  have HAW := Lib.hid awake_any
  have HZ := Lib.hid hz
  clear hz
  by_cases hl : 1000 < len
  · have hl' : (1000 : Int) < (len : Int) := by omega
    go_enter Try.func7, Try.ntmps7
    go_wp2_with (go_at_call 17; ((with_reducible refine (HAW.out _).mono ?_); rintro e w4 ⟨rfl, hb4⟩; have HB4 := Lib.hid hb4; clear hb4))
    go_ret
    exact ⟨rfl, HB4.out⟩
  · have hl' : (len : Int) ≤ 1000 := by omega
    have hm : len ≤ maxLen := by unfold maxLen; omega
    have HL := Lib.hid (fun p => Left_any a len cap z p W HZ.out.1 hm HZ.out.2)
    clear hl
    by_cases he : leE len z 0 = 0
    · obtain ⟨hck, hall, hs⟩ := le_of he
      have h0 := HL.out 0
      rw [he, show leV len z 0 = tl len z 0 from (le_tl (q := 0) he (by omega)).1] at h0
      have H0 := Lib.hid h0
      have HA := Lib.hid hall
      have HB := Lib.hid (tl_bd hall hs)
      have HT := Lib.hid (fun q hq => le_tl (q := q) he hq)
      have hend := HL.out ((len : Int) + 1)
      rw [(le_out hck (.inr (by omega))).1, (le_out hck (.inr (by omega))).2] at hend
      have HE := Lib.hid hend
      clear h0 hall hs hend he hck
      have HTE := Lib.hid (tl_end len z)
      go_enter Try.func7, Try.ntmps7
      go_wp2_with (go_at_call 20; ((with_reducible refine (H0.out).mono ?_); rintro e w1 ⟨rfl, rfl⟩))
      go_loopw [3, 24] (fun vl vi wr => ∃ k : Nat, k ≤ len ∧ vi = .int .i64 k ∧ vl = .int .i64 (tl len z k) ∧ wr = W) (fun _ vi _ => len - (intOf vi).toNat)
      case atStart => exact ⟨0, by omega, rfl, rfl, by first | rfl | trivial⟩
      case round =>
        obtain ⟨k, hk, rfl, rfl, rfl⟩ := hrel
        by_cases hlt : k < len
        · obtain ⟨b, o, rfl, hb, _, hc⟩ := HZ.out.1.resolve_left (by omega)
          have ck := hc k hlt
          obtain ⟨t0, t1⟩ := HB.out k hk
          obtain ⟨t2, t3⟩ := HB.out (k + 1) hlt
          obtain ⟨w0, w1⟩ := HA.out k hlt
          have hn := tl_next (ws := z) hlt
          have hL := HL.out ((k : Int) + 1)
          have e1 := (HT.out (k + 1) hlt).1
          have e2 := (HT.out (k + 1) hlt).2
          push_cast at e1 e2
          rw [e1, e2] at hL
          have H1 := Lib.hid hL
          have hd : tl len z k - tl len z (k + 1) = z k := by omega
          have i1 : (0 : Int) ≤ (k : Int) := by omega
          have i2 : (k : Int) < (len : Int) := by omega
          have wk : IntKind.i64.wrap (z k) = z k := IntWalk.i64_in _ (by omega)
          clear hL hn e1 e2 hc
          go_wp2_with (go_at_call 20; ((with_reducible refine (H1.out).mono ?_); rintro e w1 ⟨rfl, rfl⟩))
          go_roundw
          case rel => exact ⟨k + 1, hlt, by go_num, rfl, by trivial⟩
          case measure => simp [intOf]; omega
        · obtain rfl : k = len := by omega
          rw [HTE.out]
          go_wp2_with (first
            | (go_at_call 20; ((with_reducible refine (HE.out).mono ?_); rintro e w1 ⟨rfl, rfl⟩))
            | (go_at_call 17; ((with_reducible refine (HAW.out _).mono ?_); rintro e w4 ⟨rfl, hb4⟩; have HB4 := Lib.hid hb4; clear hb4)))
          go_ret
          exact ⟨rfl, HB4.out⟩
    · have h0 := HL.out 0
      have hne : (leE len z 0 != 0) = true := by rw [bne_iff_ne]; exact he
      have H0 := Lib.hid h0
      clear h0 he
      go_enter Try.func7, Try.ntmps7
      go_wp2_with (first
        | (go_at_call 20; ((with_reducible refine (H0.out).mono ?_); rintro e w1 ⟨rfl, rfl⟩))
        | (go_at_call 17; ((with_reducible refine (HAW.out _).mono ?_); rintro e w4 ⟨rfl, hb4⟩; have HB4 := Lib.hid hb4; clear hb4)))
      go_ret
      exact ⟨rfl, HB4.out⟩
end Go.Proofs.Ytkpmbkkhdhjbnaa
