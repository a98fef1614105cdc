/- The law AnnuityPays: its walk. -/
import Derived.Test.YtkpmbkkhdhjbnaaAnp
import Derived.Test.YtkpmbkkhdhjbnaaAnl
namespace Go.Lott.Spl
theorem wt_le {g : Int} (h : 0 ≤ g) {j : Nat} : ∀ {k : Nat}, j ≤ k → wt g j ≤ wt g k
  | 0, hk => by obtain rfl : j = 0 := by omega
                exact Int.le_refl _
  | k + 1, hk => by
    rcases Nat.eq_or_lt_of_le hk with rfl | hk
    · exact Int.le_refl _
    · have h1 := wt_le h (show j ≤ k by omega)
      have h2 := wt_ge h k
      have : 0 ≤ wt g k * g / 10000 := Int.ediv_nonneg (Int.mul_nonneg (by omega) h) (by omega)
      show _ ≤ wt g k + wt g k * g / 10000
      omega
theorem wt_flat : ∀ k, wt 0 k = 1000000
  | 0 => rfl
  | k + 1 => by show wt 0 k + wt 0 k * 0 / 10000 = _; rw [wt_flat k]; rfl
end Go.Lott.Spl
namespace Go.Proofs.Ytkpmbkkhdhjbnaa
open Go.ChangeShapes Go.WideShapes Go.ChangeAt Go.RowKit Go.Lott
open Go.Lott.Spl
set_option maxRecDepth 100000 in
set_option maxHeartbeats 2000000 in
theorem annuityPays_walk (m y g : Int) (W : World) (_ : (Lit.int .i64 m).wf = true) (_ : (Lit.int .i64 y).wf = true) (_ : (Lit.int .i64 g).wf = true) :
    Calls Try.prog 5 #[.int .i64 m, .int .i64 y, .int .i64 g] W (RetB (.bool true) W) := by
  have HAW := Lib.hid awake_any
  by_cases h : PB m y g
  · obtain ⟨n, rfl⟩ := Int.eq_ofNat_of_zero_le (show 0 ≤ y by have := h.2.1; omega)
    have H1 := Lib.hid (pay_ok h)
    have HK := Lib.hid h.sok
    obtain ⟨⟨m0, m1⟩, n1, n2, g0, g1⟩ := h
    go_enter Try.func5, Try.ntmps5
    go_wp2_with (go_at_call 14; ((with_reducible refine (H1.out _).mono ?_); rintro e w1 ⟨hb1, b1, c1, P, rfl, r1, s1⟩; have HR1 := Lib.hid r1; have HS1 := Lib.hid s1; have HB1 := Lib.hid hb1; clear r1 s1 hb1))
    have hbs1 := HB1.out.size
    have HSUM := Lib.hid (HS1.out.sum HK.out)
    go_loopw [9, 10, 30] (fun vl vt vi wr => ∃ (k : Nat) (T : Int), vi = .int .i64 k ∧ k ≤ n ∧ vl = .int .i64 (m - Spl.sm P k) ∧ vt = .int .i64 T ∧ 0 ≤ T ∧ T ≤ 1000000000000 ∧ (∀ j, k ≤ j → j < n → T ≤ P j + 1) ∧ Below w1.heap.size w1 wr) (fun _ _ vi _ => n - (intOf vi).toNat)
    case atStart => exact ⟨0, 0, rfl, by omega, by simp [Spl.sm], rfl, by omega, by omega, fun j _ hj => by have := HS1.out.nonneg HK.out hj; omega, Below.refl _ _⟩
    case round =>
      obtain ⟨k, T, rfl, hk, rfl, rfl, t0, t1, ht, hbel⟩ := hrel
      by_cases hlt : k < n
      · obtain ⟨b, o, e, hb, _, hc⟩ := HR1.out.resolve_left (by omega)
        injection e with e
        injection e with e1 e2
        subst e1
        subst e2
        have ck := (hbel.cell (p := ⟨b1, _, none⟩) hb).trans (hc k hlt)
        have c0 := (hbel.cell (p := ⟨b1, _, none⟩) hb).trans (hc 0 (by omega))
        rw [Nat.zero_add] at ck
        have p0 := HS1.out.nonneg HK.out hlt
        have p1 := HS1.out.le HK.out hlt
        have p2 := ht k (Nat.le_refl _) hlt
        have HT := Lib.hid ht
        have q0 := sm_nonneg (f := P) (n := k) (fun j hj => HS1.out.nonneg HK.out (by omega))
        have q1 := sm_mono (f := P) (n := n) (fun j hj => HS1.out.nonneg HK.out hj) hk
        rw [HSUM.out] at q1
        have q2 := sm_mono (f := P) (n := n) (fun j hj => HS1.out.nonneg HK.out hj) (show k + 1 ≤ n from hlt)
        rw [HSUM.out] at q2
        have q3 : Spl.sm P (k + 1) = Spl.sm P k + P k := rfl
        rw [q3] at q2
        have HQ := Lib.hid q3
        have HF := Lib.hid (fun (hg : g = 0) => HS1.out.first hlt (by rw [hg, wt_flat, wt_flat]))
        have HN := Lib.hid (fun j (hj : k ≤ j) (hjn : j < n) => HS1.out.apart HK.out hlt hjn (wt_le g0 hj))
        have i1 : (0 : Int) ≤ (k : Int) := by omega
        have i2 : (k : Int) < (n : Int) := by omega
        have i3 : (0 : Int) < (n : Int) := by omega
        have hd : T - P k ≤ 1 := by omega
        clear ht hc q3
        by_cases hg : g = 0
        · have hp0 := HF.out hg
          have hg1 : (g == 0) = true := by rw [beq_iff_eq]; exact hg
          clear hg
          go_wp2
          all_goals
            go_roundw
            case rel => exact ⟨k + 1, max T (P k), by go_num, hlt, by rw [HQ.out]; congr 1; omega, rfl, by omega, by omega, fun j hj hjn => by
              have a1 := HT.out j (by omega) hjn
              have a2 := HN.out j (by omega) hjn
              omega, hbel⟩
            case measure => simp [intOf]; omega
        · have hg1 : (g == 0) = false := by rw [beq_eq_false_iff_ne]; exact hg
          go_wp2
          all_goals
            go_roundw
            case rel => exact ⟨k + 1, max T (P k), by go_num, hlt, by rw [HQ.out]; congr 1; omega, rfl, by omega, by omega, fun j hj hjn => by
              have a1 := HT.out j (by omega) hjn
              have a2 := HN.out j (by omega) hjn
              omega, hbel⟩
            case measure => simp [intOf]; omega
      · obtain rfl : k = n := by omega
        have hz : m - Spl.sm P k = 0 := by rw [HSUM.out]; omega
        rw [hz]
        go_wp2_with (go_at_call 17; ((with_reducible refine (HAW.out _).mono ?_); rintro e w4 ⟨rfl, hb4⟩; have HB4 := Lib.hid hb4; clear hb4))
        go_ret
        have x2 := HB1.out.trans (hbel.mono hbs1)
        exact ⟨rfl, x2.trans (HB4.out.mono x2.size)⟩
  · have H1 := Lib.hid (pay_bad h)
    clear h
    go_enter Try.func5, Try.ntmps5
    go_wp2_with (first
      | (go_at_call 14; ((with_reducible refine (H1.out _).mono ?_); rintro e w1 ⟨rfl, hb1⟩; have HB1 := Lib.hid hb1; clear hb1))
      | (go_at_call 17; ((with_reducible refine (HAW.out _).mono ?_); rintro e w4 ⟨rfl, hb4⟩; have HB4 := Lib.hid hb4; clear hb4)))
    go_ret
    exact ⟨rfl, HB1.out.trans (HB4.out.mono HB1.out.size)⟩
end Go.Proofs.Ytkpmbkkhdhjbnaa
