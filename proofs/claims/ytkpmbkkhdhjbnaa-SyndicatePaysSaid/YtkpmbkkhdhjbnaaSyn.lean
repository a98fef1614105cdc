/- The law SyndicatePays: its walk. -/
import Derived.Test.YtkpmbkkhdhjbnaaSym
import Derived.Test.YtkpmbkkhdhjbnaaSpx
namespace Go.Proofs.Ytkpmbkkhdhjbnaa
open Go.ChangeShapes Go.WideShapes Go.ChangeAt Go.RowKit Go.Lott
open Go.Lott.Syn Go.Lott.Spl
set_option maxHeartbeats 4000000 in
set_option maxRecDepth 100000 in
theorem syndicatePays_walk (a : Option Addr) (n cap : Nat) (z : Nat → Nat → Int) (m : Int) (W : World) (hz : IsRows 2 W a n z ∧ n ≤ cap) (_ : (Lit.int .i64 m).wf = true) :
    Calls Try.prog 11 #[.slice a n cap, .int .i64 m] W (RetB (.bool true) W) := by
  obtain ⟨hr, hcap⟩ := hz
  have HR := Lib.hid hr
  have HB0 := Lib.hid (Below.refl W.heap.size W)
  clear hr
  by_cases hl : 1000 < n
  · have hl' : (1000 : Int) < (n : Int) := by omega
    clear hl
    go_enter Try.func11, Try.ntmps11
    go_wp2_with (go_at_call 22; ((with_reducible refine (sawake_any _).mono ?_); rintro e w9 ⟨rfl, hb9⟩; have HB9 := Lib.hid ((HB0.out).trans (hb9.mono (HB0.out).size)); clear hb9))
    go_ret
    exact ⟨rfl, HB9.out⟩
  · have hl' : (n : Int) ≤ 1000 := by omega
    have hn : n ≤ 1000000 := by omega
    clear hl
    by_cases hv : dvE m n z = 0
    · have H2 := Lib.hid (sp_ok hv (fun w hr => sPay_any m a n cap z w hr hn hcap))
      obtain ⟨hvl, hk⟩ := dv_of hv
      have HVL := Lib.hid hvl
      have HK := Lib.hid hk
      have m0 := hk.m0
      have m1 := hk.m1
      have n1 := hvl.n1
      have n2 := hvl.n2
      obtain ⟨b, o, rfl, hbb, _, hcell⟩ := HR.out.resolve_left (by omega)
      have HCL := Lib.hid hcell
      clear hv hvl hk hcell
      go_enter Try.func11, Try.ntmps11
      go_wp2_with (go_at_call 24; ((with_reducible refine (H2.out _ HR.out).mono ?_); rintro e w1 ⟨hb1, b1, c1, P, rfl, r1, s1⟩; have HR1 := Lib.hid r1; have HS1 := Lib.hid s1; have HB1 := Lib.hid hb1; clear r1 s1 hb1))
      have hsz1 := HB1.out.size
      go_loop [7, 34] (fun vp vi => ∃ k : Nat, k ≤ n ∧ vi = .int .i64 k ∧ vp = .int .i64 (Spl.sm (ptW z) k)) (fun _ vi => n - (intOf vi).toNat)
      case atStart => exact ⟨0, by omega, rfl, rfl⟩
      case round =>
        obtain ⟨k, hk, rfl, rfl⟩ := hrel
        by_cases hlt : k < n
        · have c1 : w1.cell? ⟨b, o + k * 2 + 1, none⟩ = some (.int .i64 (z k 1)) := (HB1.out.cell (p := ⟨b, _, none⟩) hbb).trans (HCL.out k 1 hlt (by omega))
          obtain ⟨_, v1, v2⟩ := HVL.out.rng k hlt
          have k1 : (0 : Int) ≤ (k : Int) := by omega
          have k2 : (k : Int) < (n : Int) := by omega
          have s0 : 0 ≤ Spl.sm (ptW z) k := sm_nonneg (fun j hj => (HK.out.wv j (by omega)).1)
          have s1 : Spl.sm (ptW z) k ≤ 64000000000000 := by
            have h1 := sm_mono (f := ptW z) (fun j hj => (HK.out.wv j hj).1) hk
            have h2 := HK.out.tle; omega
          have HN := Lib.hid (show Spl.sm (ptW z) (k + 1) = Spl.sm (ptW z) k + z k 1 from rfl)
          go_wp2
          go_round
          case rel => exact ⟨k + 1, hlt, by go_num, by rw [HN.out]⟩
          case measure => simp [intOf]; omega
        · obtain rfl : k = n := by omega
          go_wp2
          go_loopw [9, 62] (fun vl vi wr => ∃ j : Nat, j ≤ k ∧ vi = .int .i64 j ∧ vl = .int .i64 (m - Spl.sm P j) ∧ Below w1.heap.size w1 wr) (fun _ vi _ => k - (intOf vi).toNat)
          case atStart => exact ⟨0, by omega, rfl, by simp [Spl.sm], Below.refl _ _⟩
          case round =>
            obtain ⟨j, hj, rfl, rfl, hbel⟩ := hrel
            have hbs := hbel.size
            by_cases hjk : j < k
            · have cz : wr.cell? ⟨b, o + j * 2 + 1, none⟩ = some (.int .i64 (ptW z j)) := (hbel.cell (p := ⟨b, _, none⟩) (by show b < w1.heap.size; omega)).trans ((HB1.out.cell (p := ⟨b, _, none⟩) hbb).trans (HCL.out j 1 hjk (by omega)))
              obtain ⟨b', o', ea, hb', _, hc'⟩ := HR1.out.resolve_left (by omega)
              injection ea with ea
              injection ea with e1 e2
              subst e1
              subst e2
              have cp := hc' j hjk
              rw [Nat.zero_add] at cp
              obtain ⟨q0, q1, r0, r1, _⟩ := HK.out.q hjk
              obtain ⟨wj0, wj1⟩ := HK.out.wv j hjk
              have ht := HK.out.tle
              have htl := HK.out.t1
              obtain ⟨p0, p1⟩ := HS1.out.pos HK.out hjk
              have hx := HS1.out.exact HK.out hjk
              have hs0 := sm_nonneg (f := P) (n := j) (fun i hi => (HS1.out.pos HK.out (show i < k by omega)).1)
              have hs1 := sm_mono (f := P) (n := k) (fun i hi => (HS1.out.pos HK.out hi).1) hj
              rw [HS1.out.total HK.out] at hs1
              have HN := Lib.hid (show Spl.sm P (j + 1) = Spl.sm P j + P j from rfl)
              have hmd := fun w => rMulDiv_any m (ptW z j) (Spl.sm (ptW z) k) w (by omega) (by omega) (by omega) (by omega) (by omega) (by omega)
              obtain ⟨x1, x2, x3⟩ := md_fine (a := m) (b := ptW z j) (c := Spl.sm (ptW z) k) ⟨m0, wj0, htl⟩ (show m * ptW z j / Spl.sm (ptW z) k ≤ _ from (by have : m * ptW z j / Spl.sm (ptW z) k ≤ m := q1; omega))
              unfold mdV at hmd
              rw [← x1, ← x2, ← x3] at hmd
              have HMD : Hid (∀ w, Calls Try.prog 32 #[.int .i64 m, .int .i64 (ptW z j), .int .i64 (Spl.sm (ptW z) k)] w (RetB (.tuple #[.int .i64 (qv m (Spl.sm (ptW z) k) (ptW z) j), .int .i64 (rv m (Spl.sm (ptW z) k) (ptW z) j), .int .i64 0]) w)) := Lib.hid (fun w => toB (hmd w))
              clear hmd x1 x2 x3 hc'
              have HCP := Lib.hid cp
              clear cp
              generalize qv m (Spl.sm (ptW z) k) (ptW z) j = q at *
              generalize rv m (Spl.sm (ptW z) k) (ptW z) j = r at *
              have j1 : (0 : Int) ≤ (j : Int) := by omega
              have j2 : (j : Int) < (k : Int) := by omega
              by_cases hpq : P j = q
              · have t1 : (P j != q) = false := by rw [bne_eq_false_iff_eq]; exact hpq
                clear hx hpq
                go_wp2_with (go_at_call 32; ((with_reducible refine (HMD.out _).mono ?_); rintro e w2 ⟨rfl, hb2⟩; have hbel2 := hbel.trans (hb2.mono hbs); have cq := (hbel2.cell (p := ⟨b1, _, none⟩) hb').trans HCP.out; clear hb2))
                go_roundw
                case rel => exact ⟨j + 1, hjk, by go_num, by rw [HN.out]; congr 1; omega, hbel2⟩
                case measure => simp [intOf]; omega
              · obtain ⟨hx1, hx2⟩ := hx.resolve_left hpq
                have t1 : (P j != q) = true := by rw [bne_iff_ne]; exact hpq
                have t2 : (P j - 1 != q) = false := by rw [bne_eq_false_iff_eq]; exact hx1
                have t3 : (r == 0) = false := by rw [beq_eq_false_iff_ne]; exact hx2
                clear hx hpq hx1 hx2
                go_wp2_with (go_at_call 32; ((with_reducible refine (HMD.out _).mono ?_); rintro e w2 ⟨rfl, hb2⟩; have hbel2 := hbel.trans (hb2.mono hbs); have cq := (hbel2.cell (p := ⟨b1, _, none⟩) hb').trans HCP.out; clear hb2))
                go_roundw
                case rel => exact ⟨j + 1, hjk, by go_num, by rw [HN.out]; congr 1; omega, hbel2⟩
                case measure => simp [intOf]; omega
            · obtain rfl : j = k := by omega
              have hz : m - Spl.sm P j = 0 := by rw [HS1.out.total HK.out]; omega
              rw [hz]
              have hbt := HB1.out.trans (hbel.mono hsz1)
              go_wp2_with (go_at_call 22; ((with_reducible refine (sawake_any _).mono ?_); rintro e w9 ⟨rfl, hb9⟩; have HB9 := Lib.hid ((hbt).trans (hb9.mono (hbt).size)); clear hb9))
              go_ret
              exact ⟨rfl, HB9.out⟩
    · have H2 := Lib.hid (sp_err hv (fun w hr => sPay_any m a n cap z w hr hn hcap))
      have he1 : (dvE m n z != 0) = true := by rw [bne_iff_ne]; exact hv
      generalize dvE m n z = E at *
      clear hv
      go_enter Try.func11, Try.ntmps11
      go_wp2_with (first
        | (go_at_call 24; ((with_reducible refine (H2.out _ HR.out).mono ?_); rintro e w1 ⟨rfl, hb1⟩; have HB1 := Lib.hid hb1; clear hb1))
        | (go_at_call 22; ((with_reducible refine (sawake_any _).mono ?_); rintro e w9 ⟨rfl, hb9⟩; have HB9 := Lib.hid ((HB1.out).trans (hb9.mono (HB1.out).size)); clear hb9)))
      go_ret
      exact ⟨rfl, HB9.out⟩
end Go.Proofs.Ytkpmbkkhdhjbnaa
