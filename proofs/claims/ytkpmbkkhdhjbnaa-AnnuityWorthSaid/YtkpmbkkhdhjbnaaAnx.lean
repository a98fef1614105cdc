/- The law AnnuityWorth: its walk. -/
import Derived.Test.YtkpmbkkhdhjbnaaAnq
import Derived.Test.YtkpmbkkhdhjbnaaAnv
namespace Go.Proofs.Ytkpmbkkhdhjbnaa
open Go.ChangeShapes Go.WideShapes Go.ChangeAt Go.RowKit Go.Lott
open Go.Lott.Spl
theorem wf_u16 {a : Int} (h : (Lit.int .u16 a).wf = true) : 0 ≤ a ∧ a ≤ 65535 := by
  have h1 : IntKind.u16.min ≤ a ∧ a ≤ IntKind.u16.max := by simpa [Lit.wf] using h
  exact h1
set_option maxRecDepth 100000 in
set_option maxHeartbeats 2000000 in
/-- What is left from the first on: no matter how great the slice's room. -/
theorem Left0_any (a : Option Addr) (n cap : Nat) (ws : Nat → Int) (w : World) (hr : IsRow w a n ws) (hn : n ≤ maxLen) (hk : ckE n ws = 0) :
    Calls Try.prog 20 #[.slice a n cap, .int .i64 0] w (RetS (.tuple #[.int .i64 (leV n ws 0), .int .i64 (leE n ws 0)]) w) := by
  have hc := aCheck_any a n cap ws w hr hn
  rw [hk] at hc
  have HC := Lib.hid hc
  obtain ⟨n1, n2, hsu⟩ := ck_of hk
  clear hsu
  obtain ⟨b, o, rfl, _⟩ := hr.resolve_left (by omega)
  have h2 : (fun i => ws (0 + i)) = ws := by funext i; rw [Nat.zero_add]
  have hv := le_in (q := 0) hk (by omega)
  rw [h2, Nat.sub_zero] at hv
  have HV := Lib.hid (show leV n ws 0 = suV n ws ∧ leE n ws 0 = suE n ws from hv)
  have HS := Lib.hid (fun cp => Sum_any (some ⟨b, o, none⟩) n cp ws w hr hn)
  have i1 : (0 : Int) ≤ (n : Int) := by omega
  have i2 : (0 : Int) ≤ (cap : Int) := by omega
  clear hc hv hr
  go_enter Try.func20, Try.ntmps20
  go_wp2_with (first
    | (go_at_call 40; ((with_reducible refine (HC.out).mono ?_); rintro e w' ⟨rfl, rfl⟩))
    | (go_at_call 43; ((with_reducible refine (HS.out _).mono ?_); rintro e w' ⟨rfl, rfl⟩)))
  all_goals
    go_ret2
    exact ⟨ret_two HV.out.1.symm HV.out.2.symm, rfl⟩
theorem row_zero {w : World} {b n : Nat} {P : Nat → Int} (h : IsRow w (some ⟨b, 0, none⟩) n P) (hn : 0 < n) : w.cell? ⟨b, 0, none⟩ = some (.int .i64 (P 0)) := by
  rcases h with h | ⟨b', o', e, _, _, hc⟩
  · omega
  · injection e with e
    injection e with e1 e2
    subst e1
    subst e2
    exact hc 0 hn
theorem worth_ck {m : Int} {n : Nat} {ws P : Nat → Int} (h : IsSpl m n ws P) (hk : SOk m ws n) (n2 : n ≤ 40) : ckE n P = 0 ∧ (∀ i, i < n → 0 ≤ P i ∧ P i ≤ 1000000000000) ∧ tl n P 0 = m := by
  have hm := hk.m1
  have hn := hk.n1
  have ha : ∀ i, i < n → 0 ≤ P i ∧ P i ≤ 1000000000000 := fun i hi => ⟨h.nonneg hk hi, by have := h.le hk hi; omega⟩
  have hs := h.sum hk
  have e : tl n P 0 = sm P n := by unfold tl; rw [Nat.sub_zero]; exact sm_congr fun i _ => by rw [Nat.zero_add]
  refine ⟨?_, ha, by rw [e, hs]⟩
  rw [(ck_in hn n2).2]
  exact (su_ok ha (by rw [hs]; exact hm)).2
theorem worth_cash {m r : Int} {n cap : Nat} {ws P : Nat → Int} {a : Option Addr} {w : World} (h : IsSpl m n ws P) (hk : SOk m ws n) (n2 : n ≤ 40) (r0 : 0 ≤ r) (r1 : r ≤ 10000) (hr : IsRow w a n P) :
    Calls Try.prog 18 #[.slice a n cap, .int .i64 r] w (RetB (.tuple #[.int .i64 (cs n P r n), .int .i64 0]) w) := by
  have := Cash_any a n cap P r w hr (by unfold maxLen; omega)
  obtain ⟨hc, _, _⟩ := worth_ck h hk n2
  rw [(ca_in hc r0 r1).1, (ca_in hc r0 r1).2] at this
  exact this
theorem worth_left {m : Int} {n cap : Nat} {ws P : Nat → Int} {a : Option Addr} {w : World} (h : IsSpl m n ws P) (hk : SOk m ws n) (n2 : n ≤ 40) (hr : IsRow w a n P) :
    Calls Try.prog 20 #[.slice a n cap, .int .i64 0] w (RetS (.tuple #[.int .i64 m, .int .i64 0]) w) := by
  obtain ⟨hc, ha, ht⟩ := worth_ck h hk n2
  have := Left0_any a n cap P w hr (by unfold maxLen; omega) hc
  have hle : leE n P 0 = 0 := by
    have h1 := (le_in (q := 0) hc (by omega)).2
    have h2 : (fun i => P (0 + i)) = P := by funext i; rw [Nat.zero_add]
    rw [h2, Nat.sub_zero, (ck_of hc).2.2] at h1
    exact h1
  rw [hle, show leV n P 0 = m from (le_tl (q := 0) hle (by omega)).1.trans ht] at this
  exact this
theorem worth_bd {m r : Int} {n : Nat} {ws P : Nat → Int} (h : IsSpl m n ws P) (hk : SOk m ws n) (n2 : n ≤ 40) (r0 : 0 ≤ r) : P 0 ≤ cs n P r n ∧ cs n P r n ≤ m := by
  obtain ⟨hc, ha, ht⟩ := worth_ck h hk n2
  have h2 := cs_tl ha r0 n (Nat.le_refl _)
  rw [Nat.sub_self, ht] at h2
  exact ⟨cs_first ha r0 hk.n1, h2⟩
set_option maxRecDepth 100000 in
set_option maxHeartbeats 2000000 in
theorem annuityWorth_walk (m y r : Int) (W : World) (_ : (Lit.int .i64 m).wf = true) (_ : (Lit.int .i64 y).wf = true) (hr : (Lit.int .u16 r).wf = true) :
    Calls Try.prog 8 #[.int .i64 m, .int .i64 y, .int .u16 r] W (RetB (.bool true) W) := by
  have HAW := Lib.hid awake_any
  obtain ⟨r0, r1⟩ := wf_u16 hr
  have wr0 : IntKind.i64.wrap r = r := IntWalk.i64_in _ (by omega)
  have tm : r.tmod 2001 = r % 2001 := Int.tmod_eq_emod_of_nonneg r0
  have g0 : 0 ≤ r % 2001 := by omega
  have g1 : r % 2001 ≤ 2000 := by omega
  have wr1 : IntKind.i64.wrap (r % 2001) = r % 2001 := IntWalk.i64_in _ (by omega)
  by_cases h : PB m y (r % 2001)
  · obtain ⟨n, rfl⟩ := Int.eq_ofNat_of_zero_le (show 0 ≤ y by have := h.2.1; omega)
    have H1 := Lib.hid (pay_ok h)
    have HK := Lib.hid h.sok
    obtain ⟨⟨m0, m1⟩, n1, n2, _, _⟩ := h
    clear hr
    generalize r % 2001 = g at *
    by_cases hb : 10000 < r
    · go_enter Try.func8, Try.ntmps8
      go_wp2_with (first
        | (go_at_call 14; ((with_reducible refine (H1.out _).mono ?_); rintro e w1 ⟨hb1, b1, c1, P, rfl, r1, s1⟩; have HB1 := Lib.hid hb1; clear r1 s1 hb1))
        | (go_at_call 17; ((with_reducible refine (HAW.out _).mono ?_); rintro e w4 ⟨rfl, hb4⟩; have HB4 := Lib.hid hb4; clear hb4)))
      go_ret
      exact ⟨rfl, HB1.out.trans (HB4.out.mono HB1.out.size)⟩
    · have hb' : r ≤ 10000 := by omega
      clear hb
      have HWC := Lib.hid (fun (P : Nat → Int) (cap : Nat) (a : Option Addr) (w : World) (h : IsSpl m n (wt g) P) (hr : IsRow w a n P) => worth_cash (cap := cap) h HK.out (by omega) r0 hb' hr)
      have HWL := Lib.hid (fun (P : Nat → Int) (cap : Nat) (a : Option Addr) (w : World) (h : IsSpl m n (wt g) P) (hr : IsRow w a n P) => worth_left (cap := cap) h HK.out (by omega) hr)
      have i1 : (0 : Int) < (n : Int) := by omega
      have i3 : 0 < n := by omega
      go_enter Try.func8, Try.ntmps8
      go_wp2_with (first
        | (go_at_call 14; ((with_reducible refine (H1.out _).mono ?_); rintro e w1 ⟨hb1, b1, c1, P, rfl, r1, s1⟩; have HR1 := Lib.hid r1; have HS1 := Lib.hid s1; have HB1 := Lib.hid hb1; obtain ⟨k0, k1⟩ := worth_bd (r := r) s1 HK.out (by omega) r0; clear r1 s1 hb1))
        | (go_at_call 18; ((with_reducible refine (HWC.out _ _ _ _ HS1.out HR1.out).mono ?_); rintro e w2 ⟨rfl, hb2⟩; have HR2 := Lib.hid (HR1.out.below hb2 (Nat.le_refl _)); have ck0 := row_zero HR2.out i3; have HB2 := Lib.hid (HB1.out.trans (hb2.mono HB1.out.size)); clear hb2))
        | (go_at_call 20; ((with_reducible refine (HWL.out _ _ _ _ HS1.out HR2.out).mono ?_); rintro e w3 ⟨rfl, rfl⟩))
        | (go_at_call 17; ((with_reducible refine (HAW.out _).mono ?_); rintro e w4 ⟨rfl, hb4⟩; have HB4 := Lib.hid (HB2.out.trans (hb4.mono HB2.out.size)); clear hb4)))
      go_ret
      exact ⟨rfl, HB4.out⟩
  · have H1 := Lib.hid (pay_bad h)
    clear h hr
    generalize r % 2001 = g at *
    go_enter Try.func8, Try.ntmps8
    go_wp2_with (first
      | (go_at_call 14; ((with_reducible refine (H1.out _).mono ?_); rintro e w1 ⟨rfl, hb1⟩; have HB1 := Lib.hid hb1; clear hb1))
      | (go_at_call 17; ((with_reducible refine (HAW.out _).mono ?_); rintro e w4 ⟨rfl, hb4⟩; have HB4 := Lib.hid hb4; clear hb4)))
    go_ret
    exact ⟨rfl, HB1.out.trans (HB4.out.mono HB1.out.size)⟩
end Go.Proofs.Ytkpmbkkhdhjbnaa
