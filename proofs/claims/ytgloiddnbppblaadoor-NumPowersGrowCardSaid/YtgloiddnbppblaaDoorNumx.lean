/- The law NumPowersGrow. -/
import Derived.Test.YtgloiddnbppblaaDoorNumu
namespace Go.Proofs.YtgloiddnbppblaaDoor
open Go.ChangeShapes Go.WideShapes Go.ChangeAt Go.RowKit Go.Lott

theorem pwS_bd {a p : Int} : ∀ {k : Nat}, Num.pwS a k = some p → -9223372036854775808 ≤ p ∧ p ≤ 9223372036854775807
  | 0, h => by unfold Num.pwS at h; injection h with h; omega
  | k + 1, h => by
    unfold Num.pwS at h
    cases hq : Num.pwS a k with
    | none => rw [hq] at h; cases h
    | some q =>
      rw [hq] at h
      by_cases c : Num.inR (q * a) = true
      · simp only [c, if_true] at h; injection h with h; subst h; exact (Num.inR_iff _).1 c
      · dsimp only at h; rw [if_neg c] at h; cases h
theorem wf_u8 {a : Int} (h : (Lit.int .u8 a).wf = true) : 0 ≤ a ∧ a ≤ 255 := by
  have h1 : IntKind.u8.min ≤ a ∧ a ≤ IntKind.u8.max := by simpa [Lit.wf] using h
  exact h1
set_option maxHeartbeats 2000000 in
theorem numPowersGrow_walk (a n : Int) (W : World) (ha : (Lit.int .i64 a).wf = true) (hn : (Lit.int .u8 n).wf = true) (hp : P10 W) : Calls Tryd.prog 10 #[.int .i64 a, .int .u8 n] W (RetB (.bool true) W) := by
  have hbel := Below.refl W.heap.size W
  have HT := Lib.hid hp
  clear hp
  obtain ⟨a0, a1⟩ := wf_int ha
  obtain ⟨n0, n1⟩ := wf_u8 hn
  clear ha hn
  obtain ⟨k, hk⟩ := Int.eq_ofNat_of_zero_le (show 0 ≤ n % 62 by omega)
  have hk1 : k ≤ 61 := by omega
  have h1 := fun w => Power_any a (n % 62) w a0 a1
  have h2 := fun w => Power_any a (n % 62 + 1) w a0 a1
  have h3 := fun w => Power_any a 0 w a0 a1
  have h4 := fun w => Power_any a (-1 - n) w a0 a1
  have h5 := fun w => Power_any a (63 + n) w a0 a1
  obtain ⟨o1, o2⟩ := Num.pw_some (a := a) (n := 0) (p := 1) (by omega) rfl
  rw [show ((0 : Nat) : Int) = 0 from rfl] at o1 o2
  rw [← o1, ← o2] at h3
  obtain ⟨r1, r2⟩ := Num.pw_range (a := a) (n := -1 - n) (by omega)
  rw [← r1, ← r2] at h4
  obtain ⟨s1, s2⟩ := Num.pw_range (a := a) (n := 63 + n) (by omega)
  rw [← s1, ← s2] at h5
  have H3 := Lib.hid h3
  have H4 := Lib.hid h4
  have H5 := Lib.hid h5
  clear h3 h4 h5 o1 o2 r1 r2 s1 s2
  rw [hk] at h1 h2
  rw [show (k : Int) + 1 = ((k + 1 : Nat) : Int) by omega] at h2
  cases hs : Num.pwS a k with
  | none =>
    obtain ⟨e1, e2⟩ := Num.pw_none (n := k) (by omega) (Nat.le_refl _) hs
    obtain ⟨f1, f2⟩ := Num.pw_none (n := k + 1) (by omega) (Nat.le_succ _) hs
    rw [← e1, ← e2, ← hk] at h1
    rw [← f1, ← f2, show ((k + 1 : Nat) : Int) = n % 62 + 1 by omega] at h2
    have H1 := Lib.hid h1
    have H2 := Lib.hid h2
    clear h1 h2 e1 e2 f1 f2 hk hs
    go_enter Tryd.func10, Tryd.ntmps10
    go_wp2_with (first | (go_at_call 31; ((with_reducible refine (H1.out _).mono ?_); rintro e w' ⟨rfl, rfl⟩)) | (go_at_call 31; ((with_reducible refine (H2.out _).mono ?_); rintro e w' ⟨rfl, rfl⟩)) | (go_at_call 31; ((with_reducible refine (H3.out _).mono ?_); rintro e w' ⟨rfl, rfl⟩)) | (go_at_call 31; ((with_reducible refine (H4.out _).mono ?_); rintro e w' ⟨rfl, rfl⟩)) | (go_at_call 31; ((with_reducible refine (H5.out _).mono ?_); rintro e w' ⟨rfl, rfl⟩)) | (go_at_call 27; ((with_reducible refine (awake_any _ (HT.out.grow hbel)).mono ?_); rintro e w1 ⟨rfl, hb1⟩; replace hbel := hbel.trans (hb1.mono hbel.size); clear hb1)))
    go_ret
    exact ⟨rfl, hbel⟩
  | some p =>
    obtain ⟨e1, e2⟩ := Num.pw_some (n := k) (by omega) hs
    obtain ⟨p0, p1⟩ := pwS_bd hs
    have hM := fun w => Mul_any p a w p0 p1 a0 a1
    have g : Num.okN (p * a) = Num.pwN a ((k + 1 : Nat) : Int) ∧ Num.okE (p * a) = Num.pwE a ((k + 1 : Nat) : Int) := by
      by_cases c : Num.inR (p * a) = true
      · obtain ⟨f1, f2⟩ := Num.pw_some (n := k + 1) (by omega) (Num.pwS_yes hs c)
        have := Num.ok_yes ((Num.inR_iff _).1 c)
        rw [← f1, ← f2]; exact this
      · obtain ⟨f1, f2⟩ := Num.pw_none (n := k + 1) (by omega) (Nat.le_refl _) (Num.pwS_no hs (by simpa using c))
        have := Num.ok_no (fun h => c ((Num.inR_iff _).2 h))
        rw [← f1, ← f2]; exact this
    rw [← e1, ← e2, ← hk] at h1
    rw [← g.1, ← g.2, show ((k + 1 : Nat) : Int) = n % 62 + 1 by omega] at h2
    have H1 := Lib.hid h1
    have H2 := Lib.hid h2
    have HM := Lib.hid hM
    clear h1 h2 e1 e2 g hk hs hM
    go_enter Tryd.func10, Tryd.ntmps10
    go_wp2_with (first | (go_at_call 31; ((with_reducible refine (H1.out _).mono ?_); rintro e w' ⟨rfl, rfl⟩)) | (go_at_call 31; ((with_reducible refine (H2.out _).mono ?_); rintro e w' ⟨rfl, rfl⟩)) | (go_at_call 31; ((with_reducible refine (H3.out _).mono ?_); rintro e w' ⟨rfl, rfl⟩)) | (go_at_call 31; ((with_reducible refine (H4.out _).mono ?_); rintro e w' ⟨rfl, rfl⟩)) | (go_at_call 31; ((with_reducible refine (H5.out _).mono ?_); rintro e w' ⟨rfl, rfl⟩)) | (go_at_call 23; ((with_reducible refine (HM.out _).mono ?_); rintro e w' ⟨rfl, rfl⟩)) | (go_at_call 27; ((with_reducible refine (awake_any _ (HT.out.grow hbel)).mono ?_); rintro e w1 ⟨rfl, hb1⟩; replace hbel := hbel.trans (hb1.mono hbel.size); clear hb1)))
    go_ret
    exact ⟨rfl, hbel⟩
end Go.Proofs.YtgloiddnbppblaaDoor
