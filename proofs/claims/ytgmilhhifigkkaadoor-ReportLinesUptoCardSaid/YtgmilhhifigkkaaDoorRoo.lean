/- The law ReportLines: how many lines a report of a draw has. -/
import Derived.Test.YtgmilhhifigkkaaDoorRon
import Derived.Test.YtgmilhhifigkkaaDoorRln
namespace Go.Lott.Rp
theorem lnc_cons (c : UInt8) (l : List UInt8) : lnc (c :: l) = lnc [c] + lnc l := lnc_app [c] l
theorem lnc_none {l : List UInt8} (h : ∀ c ∈ l, c ≠ 10) : lnc l = 0 := by
  unfold lnc
  rw [List.length_eq_zero_iff, List.filter_eq_nil_iff]
  intro c hc
  simpa using h c hc
theorem lnc_vals {L : List (List UInt8)} (h : ∀ x ∈ L, lnc x = 0) : lnc (vals L) = 0 := by
  induction L with
  | nil => rfl
  | cons x L ih =>
    have e : vals (x :: L) = 32 :: x ++ vals L := by unfold vals; rw [List.flatMap_cons]
    rw [e, lnc_app, lnc_cons, h x (List.mem_cons_self ..), ih fun y hy => h y (List.mem_cons_of_mem _ hy)]; rfl
theorem lnc_ln {w : List UInt8} {L : List (List UInt8)} (hw : lnc w = 0) (h : ∀ x ∈ L, lnc x = 0) : lnc (ln w L) = 1 := by
  unfold ln; rw [lnc_app, lnc_app, hw, lnc_vals h]; rfl
theorem lnc_itoa (n : Int) : lnc (Lib.itoa n) = 0 := lnc_none fun c hc => by
  rcases itoa_byte n c hc with h | h
  · exact not_ten (.inl h)
  · exact not_ten (.inr (.inr (.inr h)))
theorem lnc_amT (n : Int) : lnc (amT n) = 0 := lnc_none fun c hc => not_ten (amT_byte n c hc)
theorem lnc_ln1 {w v : List UInt8} (hw : lnc w = 0) (h : lnc v = 0) : lnc (ln w [v]) = 1 := lnc_ln hw fun x hx => by
  rw [List.mem_singleton] at hx; rw [hx]; exact h
theorem lnc_nums (w : List UInt8) (hw : lnc w = 0) (n : Nat) (z : Nat → Int) : lnc (ln w (numsT n z)) = 1 := lnc_ln hw fun x hx => by
  unfold numsT at hx
  obtain ⟨i, _, rfl⟩ := List.mem_map.1 hx
  exact lnc_itoa _
theorem lnc_ams (w : List UInt8) (hw : lnc w = 0) (n : Nat) (z : Nat → Int) : lnc (ln w (amsT n z)) = 1 := lnc_ln hw fun x hx => by
  unfold amsT at hx
  obtain ⟨i, _, rfl⟩ := List.mem_map.1 hx
  exact lnc_amT _
theorem lnc_some (w : List UInt8) (hw : lnc w = 0) (n : Nat) (z : Nat → Int) : lnc (someT w n z) = if 0 < n then 1 else 0 := by
  unfold someT
  by_cases h : n = 0
  · subst h; rfl
  · rw [if_neg h, if_pos (by omega)]; exact lnc_nums w hw n z
theorem lnc_fac (f : Int) : lnc (facT f) = if f = 0 then 0 else 1 := by
  unfold facT
  by_cases h : f = 0
  · rw [if_pos h, if_pos h]; rfl
  · rw [if_neg h, if_neg h]; exact lnc_ln1 rfl (lnc_itoa _)
theorem lnc_ser {s : List UInt8} (hs : lnc s = 0) : lnc (serT s) = if s = [] then 0 else 1 := by
  unfold serT
  by_cases h : s = []
  · rw [if_pos h, if_pos h]; rfl
  · rw [if_neg h, if_neg h]; exact lnc_ln1 rfl hs
theorem lnc_tier (zc ze zp : Nat → Int) : ∀ k, lnc (tierT zc ze zp k) = k
  | 0 => rfl
  | k + 1 => by
    show lnc (tierT zc ze zp k ++ ln wTier [Lib.itoa k, Lib.itoa (zc k), amT (ze k), amT (zp k)]) = _
    rw [lnc_app, lnc_tier zc ze zp k, lnc_ln rfl fun x hx => by
      simp only [List.mem_cons, List.not_mem_nil, or_false] at hx
      rcases hx with rfl | rfl | rfl | rfl
      · exact lnc_itoa _
      · exact lnc_itoa _
      · exact lnc_amT _
      · exact lnc_amT _]
theorem lnc_tail (br dr : Int) (nn : Nat) (zn : Nat → Int) (rs ro : Int) : lnc (tailT br dr nn zn rs ro) = 5 := by
  unfold tailT
  rw [lnc_app, lnc_app, lnc_app, lnc_app, lnc_ln1 rfl (lnc_amT _), lnc_ln1 rfl (lnc_amT _), lnc_ams _ rfl, lnc_ln1 rfl (lnc_amT _), lnc_ln1 rfl (lnc_itoa _)]
theorem lnc_head {gn : List UInt8} (hg : lnc gn = 0) (n : Int) : lnc (headT gn n) = 1 := lnc_ln rfl fun x hx => by
  simp only [List.mem_cons, List.not_mem_nil, or_false] at hx
  rcases hx with rfl | rfl
  · exact hg
  · exact lnc_itoa _
end Go.Lott.Rp
namespace Go.Proofs.YtgmilhhifigkkaaDoor
open Go.ChangeShapes Go.WideShapes Go.ChangeAt Go.RowKit Go.Lott
open Go.Lott.Mny Go.Lott.Rp
/-- One if something is so. -/
def b2i (b : Bool) : Int := if b = true then 1 else 0
theorem b2i_bd (b : Bool) : 0 ≤ b2i b ∧ b2i b ≤ 1 := by cases b <;> decide
theorem one_any (b : Bool) (w : World) : Calls Tryd.prog 24 #[.bool b] w (RetS (.int .i64 (b2i b)) w) := by
  cases b with
  | true =>
    go_enter Tryd.func24, Tryd.ntmps24
    go_wp2
    go_ret
    exact ⟨rfl, rfl⟩
  | false =>
    go_enter Tryd.func24, Tryd.ntmps24
    go_wp2
    go_ret
    exact ⟨rfl, rfl⟩
/-- The lines of a report of a draw. -/
theorem drwT_lines {gn s : List UInt8} (hg : lnc gn = 0) (hs : lnc s = 0) (n : Int) (n1 : Nat) (z1 : Nat → Int) (n2 : Nat) (z2 : Nat → Int) (n3 : Nat) (z3 : Nat → Int) (f : Int) (k : Nat) (zc ze zp : Nat → Int) (br dr : Int) (nn : Nat) (zn : Nat → Int) (rs ro : Int) :
    (lnc (drwT gn n n1 z1 n2 z2 n3 z3 f s k zc ze zp br dr nn zn rs ro) : Int) = 7 + k + (b2i (decide (0 < n2)) + b2i (decide (0 < n3)) + b2i (!decide (f = 0)) + b2i (!decide (s = []))) := by
  unfold drwT resT
  rw [lnc_app, lnc_app, lnc_app, lnc_app, lnc_app, lnc_app, lnc_app, lnc_head hg, lnc_nums _ rfl, lnc_some _ rfl, lnc_some _ rfl, lnc_fac, lnc_ser hs, lnc_tier, lnc_tail]
  unfold b2i
  by_cases h1 : 0 < n2 <;> by_cases h2 : 0 < n3 <;> by_cases h3 : f = 0 <;> by_cases h4 : s = [] <;> simp [h1, h2, h3, h4] <;> omega
theorem drwT_last (gn s : List UInt8) (n : Int) (n1 : Nat) (z1 : Nat → Int) (n2 : Nat) (z2 : Nat → Int) (n3 : Nat) (z3 : Nat → Int) (f : Int) (k : Nat) (zc ze zp : Nat → Int) (br dr : Int) (nn : Nat) (zn : Nat → Int) (rs ro : Int) :
    ∃ l, drwT gn n n1 z1 n2 z2 n3 z3 f s k zc ze zp br dr nn zn rs ro = l ++ [10] :=
  ⟨headT gn n ++ (resT n1 z1 n2 z2 n3 z3 f s ++ (tierT zc ze zp k ++ (ln wBrk [amT br] ++ (ln wDrawn [amT dr] ++ (ln wCarry (amsT nn zn) ++ (ln wResv [amT rs] ++ (wRolls ++ vals [Lib.itoa ro]))))))), by unfold drwT tailT; simp [ln]⟩
theorem ln_le {w : List UInt8} {L : List (List UInt8)} {m : Nat} (h : ∀ x ∈ L, x.length ≤ m) : (ln w L).length ≤ w.length + L.length * (m + 1) + 1 := by
  have := vals_sum h
  rw [ln_len]; omega
theorem amT_le (n : Int) : (amT n).length ≤ 20 := by have := amT_size15 n; omega
theorem ln1_le {w v : List UInt8} {m : Nat} (h : v.length ≤ m) : (ln w [v]).length ≤ w.length + m + 2 := by
  have := ln_le (w := w) (L := [v]) (m := m) fun x hx => by rw [List.mem_singleton] at hx; rw [hx]; exact h
  simp only [List.length_singleton, Nat.one_mul] at this
  omega
theorem some_le {n : Nat} {z : Nat → Int} (hn : n ≤ 50) (hz : ∀ i, i < n → I64 (z i)) (w : List UInt8) (hw : w.length ≤ 20) : (someT w n z).length ≤ 1100 := by
  unfold someT
  split
  · exact Nat.zero_le _
  · exact numsT_len hn hz w hw
theorem fac_le {f : Int} (hf : I64 f) : (facT f).length ≤ 50 := by
  unfold facT
  split
  · exact Nat.zero_le _
  · have h1 := ln1_le (w := wFactor) (itoa_len hf.1 hf.2)
    have h2 : wFactor.length = 6 := rfl
    omega
theorem ser_le {s : List UInt8} (hs : s.length ≤ 2000000) : (serT s).length ≤ 2000020 := by
  unfold serT
  split
  · exact Nat.zero_le _
  · have h1 := ln1_le (w := wSerial) hs
    have h2 : wSerial.length = 6 := rfl
    omega
theorem tier_le (zc ze zp : Nat → Int) : ∀ k, k ≤ 50 → (∀ i, i < k → I64 (zc i)) → (tierT zc ze zp k).length ≤ 100 * k
  | 0, _, _ => Nat.le_refl _
  | k + 1, hk, h => by
    have h1 := tier_le zc ze zp k (by omega) fun i hi => h i (by omega)
    have h2 := h k (by omega)
    have h3 := ln_le (w := wTier) (L := [Lib.itoa k, Lib.itoa (zc k), amT (ze k), amT (zp k)]) (m := 20) fun x hx => by
      simp only [List.mem_cons, List.not_mem_nil, or_false] at hx
      rcases hx with rfl | rfl | rfl | rfl
      · exact itoa_len (by omega) (by omega)
      · exact itoa_len h2.1 h2.2
      · exact amT_le _
      · exact amT_le _
    have h4 : wTier.length = 4 := rfl
    show (tierT zc ze zp k ++ ln wTier [Lib.itoa k, Lib.itoa (zc k), amT (ze k), amT (zp k)]).length ≤ _
    rw [List.length_append]
    simp only [List.length_cons, List.length_nil] at h3
    omega
theorem drwT_len {gn s : List UInt8} (hg : gn.length ≤ 2000000) (hs : s.length ≤ 2000000) {n : Int} (hn : I64 n) {n1 : Nat} {z1 : Nat → Int} (h1 : n1 ≤ 50) (y1 : ∀ i, i < n1 → I64 (z1 i)) {n2 : Nat} {z2 : Nat → Int} (h2 : n2 ≤ 50) (y2 : ∀ i, i < n2 → I64 (z2 i)) {n3 : Nat} {z3 : Nat → Int} (h3 : n3 ≤ 50) (y3 : ∀ i, i < n3 → I64 (z3 i)) {f : Int} (hf : I64 f) {k : Nat} (hk : k ≤ 50) {zc : Nat → Int} (yc : ∀ i, i < k → I64 (zc i)) (ze zp : Nat → Int) (br dr : Int) {nn : Nat} (hnn : nn ≤ 50) (zn : Nat → Int) (rs : Int) {ro : Int} (hro : I64 ro) :
    (drwT gn n n1 z1 n2 z2 n3 z3 f s k zc ze zp br dr nn zn rs ro).length ≤ 9000000 := by
  have e1 := ln_le (w := wDraw) (L := [gn, Lib.itoa n]) (m := 2000000) fun x hx => by
    simp only [List.mem_cons, List.not_mem_nil, or_false] at hx
    rcases hx with rfl | rfl
    · exact hg
    · have := itoa_len hn.1 hn.2; omega
  have e2 := numsT_len h1 y1 wMain (by decide)
  have e3 := some_le h2 y2 wBonus (by decide)
  have e4 := some_le h3 y3 wExtra (by decide)
  have e5 := fac_le hf
  have e6 := ser_le hs
  have e7 := tier_le zc ze zp k hk yc
  have e8 := ln1_le (w := wBrk) (amT_le br)
  have e9 := ln1_le (w := wDrawn) (amT_le dr)
  have e10 := amsT_len (z := zn) hnn wCarry (by decide)
  have e11 := ln1_le (w := wResv) (amT_le rs)
  have e12 := ln1_le (w := wRolls) (itoa_len hro.1 hro.2)
  have l1 : wDraw.length = 4 := rfl
  have l2 : wBrk.length = 8 := rfl
  have l3 : wDrawn.length = 5 := rfl
  have l4 : wResv.length = 7 := rfl
  have l5 : wRolls.length = 5 := rfl
  simp only [List.length_cons, List.length_nil] at e1
  unfold drwT resT headT tailT amsT
  simp only [List.length_append]
  omega
end Go.Proofs.YtgmilhhifigkkaaDoor
