/- Plain facts on the texts of amounts: digits, a point, two digits. No program stands in this text. -/
import Derived.Test.YtgmilhhifigkkaaDoorNumt
namespace Go.Lott.Mny
open Go.Lib Go.Lott.Num
/-- The value of the first k bytes, the one at p left out. -/
def mv (l : List UInt8) (p : Nat) : Nat → Int
  | 0 => 0
  | k + 1 => if k = p then mv l p k else mv l p k * 10 + (bl l k - 48)
theorem mv_at (l : List UInt8) (p : Nat) : mv l p (p + 1) = mv l p p := by show (if p = p then _ else _) = _; rw [if_pos rfl]
theorem mv_ne {l : List UInt8} {p k : Nat} (h : k ≠ p) : mv l p (k + 1) = mv l p k * 10 + (bl l k - 48) := by show (if k = p then _ else _) = _; rw [if_neg h]
/-- A text of an amount. -/
def mfB (l : List UInt8) : Bool := decide (4 ≤ l.length ∧ bl l (l.length - 3) = 46 ∧ (bl l 0 = 48 → l.length = 4)) && (List.range l.length).all fun k => decide (k = l.length - 3) || dgB l k
theorem mfB_iff (l : List UInt8) : mfB l = true ↔ (4 ≤ l.length ∧ bl l (l.length - 3) = 46 ∧ (bl l 0 = 48 → l.length = 4)) ∧ ∀ k, k < l.length → k ≠ l.length - 3 → 48 ≤ bl l k ∧ bl l k ≤ 57 := by
  unfold mfB
  rw [Bool.and_eq_true, decide_eq_true_iff, List.all_eq_true]
  refine and_congr_right fun _ => ⟨fun h k hk hn => ?_, fun h k hk => ?_⟩
  · have := h k (List.mem_range.2 hk)
    rw [decide_eq_false hn, Bool.false_or, dgB_iff] at this; exact this
  · by_cases c : k = l.length - 3
    · rw [decide_eq_true c]; rfl
    · rw [decide_eq_false c, Bool.false_or, dgB_iff]; exact h k (List.mem_range.1 hk) c
theorem mf_no {l : List UInt8} (h : ¬ ((4 ≤ l.length ∧ bl l (l.length - 3) = 46 ∧ (bl l 0 = 48 → l.length = 4)) ∧ ∀ k, k < l.length → k ≠ l.length - 3 → 48 ≤ bl l k ∧ bl l k ≤ 57)) : mfB l = false := by
  cases c : mfB l with
  | false => rfl
  | true => exact (h ((mfB_iff l).1 c)).elim
def mpN (l : List UInt8) : Int := if mfB l then (if mv l (l.length - 3) l.length ≤ 1000000000000 then mv l (l.length - 3) l.length else 0) else 0
def mpE (l : List UInt8) : Int := if mfB l then (if mv l (l.length - 3) l.length ≤ 1000000000000 then 0 else 9) else 1
theorem mp_bad {l : List UInt8} (h : mfB l = false) : 0 = mpN l ∧ 1 = mpE l := by unfold mpN mpE; rw [h]; exact ⟨rfl, rfl⟩
theorem mv_step {l : List UInt8} {p : Nat} (h : ∀ k, k < l.length → k ≠ p → 48 ≤ bl l k ∧ bl l k ≤ 57) : ∀ k, k ≤ l.length → 0 ≤ mv l p k
  | 0, _ => by simp [mv]
  | k + 1, hk => by
    have h1 := mv_step h k (by omega)
    by_cases c : k = p
    · subst c; rw [mv_at]; exact h1
    · have h2 := h k (by omega) c
      rw [mv_ne c]; omega
theorem mv_mono {l : List UInt8} {p : Nat} (h : ∀ k, k < l.length → k ≠ p → 48 ≤ bl l k ∧ bl l k ≤ 57) (j : Nat) : ∀ d, j + d ≤ l.length → mv l p j ≤ mv l p (j + d)
  | 0, _ => Int.le_refl _
  | d + 1, hk => by
    have h1 := mv_mono h j d (by omega)
    have h3 := mv_step h (j + d) (by omega)
    show mv l p j ≤ mv l p (j + d + 1)
    by_cases c : j + d = p
    · rw [show mv l p (j + d + 1) = mv l p (j + d) by subst c; exact mv_at _ _]; exact h1
    · have h2 := h (j + d) (by omega) c
      rw [mv_ne c]; omega
theorem mp_over {l : List UInt8} (h : mfB l = true) {k : Nat} (hk : k ≤ l.length) (hv : 1000000000000 < mv l (l.length - 3) k) : 0 = mpN l ∧ 9 = mpE l := by
  have := mv_mono ((mfB_iff l).1 h).2 k (l.length - k) (by omega)
  rw [show k + (l.length - k) = l.length by omega] at this
  unfold mpN mpE; rw [h, if_pos rfl, if_neg (by omega), if_pos rfl, if_neg (by omega)]; exact ⟨rfl, rfl⟩
theorem mp_fine {l : List UInt8} (h : mfB l = true) (hv : mv l (l.length - 3) l.length ≤ 1000000000000) : mv l (l.length - 3) l.length = mpN l ∧ 0 = mpE l := by
  unfold mpN mpE; rw [h, if_pos rfl, if_pos hv, if_pos rfl, if_pos hv]; exact ⟨rfl, rfl⟩
theorem mp_of {l : List UInt8} (h : mpE l = 0) : mfB l = true ∧ mv l (l.length - 3) l.length ≤ 1000000000000 ∧ mpN l = mv l (l.length - 3) l.length ∧ 0 ≤ mpN l ∧ mpN l ≤ 1000000000000 := by
  by_cases hf : mfB l = true
  · by_cases hv : mv l (l.length - 3) l.length ≤ 1000000000000
    · have := mv_step ((mfB_iff l).1 hf).2 l.length (Nat.le_refl _)
      have e := (mp_fine hf hv).1
      exact ⟨hf, hv, e.symm, by omega, by omega⟩
    · have := (mp_over hf (Nat.le_refl _) (by omega)).2; omega
  · have := (mp_bad (l := l) (by simpa using hf)).2; omega
theorem bl_left {D E : List UInt8} {k : Nat} (h : k < D.length) : bl (D ++ E) k = bl D k := by
  unfold bl; rw [List.getD_eq_getElem?_getD, List.getD_eq_getElem?_getD, List.getElem?_append_left h]
theorem bl_right (D E : List UInt8) (j : Nat) : bl (D ++ E) (D.length + j) = bl E j := by
  unfold bl; rw [List.getD_eq_getElem?_getD, List.getD_eq_getElem?_getD, List.getElem?_append_right (by omega), Nat.add_sub_cancel_left]
theorem mv_left (D E : List UInt8) : ∀ k, k ≤ D.length → mv (D ++ E) D.length k = nv D k
  | 0, _ => rfl
  | k + 1, hk => by rw [mv_ne (by omega), mv_left D E k (by omega), bl_left (by omega)]; rfl
theorem mv_three (D : List UInt8) (c a b : UInt8) : mv (D ++ [c, a, b]) D.length (D.length + 3) = (nv D D.length * 10 + ((a.toNat : Int) - 48)) * 10 + ((b.toNat : Int) - 48) := by
  rw [show D.length + 3 = (D.length + 2) + 1 from rfl, mv_ne (by omega), show D.length + 2 = (D.length + 1) + 1 from rfl, mv_ne (by omega), mv_at, mv_left D _ _ (Nat.le_refl _), bl_right, show D.length + 1 + 1 = D.length + 2 from rfl, bl_right]
  rfl
theorem split3 {l : List UInt8} {p : Nat} (h : l.length = p + 3) : ∃ D c a b, l = D ++ [c, a, b] ∧ D.length = p := by
  have e := List.take_append_drop p l
  have hd : (l.drop p).length = 3 := by rw [List.length_drop]; omega
  match hx : l.drop p, hd with
  | [c, a, b], _ => exact ⟨l.take p, c, a, b, by rw [← hx, e], by rw [List.length_take]; omega⟩
/-- The text of an amount. -/
def mT (m : Int) : List UInt8 := if 0 ≤ m ∧ m ≤ 1000000000000 then decDigits (m / 100).toNat ++ [46, UInt8.ofNat (48 + m.toNat % 100 / 10), UInt8.ofNat (48 + m.toNat % 10)] else []
theorem mT_yes {m : Int} (h : 0 ≤ m ∧ m ≤ 1000000000000) : mT m = decDigits (m / 100).toNat ++ [46, UInt8.ofNat (48 + m.toNat % 100 / 10), UInt8.ofNat (48 + m.toNat % 10)] := if_pos h
theorem mT_no {m : Int} (h : ¬ (0 ≤ m ∧ m ≤ 1000000000000)) : mT m = [] := if_neg h
/-- The text of an amount is read as the amount. -/
theorem mT_back {m : Int} (h : 0 ≤ m ∧ m ≤ 1000000000000) : mpN (mT m) = m ∧ mpE (mT m) = 0 := by
  rw [mT_yes h]
  obtain ⟨d1, d2, d3⟩ := dec_back (m / 100).toNat
  obtain ⟨⟨d0, e0⟩, dd⟩ := (decB_iff _).1 d1
  generalize hD : decDigits (m / 100).toNat = D at *
  have ha : ((UInt8.ofNat (48 + m.toNat % 100 / 10)).toNat : Int) = 48 + (m.toNat % 100 / 10 : Nat) := by rw [dig_toNat (by omega)]; omega
  have hb : ((UInt8.ofNat (48 + m.toNat % 10)).toNat : Int) = 48 + (m.toNat % 10 : Nat) := by rw [dig_toNat (by omega)]; omega
  generalize UInt8.ofNat (48 + m.toNat % 100 / 10) = a at *
  generalize UInt8.ofNat (48 + m.toNat % 10) = b at *
  have hl : (D ++ [46, a, b]).length = D.length + 3 := by simp
  have hl3 : (D ++ [46, a, b]).length - 3 = D.length := by omega
  have b0 : bl (D ++ [46, a, b]) D.length = 46 := by rw [show D.length = D.length + 0 from rfl, bl_right]; rfl
  have hf : mfB (D ++ [46, a, b]) = true := by
    rw [mfB_iff, hl3, hl]
    refine ⟨⟨by omega, b0, ?_⟩, ?_⟩
    · rw [bl_left d0]; intro c; have := e0 c; omega
    · intro k hk hn
      rcases Nat.lt_or_ge k D.length with c | c
      · rw [bl_left c]; exact dd k c
      · rcases (show k = D.length + 1 ∨ k = D.length + 2 by omega) with rfl | rfl
        · rw [bl_right]; show 48 ≤ (a.toNat : Int) ∧ (a.toNat : Int) ≤ 57; omega
        · rw [bl_right]; show 48 ≤ (b.toNat : Int) ∧ (b.toNat : Int) ≤ 57; omega
  have hv : mv (D ++ [46, a, b]) ((D ++ [46, a, b]).length - 3) (D ++ [46, a, b]).length = m := by
    rw [hl3, hl, mv_three, d2, ha, hb]; omega
  have := mp_fine hf (by rw [hv]; exact h.2)
  rw [hv] at this
  exact ⟨this.1.symm, this.2.symm⟩
/-- A text that is read is the text of what is read. -/
theorem mp_back {l : List UInt8} (h : mpE l = 0) : mT (mpN l) = l := by
  obtain ⟨hf, hv, he, v0, v1⟩ := mp_of h
  rw [mT_yes ⟨v0, v1⟩]
  obtain ⟨⟨h4, h46, h48⟩, hd⟩ := (mfB_iff l).1 hf
  obtain ⟨D, c, a, b, rfl, hDl⟩ := split3 (l := l) (p := l.length - 3) (by omega)
  rw [← hDl] at h46 hd he
  have hl : (D ++ [c, a, b]).length = D.length + 3 := by simp
  rw [hl] at h48 hd he h4
  have ec : (c.toNat : Int) = 46 := by rw [show D.length = D.length + 0 from rfl, bl_right] at h46; exact h46
  have ea := hd (D.length + 1) (by omega) (by omega)
  have eb := hd (D.length + 2) (by omega) (by omega)
  rw [bl_right] at ea eb
  replace ea : 48 ≤ (a.toNat : Int) ∧ (a.toNat : Int) ≤ 57 := ea
  replace eb : 48 ≤ (b.toNat : Int) ∧ (b.toNat : Int) ≤ 57 := eb
  have hDd : decB D = true := by
    rw [decB_iff]
    refine ⟨⟨by omega, fun c => ?_⟩, fun k hk => ?_⟩
    · have := h48 (by rw [bl_left (by omega)]; exact c); omega
    · have := hd k (by omega) (by omega); rwa [bl_left hk] at this
  have hn := dec_nv hDd
  have h0 := nv_step (fun k hk => ((decB_iff D).1 hDd).2 k hk) D.length (Nat.le_refl _)
  rw [mv_three] at he
  have e1 : (mpN (D ++ [c, a, b]) / 100).toNat = (nv D D.length).toNat := by rw [he]; omega
  have e2 : UInt8.ofNat (48 + (mpN (D ++ [c, a, b])).toNat % 100 / 10) = a := by
    apply UInt8.toNat.inj; rw [UInt8.toNat_ofNat', he]; omega
  have e3 : UInt8.ofNat (48 + (mpN (D ++ [c, a, b])).toNat % 10) = b := by
    apply UInt8.toNat.inj; rw [UInt8.toNat_ofNat', he]; omega
  rw [e1, hn, e2, e3]
  have e4 : (46 : UInt8) = c := by apply UInt8.toNat.inj; show 46 = c.toNat; omega
  rw [e4]
end Go.Lott.Mny
