/- Plain facts on ticket numbers: the check digits, one replaced digit, two exchanged digits. No program stands in this text. -/
import Derived.Test.YtnnocbelgfhecaaGreatDoorNumt
namespace Go.Lott.Num
open Go.Lib

/-- n with w digits. -/
def padR : Nat → Nat → List UInt8
  | 0, _ => []
  | w + 1, n => padR w (n / 10) ++ [UInt8.ofNat (48 + n % 10)]
theorem padR_len : ∀ (w n : Nat), (padR w n).length = w
  | 0, _ => rfl
  | w + 1, n => by unfold padR; rw [List.length_append, padR_len w]; rfl
theorem padR_zero : ∀ w, padR w 0 = List.replicate w 48
  | 0 => rfl
  | w + 1 => by unfold padR; rw [Nat.zero_div, padR_zero w, List.replicate_succ']; rfl
theorem padR_dec : ∀ (w n : Nat), n < 10 ^ (w + 1) → padR (w + 1) n = List.replicate (w + 1 - (decDigits n).length) 48 ++ decDigits n
  | 0, n, h => by
    have h : n < 10 := by simpa using h
    rw [decDigits_one h]; unfold padR; unfold padR; rw [Nat.mod_eq_of_lt h]; rfl
  | w + 1, n, h => by
    by_cases c : n < 10
    · rw [decDigits_one c]
      unfold padR
      rw [Nat.div_eq_of_lt c, padR_zero, Nat.mod_eq_of_lt c]; rfl
    · rw [decDigits, dif_neg c]
      unfold padR
      rw [padR_dec w (n / 10) (by rw [Nat.pow_succ] at h; omega), List.append_assoc, List.length_append]
      congr 2
      simp
theorem dec_len : ∀ (w n : Nat), n < 10 ^ (w + 1) → (decDigits n).length ≤ w + 1
  | 0, n, h => by rw [decDigits_one (by simpa using h)]; simp
  | w + 1, n, h => by
    by_cases c : n < 10
    · rw [decDigits_one c]; simp
    · rw [decDigits, dif_neg c, List.length_append]
      have := dec_len w (n / 10) (by rw [Nat.pow_succ] at h; omega)
      simp; omega
/-- The value of n digits from place i on. -/
def dv (l : List UInt8) (i : Nat) : Nat → Int
  | 0 => 0
  | n + 1 => dv l i n * 10 + (bl l (i + n) - 48)
theorem nv_dv {t l : List UInt8} {i : Nat} : ∀ {n : Nat}, (∀ j, j < n → bl t j = bl l (i + j)) → nv t n = dv l i n
  | 0, _ => rfl
  | n + 1, h => by unfold nv dv; rw [nv_dv (n := n) (fun j hj => h j (by omega)), h n (by omega)]
theorem dv_congr {l l' : List UInt8} {i i' : Nat} : ∀ {n : Nat}, (∀ j, j < n → bl l (i + j) = bl l' (i' + j)) → dv l i n = dv l' i' n
  | 0, _ => rfl
  | n + 1, h => by unfold dv; rw [dv_congr (n := n) (fun j hj => h j (by omega)), h n (by omega)]
def Digs (l : List UInt8) (i n : Nat) : Prop := ∀ j, j < n → 48 ≤ bl l (i + j) ∧ bl l (i + j) ≤ 57
theorem Digs.less {l : List UInt8} {i n m : Nat} (h : Digs l i n) (hm : m ≤ n) : Digs l i m := fun j hj => h j (by omega)
theorem Digs.tail {l : List UInt8} {i n m k : Nat} (h : Digs l i n) (hm : m + k ≤ n) : Digs l (i + m) k := fun j hj => by
  have := h (m + j) (by omega); rw [← Nat.add_assoc] at this; exact this
theorem dv_bd {l : List UInt8} {i : Nat} : ∀ {n : Nat}, Digs l i n → 0 ≤ dv l i n ∧ dv l i n < (10 : Int) ^ n
  | 0, _ => by simp [dv]
  | n + 1, h => by
    have h1 := dv_bd (h.less (Nat.le_succ n))
    have h2 := h n (by omega)
    unfold dv; rw [Int.pow_succ]; omega
theorem pad_of_dv {l : List UInt8} {i : Nat} : ∀ {n : Nat}, Digs l i n → i + n ≤ l.length → padR n (dv l i n).toNat = (l.drop i).take n
  | 0, _, _ => by simp [padR]
  | n + 1, h, hl => by
    have h1 := (dv_bd (h.less (Nat.le_succ n))).1
    have h2 := h n (by omega)
    have e : dv l i (n + 1) = dv l i n * 10 + (bl l (i + n) - 48) := rfl
    unfold padR
    rw [e, show (dv l i n * 10 + (bl l (i + n) - 48)).toNat / 10 = (dv l i n).toNat by omega, pad_of_dv (h.less (Nat.le_succ n)) (by omega),
      bl_byte (show i + n < l.length by omega) h2 (n := (dv l i n * 10 + (bl l (i + n) - 48)).toNat % 10) (by omega),
      List.take_succ_eq_append_getElem (by rw [List.length_drop]; omega), List.getElem_drop]
theorem bl_left {l m : List UInt8} {k : Nat} (h : k < l.length) : bl (l ++ m) k = bl l k := by
  unfold bl; rw [List.getD_eq_getElem?_getD, List.getD_eq_getElem?_getD, List.getElem?_append_left h]
theorem bl_right {l m : List UInt8} {k : Nat} (h : l.length ≤ k) : bl (l ++ m) k = bl m (k - l.length) := by
  unfold bl; rw [List.getD_eq_getElem?_getD, List.getD_eq_getElem?_getD, List.getElem?_append_right h]
theorem dv_padR : ∀ (w n : Nat), n < 10 ^ w → Digs (padR w n) 0 w ∧ dv (padR w n) 0 w = (n : Int)
  | 0, n, h => ⟨fun j hj => by omega, by have h : n < 1 := by simpa using h
                                         show (0 : Int) = _; omega⟩
  | w + 1, n, h => by
    obtain ⟨h1, h2⟩ := dv_padR w (n / 10) (by rw [Nat.pow_succ] at h; omega)
    have hl := padR_len w (n / 10)
    have hd : (UInt8.ofNat (48 + n % 10)).toNat = 48 + n % 10 := dig_toNat (by omega)
    have hlast : bl (padR (w + 1) n) (0 + w) = 48 + ((n % 10 : Nat) : Int) := by
      unfold padR
      rw [bl_right (by omega), show 0 + w - (padR w (n / 10)).length = 0 by omega]
      show (((UInt8.ofNat (48 + n % 10)).toNat : Nat) : Int) = _
      rw [hd]; omega
    have hinit : ∀ j, j < w → bl (padR (w + 1) n) (0 + j) = bl (padR w (n / 10)) (0 + j) := fun j hj => by
      conv => lhs; unfold padR
      exact bl_left (by omega)
    refine ⟨fun j hj => ?_, ?_⟩
    · by_cases c : j = w
      · subst c; rw [hlast]; omega
      · rw [hinit j (by omega)]; exact h1 j (by omega)
    · show dv _ 0 w * 10 + (bl _ (0 + w) - 48) = _
      rw [dv_congr hinit, h2, hlast]; omega
/-- The weights of the digits, and the sum of the first k. -/
def wt (k : Nat) : Int := ([15, 50, 5, 49, 34, 81, 76, 27, 90, 9, 30, 3] : List Int).getD k 0
def rs (l : List UInt8) : Nat → Int
  | 0 => 0
  | k + 1 => rs l k + wt k * (bl l k - 48)
theorem rs_congr {l l' : List UInt8} : ∀ {n : Nat}, (∀ j, j < n → bl l j = bl l' j) → rs l n = rs l' n
  | 0, _ => rfl
  | n + 1, h => by unfold rs; rw [rs_congr (n := n) (fun j hj => h j (by omega)), h n (by omega)]
theorem rs_bd {l : List UInt8} (h : Digs l 0 12) : ∀ k, k ≤ 12 → 0 ≤ rs l k ∧ rs l k ≤ 810 * (k : Int)
  | 0, _ => by simp [rs]
  | k + 1, hk => by
    have h1 := rs_bd h k (by omega)
    have h2 := h k (by omega)
    rw [Nat.zero_add] at h2
    unfold rs
    rcases (show k = 0 ∨ k = 1 ∨ k = 2 ∨ k = 3 ∨ k = 4 ∨ k = 5 ∨ k = 6 ∨ k = 7 ∨ k = 8 ∨ k = 9 ∨ k = 10 ∨ k = 11 by omega) with rfl | rfl | rfl | rfl | rfl | rfl | rfl | rfl | rfl | rfl | rfl | rfl <;> simp only [wt, List.getD_cons_zero, List.getD_cons_succ] <;> omega
def chkI (l : List UInt8) : Int := 98 - rs l 12 % 97
theorem chkI_bd (l : List UInt8) : 2 ≤ chkI l ∧ chkI l ≤ 98 := by unfold chkI; omega
theorem chkI_congr {l l' : List UInt8} (h : ∀ j, j < 12 → bl l j = bl l' j) : chkI l = chkI l' := by unfold chkI; rw [rs_congr h]
/-- The sum of all digits with their weights, the check digits' too. -/
def vt (k : Nat) : Int := ([15, 50, 5, 49, 34, 81, 76, 27, 90, 9, 30, 3, 10, 1] : List Int).getD k 0
def ts (l : List UInt8) : Nat → Int
  | 0 => 0
  | k + 1 => ts l k + vt k * (bl l k - 48)
theorem ts_same {l l' : List UInt8} : ∀ {n : Nat}, (∀ j, j < n → bl l' j = bl l j) → ts l' n = ts l n
  | 0, _ => rfl
  | n + 1, h => by unfold ts; rw [ts_same (n := n) (fun j hj => h j (by omega)), h n (by omega)]
theorem ts_one {l l' : List UInt8} {i : Nat} : ∀ {n : Nat}, i < n → (∀ j, j < n → j ≠ i → bl l' j = bl l j) → ts l' n = ts l n + vt i * (bl l' i - bl l i)
  | 0, h, _ => by omega
  | n + 1, h, he => by
    unfold ts
    by_cases c : i = n
    · subst c
      rw [ts_same (l := l) (l' := l') (fun j hj => he j (by omega) (by omega)), Int.mul_sub, Int.mul_sub, Int.mul_sub]; omega
    · rw [ts_one (n := n) (by omega) (fun j hj => he j (by omega)), he n (by omega) (fun e => c e.symm)]; omega
theorem ts_two {l l' : List UInt8} {i : Nat} : ∀ {n : Nat}, i + 1 < n → (∀ j, j < n → j ≠ i → j ≠ i + 1 → bl l' j = bl l j) → ts l' n = ts l n + vt i * (bl l' i - bl l i) + vt (i + 1) * (bl l' (i + 1) - bl l (i + 1))
  | 0, h, _ => by omega
  | n + 1, h, he => by
    unfold ts
    by_cases c : i + 1 = n
    · subst c
      rw [ts_one (l := l) (l' := l') (i := i) (by omega) (fun j hj hji => he j (by omega) hji (by omega)), Int.mul_sub (vt (i + 1)), Int.mul_sub (vt (i + 1)), Int.mul_sub (vt (i + 1))]; omega
    · rw [ts_two (n := n) (by omega) (fun j hj => he j (by omega)), he n (by omega) (by omega) (fun e => c e.symm)]; omega
theorem tot14 (l : List UInt8) : rs l 12 + dv l 12 2 = ts l 14 := by
  simp [rs, dv, wt, ts, vt]; omega
/-- Hundred times the number of twelve digits, and their sum, have one remainder. -/
theorem rs_mod (l : List UInt8) : (100 * dv l 0 12) % 97 = rs l 12 % 97 := by
  have e : 100 * dv l 0 12 = rs l 12 + 97 * (103092783505 * (bl l 0 - 48) + 10309278350 * (bl l 1 - 48) + 1030927835 * (bl l 2 - 48) + 103092783 * (bl l 3 - 48) + 10309278 * (bl l 4 - 48) + 1030927 * (bl l 5 - 48) + 103092 * (bl l 6 - 48) + 10309 * (bl l 7 - 48) + 1030 * (bl l 8 - 48) + 103 * (bl l 9 - 48) + 10 * (bl l 10 - 48) + 1 * (bl l 11 - 48)) := by
    simp [rs, dv, wt]; omega
  rw [e, Int.add_mul_emod_self_left]
/-- The check digits are those that make the remainder 1. -/
theorem chk_iff (l : List UInt8) {c : Int} (h2 : 2 ≤ c) (h98 : c ≤ 98) : (100 * dv l 0 12 + c) % 97 = 1 ↔ c = chkI l := by
  have h := rs_mod l
  unfold chkI
  generalize 100 * dv l 0 12 = x at *
  generalize rs l 12 = y at *
  omega
theorem chk_tot {l : List UInt8} (h : dv l 12 2 = chkI l) : (rs l 12 + dv l 12 2) % 97 = 1 := by rw [h]; unfold chkI; omega
/-- What a text is as a ticket number. -/
def tkOk (l : List UInt8) : Bool := decide (l.length = 14) && (List.range 14).all (dgB l)
theorem tkOk_iff (l : List UInt8) : tkOk l = true ↔ l.length = 14 ∧ Digs l 0 14 := by
  unfold tkOk Digs
  rw [Bool.and_eq_true, decide_eq_true_iff, List.all_eq_true]
  constructor
  · rintro ⟨h1, h2⟩; exact ⟨h1, fun k hk => by rw [Nat.zero_add]; exact (dgB_iff l k).1 (h2 k (by simpa using hk))⟩
  · rintro ⟨h1, h2⟩; exact ⟨h1, fun k hk => (dgB_iff l k).2 (by have := h2 k (by simpa using hk); rwa [Nat.zero_add] at this)⟩
def tkV (t q : Int) : Bool := decide (1 ≤ t ∧ t ≤ 32 ∧ 1 ≤ q ∧ q ≤ 1048576)
theorem tkV_iff (t q : Int) : tkV t q = true ↔ 1 ≤ t ∧ t ≤ 32 ∧ 1 ≤ q ∧ q ≤ 1048576 := by unfold tkV; exact decide_eq_true_iff
def tkC (l : List UInt8) : Bool := decide (dv l 12 2 = chkI l)
def tkE (l : List UInt8) : Int := if tkOk l then (if tkC l then (if tkV (dv l 0 2) (dv l 2 10) then 0 else 2) else 15) else 1
def tkT (l : List UInt8) : Int := if tkOk l && tkC l && tkV (dv l 0 2) (dv l 2 10) then dv l 0 2 else 0
def tkS (l : List UInt8) : Int := if tkOk l && tkC l && tkV (dv l 0 2) (dv l 2 10) then dv l 2 10 else 0
theorem tk_syntax {l : List UInt8} (h : tkOk l = false) : 0 = tkT l ∧ 0 = tkS l ∧ 1 = tkE l := by unfold tkT tkS tkE; rw [h]; exact ⟨rfl, rfl, rfl⟩
theorem tk_sign {l : List UInt8} (h : tkOk l = true) (h2 : tkC l = false) : 0 = tkT l ∧ 0 = tkS l ∧ 15 = tkE l := by unfold tkT tkS tkE; rw [h, h2]; exact ⟨rfl, rfl, rfl⟩
theorem tk_range {l : List UInt8} (h : tkOk l = true) (h2 : tkC l = true) (h3 : tkV (dv l 0 2) (dv l 2 10) = false) : 0 = tkT l ∧ 0 = tkS l ∧ 2 = tkE l := by unfold tkT tkS tkE; rw [h, h2, h3]; exact ⟨rfl, rfl, rfl⟩
theorem tk_fine {l : List UInt8} (h : tkOk l = true) (h2 : tkC l = true) (h3 : tkV (dv l 0 2) (dv l 2 10) = true) : dv l 0 2 = tkT l ∧ dv l 2 10 = tkS l ∧ 0 = tkE l := by unfold tkT tkS tkE; rw [h, h2, h3]; exact ⟨rfl, rfl, rfl⟩
theorem tk_zero {l : List UInt8} (h : tkE l = 0) : tkOk l = true ∧ tkC l = true ∧ tkV (dv l 0 2) (dv l 2 10) = true := by
  cases h1 : tkOk l with
  | false => have := (tk_syntax h1).2.2; omega
  | true =>
    cases h2 : tkC l with
    | false => have := (tk_sign h1 h2).2.2; omega
    | true =>
      cases h3 : tkV (dv l 0 2) (dv l 2 10) with
      | false => have := (tk_range h1 h2 h3).2.2; omega
      | true => exact ⟨rfl, rfl, rfl⟩
/-- The ticket number of a terminal and a sequence number. -/
def bodyL (t q : Int) : List UInt8 := padR 2 t.toNat ++ padR 10 q.toNat
def mkL (t q : Int) : List UInt8 := bodyL t q ++ padR 2 (chkI (bodyL t q)).toNat
theorem body_len (t q : Int) : (bodyL t q).length = 12 := by unfold bodyL; rw [List.length_append, padR_len, padR_len]
theorem mk_len (t q : Int) : (mkL t q).length = 14 := by unfold mkL; rw [List.length_append, body_len, padR_len]
theorem mk_parts {t q : Int} (h : tkV t q = true) : Digs (bodyL t q) 0 12 ∧ Digs (mkL t q) 0 14 ∧ dv (mkL t q) 0 2 = t ∧ dv (mkL t q) 2 10 = q ∧ dv (mkL t q) 12 2 = chkI (mkL t q) := by
  obtain ⟨t1, t2, q1, q2⟩ := (tkV_iff t q).1 h
  obtain ⟨a1, a2⟩ := dv_padR 2 t.toNat (by omega)
  obtain ⟨b1, b2⟩ := dv_padR 10 q.toNat (by omega)
  have hc := chkI_bd (bodyL t q)
  obtain ⟨c1, c2⟩ := dv_padR 2 (chkI (bodyL t q)).toNat (by omega)
  have lp := padR_len 2 t.toNat
  have lq := padR_len 10 q.toNat
  have eA : ∀ j, j < 2 → bl (bodyL t q) (0 + j) = bl (padR 2 t.toNat) (0 + j) := fun j hj => bl_left (by omega)
  have eB : ∀ j, j < 10 → bl (bodyL t q) (2 + j) = bl (padR 10 q.toNat) (0 + j) := fun j hj => by
    unfold bodyL; rw [bl_right (by omega), lp]; congr 1; omega
  have eM : ∀ j, j < 12 → bl (mkL t q) j = bl (bodyL t q) j := fun j hj => bl_left (by rw [body_len]; exact hj)
  have eC : ∀ j, j < 2 → bl (mkL t q) (12 + j) = bl (padR 2 (chkI (bodyL t q)).toNat) (0 + j) := fun j hj => by
    unfold mkL; rw [bl_right (by rw [body_len]; omega), body_len]; congr 1; omega
  have dB : Digs (bodyL t q) 0 12 := fun j hj => by
    by_cases c : j < 2
    · rw [eA j c]; exact a1 j c
    · have := eB (j - 2) (by omega)
      rw [show 2 + (j - 2) = 0 + j by omega] at this
      rw [this]; exact b1 (j - 2) (by omega)
  refine ⟨dB, fun j hj => ?_, ?_, ?_, ?_⟩
  · by_cases c : j < 12
    · rw [Nat.zero_add, eM j c]; have := dB j c; rwa [Nat.zero_add] at this
    · have := eC (j - 12) (by omega)
      rw [show 12 + (j - 12) = 0 + j by omega] at this
      rw [this]; exact c1 (j - 12) (by omega)
  · rw [dv_congr (l' := padR 2 t.toNat) (i' := 0) (fun j hj => by rw [Nat.zero_add, eM j (by omega)]; have := eA j hj; rwa [Nat.zero_add] at this), a2]; omega
  · rw [dv_congr (l' := padR 10 q.toNat) (i' := 0) (fun j hj => by rw [eM (2 + j) (by omega)]; exact eB j hj), b2]; omega
  · rw [dv_congr eC, c2, chkI_congr eM]; omega
theorem mk_fine {t q : Int} (h : tkV t q = true) : tkT (mkL t q) = t ∧ tkS (mkL t q) = q ∧ tkE (mkL t q) = 0 := by
  obtain ⟨_, h1, h2, h3, h4⟩ := mk_parts h
  have := tk_fine ((tkOk_iff _).2 ⟨mk_len t q, h1⟩) (decide_eq_true h4) (by rw [h2, h3]; exact h)
  rw [h2, h3] at this
  exact ⟨this.1.symm, this.2.1.symm, this.2.2.symm⟩
theorem ok_parts {l : List UInt8} (h : tkOk l = true) : Digs l 0 2 ∧ Digs l 2 10 ∧ Digs l 12 2 ∧ Digs l 0 12 := by
  have hd := ((tkOk_iff l).1 h).2
  exact ⟨hd.less (by omega), hd.tail (m := 2) (k := 10) (by omega), hd.tail (m := 12) (k := 2) (by omega), hd.less (by omega)⟩
theorem mk_back {l : List UInt8} (h : tkE l = 0) : mkL (tkT l) (tkS l) = l ∧ tkV (tkT l) (tkS l) = true := by
  obtain ⟨h1, h2, h3⟩ := tk_zero h
  obtain ⟨e1, e2, _⟩ := tk_fine h1 h2 h3
  obtain ⟨d1, d2, d3, d4⟩ := ok_parts h1
  have hl := ((tkOk_iff l).1 h1).1
  rw [← e1, ← e2]
  refine ⟨?_, h3⟩
  have p1 := pad_of_dv d1 (by omega)
  have p2 := pad_of_dv d2 (by omega)
  have p3 := pad_of_dv d3 (by omega)
  have hb : bodyL (dv l 0 2) (dv l 2 10) = l.take 12 := by
    unfold bodyL
    rw [p1, p2, List.drop_zero]
    have := List.take_add (l := l) (i := 2) (j := 10)
    rw [this]
  unfold mkL
  rw [hb, chkI_congr (l' := l) (fun j hj => by unfold bl; rw [List.getD_eq_getElem?_getD, List.getD_eq_getElem?_getD, List.getElem?_take_of_lt hj]), ← of_decide_eq_true h2, p3,
    List.take_of_length_le (l := l.drop 12) (by rw [List.length_drop]; omega), List.take_append_drop]
/-- The reference compares texts. -/
theorem chk_text {l : List UInt8} (h : tkOk l = true) : (padR 2 (chkI l).toNat = l.drop 12) ↔ dv l 12 2 = chkI l := by
  obtain ⟨d1, d2, d3, d4⟩ := ok_parts h
  have hl := ((tkOk_iff l).1 h).1
  have p3 := pad_of_dv d3 (by omega)
  rw [List.take_of_length_le (by rw [List.length_drop]; omega)] at p3
  have hc := chkI_bd l
  constructor
  · intro e
    have h1 := (dv_padR 2 (chkI l).toNat (by omega)).2
    have h2 := (dv_padR 2 (dv l 12 2).toNat (by have := (dv_bd d3).2; have := (dv_bd d3).1; have : (10 : Int) ^ 2 = 100 := rfl; omega)).2
    rw [e, ← p3, h2] at h1
    have := (dv_bd d3).1
    omega
  · intro e; rw [← e]; exact p3
theorem no_multiple {i : Nat} (hi : i < 14) {x : Int} (h0 : x ≠ 0) (h1 : -9 ≤ x) (h2 : x ≤ 9) : vt i * x % 97 ≠ 0 := by
  rcases (show i = 0 ∨ i = 1 ∨ i = 2 ∨ i = 3 ∨ i = 4 ∨ i = 5 ∨ i = 6 ∨ i = 7 ∨ i = 8 ∨ i = 9 ∨ i = 10 ∨ i = 11 ∨ i = 12 ∨ i = 13 by omega) with rfl | rfl | rfl | rfl | rfl | rfl | rfl | rfl | rfl | rfl | rfl | rfl | rfl | rfl <;> simp only [vt, List.getD_cons_zero, List.getD_cons_succ] <;> omega
theorem no_multiple2 {i : Nat} (hi : i < 13) {x : Int} (h0 : x ≠ 0) (h1 : -9 ≤ x) (h2 : x ≤ 9) : (vt i * x + vt (i + 1) * -x) % 97 ≠ 0 := by
  rcases (show i = 0 ∨ i = 1 ∨ i = 2 ∨ i = 3 ∨ i = 4 ∨ i = 5 ∨ i = 6 ∨ i = 7 ∨ i = 8 ∨ i = 9 ∨ i = 10 ∨ i = 11 ∨ i = 12 by omega) with rfl | rfl | rfl | rfl | rfl | rfl | rfl | rfl | rfl | rfl | rfl | rfl | rfl <;> simp only [vt, List.getD_cons_zero, List.getD_cons_succ] <;> omega
/-- One digit is replaced by another one: not valid. -/
theorem detects {l l' : List UInt8} {i : Nat} (hi : i < 14) (h : tkE l = 0) (d : 48 ≤ bl l i ∧ bl l i ≤ 57) (d' : 48 ≤ bl l' i ∧ bl l' i ≤ 57) (hne : bl l' i ≠ bl l i) (he : ∀ j, j < 14 → j ≠ i → bl l' j = bl l j) : tkE l' ≠ 0 := by
  intro h'
  have t1 := chk_tot (of_decide_eq_true (tk_zero h).2.1)
  have t2 := chk_tot (of_decide_eq_true (tk_zero h').2.1)
  rw [tot14] at t1 t2
  rw [ts_one hi he] at t2
  have := no_multiple hi (x := bl l' i - bl l i) (by omega) (by omega) (by omega)
  generalize vt i * (bl l' i - bl l i) = z at *
  omega
/-- Two neighbours that differ are exchanged: not valid. -/
theorem swaps {l l' : List UInt8} {i : Nat} (hi : i < 13) (h : tkE l = 0) (d : 48 ≤ bl l i ∧ bl l i ≤ 57) (d' : 48 ≤ bl l (i + 1) ∧ bl l (i + 1) ≤ 57) (hne : bl l i ≠ bl l (i + 1)) (e1 : bl l' i = bl l (i + 1)) (e2 : bl l' (i + 1) = bl l i)
    (he : ∀ j, j < 14 → j ≠ i → j ≠ i + 1 → bl l' j = bl l j) : tkE l' ≠ 0 := by
  intro h'
  have t1 := chk_tot (of_decide_eq_true (tk_zero h).2.1)
  have t2 := chk_tot (of_decide_eq_true (tk_zero h').2.1)
  rw [tot14] at t1 t2
  rw [ts_two (by omega) he, e1, e2, show bl l i - bl l (i + 1) = -(bl l (i + 1) - bl l i) by omega] at t2
  have := no_multiple2 hi (x := bl l (i + 1) - bl l i) (by omega) (by omega) (by omega)
  rw [Int.add_assoc] at t2
  generalize vt i * (bl l (i + 1) - bl l i) + vt (i + 1) * -(bl l (i + 1) - bl l i) = z at *
  omega
end Go.Lott.Num
