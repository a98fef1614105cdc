/- Parse of package calendar and of its reference: both compute the same plain functions. -/
import Derived.Test.YtmncocmdobondaaDoorCald
import Derived.Test.YtmncocmdobondaaDoorCalp
namespace Go.Proofs.YtmncocmdobondaaDoor
open Go.ChangeShapes Go.WideShapes Go.ChangeAt Go.RowKit Go.Lott

/-- Byte k of a text, as a number. -/
def bt (s : ByteArray) (k : Nat) : Int := ((s.data.toList.getD k 0).toNat : Int)
theorem bt_eq (s : ByteArray) (k : Nat) (h : k < s.size) : bt s k = (s[k].toNat : Int) := by
  have h' : k < s.data.toList.length := by simpa using h
  unfold bt
  rw [List.getD_eq_getElem?_getD, List.getElem?_eq_getElem h']
  rfl
def sep (k : Nat) : Int := match k with | 4 => 45 | 7 => 45 | 10 => 32 | 13 => 58 | _ => 0
/-- Byte k is as the form asks. -/
def okAt (s : ByteArray) (k : Nat) : Bool := if sep k = 0 then decide (48 ≤ bt s k ∧ bt s k ≤ 57) else decide (bt s k = sep k)
def okAll (s : ByteArray) : Bool := (List.range 16).all (okAt s)
theorem okAll_of {s : ByteArray} (h : ∀ j, j < 16 → okAt s j = true) : okAll s = true := by unfold okAll; rw [List.all_eq_true]; intro x hx; exact h x (by simpa using hx)
theorem okAll_not {s : ByteArray} {k : Nat} (hk : k < 16) (h : okAt s k = false) : okAll s = false := by
  cases c : okAll s with
  | false => rfl
  | true =>
    unfold okAll at c; rw [List.all_eq_true] at c
    rw [c k (by simpa using hk)] at h; cases h
theorem okAt_dig {s : ByteArray} {k : Nat} (hk : sep k = 0) (h : k < s.size) : okAt s k = decide (48 ≤ (s[k].toNat : Int) ∧ (s[k].toNat : Int) ≤ 57) := by unfold okAt; rw [if_pos hk, bt_eq s k h]
theorem okAt_sep {s : ByteArray} {k : Nat} {c : Int} (hk : sep k = c) (hc : c ≠ 0) (h : k < s.size) : okAt s k = decide ((s[k].toNat : Int) = c) := by unfold okAt; rw [if_neg (by omega), bt_eq s k h, hk]

def pr (s : ByteArray) (k : Nat) : Int := 10 * (bt s k - 48) + bt s (k + 1) - 48
def pY (s : ByteArray) : Int := 100 * pr s 0 + pr s 2
def pOk (s : ByteArray) : Bool := exB (pY s) (pr s 5) (pr s 8) && decide (pr s 11 ≤ 23) && decide (pr s 14 ≤ 59)
def pT (s : ByteArray) : Int := 1440 * Cal.num (pY s) (pr s 5) (pr s 8) + 60 * pr s 11 + pr s 14
def pN (s : ByteArray) : Int := if s.size = 16 ∧ okAll s = true ∧ pOk s = true ∧ pT s ≤ 1073741824 then pT s else 0
def pE (s : ByteArray) : Int := if s.size = 16 ∧ okAll s = true then (if pOk s = true ∧ pT s ≤ 1073741824 then 0 else 2) else 1
theorem p_syntax {s : ByteArray} (h : ¬ (s.size = 16 ∧ okAll s = true)) : 0 = pN s ∧ 1 = pE s := by
  unfold pN pE; rw [if_neg h, if_neg (fun c => h ⟨c.1, c.2.1⟩)]; exact ⟨rfl, rfl⟩
theorem p_range {s : ByteArray} (h0 : s.size = 16) (h1 : okAll s = true) (h : ¬ (pOk s = true ∧ pT s ≤ 1073741824)) : 0 = pN s ∧ 2 = pE s := by
  unfold pN pE; rw [if_neg (fun c => h ⟨c.2.2.1, c.2.2.2⟩), if_pos ⟨h0, h1⟩, if_neg h]; exact ⟨rfl, rfl⟩
theorem p_fine {s : ByteArray} (h0 : s.size = 16) (h1 : okAll s = true) (h2 : pOk s = true) (h3 : pT s ≤ 1073741824) : pT s = pN s ∧ 0 = pE s := by
  unfold pN pE; rw [if_pos ⟨h0, h1, h2, h3⟩, if_pos ⟨h0, h1⟩, if_pos ⟨h2, h3⟩]; exact ⟨rfl, rfl⟩
theorem okAt_step {s : ByteArray} {k : Nat} (h : ∀ j, j < k → okAt s j = true) (hk : okAt s k = true) : ∀ j, j < k + 1 → okAt s j = true := fun j hj => by
  rcases Nat.lt_or_ge j k with h' | h'
  · exact h j h'
  · rwa [show j = k by omega]
theorem p_bad {s : ByteArray} {k : Nat} (hk : k < 16) (h : okAt s k = false) : 0 = pN s ∧ 1 = pE s := p_syntax fun c => by rw [okAll_not hk h] at c; cases c.2
def nm (s : ByteArray) (a : Nat) : Nat → Int
  | 0 => 0
  | n + 1 => nm s a n * 10 + (bt s (a + n) - 48)
theorem nm_bd {s : ByteArray} {a n : Nat} (h : ∀ j, a ≤ j → j < a + n → 48 ≤ bt s j ∧ bt s j ≤ 57) (hn : n ≤ 4) : 0 ≤ nm s a n ∧ nm s a n ≤ 9999 := by
  have b0 := fun c : 0 < n => h a (by omega) (by omega)
  have b1 := fun c : 1 < n => h (a + 1) (by omega) (by omega)
  have b2 := fun c : 2 < n => h (a + 2) (by omega) (by omega)
  have b3 := fun c : 3 < n => h (a + 3) (by omega) (by omega)
  rcases (show n = 0 ∨ n = 1 ∨ n = 2 ∨ n = 3 ∨ n = 4 by omega) with rfl | rfl | rfl | rfl | rfl <;> simp [nm] at * <;> omega
set_option maxHeartbeats 1000000 in
theorem pNum_any (s : ByteArray) (a n : Nat) (b : Nat) (w : World) (hc : w.cell? ⟨b, 0, none⟩ = some (.string s)) (hd : ∀ j, a ≤ j → j < a + n → 48 ≤ bt s j ∧ bt s j ≤ 57) (hn : n ≤ 4) (hs : a + n ≤ s.size) (hs2 : s.size ≤ 16) :
    Calls Tryd.prog 56 #[.int .i64 (a : Int), .int .i64 ((a : Int) + (n : Int)), .pointer (some ⟨b, 0, none⟩)] w (RetS (.int .i64 (nm s a n)) w) := by
  have HD := Lib.hid hd
  clear hd
  go_enter Tryd.func56, Tryd.ntmps56
  go_wp2
  go_loop [6, 7] (fun t i => ∃ k : Nat, k ≤ n ∧ i = .int .i64 ((a : Int) + (k : Int)) ∧ t = .int .i64 (nm s a k)) (fun _ i => 40 - (intOf i).toNat)
  case atStart => exact ⟨0, by omega, by simp, rfl⟩
  case round =>
    obtain ⟨k, hk, rfl, rfl⟩ := hrel
    have nb := nm_bd (s := s) (a := a) (n := k) (fun j h1 h2 => HD.out j h1 (by omega)) (by omega)
    by_cases hlt : k < n
    · have db := HD.out (a + k) (by omega) (by omega)
      rw [bt_eq s (a + k) (by omega)] at db
      have HS := Lib.hid (show nm s a (k + 1) = nm s a k * 10 + ((s[a + k].toNat : Int) - 48) by rw [← bt_eq]; rfl)
      go_wp2
      go_round
      case rel => exact ⟨k + 1, by omega, by go_num, by rw [HS.out]⟩
      case measure => simp [intOf]; omega
    · obtain rfl : k = n := by omega
      go_wp2
      go_ret
      exact ⟨rfl, rfl⟩
theorem okAll_at {s : ByteArray} (h : okAll s = true) {k : Nat} (hk : k < 16) : okAt s k = true := by unfold okAll at h; rw [List.all_eq_true] at h; exact h k (by simpa using hk)
theorem dig_at {s : ByteArray} (h : okAll s = true) {k : Nat} (hk : k < 16) (h0 : sep k = 0) : 48 ≤ bt s k ∧ bt s k ≤ 57 := by
  have := okAll_at h hk
  unfold okAt at this; rw [if_pos h0] at this; simpa using this
theorem digs_at {s : ByteArray} (h : okAll s = true) (a n : Nat) (hn : a + n ≤ 16) (h0 : ∀ j, a ≤ j → j < a + n → sep j = 0) : ∀ j, a ≤ j → j < a + n → 48 ≤ bt s j ∧ bt s j ≤ 57 := fun j h1 h2 => dig_at h (by omega) (h0 j h1 h2)
theorem nmY {s : ByteArray} : nm s 0 4 = pY s := by simp [nm, pY, pr]; omega
theorem nm2 {s : ByteArray} (a : Nat) : nm s a 2 = pr s a := by simp [nm, pr]; omega
theorem num04 (s : ByteArray) (b : Nat) (w : World) (hc : w.cell? ⟨b, 0, none⟩ = some (.string s)) (ho : okAll s = true) (hs : 16 ≤ s.size) (hs2 : s.size ≤ 16) :
    Calls Tryd.prog 56 #[.int .i64 0, .int .i64 4, .pointer (some ⟨b, 0, none⟩)] w (RetS (.int .i64 (pY s)) w) := by
  have := pNum_any s 0 4 b w hc (digs_at ho 0 4 (by omega) (fun j h1 h2 => by rcases (show j = 0 ∨ j = 0 + 1 ∨ j = 0 + 2 ∨ j = 0 + 3 by omega) with rfl | rfl | rfl | rfl <;> first | rfl | omega)) (by omega) (by omega) hs2
  rwa [nmY] at this
theorem num57 (s : ByteArray) (b : Nat) (w : World) (hc : w.cell? ⟨b, 0, none⟩ = some (.string s)) (ho : okAll s = true) (hs : 16 ≤ s.size) (hs2 : s.size ≤ 16) :
    Calls Tryd.prog 56 #[.int .i64 5, .int .i64 7, .pointer (some ⟨b, 0, none⟩)] w (RetS (.int .i64 (pr s 5)) w) := by
  have := pNum_any s 5 2 b w hc (digs_at ho 5 2 (by omega) (fun j h1 h2 => by rcases (show j = 5 ∨ j = 5 + 1 ∨ j = 5 + 2 ∨ j = 5 + 3 by omega) with rfl | rfl | rfl | rfl <;> first | rfl | omega)) (by omega) (by omega) hs2
  rwa [nm2] at this
theorem num8a (s : ByteArray) (b : Nat) (w : World) (hc : w.cell? ⟨b, 0, none⟩ = some (.string s)) (ho : okAll s = true) (hs : 16 ≤ s.size) (hs2 : s.size ≤ 16) :
    Calls Tryd.prog 56 #[.int .i64 8, .int .i64 10, .pointer (some ⟨b, 0, none⟩)] w (RetS (.int .i64 (pr s 8)) w) := by
  have := pNum_any s 8 2 b w hc (digs_at ho 8 2 (by omega) (fun j h1 h2 => by rcases (show j = 8 ∨ j = 8 + 1 ∨ j = 8 + 2 ∨ j = 8 + 3 by omega) with rfl | rfl | rfl | rfl <;> first | rfl | omega)) (by omega) (by omega) hs2
  rwa [nm2] at this
theorem numbd (s : ByteArray) (b : Nat) (w : World) (hc : w.cell? ⟨b, 0, none⟩ = some (.string s)) (ho : okAll s = true) (hs : 16 ≤ s.size) (hs2 : s.size ≤ 16) :
    Calls Tryd.prog 56 #[.int .i64 11, .int .i64 13, .pointer (some ⟨b, 0, none⟩)] w (RetS (.int .i64 (pr s 11)) w) := by
  have := pNum_any s 11 2 b w hc (digs_at ho 11 2 (by omega) (fun j h1 h2 => by rcases (show j = 11 ∨ j = 11 + 1 ∨ j = 11 + 2 ∨ j = 11 + 3 by omega) with rfl | rfl | rfl | rfl <;> first | rfl | omega)) (by omega) (by omega) hs2
  rwa [nm2] at this
theorem numeg (s : ByteArray) (b : Nat) (w : World) (hc : w.cell? ⟨b, 0, none⟩ = some (.string s)) (ho : okAll s = true) (hs : 16 ≤ s.size) (hs2 : s.size ≤ 16) :
    Calls Tryd.prog 56 #[.int .i64 14, .int .i64 16, .pointer (some ⟨b, 0, none⟩)] w (RetS (.int .i64 (pr s 14)) w) := by
  have := pNum_any s 14 2 b w hc (digs_at ho 14 2 (by omega) (fun j h1 h2 => by rcases (show j = 14 ∨ j = 14 + 1 ∨ j = 14 + 2 ∨ j = 14 + 3 by omega) with rfl | rfl | rfl | rfl <;> first | rfl | omega)) (by omega) (by omega) hs2
  rwa [nm2] at this
theorem pr_bd {s : ByteArray} {k : Nat} (h1 : 48 ≤ bt s k ∧ bt s k ≤ 57) (h2 : 48 ≤ bt s (k + 1) ∧ bt s (k + 1) ≤ 57) : 0 ≤ pr s k ∧ pr s k ≤ 99 := by unfold pr; omega
theorem prs_bd {s : ByteArray} (h : okAll s = true) : (0 ≤ pr s 0 ∧ pr s 0 ≤ 99) ∧ (0 ≤ pr s 2 ∧ pr s 2 ≤ 99) ∧ (0 ≤ pr s 5 ∧ pr s 5 ≤ 99) ∧ (0 ≤ pr s 8 ∧ pr s 8 ≤ 99) ∧ (0 ≤ pr s 11 ∧ pr s 11 ≤ 99) ∧ (0 ≤ pr s 14 ∧ pr s 14 ≤ 99) :=
  ⟨pr_bd (dig_at h (by omega) rfl) (dig_at h (by omega) rfl), pr_bd (dig_at h (by omega) rfl) (dig_at h (by omega) rfl), pr_bd (dig_at h (by omega) rfl) (dig_at h (by omega) rfl), pr_bd (dig_at h (by omega) rfl) (dig_at h (by omega) rfl), pr_bd (dig_at h (by omega) rfl) (dig_at h (by omega) rfl), pr_bd (dig_at h (by omega) rfl) (dig_at h (by omega) rfl)⟩
theorem dayOf_yes (y m d : Int) (w : World) (ht : Tab w) (h : exB y m d = true) : Calls Tryd.prog 46 #[.int .i64 y, .int .i64 m, .int .i64 d] w (RetS (.tuple #[.int .i64 (Cal.num y m d), .int .i64 0]) w) := by
  have := dayOf_any y m d w ht
  rwa [dayVt y m d h] at this
theorem dayOf_no (y m d : Int) (w : World) (ht : Tab w) (h : exB y m d = false) : Calls Tryd.prog 46 #[.int .i64 y, .int .i64 m, .int .i64 d] w (RetS (.tuple #[.int .i64 0, .int .i64 2]) w) := by
  have := dayOf_any y m d w ht
  rwa [dayVf y m d h] at this
theorem num_bd {y m d : Int} (h : exB y m d = true) : 0 ≤ Cal.num y m d ∧ Cal.num y m d ≤ 800000 := by
  have h := (exB_iff y m d).1 h
  have hl := Cal.len_bd y m (by omega) (by omega)
  have hy := Cal.ys_bd y (by omega) (by omega)
  have hc := Cal.cum_bd y m (by omega) (by omega)
  unfold Cal.num
  omega
set_option maxRecDepth 100000 in
set_option maxHeartbeats 8000000 in
theorem Parse_loop (s : ByteArray) (w : World) (ht : Tab w) (h1 : 16 ≤ s.size) (h2 : s.size ≤ 16) : Calls Tryd.prog 28 #[.string s] w (RetB (.tuple #[.int .i64 (pN s), .int .i64 (pE s)]) w) := by
  have hsz : ((s.size : Int) != 16) = false := by rw [bne_eq_false_iff_eq]; omega
  have HT := Lib.hid ht
  clear ht
  go_enter Tryd.func28, Tryd.ntmps28
  go_wp2
  go_loopw [14] (fun i wr => ∃ k : Nat, k ≤ 16 ∧ i = .int .i64 k ∧ (∀ j, j < k → okAt s j = true) ∧ Below (w.heap.size + 1) (w.alloc (.cells #[.string s] 9)) wr) (fun i _ => 16 - (intOf i).toNat)
  case atStart => exact ⟨0, by omega, rfl, by omega, Below.refl _ _⟩
  case round =>
    obtain ⟨k, hk, rfl, hok, hb⟩ := hrel
    have hb' : Below w.heap.size w wr := ((Below.refl _ _).alloc (Nat.le_refl _) _).trans (hb.mono (by omega))
    have hc : wr.cell? ⟨w.heap.size, 0, none⟩ = some (.string s) := by rw [hb.cell (by simp)]; simp
    have HO := Lib.hid hok
    clear hok
    by_cases h16 : k = 16
    · subst h16
      have HA := Lib.hid (okAll_of HO.out)
      clear HO
      obtain ⟨q0, q2, q5, q8, q11, q14⟩ := prs_bd HA.out
      have HS := Lib.hid (show s.size = 16 by omega)
      by_cases hx : exB (pY s) (pr s 5) (pr s 8) = true
      · have hn := num_bd hx
        have HX := Lib.hid hx
        clear hx
        by_cases hh : pr s 11 ≤ 23
        · by_cases hm : pr s 14 ≤ 59
          · have HP := Lib.hid (show pOk s = true by unfold pOk; rw [HX.out, decide_eq_true hh, decide_eq_true hm]; rfl)
            by_cases hl : Cal.num (pY s) (pr s 5) (pr s 8) * 1440 + pr s 11 * 60 + pr s 14 ≤ 1073741824
            · have hT : isT (Cal.num (pY s) (pr s 5) (pr s 8) * 1440 + pr s 11 * 60 + pr s 14) = true := by rw [isT]; exact decide_eq_true (by omega)
              have HF := Lib.hid (p_fine HS.out HA.out HP.out (by unfold pT; omega))
              have HV := Lib.hid (show Cal.num (pY s) (pr s 5) (pr s 8) * 1440 + pr s 11 * 60 + pr s 14 = pT s by unfold pT; omega)
              go_wp2_with (first | (first | (go_at_call 56; (with_reducible refine (num04 s _ _ hc HA.out h1 h2).mono ?_); rintro e w' ⟨rfl, rfl⟩) | (go_at_call 56; (with_reducible refine (num57 s _ _ hc HA.out h1 h2).mono ?_); rintro e w' ⟨rfl, rfl⟩) | (go_at_call 56; (with_reducible refine (num8a s _ _ hc HA.out h1 h2).mono ?_); rintro e w' ⟨rfl, rfl⟩) | (go_at_call 56; (with_reducible refine (numbd s _ _ hc HA.out h1 h2).mono ?_); rintro e w' ⟨rfl, rfl⟩) | (go_at_call 56; (with_reducible refine (numeg s _ _ hc HA.out h1 h2).mono ?_); rintro e w' ⟨rfl, rfl⟩) | (go_at_call 40; refine (isTime_any _ _).mono ?_; rintro e w' ⟨rfl, rfl⟩)) | (go_at_call 46; refine (dayOf_yes _ _ _ _ (HT.out.grow hb') HX.out).mono ?_; rintro e w' ⟨rfl, rfl⟩))
              go_ret2
              exact ⟨ret_two (HV.out.trans HF.out.1) HF.out.2, hb'⟩
            · have hT : isT (Cal.num (pY s) (pr s 5) (pr s 8) * 1440 + pr s 11 * 60 + pr s 14) = false := by rw [isT]; exact decide_eq_false (by omega)
              have HF := Lib.hid (p_range HS.out HA.out (fun c => by have := c.2; unfold pT at this; omega))
              go_wp2_with (first | (first | (go_at_call 56; (with_reducible refine (num04 s _ _ hc HA.out h1 h2).mono ?_); rintro e w' ⟨rfl, rfl⟩) | (go_at_call 56; (with_reducible refine (num57 s _ _ hc HA.out h1 h2).mono ?_); rintro e w' ⟨rfl, rfl⟩) | (go_at_call 56; (with_reducible refine (num8a s _ _ hc HA.out h1 h2).mono ?_); rintro e w' ⟨rfl, rfl⟩) | (go_at_call 56; (with_reducible refine (numbd s _ _ hc HA.out h1 h2).mono ?_); rintro e w' ⟨rfl, rfl⟩) | (go_at_call 56; (with_reducible refine (numeg s _ _ hc HA.out h1 h2).mono ?_); rintro e w' ⟨rfl, rfl⟩) | (go_at_call 40; refine (isTime_any _ _).mono ?_; rintro e w' ⟨rfl, rfl⟩)) | (go_at_call 46; refine (dayOf_yes _ _ _ _ (HT.out.grow hb') HX.out).mono ?_; rintro e w' ⟨rfl, rfl⟩))
              go_ret2
              exact ⟨ret_two HF.out.1 HF.out.2, hb'⟩
          · have HF := Lib.hid (p_range HS.out HA.out (fun c => by have := c.1; unfold pOk at this; rw [decide_eq_false hm] at this; simp at this))
            go_wp2_with (first | (first | (go_at_call 56; (with_reducible refine (num04 s _ _ hc HA.out h1 h2).mono ?_); rintro e w' ⟨rfl, rfl⟩) | (go_at_call 56; (with_reducible refine (num57 s _ _ hc HA.out h1 h2).mono ?_); rintro e w' ⟨rfl, rfl⟩) | (go_at_call 56; (with_reducible refine (num8a s _ _ hc HA.out h1 h2).mono ?_); rintro e w' ⟨rfl, rfl⟩) | (go_at_call 56; (with_reducible refine (numbd s _ _ hc HA.out h1 h2).mono ?_); rintro e w' ⟨rfl, rfl⟩) | (go_at_call 56; (with_reducible refine (numeg s _ _ hc HA.out h1 h2).mono ?_); rintro e w' ⟨rfl, rfl⟩) | (go_at_call 40; refine (isTime_any _ _).mono ?_; rintro e w' ⟨rfl, rfl⟩)) | (go_at_call 46; refine (dayOf_yes _ _ _ _ (HT.out.grow hb') HX.out).mono ?_; rintro e w' ⟨rfl, rfl⟩))
            go_ret2
            exact ⟨ret_two HF.out.1 HF.out.2, hb'⟩
        · have HF := Lib.hid (p_range HS.out HA.out (fun c => by have := c.1; unfold pOk at this; rw [decide_eq_false hh] at this; simp at this))
          go_wp2_with (first | (first | (go_at_call 56; (with_reducible refine (num04 s _ _ hc HA.out h1 h2).mono ?_); rintro e w' ⟨rfl, rfl⟩) | (go_at_call 56; (with_reducible refine (num57 s _ _ hc HA.out h1 h2).mono ?_); rintro e w' ⟨rfl, rfl⟩) | (go_at_call 56; (with_reducible refine (num8a s _ _ hc HA.out h1 h2).mono ?_); rintro e w' ⟨rfl, rfl⟩) | (go_at_call 56; (with_reducible refine (numbd s _ _ hc HA.out h1 h2).mono ?_); rintro e w' ⟨rfl, rfl⟩) | (go_at_call 56; (with_reducible refine (numeg s _ _ hc HA.out h1 h2).mono ?_); rintro e w' ⟨rfl, rfl⟩) | (go_at_call 40; refine (isTime_any _ _).mono ?_; rintro e w' ⟨rfl, rfl⟩)) | (go_at_call 46; refine (dayOf_yes _ _ _ _ (HT.out.grow hb') HX.out).mono ?_; rintro e w' ⟨rfl, rfl⟩))
          go_ret2
          exact ⟨ret_two HF.out.1 HF.out.2, hb'⟩
      · have hx' : exB (pY s) (pr s 5) (pr s 8) = false := by simpa using hx
        have HX := Lib.hid hx'
        have HF := Lib.hid (p_range HS.out HA.out (fun c => by have := c.1; unfold pOk at this; rw [HX.out] at this; simp at this))
        clear hx hx'
        go_wp2_with (first | (first | (go_at_call 56; (with_reducible refine (num04 s _ _ hc HA.out h1 h2).mono ?_); rintro e w' ⟨rfl, rfl⟩) | (go_at_call 56; (with_reducible refine (num57 s _ _ hc HA.out h1 h2).mono ?_); rintro e w' ⟨rfl, rfl⟩) | (go_at_call 56; (with_reducible refine (num8a s _ _ hc HA.out h1 h2).mono ?_); rintro e w' ⟨rfl, rfl⟩) | (go_at_call 56; (with_reducible refine (numbd s _ _ hc HA.out h1 h2).mono ?_); rintro e w' ⟨rfl, rfl⟩) | (go_at_call 56; (with_reducible refine (numeg s _ _ hc HA.out h1 h2).mono ?_); rintro e w' ⟨rfl, rfl⟩) | (go_at_call 40; refine (isTime_any _ _).mono ?_; rintro e w' ⟨rfl, rfl⟩)) | (go_at_call 46; refine (dayOf_no _ _ _ _ (HT.out.grow hb') HX.out).mono ?_; rintro e w' ⟨rfl, rfl⟩))
        go_ret2
        exact ⟨ret_two HF.out.1 HF.out.2, hb'⟩
    · rcases (show k = 0 ∨ k = 1 ∨ k = 2 ∨ k = 3 ∨ k = 4 ∨ k = 5 ∨ k = 6 ∨ k = 7 ∨ k = 8 ∨ k = 9 ∨ k = 10 ∨ k = 11 ∨ k = 12 ∨ k = 13 ∨ k = 14 ∨ k = 15 by omega) with rfl | rfl | rfl | rfl | rfl | rfl | rfl | rfl | rfl | rfl | rfl | rfl | rfl | rfl | rfl | rfl
      · have hf : ∀ h, (ByteArray.mk #[48, 48, 48, 48, 45, 48, 48, 45, 48, 48, 32, 48, 48, 58, 48, 48])[0]'h = 48 := fun _ => rfl
        go_wp2
        all_goals first
          | (go_ret2; have P := p_bad (s := s) (k := 0) (by omega) (by rw [okAt_dig rfl (by omega)]; exact decide_eq_false (by omega)); exact ⟨ret_two P.1 P.2, hb'⟩)
          | (refine ⟨⟨1, by omega, rfl, okAt_step HO.out (by rw [okAt_dig rfl (by omega)]; exact decide_eq_true (by omega)), hb⟩, by simp [intOf]⟩)
      · have hf : ∀ h, (ByteArray.mk #[48, 48, 48, 48, 45, 48, 48, 45, 48, 48, 32, 48, 48, 58, 48, 48])[1]'h = 48 := fun _ => rfl
        go_wp2
        all_goals first
          | (go_ret2; have P := p_bad (s := s) (k := 1) (by omega) (by rw [okAt_dig rfl (by omega)]; exact decide_eq_false (by omega)); exact ⟨ret_two P.1 P.2, hb'⟩)
          | (refine ⟨⟨2, by omega, rfl, okAt_step HO.out (by rw [okAt_dig rfl (by omega)]; exact decide_eq_true (by omega)), hb⟩, by simp [intOf]⟩)
      · have hf : ∀ h, (ByteArray.mk #[48, 48, 48, 48, 45, 48, 48, 45, 48, 48, 32, 48, 48, 58, 48, 48])[2]'h = 48 := fun _ => rfl
        go_wp2
        all_goals first
          | (go_ret2; have P := p_bad (s := s) (k := 2) (by omega) (by rw [okAt_dig rfl (by omega)]; exact decide_eq_false (by omega)); exact ⟨ret_two P.1 P.2, hb'⟩)
          | (refine ⟨⟨3, by omega, rfl, okAt_step HO.out (by rw [okAt_dig rfl (by omega)]; exact decide_eq_true (by omega)), hb⟩, by simp [intOf]⟩)
      · have hf : ∀ h, (ByteArray.mk #[48, 48, 48, 48, 45, 48, 48, 45, 48, 48, 32, 48, 48, 58, 48, 48])[3]'h = 48 := fun _ => rfl
        go_wp2
        all_goals first
          | (go_ret2; have P := p_bad (s := s) (k := 3) (by omega) (by rw [okAt_dig rfl (by omega)]; exact decide_eq_false (by omega)); exact ⟨ret_two P.1 P.2, hb'⟩)
          | (refine ⟨⟨4, by omega, rfl, okAt_step HO.out (by rw [okAt_dig rfl (by omega)]; exact decide_eq_true (by omega)), hb⟩, by simp [intOf]⟩)
      · have hf : ∀ h, (ByteArray.mk #[48, 48, 48, 48, 45, 48, 48, 45, 48, 48, 32, 48, 48, 58, 48, 48])[4]'h = 45 := fun _ => rfl
        have hi : (4 : Int) < (s.size : Int) := by omega
        by_cases hv : (s[4].toNat : Int) = 45
        · have hv1 : ((s[4].toNat : Int) != 45) = false := by rw [bne_eq_false_iff_eq]; exact hv
          have HV := Lib.hid hv
          clear hv
          go_wp2
          go_region
          go_wp2
          refine ⟨⟨5, by omega, rfl, okAt_step HO.out (by rw [okAt_sep (c := 45) rfl (by omega) (by omega)]; exact decide_eq_true HV.out), hb.drew⟩, by simp [intOf]⟩
        · have hv1 : ((s[4].toNat : Int) != 45) = true := by rw [bne_iff_ne]; exact hv
          have HV := Lib.hid hv
          clear hv
          go_wp2
          go_region
          go_wp2
          go_ret2
          have P := p_bad (s := s) (k := 4) (by omega) (by rw [okAt_sep (c := 45) rfl (by omega) (by omega)]; exact decide_eq_false HV.out)
          exact ⟨ret_two P.1 P.2, hb'.drew⟩
      · have hf : ∀ h, (ByteArray.mk #[48, 48, 48, 48, 45, 48, 48, 45, 48, 48, 32, 48, 48, 58, 48, 48])[5]'h = 48 := fun _ => rfl
        go_wp2
        all_goals first
          | (go_ret2; have P := p_bad (s := s) (k := 5) (by omega) (by rw [okAt_dig rfl (by omega)]; exact decide_eq_false (by omega)); exact ⟨ret_two P.1 P.2, hb'⟩)
          | (refine ⟨⟨6, by omega, rfl, okAt_step HO.out (by rw [okAt_dig rfl (by omega)]; exact decide_eq_true (by omega)), hb⟩, by simp [intOf]⟩)
      · have hf : ∀ h, (ByteArray.mk #[48, 48, 48, 48, 45, 48, 48, 45, 48, 48, 32, 48, 48, 58, 48, 48])[6]'h = 48 := fun _ => rfl
        go_wp2
        all_goals first
          | (go_ret2; have P := p_bad (s := s) (k := 6) (by omega) (by rw [okAt_dig rfl (by omega)]; exact decide_eq_false (by omega)); exact ⟨ret_two P.1 P.2, hb'⟩)
          | (refine ⟨⟨7, by omega, rfl, okAt_step HO.out (by rw [okAt_dig rfl (by omega)]; exact decide_eq_true (by omega)), hb⟩, by simp [intOf]⟩)
      · have hf : ∀ h, (ByteArray.mk #[48, 48, 48, 48, 45, 48, 48, 45, 48, 48, 32, 48, 48, 58, 48, 48])[7]'h = 45 := fun _ => rfl
        have hi : (7 : Int) < (s.size : Int) := by omega
        by_cases hv : (s[7].toNat : Int) = 45
        · have hv1 : ((s[7].toNat : Int) != 45) = false := by rw [bne_eq_false_iff_eq]; exact hv
          have HV := Lib.hid hv
          clear hv
          go_wp2
          go_region
          go_wp2
          refine ⟨⟨8, by omega, rfl, okAt_step HO.out (by rw [okAt_sep (c := 45) rfl (by omega) (by omega)]; exact decide_eq_true HV.out), hb.drew⟩, by simp [intOf]⟩
        · have hv1 : ((s[7].toNat : Int) != 45) = true := by rw [bne_iff_ne]; exact hv
          have HV := Lib.hid hv
          clear hv
          go_wp2
          go_region
          go_wp2
          go_ret2
          have P := p_bad (s := s) (k := 7) (by omega) (by rw [okAt_sep (c := 45) rfl (by omega) (by omega)]; exact decide_eq_false HV.out)
          exact ⟨ret_two P.1 P.2, hb'.drew⟩
      · have hf : ∀ h, (ByteArray.mk #[48, 48, 48, 48, 45, 48, 48, 45, 48, 48, 32, 48, 48, 58, 48, 48])[8]'h = 48 := fun _ => rfl
        go_wp2
        all_goals first
          | (go_ret2; have P := p_bad (s := s) (k := 8) (by omega) (by rw [okAt_dig rfl (by omega)]; exact decide_eq_false (by omega)); exact ⟨ret_two P.1 P.2, hb'⟩)
          | (refine ⟨⟨9, by omega, rfl, okAt_step HO.out (by rw [okAt_dig rfl (by omega)]; exact decide_eq_true (by omega)), hb⟩, by simp [intOf]⟩)
      · have hf : ∀ h, (ByteArray.mk #[48, 48, 48, 48, 45, 48, 48, 45, 48, 48, 32, 48, 48, 58, 48, 48])[9]'h = 48 := fun _ => rfl
        go_wp2
        all_goals first
          | (go_ret2; have P := p_bad (s := s) (k := 9) (by omega) (by rw [okAt_dig rfl (by omega)]; exact decide_eq_false (by omega)); exact ⟨ret_two P.1 P.2, hb'⟩)
          | (refine ⟨⟨10, by omega, rfl, okAt_step HO.out (by rw [okAt_dig rfl (by omega)]; exact decide_eq_true (by omega)), hb⟩, by simp [intOf]⟩)
      · have hf : ∀ h, (ByteArray.mk #[48, 48, 48, 48, 45, 48, 48, 45, 48, 48, 32, 48, 48, 58, 48, 48])[10]'h = 32 := fun _ => rfl
        have hi : (10 : Int) < (s.size : Int) := by omega
        by_cases hv : (s[10].toNat : Int) = 32
        · have hv1 : ((s[10].toNat : Int) != 32) = false := by rw [bne_eq_false_iff_eq]; exact hv
          have HV := Lib.hid hv
          clear hv
          go_wp2
          go_region
          go_wp2
          refine ⟨⟨11, by omega, rfl, okAt_step HO.out (by rw [okAt_sep (c := 32) rfl (by omega) (by omega)]; exact decide_eq_true HV.out), hb.drew⟩, by simp [intOf]⟩
        · have hv1 : ((s[10].toNat : Int) != 32) = true := by rw [bne_iff_ne]; exact hv
          have HV := Lib.hid hv
          clear hv
          go_wp2
          go_region
          go_wp2
          go_ret2
          have P := p_bad (s := s) (k := 10) (by omega) (by rw [okAt_sep (c := 32) rfl (by omega) (by omega)]; exact decide_eq_false HV.out)
          exact ⟨ret_two P.1 P.2, hb'.drew⟩
      · have hf : ∀ h, (ByteArray.mk #[48, 48, 48, 48, 45, 48, 48, 45, 48, 48, 32, 48, 48, 58, 48, 48])[11]'h = 48 := fun _ => rfl
        go_wp2
        all_goals first
          | (go_ret2; have P := p_bad (s := s) (k := 11) (by omega) (by rw [okAt_dig rfl (by omega)]; exact decide_eq_false (by omega)); exact ⟨ret_two P.1 P.2, hb'⟩)
          | (refine ⟨⟨12, by omega, rfl, okAt_step HO.out (by rw [okAt_dig rfl (by omega)]; exact decide_eq_true (by omega)), hb⟩, by simp [intOf]⟩)
      · have hf : ∀ h, (ByteArray.mk #[48, 48, 48, 48, 45, 48, 48, 45, 48, 48, 32, 48, 48, 58, 48, 48])[12]'h = 48 := fun _ => rfl
        go_wp2
        all_goals first
          | (go_ret2; have P := p_bad (s := s) (k := 12) (by omega) (by rw [okAt_dig rfl (by omega)]; exact decide_eq_false (by omega)); exact ⟨ret_two P.1 P.2, hb'⟩)
          | (refine ⟨⟨13, by omega, rfl, okAt_step HO.out (by rw [okAt_dig rfl (by omega)]; exact decide_eq_true (by omega)), hb⟩, by simp [intOf]⟩)
      · have hf : ∀ h, (ByteArray.mk #[48, 48, 48, 48, 45, 48, 48, 45, 48, 48, 32, 48, 48, 58, 48, 48])[13]'h = 58 := fun _ => rfl
        have hi : (13 : Int) < (s.size : Int) := by omega
        by_cases hv : (s[13].toNat : Int) = 58
        · have hv1 : ((s[13].toNat : Int) != 58) = false := by rw [bne_eq_false_iff_eq]; exact hv
          have HV := Lib.hid hv
          clear hv
          go_wp2
          go_region
          go_wp2
          refine ⟨⟨14, by omega, rfl, okAt_step HO.out (by rw [okAt_sep (c := 58) rfl (by omega) (by omega)]; exact decide_eq_true HV.out), hb.drew⟩, by simp [intOf]⟩
        · have hv1 : ((s[13].toNat : Int) != 58) = true := by rw [bne_iff_ne]; exact hv
          have HV := Lib.hid hv
          clear hv
          go_wp2
          go_region
          go_wp2
          go_ret2
          have P := p_bad (s := s) (k := 13) (by omega) (by rw [okAt_sep (c := 58) rfl (by omega) (by omega)]; exact decide_eq_false HV.out)
          exact ⟨ret_two P.1 P.2, hb'.drew⟩
      · have hf : ∀ h, (ByteArray.mk #[48, 48, 48, 48, 45, 48, 48, 45, 48, 48, 32, 48, 48, 58, 48, 48])[14]'h = 48 := fun _ => rfl
        go_wp2
        all_goals first
          | (go_ret2; have P := p_bad (s := s) (k := 14) (by omega) (by rw [okAt_dig rfl (by omega)]; exact decide_eq_false (by omega)); exact ⟨ret_two P.1 P.2, hb'⟩)
          | (refine ⟨⟨15, by omega, rfl, okAt_step HO.out (by rw [okAt_dig rfl (by omega)]; exact decide_eq_true (by omega)), hb⟩, by simp [intOf]⟩)
      · have hf : ∀ h, (ByteArray.mk #[48, 48, 48, 48, 45, 48, 48, 45, 48, 48, 32, 48, 48, 58, 48, 48])[15]'h = 48 := fun _ => rfl
        go_wp2
        all_goals first
          | (go_ret2; have P := p_bad (s := s) (k := 15) (by omega) (by rw [okAt_dig rfl (by omega)]; exact decide_eq_false (by omega)); exact ⟨ret_two P.1 P.2, hb'⟩)
          | (refine ⟨⟨16, by omega, rfl, okAt_step HO.out (by rw [okAt_dig rfl (by omega)]; exact decide_eq_true (by omega)), hb⟩, by simp [intOf]⟩)
end Go.Proofs.YtmncocmdobondaaDoor
