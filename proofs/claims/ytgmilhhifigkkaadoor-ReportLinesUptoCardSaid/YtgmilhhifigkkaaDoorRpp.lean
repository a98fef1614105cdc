/- Plain facts on reports: amounts and numbers as texts, lines, the report of a settlement. No program stands in this text. -/
import Derived.Test.YtgmilhhifigkkaaDoorMpa
namespace Go.Lott.Rp
open Go.Lib Go.Lott.Num Go.Lott.Mny
/-- How a report writes an amount. -/
def amT (n : Int) : List UInt8 := if 0 ≤ n ∧ n ≤ 1000000000000 then mT n else if -1000000000000 ≤ n ∧ n < 0 then 45 :: mT (-n) else [63]
theorem amT_pos {n : Int} (h : 0 ≤ n ∧ n ≤ 1000000000000) : amT n = mT n := if_pos h
theorem amT_neg {n : Int} (h : -1000000000000 ≤ n ∧ n < 0) : amT n = 45 :: mT (-n) := by unfold amT; rw [if_neg (by omega), if_pos h]
theorem amT_bad {n : Int} (h : ¬ (-1000000000000 ≤ n ∧ n ≤ 1000000000000)) : amT n = [63] := by unfold amT; rw [if_neg (by omega), if_neg (by omega)]
/-- A line: a word, then values. -/
def vals (vs : List (List UInt8)) : List UInt8 := vs.flatMap (fun v => 32 :: v)
def ln (w : List UInt8) (vs : List (List UInt8)) : List UInt8 := w ++ vals vs ++ [10]
theorem ln_one (w v : List UInt8) : ln w [v] = w ++ 32 :: v ++ [10] := by unfold ln vals; simp
theorem line_inj {r r' : List UInt8} : ∀ {a b : List UInt8}, (∀ c ∈ a, c ≠ 10) → (∀ c ∈ b, c ≠ 10) → a ++ 10 :: r = b ++ 10 :: r' → a = b ∧ r = r'
  | [], [], _, _, h => by simp at h; exact ⟨rfl, h⟩
  | [], y :: b, _, hb, h => by
    simp at h
    exact absurd h.1.symm (hb y (List.mem_cons_self ..))
  | x :: a, [], ha, _, h => by
    simp at h
    exact absurd h.1 (ha x (List.mem_cons_self ..))
  | x :: a, y :: b, ha, hb, h => by
    simp only [List.cons_append, List.cons.injEq] at h
    obtain ⟨e, h2⟩ := line_inj (fun c hc => ha c (List.mem_cons_of_mem _ hc)) (fun c hc => hb c (List.mem_cons_of_mem _ hc)) h.2
    exact ⟨by rw [h.1, e], h2⟩
/-- Bytes of numerals. -/
def Dgt (c : UInt8) : Prop := 48 ≤ c.toNat ∧ c.toNat ≤ 57
theorem dec_dgt (N : Nat) : ∀ c ∈ decDigits N, Dgt c := by
  intro c hc
  obtain ⟨k, hk, rfl⟩ := List.getElem_of_mem hc
  have := ((decB_iff _).1 (dec_back N).1).2 k hk
  have e : bl (decDigits N) k = ((decDigits N)[k].toNat : Int) := by unfold bl; rw [List.getD_eq_getElem?_getD, List.getElem?_eq_getElem hk]; rfl
  rw [e] at this
  unfold Dgt; omega
theorem dec_inj {N M : Nat} (h : decDigits N = decDigits M) : N = M := by
  have h1 := (dec_back N).2.1
  have h2 := (dec_back M).2.1
  rw [h] at h1; omega
theorem dec_ne (N : Nat) : decDigits N ≠ [] := fun h => by
  have := (((decB_iff _).1 (dec_back N).1).1).1
  rw [h] at this; simp at this
theorem itoa_byte (n : Int) : ∀ c ∈ itoa n, c = 45 ∨ Dgt c := by
  intro c hc
  unfold itoa at hc
  split at hc
  · rcases List.mem_cons.1 hc with rfl | h
    · exact .inl rfl
    · exact .inr (dec_dgt _ c h)
  · exact .inr (dec_dgt _ c hc)
theorem itoa_inj {n m : Int} (h : itoa n = itoa m) : n = m := by
  unfold itoa at h
  have key : ∀ (N M : Nat), (45 : UInt8) :: decDigits N ≠ decDigits M := fun N M e => by
    have := dec_dgt M 45 (by rw [← e]; exact List.mem_cons_self ..)
    unfold Dgt at this; simp at this
  split at h
  · split at h
    · have := dec_inj (List.cons.inj h).2; omega
    · exact absurd h (key _ _)
  · split at h
    · exact absurd h.symm (key _ _)
    · have := dec_inj h; omega
theorem mT_byte {m : Int} : ∀ c ∈ mT m, c = 46 ∨ Dgt c := by
  intro c hc
  by_cases h : 0 ≤ m ∧ m ≤ 1000000000000
  · rw [mT_yes h] at hc
    rcases List.mem_append.1 hc with h1 | h1
    · exact .inr (dec_dgt _ c h1)
    · simp only [List.mem_cons, List.not_mem_nil, or_false] at h1
      rcases h1 with rfl | rfl | rfl
      · exact .inl rfl
      · right; unfold Dgt; rw [dig_toNat (by omega)]; omega
      · right; unfold Dgt; rw [dig_toNat (by omega)]; omega
  · rw [mT_no h] at hc; cases hc
theorem amT_byte (n : Int) : ∀ c ∈ amT n, c = 45 ∨ c = 46 ∨ c = 63 ∨ Dgt c := by
  intro c hc
  by_cases h1 : 0 ≤ n ∧ n ≤ 1000000000000
  · rw [amT_pos h1] at hc; rcases mT_byte c hc with h | h
    · exact .inr (.inl h)
    · exact .inr (.inr (.inr h))
  · by_cases h2 : -1000000000000 ≤ n ∧ n < 0
    · rw [amT_neg h2] at hc
      rcases List.mem_cons.1 hc with rfl | h3
      · exact .inl rfl
      · rcases mT_byte c h3 with h | h
        · exact .inr (.inl h)
        · exact .inr (.inr (.inr h))
    · rw [amT_bad (by omega)] at hc
      simp only [List.mem_cons, List.not_mem_nil, or_false] at hc
      exact .inr (.inr (.inl hc))
theorem mT_inj {m n : Int} (hm : 0 ≤ m ∧ m ≤ 1000000000000) (hn : 0 ≤ n ∧ n ≤ 1000000000000) (h : mT m = mT n) : m = n := by
  rw [← (mT_back hm).1, ← (mT_back hn).1, h]
theorem mT_neg {m : Int} {l : List UInt8} : (45 : UInt8) :: l ≠ mT m := fun e => by
  rcases mT_byte (m := m) 45 (by rw [← e]; exact List.mem_cons_self ..) with h | h
  · cases h
  · unfold Dgt at h; simp at h
theorem amT_inj {m n : Int} (hm : -1000000000000 ≤ m ∧ m ≤ 1000000000000) (hn : -1000000000000 ≤ n ∧ n ≤ 1000000000000) (h : amT m = amT n) : m = n := by
  by_cases h1 : 0 ≤ m
  · rw [amT_pos ⟨h1, hm.2⟩] at h
    by_cases h2 : 0 ≤ n
    · rw [amT_pos ⟨h2, hn.2⟩] at h; exact mT_inj ⟨h1, hm.2⟩ ⟨h2, hn.2⟩ h
    · rw [amT_neg ⟨hn.1, by omega⟩] at h; exact absurd h.symm mT_neg
  · rw [amT_neg ⟨hm.1, by omega⟩] at h
    by_cases h2 : 0 ≤ n
    · rw [amT_pos ⟨h2, hn.2⟩] at h; exact absurd h mT_neg
    · rw [amT_neg ⟨hn.1, by omega⟩] at h
      have := mT_inj (by omega) (by omega) (List.cons.inj h).2; omega
theorem not_ten {c : UInt8} (h : c = 45 ∨ c = 46 ∨ c = 63 ∨ Dgt c) : c ≠ 10 := fun e => by
  subst e
  rcases h with h | h | h | h
  · cases h
  · cases h
  · cases h
  · unfold Dgt at h; simp at h
/-- One line off two texts of lines. -/
theorem ln_inj {w v v' r r' : List UInt8} (hw : ∀ c ∈ w, c ≠ 10) (hv : ∀ c ∈ v, c ≠ 10) (hv' : ∀ c ∈ v', c ≠ 10) (h : ln w [v] ++ r = ln w [v'] ++ r') : v = v' ∧ r = r' := by
  have h : (w ++ 32 :: v) ++ 10 :: r = (w ++ 32 :: v') ++ 10 :: r' := by rw [ln_one, ln_one] at h; simpa using h
  have e := line_inj (a := w ++ 32 :: v) (b := w ++ 32 :: v') (fun c hc => by
    rcases List.mem_append.1 hc with h | h
    · exact hw c h
    · rcases List.mem_cons.1 h with rfl | h
      · decide
      · exact hv c h) (fun c hc => by
    rcases List.mem_append.1 hc with h | h
    · exact hw c h
    · rcases List.mem_cons.1 h with rfl | h
      · decide
      · exact hv' c h) h
  exact ⟨(List.cons.inj (List.append_cancel_left e.1)).2, e.2⟩
def wSet : List UInt8 := [115, 101, 116, 116, 108, 101, 109, 101, 110, 116]
def wSales : List UInt8 := [115, 97, 108, 101, 115]
def wRef : List UInt8 := [114, 101, 102, 117, 110, 100, 115]
def wCash : List UInt8 := [99, 97, 115, 104, 101, 100]
def wCom : List UInt8 := [99, 111, 109, 109, 105, 115, 115, 105, 111, 110]
def wDue : List UInt8 := [100, 117, 101]
def setT (t a b c d e : Int) : List UInt8 := ln wSet [itoa t] ++ (ln wSales [amT a] ++ (ln wRef [amT b] ++ (ln wCash [amT c] ++ (ln wCom [amT d] ++ ln wDue [amT e]))))
def Bd (n : Int) : Prop := -1000000000000 ≤ n ∧ n ≤ 1000000000000
/-- Reports of different settlements differ. -/
theorem setT_inj {t a b c d e t' a' b' c' d' e' : Int} (ha : Bd a) (hb : Bd b) (hc : Bd c) (hd : Bd d) (he : Bd e) (ha' : Bd a') (hb' : Bd b') (hc' : Bd c') (hd' : Bd d') (he' : Bd e')
    (h : setT t a b c d e = setT t' a' b' c' d' e') : t = t' ∧ a = a' ∧ b = b' ∧ c = c' ∧ d = d' ∧ e = e' := by
  have nt : ∀ n, ∀ c ∈ itoa n, c ≠ 10 := fun n c hc => by
    rcases itoa_byte n c hc with h | h
    · exact not_ten (.inl h)
    · exact not_ten (.inr (.inr (.inr h)))
  have na : ∀ n, ∀ c ∈ amT n, c ≠ 10 := fun n c hc => not_ten (amT_byte n c hc)
  unfold setT at h
  obtain ⟨e1, h⟩ := ln_inj (by decide) (nt _) (nt _) h
  obtain ⟨e2, h⟩ := ln_inj (by decide) (na _) (na _) h
  obtain ⟨e3, h⟩ := ln_inj (by decide) (na _) (na _) h
  obtain ⟨e4, h⟩ := ln_inj (by decide) (na _) (na _) h
  obtain ⟨e5, h⟩ := ln_inj (by decide) (na _) (na _) h
  have e6 := (ln_inj (r := []) (r' := []) (w := wDue) (v := amT e) (v' := amT e') (by decide) (na _) (na _) (by rw [h])).1
  exact ⟨itoa_inj e1, amT_inj ha ha' e2, amT_inj hb hb' e3, amT_inj hc hc' e4, amT_inj hd hd' e5, amT_inj he he' e6⟩
end Go.Lott.Rp
