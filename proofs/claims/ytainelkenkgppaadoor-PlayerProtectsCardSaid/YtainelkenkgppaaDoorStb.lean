/- Plain facts on a stable sort by merges: what is kept, what is sorted. No program stands in this text. -/
import Derived.Sort.LotA
import Derived.Lib.Hide
namespace Go.Lott.Stb
open Go.Sort
variable {α : Type} [Inhabited α]
set_option linter.unusedSectionVars false

def eqv (lt : α → α → Bool) (z x : α) : Bool := !lt z x && !lt x z
/-- Equals stand in one order in both lists. -/
def StabL (lt : α → α → Bool) (l l' : List α) : Prop := ∀ z, l'.filter (eqv lt z) = l.filter (eqv lt z)
def seg (d : Array α) (a b : Nat) : List α := (List.range' a (b - a)).map fun i => d[i]!
structure StabIn (lt : α → α → Bool) (a b : Nat) (d d' : Array α) : Prop where
  size : d'.size = d.size
  out : ∀ k, k < a ∨ b ≤ k → d'[k]! = d[k]!
  cls : StabL lt (seg d a b) (seg d' a b)
variable {lt : α → α → Bool}

theorem seg_congr {d d' : Array α} {a b : Nat} (h : ∀ k, a ≤ k → k < b → d'[k]! = d[k]!) : seg d' a b = seg d a b := by
  unfold seg
  refine List.map_congr_left fun k hk => ?_
  rw [List.mem_range'_1] at hk
  exact h k (by omega) (by omega)
theorem seg_append (d : Array α) {a m b : Nat} (h1 : a ≤ m) (h2 : m ≤ b) : seg d a b = seg d a m ++ seg d m b := by
  unfold seg
  rw [← List.map_append]
  congr 1
  have := List.range'_append_1 (s := a) (m := m - a) (n := b - m)
  rw [show a + (m - a) = m by omega] at this
  rw [this]; congr 1; omega
theorem mem_seg {d : Array α} {a b : Nat} {x : α} : x ∈ seg d a b ↔ ∃ k, a ≤ k ∧ k < b ∧ d[k]! = x := by
  unfold seg
  rw [List.mem_map]
  constructor
  · rintro ⟨k, hk, rfl⟩; rw [List.mem_range'_1] at hk; exact ⟨k, by omega, by omega, rfl⟩
  · rintro ⟨k, h1, h2, rfl⟩; exact ⟨k, by rw [List.mem_range'_1]; omega, rfl⟩
theorem seg_shift {d d' : Array α} {a b n : Nat} (h : ∀ k, k < n → d'[a + k]! = d[b + k]!) : seg d' a (a + n) = seg d b (b + n) := by
  unfold seg
  rw [show a + n - a = n by omega, show b + n - b = n by omega]
  refine List.ext_getElem (by simp) fun k h1 _ => ?_
  simp only [List.length_map, List.length_range'] at h1
  simp only [List.getElem_map, List.getElem_range', Nat.one_mul]
  exact h k h1
theorem StabIn.refl (lt : α → α → Bool) (a b : Nat) (d : Array α) : StabIn lt a b d d := ⟨rfl, fun _ _ => rfl, fun _ => rfl⟩
theorem StabIn.trans {a b : Nat} {d d' d'' : Array α} (h : StabIn lt a b d d') (k : StabIn lt a b d' d'') : StabIn lt a b d d'' :=
  ⟨k.size.trans h.size, fun i hi => (k.out i hi).trans (h.out i hi), fun z => (k.cls z).trans (h.cls z)⟩
theorem StabIn.mono {a b a' b' : Nat} {d d' : Array α} (h : StabIn lt a b d d') (h1 : a' ≤ a) (h2 : a ≤ b) (h3 : b ≤ b') : StabIn lt a' b' d d' := by
  refine ⟨h.size, fun k hk => h.out k (by omega), fun z => ?_⟩
  rw [seg_append d' (show a' ≤ b by omega) h3, seg_append d' h1 h2, seg_append d (show a' ≤ b by omega) h3, seg_append d h1 h2,
    seg_congr (d := d) (d' := d') (a := a') (b := a) (fun k _ hk => h.out k (by omega)), seg_congr (d := d) (d' := d') (a := b) (b := b') (fun k hk _ => h.out k (by omega))]
  simp only [List.filter_append, h.cls z]
theorem eqv_self (hS : SWO lt) (x : α) : eqv lt x x = true := by unfold eqv; rw [hS.irrefl]; rfl
theorem StabL.mem (hS : SWO lt) {l l' : List α} (h : StabL lt l l') {x : α} (hx : x ∈ l') : x ∈ l := by
  have h1 : x ∈ l'.filter (eqv lt x) := List.mem_filter.2 ⟨hx, eqv_self hS x⟩
  rw [h x] at h1
  exact (List.mem_filter.1 h1).1
theorem StabL.symm {l l' : List α} (h : StabL lt l l') : StabL lt l' l := fun z => (h z).symm
/-- What holds of every element of a part holds of every one behind. -/
theorem StabIn.all (hS : SWO lt) {a b : Nat} {d d' : Array α} (h : StabIn lt a b d d') (p : α → Prop) (hp : ∀ i, a ≤ i → i < b → p d[i]!) : ∀ i, a ≤ i → i < b → p d'[i]! := by
  intro i h1 h2
  obtain ⟨k, k1, k2, k3⟩ := mem_seg.1 (h.cls.mem hS (mem_seg.2 ⟨i, h1, h2, rfl⟩))
  rw [← k3]; exact hp k k1 k2

/-! An exchange of two blocks -/
def rotF (f : Nat → α) (a m b k : Nat) : α := if a ≤ k ∧ k < a + (b - m) then f (k + (m - a)) else if a + (b - m) ≤ k ∧ k < b then f (k - (b - m)) else f k
def RotAt (a m b : Nat) (d d' : Array α) : Prop := d'.size = d.size ∧ ∀ k, d'[k]! = rotF (fun i => d[i]!) a m b k
theorem RotAt.none (a m b : Nat) (d : Array α) (h : (a = m ∧ m ≤ b) ∨ (m = b ∧ a ≤ m)) : RotAt a m b d d := by
  refine ⟨rfl, fun k => ?_⟩
  unfold rotF
  split
  · rcases h with h | h
    · rw [show k + (m - a) = k by omega]
    · exfalso; omega
  · split
    · rcases h with h | h
      · exfalso; omega
      · rw [show k - (b - m) = k by omega]
    · rfl
theorem filter_swap (hS : SWO lt) {u v : List α} (h : ∀ p q, p ∈ u → q ∈ v → lt q p = true) (z : α) : (v ++ u).filter (eqv lt z) = (u ++ v).filter (eqv lt z) := by
  rw [List.filter_append, List.filter_append]
  by_cases h1 : u.filter (eqv lt z) = []
  · rw [h1]; simp
  · by_cases h2 : v.filter (eqv lt z) = []
    · rw [h2]; simp
    · obtain ⟨p, hp⟩ := List.exists_mem_of_ne_nil _ h1
      obtain ⟨q, hq⟩ := List.exists_mem_of_ne_nil _ h2
      rw [List.mem_filter] at hp hq
      have e1 := hp.2; have e2 := hq.2
      unfold eqv at e1 e2
      simp only [Bool.and_eq_true, Bool.not_eq_true'] at e1 e2
      have := hS.ntrans q z p e2.2 e1.1
      rw [h p q hp.1 hq.1] at this; cases this
theorem RotAt.stab (hS : SWO lt) {a m b : Nat} {d d' : Array α} (h : RotAt a m b d d') (h1 : a ≤ m) (h2 : m ≤ b) (hlt : ∀ p q, a ≤ p → p < m → m ≤ q → q < b → lt d[q]! d[p]! = true) : StabIn lt a b d d' := by
  refine ⟨h.1, fun k hk => ?_, fun z => ?_⟩
  · rw [h.2 k]; unfold rotF; rw [if_neg (by omega), if_neg (by omega)]
  · have e1 : seg d' a (a + (b - m)) = seg d m (m + (b - m)) := seg_shift fun k hk => by
      rw [h.2]; unfold rotF; rw [if_pos (by omega), show a + k + (m - a) = m + k by omega]
    have e2 : seg d' (a + (b - m)) (a + (b - m) + (m - a)) = seg d a (a + (m - a)) := seg_shift fun k hk => by
      rw [h.2]; unfold rotF; rw [if_neg (by omega), if_pos (by omega), show a + (b - m) + k - (b - m) = a + k by omega]
    rw [show m + (b - m) = b by omega] at e1
    rw [show a + (b - m) + (m - a) = b by omega, show a + (m - a) = m by omega] at e2
    rw [seg_append d' (show a ≤ a + (b - m) by omega) (show a + (b - m) ≤ b by omega), e1, e2, seg_append d h1 h2]
    refine filter_swap hS (fun p q hp hq => ?_) z
    obtain ⟨i, i1, i2, rfl⟩ := mem_seg.1 hp
    obtain ⟨j, j1, j2, rfl⟩ := mem_seg.1 hq
    exact hlt i j i1 i2 j1 j2
/-- An exchange of two neighbours. -/
theorem swp_rot (d : Array α) {j : Nat} (h : j + 1 < d.size) : RotAt j (j + 1) (j + 2) d (swp d (j + 1) j) := by
  refine ⟨swp_size d _ _, fun k => ?_⟩
  rw [swp_get d h (show j < d.size by omega)]
  unfold rotF
  by_cases c : k = j
  · subst c; rw [if_pos rfl, if_pos (by omega)]; congr 1; omega
  · by_cases c1 : k = j + 1
    · subst c1; rw [if_neg c, if_pos rfl, if_neg (by omega), if_pos (by omega)]; congr 1; omega
    · rw [if_neg c, if_neg c1, if_neg (by omega), if_neg (by omega)]
theorem insInner_stab (hS : SWO lt) (a b : Nat) : ∀ (j : Nat) (d : Array α), j < b → b ≤ d.size → StabIn lt a b d (insInner lt a j d)
  | 0, d, _, _ => StabIn.refl _ _ _ _
  | j + 1, d, h1, h2 => by
    unfold insInner
    by_cases hc : (j + 1 > a && lt d[j + 1]! d[j]!) = true
    · rw [if_pos hc]
      rw [Bool.and_eq_true, decide_eq_true_eq] at hc
      have h3 : StabIn lt a b d (swp d (j + 1) j) := ((swp_rot d (by omega)).stab hS (by omega) (by omega) (fun p q p1 p2 q1 q2 => by
        obtain rfl : p = j := by omega
        obtain rfl : q = p + 1 := by omega
        exact hc.2)).mono (by omega) (by omega) (by omega)
      exact h3.trans (insInner_stab hS a b j _ (by omega) (by rw [swp_size]; exact h2))
    · rw [if_neg hc]; exact StabIn.refl _ _ _ _
theorem insOuter_stab (hS : SWO lt) (a b : Nat) : ∀ (n i : Nat) (d : Array α), b - i ≤ n → b ≤ d.size → StabIn lt a b d (insOuter lt a b i d)
  | 0, i, d, h1, _ => by unfold insOuter; rw [if_neg (by omega)]; exact StabIn.refl _ _ _ _
  | n + 1, i, d, h1, h2 => by
    unfold insOuter
    split
    · rename_i hi
      have h3 := insInner_stab hS a b i d hi h2
      exact h3.trans (insOuter_stab hS a b n (i + 1) _ (by omega) (by rw [h3.size]; exact h2))
    · exact StabIn.refl _ _ _ _
/-- A part that is sorted now, equals in their order. -/
structure Merged (lt : α → α → Bool) (a b : Nat) (d d' : Array α) : Prop where
  stab : StabIn lt a b d d'
  sorted : SortedIn lt a b d'
theorem ins_merged (hS : SWO lt) {a b : Nat} (d : Array α) (h1 : a ≤ b) (h2 : b ≤ d.size) : Merged lt a b d (insertionSort lt d a b) :=
  ⟨insOuter_stab hS a b _ _ d (Nat.le_refl _) h2, (insertionSort_holds hS d a b h1 h2).2⟩

/-! What the blocks' exchange does -/
def swF (f : Nat → α) (x y n k : Nat) : α := if x ≤ k ∧ k < x + n then f (k - x + y) else if y ≤ k ∧ k < y + n then f (k - y + x) else f k
def SwAt (x y n : Nat) (d d' : Array α) : Prop := d'.size = d.size ∧ ∀ k, d'[k]! = swF (fun i => d[i]!) x y n k
theorem SwAt.zero (x y : Nat) (d : Array α) : SwAt x y 0 d d := ⟨rfl, fun k => by unfold swF; rw [if_neg (by omega), if_neg (by omega)]⟩
theorem SwAt.next {x y n : Nat} {d d' : Array α} (h : SwAt x y n d d') (h1 : x + n < y) (h2 : y + n < d.size) : SwAt x y (n + 1) d (swp d' (x + n) (y + n)) := by
  refine ⟨by rw [swp_size]; exact h.1, fun k => ?_⟩
  rw [swp_get d' (by rw [h.1]; omega) (by rw [h.1]; omega), h.2, h.2, h.2]
  unfold swF
  by_cases c : k = y + n
  · subst c
    rw [if_pos rfl, if_neg (by omega), if_neg (by omega), if_neg (by omega), if_pos (by omega)]; congr 1; omega
  · by_cases c1 : k = x + n
    · subst c1
      rw [if_neg c, if_pos rfl, if_neg (by omega), if_neg (by omega), if_pos (by omega)]; congr 1; omega
    · rw [if_neg c, if_neg c1]
      by_cases c2 : x ≤ k ∧ k < x + n
      · rw [if_pos c2, if_pos (by omega)]
      · rw [if_neg c2, if_neg (show ¬ (x ≤ k ∧ k < x + (n + 1)) by omega)]
        by_cases c3 : y ≤ k ∧ k < y + n
        · rw [if_pos c3, if_pos (by omega)]
        · rw [if_neg c3, if_neg (by omega)]
/-- What the rotation's loop keeps: the rest's rotation gives the whole's. -/
theorem rot_left {m i j : Nat} {d e d' : Array α} (hj : j < i) (hi : i ≤ m) (h : SwAt (m - i) m j d e) (hr : RotAt (m - (i - j)) m (m + j) e d') : RotAt (m - i) m (m + j) d d' := by
  refine ⟨hr.1.trans h.1, fun k => ?_⟩
  rw [hr.2]
  unfold rotF
  simp only [h.2]
  unfold swF
  by_cases c1 : m - i ≤ k ∧ k < m - i + (m + j - m)
  · rw [if_pos c1, if_neg (by omega), if_neg (by omega), if_pos (by omega)]; congr 1; omega
  · rw [if_neg c1]
    by_cases c2 : m - i + (m + j - m) ≤ k ∧ k < m + j
    · rw [if_pos c2]
      by_cases c3 : m - (i - j) ≤ k ∧ k < m - (i - j) + (m + j - m)
      · rw [if_pos c3]
        by_cases c4 : m - i ≤ k + (m - (m - (i - j))) ∧ k + (m - (m - (i - j))) < m - i + j
        · exfalso; omega
        · rw [if_neg c4]
          by_cases c5 : m ≤ k + (m - (m - (i - j))) ∧ k + (m - (m - (i - j))) < m + j
          · rw [if_pos c5]; congr 1; omega
          · exfalso; omega
      · rw [if_neg c3, if_pos (by omega), if_neg (by omega), if_neg (by omega)]
    · rw [if_neg c2, if_neg (by omega), if_neg (by omega), if_neg (by omega), if_neg (by omega)]
theorem rot_right {m i j : Nat} {d e d' : Array α} (hj : i < j) (hi : i ≤ m) (h : SwAt (m - i) (m + j - i) i d e) (hr : RotAt (m - i) m (m + (j - i)) e d') : RotAt (m - i) m (m + j) d d' := by
  refine ⟨hr.1.trans h.1, fun k => ?_⟩
  rw [hr.2]
  unfold rotF
  simp only [h.2]
  unfold swF
  by_cases c1 : m - i ≤ k ∧ k < m - i + (m + (j - i) - m)
  · rw [if_pos c1, if_pos (show m - i ≤ k ∧ k < m - i + (m + j - m) by omega)]
    by_cases c2 : m - i ≤ k + (m - (m - i)) ∧ k + (m - (m - i)) < m - i + i
    · exfalso; omega
    · rw [if_neg c2, if_neg (by omega)]
  · rw [if_neg c1]
    by_cases c2 : m - i + (m + (j - i) - m) ≤ k ∧ k < m + (j - i)
    · rw [if_pos c2, if_pos (show m - i ≤ k - (m + (j - i) - m) ∧ k - (m + (j - i) - m) < m - i + i by omega), if_pos (show m - i ≤ k ∧ k < m - i + (m + j - m) by omega)]
      congr 1; omega
    · rw [if_neg c2]
      by_cases c3 : m + j - i ≤ k ∧ k < m + j - i + i
      · rw [if_neg (by omega), if_pos c3, if_neg (by omega), if_pos (by omega)]; congr 1; omega
      · rw [if_neg (by omega), if_neg c3, if_neg (by omega), if_neg (by omega)]
theorem rot_even {m i : Nat} {d d' : Array α} (hi : i ≤ m) (h : SwAt (m - i) m i d d') : RotAt (m - i) m (m + i) d d' := by
  refine ⟨h.1, fun k => ?_⟩
  rw [h.2]
  unfold rotF swF
  by_cases c1 : m - i ≤ k ∧ k < m - i + i
  · rw [if_pos c1, if_pos (show m - i ≤ k ∧ k < m - i + (m + i - m) by omega)]; congr 1; omega
  · rw [if_neg c1, if_neg (show ¬ (m - i ≤ k ∧ k < m - i + (m + i - m)) by omega)]
    by_cases c2 : m ≤ k ∧ k < m + i
    · rw [if_pos c2, if_pos (show m - i + (m + i - m) ≤ k ∧ k < m + i by omega)]; congr 1; omega
    · rw [if_neg c2, if_neg (show ¬ (m - i + (m + i - m) ≤ k ∧ k < m + i) by omega)]

/-! One element goes to its place, by exchanges of neighbours -/
theorem rot_up {a i : Nat} {d d' : Array α} (h : RotAt a (a + 1) (i + 1) d d') (h1 : a ≤ i) (h2 : i + 1 < d.size) : RotAt a (a + 1) (i + 2) d (swp d' i (i + 1)) := by
  refine ⟨by rw [swp_size]; exact h.1, fun k => ?_⟩
  rw [swp_get d' (by rw [h.1]; omega) (by rw [h.1]; omega), h.2, h.2, h.2]
  unfold rotF
  by_cases c : k = i + 1
  · subst c; rw [if_pos rfl, if_neg (by omega), if_pos (by omega), if_neg (by omega), if_pos (by omega)]; congr 1; omega
  · by_cases c1 : k = i
    · subst c1; rw [if_neg c, if_pos rfl, if_neg (by omega), if_neg (by omega), if_pos (by omega)]; congr 1; omega
    · rw [if_neg c, if_neg c1]
      by_cases c2 : a ≤ k ∧ k < a + (i + 1 - (a + 1))
      · rw [if_pos c2, if_pos (by omega)]
      · rw [if_neg c2, if_neg (by omega), if_neg (by omega), if_neg (by omega)]
theorem rot_down {m i : Nat} {d d' : Array α} (h : RotAt (i + 1) m (m + 1) d d') (h1 : i + 1 ≤ m) (h2 : m < d.size) : RotAt i m (m + 1) d (swp d' (i + 1) i) := by
  refine ⟨by rw [swp_size]; exact h.1, fun k => ?_⟩
  rw [swp_get d' (by rw [h.1]; omega) (by rw [h.1]; omega), h.2, h.2, h.2]
  unfold rotF
  by_cases c : k = i
  · subst c; rw [if_pos rfl, if_pos (by omega), if_pos (by omega)]; congr 1; omega
  · by_cases c1 : k = i + 1
    · subst c1; rw [if_neg c, if_pos rfl, if_neg (by omega), if_neg (by omega), if_neg (by omega), if_pos (by omega)]; congr 1; omega
    · rw [if_neg c, if_neg c1]
      by_cases c2 : i + 1 + (m + 1 - m) ≤ k ∧ k < m + 1
      · rw [if_neg (by omega), if_pos c2, if_neg (by omega), if_pos (by omega)]
      · rw [if_neg (by omega), if_neg c2, if_neg (by omega), if_neg (by omega)]

/-! The merge -/
/-- What the search leaves: start is the first place from lo on, up to hi, whose mirror image is less. -/
structure Found (lt : α → α → Bool) (d : Array α) (n lo hi s : Nat) : Prop where
  los : lo ≤ s
  shi : s ≤ hi
  prev : lo < s → lt d[n - s]! d[s - 1]! = false
  next : s < hi → lt d[n - 1 - s]! d[s]! = true
theorem lt_trans' (hS : SWO lt) {x y z : α} (h1 : lt x y = true) (h2 : lt z y = false) : lt x z = true := by
  cases c : lt x z with
  | true => rfl
  | false => rw [hS.ntrans x z y c h2] at h1; cases h1
theorem lt_trans'' (hS : SWO lt) {x y z : α} (h1 : lt y x = false) (h2 : lt y z = true) : lt x z = true := by
  cases c : lt x z with
  | true => rfl
  | false => rw [hS.ntrans y x z h1 c] at h2; cases h2
theorem SortedIn.le (hS : SWO lt) {a b : Nat} {d : Array α} (h : SortedIn lt a b d) {i j : Nat} (h1 : a ≤ i) (h2 : i ≤ j) (h3 : j < b) : lt d[j]! d[i]! = false := by
  rcases Nat.eq_or_lt_of_le h2 with rfl | h2
  · exact hS.irrefl _
  · exact h i j h1 h2 h3
/-- The bounds of the search. -/
structure Bnd (a m b mid lo hi : Nat) : Prop where
  am : a < m
  mb : m < b
  midd : mid = (a + b) / 2
  lohi : (mid < m ∧ lo = mid + m - b ∧ hi = mid) ∨ (m ≤ mid ∧ lo = a ∧ hi = m)
/-- Behind the exchange: two halves of two sorted runs each, the left one nowhere greater than the right one. -/
theorem merge_rot (hS : SWO lt) {a m b mid lo hi s : Nat} {d d1 : Array α} (B : Bnd a m b mid lo hi) (F : Found lt d (mid + m) lo hi s) (sl : SortedIn lt a m d) (sr : SortedIn lt m b d)
    (hr : RotAt s m (mid + m - s) d d1) :
    StabIn lt a b d d1 ∧ SortedIn lt a s d1 ∧ SortedIn lt s mid d1 ∧ SortedIn lt mid (mid + m - s) d1 ∧ SortedIn lt (mid + m - s) b d1 ∧ ∀ i j, a ≤ i → i < mid → mid ≤ j → j < b → lt d1[j]! d1[i]! = false := by
  obtain ⟨am, mb, hm, hl⟩ := B
  obtain ⟨f1, f2, f3, f4⟩ := F
  have e1 : a ≤ s := by omega
  have e2 : s ≤ m := by omega
  have e3 : m ≤ mid + m - s := by omega
  have e4 : mid + m - s ≤ b := by omega
  have e5 : s ≤ mid := by omega
  have hvu : ∀ p q, s ≤ p → p < m → m ≤ q → q < mid + m - s → lt d[q]! d[p]! = true := fun p q p1 p2 q1 q2 => by
    have g := f4 (by omega)
    have g1 : lt d[p]! d[s]! = false := SortedIn.le hS sl e1 p1 p2
    have g2 : lt d[mid + m - 1 - s]! d[q]! = false := SortedIn.le hS sr q1 (by omega) (by omega)
    exact lt_trans' hS (lt_trans'' hS g2 g) g1
  have hA : ∀ k, k < s → d1[k]! = d[k]! := fun k hk => by rw [hr.2]; unfold rotF; rw [if_neg (by omega), if_neg (by omega)]
  have hV : ∀ k, s ≤ k → k < mid → d1[k]! = d[k + (m - s)]! := fun k k1 k2 => by rw [hr.2]; unfold rotF; rw [if_pos (by omega)]
  have hU : ∀ k, mid ≤ k → k < mid + m - s → d1[k]! = d[k - (mid - s)]! := fun k k1 k2 => by
    rw [hr.2]; unfold rotF; rw [if_neg (by omega), if_pos (by omega), show mid + m - s - m = mid - s by omega]
  have hB : ∀ k, mid + m - s ≤ k → d1[k]! = d[k]! := fun k hk => by rw [hr.2]; unfold rotF; rw [if_neg (by omega), if_neg (by omega)]
  refine ⟨(hr.stab hS e2 e3 hvu).mono e1 (by omega) e4, ?_, ?_, ?_, ?_, ?_⟩
  · intro i j i1 ij j1; rw [hA j j1, hA i (by omega)]; exact sl i j i1 ij (by omega)
  · intro i j i1 ij j1; rw [hV j (by omega) j1, hV i i1 (by omega)]; exact sr _ _ (by omega) (by omega) (by omega)
  · intro i j i1 ij j1; rw [hU j (by omega) j1, hU i i1 (by omega)]; exact sl _ _ (by omega) (by omega) (by omega)
  · intro i j i1 ij j1; rw [hB j (by omega), hB i i1]; exact sr i j (by omega) ij j1
  · intro i j i1 i2 j1 j2
    by_cases ci : i < s
    · rw [hA i ci]
      by_cases cj : j < mid + m - s
      · rw [hU j j1 cj]; exact SortedIn.le hS sl i1 (by omega) (by omega)
      · rw [hB j (by omega)]
        have g := f3 (by omega)
        have g1 : lt d[s - 1]! d[i]! = false := SortedIn.le hS sl i1 (by omega) (by omega)
        have g2 : lt d[j]! d[mid + m - s]! = false := SortedIn.le hS sr (by omega) (by omega) j2
        exact hS.ntrans _ _ _ g2 (hS.ntrans _ _ _ g g1)
    · rw [hV i (by omega) i2]
      by_cases cj : j < mid + m - s
      · rw [hU j j1 cj]; exact hS.asymmA (hvu _ _ (by omega) (by omega) (by omega) (by omega))
      · rw [hB j (by omega)]; exact SortedIn.le hS sr (by omega) (by omega) j2
/-- .. and the halves, merged, are the whole, merged. -/
theorem merge_halves (hS : SWO lt) {a b mid : Nat} {d d1 d2 d3 : Array α} (h1 : a ≤ mid) (h2 : mid ≤ b) (hs : StabIn lt a b d d1) (hl : Merged lt a mid d1 d2) (hr : Merged lt mid b d2 d3)
    (hle : ∀ i j, a ≤ i → i < mid → mid ≤ j → j < b → lt d1[j]! d1[i]! = false) : Merged lt a b d d3 := by
  refine ⟨(hs.trans (hl.stab.mono (Nat.le_refl _) h1 h2)).trans (hr.stab.mono h1 h2 (Nat.le_refl _)), ?_⟩
  have k1 : ∀ i j, a ≤ i → i < mid → mid ≤ j → j < b → lt d2[j]! d2[i]! = false := fun i j i1 i2 j1 j2 => by
    rw [hl.stab.out j (by omega)]
    exact hl.stab.all hS (fun x => lt d1[j]! x = false) (fun i i1 i2 => hle i j i1 i2 j1 j2) i i1 i2
  have k2 : ∀ i j, a ≤ i → i < mid → mid ≤ j → j < b → lt d3[j]! d3[i]! = false := fun i j i1 i2 j1 j2 => by
    rw [hr.stab.out i (by omega)]
    exact hr.stab.all hS (fun x => lt x d2[i]! = false) (fun j j1 j2 => k1 i j i1 i2 j1 j2) j j1 j2
  intro i j i1 ij j2
  by_cases ci : j < mid
  · rw [hr.stab.out j (by omega), hr.stab.out i (by omega)]; exact hl.sorted i j i1 ij ci
  · by_cases cj : i < mid
    · exact k2 i j i1 cj (by omega) j2
    · exact hr.sorted i j (by omega) ij j2
/-- A part of one sorted run is merged as it stands. -/
theorem Merged.same {a b : Nat} {d : Array α} (h : SortedIn lt a b d) : Merged lt a b d d := ⟨StabIn.refl _ _ _ _, h⟩
theorem merge_one (hS : SWO lt) {a b i : Nat} {d d' : Array α} (h1 : a + 1 ≤ i) (h2 : i ≤ b) (sr : SortedIn lt (a + 1) b d) (hp : a + 1 < i → lt d[i - 1]! d[a]! = true) (hn : i < b → lt d[i]! d[a]! = false)
    (hr : RotAt a (a + 1) i d d') : Merged lt a b d d' := by
  have hlt : ∀ q, a + 1 ≤ q → q < i → lt d[q]! d[a]! = true := fun q q1 q2 => by
    have g := hp (by omega)
    exact lt_trans'' hS (SortedIn.le hS sr q1 (show q ≤ i - 1 by omega) (by omega)) g
  refine ⟨(hr.stab hS (by omega) h1 (fun p q p1 p2 q1 q2 => by (obtain rfl : p = a := (by omega)); exact hlt q q1 q2)).mono (Nat.le_refl _) (by omega) h2, ?_⟩
  have hV : ∀ k, a ≤ k → k < i - 1 → d'[k]! = d[k + 1]! := fun k k1 k2 => by rw [hr.2]; unfold rotF; rw [if_pos (by omega)]; congr 1; omega
  have hU : d'[i - 1]! = d[a]! := by rw [hr.2]; unfold rotF; rw [if_neg (by omega), if_pos (by omega)]; congr 1; omega
  have hB : ∀ k, i ≤ k → d'[k]! = d[k]! := fun k hk => by rw [hr.2]; unfold rotF; rw [if_neg (by omega), if_neg (by omega)]
  intro p q p1 pq q1
  by_cases cq : q < i - 1
  · rw [hV q (by omega) cq, hV p p1 (by omega)]; exact sr _ _ (by omega) (by omega) (by omega)
  · by_cases cq2 : q = i - 1
    · subst cq2; rw [hU, hV p p1 pq]; exact hS.asymmA (hlt _ (by omega) (by omega))
    · rw [hB q (by omega)]
      by_cases cp : p < i - 1
      · rw [hV p p1 cp]; exact SortedIn.le hS sr (by omega) (by omega) q1
      · by_cases cp2 : p = i - 1
        · subst cp2; rw [hU]; exact hS.ntrans _ _ _ (SortedIn.le hS sr (show a + 1 ≤ i by omega) (by omega) q1) (hn (by omega))
        · rw [hB p (by omega)]; exact sr p q (by omega) pq q1
theorem merge_last (hS : SWO lt) {a m i : Nat} {d d' : Array α} (h1 : a ≤ i) (h2 : i ≤ m) (sl : SortedIn lt a m d) (hp : a < i → lt d[m]! d[i - 1]! = false) (hn : i < m → lt d[m]! d[i]! = true)
    (hr : RotAt i m (m + 1) d d') : Merged lt a (m + 1) d d' := by
  have hlt : ∀ p, i ≤ p → p < m → lt d[m]! d[p]! = true := fun p p1 p2 => lt_trans' hS (hn (by omega)) (SortedIn.le hS sl h1 p1 p2)
  refine ⟨(hr.stab hS h2 (by omega) (fun p q p1 p2 q1 q2 => by (obtain rfl : q = m := (by omega)); exact hlt p p1 p2)).mono h1 (by omega) (Nat.le_refl _), ?_⟩
  have hA : ∀ k, k < i → d'[k]! = d[k]! := fun k hk => by rw [hr.2]; unfold rotF; rw [if_neg (by omega), if_neg (by omega)]
  have hU : d'[i]! = d[m]! := by rw [hr.2]; unfold rotF; rw [if_pos (by omega)]; congr 1; omega
  have hB : ∀ k, i < k → k < m + 1 → d'[k]! = d[k - 1]! := fun k k1 k2 => by rw [hr.2]; unfold rotF; rw [if_neg (by omega), if_pos (by omega)]; congr 1; omega
  intro p q p1 pq q1
  by_cases cp : p < i
  · rw [hA p cp]
    by_cases cq : q < i
    · rw [hA q cq]; exact sl p q p1 pq (by omega)
    · by_cases cq2 : q = i
      · subst cq2; rw [hU]; exact hS.ntrans _ _ _ (hp (by omega)) (SortedIn.le hS sl p1 (show p ≤ q - 1 by omega) (by omega))
      · rw [hB q (by omega) q1]; exact SortedIn.le hS sl p1 (by omega) (by omega)
  · by_cases cp2 : p = i
    · subst cp2; rw [hU, hB q pq q1]; exact hS.asymmA (hlt _ (by omega) (by omega))
    · rw [hB p (by omega) (by omega), hB q (by omega) q1]; exact sl _ _ (by omega) (by omega) (by omega)

/-! Blocks -/
/-- Each block of B elements is sorted. -/
def Blk (lt : α → α → Bool) (B n : Nat) (d : Array α) : Prop := ∀ p q, p < q → q < n → p / B = q / B → lt d[q]! d[p]! = false
/-- .. of 2 B elements below a, of B from a on. -/
def Blk2 (lt : α → α → Bool) (B n a : Nat) (d : Array α) : Prop := (∀ p q, p < q → q < n → q < a → p / (2 * B) = q / (2 * B) → lt d[q]! d[p]! = false) ∧ (∀ p q, p < q → q < n → a ≤ p → p / B = q / B → lt d[q]! d[p]! = false)

/-! There is one stable order -/
theorem stable_unique (hS : SWO lt) : ∀ (l l' : List α), l.Pairwise (fun x y => lt y x = false) → l'.Pairwise (fun x y => lt y x = false) → StabL lt l l' → l' = l
  | [], l', _, _, h => by
    cases l' with
    | nil => rfl
    | cons y t => exact absurd (h.mem hS (List.mem_cons_self)) (by simp)
  | x :: t, [], _, _, h => absurd (h.symm.mem hS (List.mem_cons_self)) (by simp)
  | x :: t, y :: t', s1, s2, h => by
    rw [List.pairwise_cons] at s1 s2
    have hx : x ∈ y :: t' := h.symm.mem hS List.mem_cons_self
    have hy : y ∈ x :: t := h.mem hS List.mem_cons_self
    have n1 : lt x y = false := by
      rcases List.mem_cons.1 hx with c | c
      · rw [c]; exact hS.irrefl _
      · exact s2.1 x c
    have n2 : lt y x = false := by
      rcases List.mem_cons.1 hy with c | c
      · rw [c]; exact hS.irrefl _
      · exact s1.1 y c
    have e1 : eqv lt x y = true := by unfold eqv; rw [n1, n2]; rfl
    have hh := h x
    rw [List.filter_cons, List.filter_cons, if_pos e1, if_pos (eqv_self hS x)] at hh
    injection hh with h1 h2
    subst h1
    rw [stable_unique hS t t' s1.2 s2.2 (fun z => by
      have hz := h z
      rw [List.filter_cons, List.filter_cons] at hz
      by_cases c : eqv lt z y = true
      · rw [if_pos c, if_pos c] at hz; injection hz
      · rw [if_neg c, if_neg c] at hz; exact hz)]
end Go.Lott.Stb
