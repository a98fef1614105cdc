/- Plain facts on the merge by halves and on blocks. No program stands in this text. -/
import Derived.Test.YtainelkenkgppaaDoorStb
namespace Go.Lott.Stb
open Go.Sort
variable {α : Type} [Inhabited α] {lt : α → α → Bool}
/-- Behind the exchange: two halves of two sorted runs each. -/
structure Halves (lt : α → α → Bool) (a s mid e b : Nat) (d d1 : Array α) : Prop where
  st : StabIn lt a b d d1
  s1 : SortedIn lt a s d1
  s2 : SortedIn lt s mid d1
  s3 : SortedIn lt mid e d1
  s4 : SortedIn lt e b d1
  le : ∀ i j, a ≤ i → i < mid → mid ≤ j → j < b → lt d1[j]! d1[i]! = false
theorem halves (hS : SWO lt) {a m b mid lo hi s : Nat} {d : Array α} (B : Bnd a m b mid lo hi) (F : Found lt d (mid + m) lo hi s) (sl : SortedIn lt a m d) (sr : SortedIn lt m b d) :
    ∀ d1, RotAt s m (mid + m - s) d d1 → Halves lt a s mid (mid + m - s) b d d1 := fun d1 hr => by
  obtain ⟨h1, h2, h3, h4, h5, h6⟩ := merge_rot hS B F sl sr hr
  exact ⟨h1, h2, h3, h4, h5, h6⟩
theorem Merged.left {a s mid : Nat} {d : Array α} (h1 : SortedIn lt a s d) (h2 : SortedIn lt s mid d) (_ : a ≤ s) (_ : s ≤ mid) (h : ¬ (a < s ∧ s < mid)) : Merged lt a mid d d := by
  refine Merged.same ?_
  by_cases c : a < s
  · obtain rfl : s = mid := by omega
    exact h1
  · obtain rfl : a = s := by omega
    exact h2
theorem SortedIn.cong {a b : Nat} {d d' : Array α} (h : SortedIn lt a b d) (he : ∀ k, a ≤ k → k < b → d'[k]! = d[k]!) : SortedIn lt a b d' := fun i j i1 ij j1 => by
  rw [he i i1 (by omega), he j (by omega) j1]; exact h i j i1 ij j1
def BlkS (lt : α → α → Bool) (B n : Nat) (d : Array α) : Prop := ∀ p q j, p < q → q < n → j * B ≤ p → q < j * B + B → lt d[q]! d[p]! = false
/-- .. from a on, of B; below a, of 2 B. -/
structure BlkT (lt : α → α → Bool) (B n a : Nat) (d : Array α) : Prop where
  low : BlkS lt (2 * B) a d
  high : ∀ p q j, p < q → q < n → a ≤ p → j * B ≤ p → q < j * B + B → lt d[q]! d[p]! = false
theorem BlkS.start (lt : α → α → Bool) (B : Nat) (d : Array α) : BlkS lt B 0 d := fun p q j h1 h2 => by omega
/-- One more block is sorted. -/
theorem BlkS.step {B j a b : Nat} {d d' : Array α} (h : BlkS lt B a d) (ha : a = j * B) (_ : b ≤ a + B) (m : Merged lt a b d d') : BlkS lt B b d' := fun p q i h1 h2 h3 h4 => by
  by_cases c : q < a
  · rw [m.stab.out q (by omega), m.stab.out p (by omega)]; exact h p q i h1 c h3 h4
  · have h5 : j * B < (i + 1) * B := by rw [Nat.add_mul, Nat.one_mul]; omega
    have h6 : j ≤ i := by have := Nat.lt_of_mul_lt_mul_right h5; omega
    have h7 : j * B ≤ i * B := Nat.mul_le_mul_right B h6
    exact m.sorted p q (by omega) h1 h2
theorem BlkT.start {B n : Nat} {d : Array α} (h : BlkS lt B n d) : BlkT lt B n 0 d := ⟨BlkS.start _ _ _, fun p q j h1 h2 _ h4 h5 => h p q j h1 h2 h4 h5⟩
theorem BlkT.runs {B n j a : Nat} {d : Array α} (h : BlkT lt B n a d) (ha : a = j * (2 * B)) (b : Nat) (hb : b ≤ a + 2 * B) (hn : b ≤ n) (hab : a + B ≤ b) : SortedIn lt a (a + B) d ∧ SortedIn lt (a + B) b d := by
  have e1 : 2 * j * B = a := by rw [ha, Nat.mul_comm 2 j, Nat.mul_assoc]
  have e2 : (2 * j + 1) * B = a + B := by rw [Nat.add_mul, e1, Nat.one_mul]
  exact ⟨fun p q p1 pq q1 => h.high p q (2 * j) pq (by omega) p1 (by omega) (by omega), fun p q p1 pq q1 => h.high p q (2 * j + 1) pq (by omega) (by omega) (by omega) (by omega)⟩
theorem BlkT.step {B n j a b : Nat} {d d' : Array α} (h : BlkT lt B n a d) (ha : a = j * (2 * B)) (hb : b = a + 2 * B) (m : Merged lt a b d d') : BlkT lt B n b d' :=
  ⟨h.low.step ha (by omega) m, fun p q i h1 h2 h3 h4 h5 => by rw [m.stab.out q (by omega), m.stab.out p (by omega)]; exact h.high p q i h1 h2 (by omega) h4 h5⟩
theorem BlkT.last {B n j a : Nat} {d : Array α} (h : BlkT lt B n a d) (ha : a = j * (2 * B)) (hn : n ≤ a + B) : BlkS lt (2 * B) n d := fun p q i h1 h2 h3 h4 => by
  by_cases c : q < a
  · exact h.low p q i h1 c h3 h4
  · have e1 : 2 * j * B = a := by rw [ha, Nat.mul_comm 2 j, Nat.mul_assoc]
    have h5 : j * (2 * B) < (i + 1) * (2 * B) := by rw [Nat.add_mul i, Nat.one_mul]; omega
    have h6 : j ≤ i := by have := Nat.lt_of_mul_lt_mul_right h5; omega
    have h7 : j * (2 * B) ≤ i * (2 * B) := Nat.mul_le_mul_right _ h6
    exact h.high p q (2 * j) h1 h2 (by omega) (by omega) (by omega)
theorem BlkS.all {B n : Nat} {d : Array α} (h : BlkS lt B n d) (hb : n ≤ B) : SortedIn lt 0 n d := fun p q _ pq qn => h p q 0 pq qn (by omega) (by omega)
end Go.Lott.Stb
