/- Plain facts on the division of an amount by weights: the order of the remainders, and what each weight gets. No program stands in this text. -/
import Derived.Test.YtkpmbkkhdhjbnaaStb
namespace Go.Lott.Spl
open Go.Sort Go.Lott.Stb

/-- i comes before j: a greater remainder, or the same one and an earlier place. -/
def bef (R : Nat → Int) (i j : Nat) : Prop := R j < R i ∨ (R i = R j ∧ i < j)
theorem bef.asym {R : Nat → Int} {i j : Nat} (h : bef R i j) : ¬ bef R j i := fun k => by
  unfold bef at *; omega
theorem bef.irrefl (R : Nat → Int) (i : Nat) : ¬ bef R i i := fun k => by unfold bef at k; omega
theorem bef.total (R : Nat → Int) {i j : Nat} (h : i ≠ j) : bef R i j ∨ bef R j i := by unfold bef; omega
/-- All places below n in that order. -/
structure Ord (R : Nat → Int) (n : Nat) (o : List Nat) : Prop where
  mem : ∀ x, x ∈ o ↔ x < n
  pw : o.Pairwise (bef R)
theorem pw_unique {R : Nat → Int} : ∀ (l l' : List Nat), l.Pairwise (bef R) → l'.Pairwise (bef R) → (∀ x, x ∈ l ↔ x ∈ l') → l = l'
  | [], [], _, _, _ => rfl
  | [], y :: t, _, _, h => absurd ((h y).2 List.mem_cons_self) (by simp)
  | x :: t, [], _, _, h => absurd ((h x).1 List.mem_cons_self) (by simp)
  | x :: t, y :: t', s1, s2, h => by
    rw [List.pairwise_cons] at s1 s2
    have e : x = y := by
      rcases List.mem_cons.1 ((h x).1 List.mem_cons_self) with c | c
      · exact c
      · rcases List.mem_cons.1 ((h y).2 List.mem_cons_self) with c2 | c2
        · exact c2.symm
        · exact absurd (s1.1 y c2) (s2.1 x c).asym
    subst e
    have hx : x ∉ t := fun c => bef.irrefl R x (s1.1 x c)
    have hx' : x ∉ t' := fun c => bef.irrefl R x (s2.1 x c)
    rw [pw_unique t t' s1.2 s2.2 (fun z => by
      have hz := h z
      rw [List.mem_cons, List.mem_cons] at hz
      constructor
      · intro c
        rcases hz.1 (Or.inr c) with c2 | c2
        · subst c2; exact absurd c hx
        · exact c2
      · intro c
        rcases hz.2 (Or.inr c) with c2 | c2
        · subst c2; exact absurd c hx'
        · exact c2)]
theorem Ord.unique {R : Nat → Int} {n : Nat} {o o' : List Nat} (h : Ord R n o) (h' : Ord R n o') : o = o' := pw_unique o o' h.pw h'.pw fun x => (h.mem x).trans (h'.mem x).symm
theorem Ord.nodup {R : Nat → Int} {n : Nat} {o : List Nat} (h : Ord R n o) : o.Nodup := h.pw.imp fun {a b} hb e => by subst e; exact bef.irrefl R a hb

/-! Sums over the places below n -/
def sm (f : Nat → Int) : Nat → Int
  | 0 => 0
  | k + 1 => sm f k + f k
theorem sm_congr {f g : Nat → Int} : ∀ {n : Nat}, (∀ k, k < n → f k = g k) → sm f n = sm g n
  | 0, _ => rfl
  | n + 1, h => by unfold sm; rw [sm_congr (n := n) (fun k hk => h k (by omega)), h n (by omega)]
theorem sm_add (f g : Nat → Int) : ∀ n, sm (fun k => f k + g k) n = sm f n + sm g n
  | 0 => rfl
  | n + 1 => by unfold sm; rw [sm_add f g n]; omega
theorem sm_le {f g : Nat → Int} : ∀ {n : Nat}, (∀ k, k < n → f k ≤ g k) → sm f n ≤ sm g n
  | 0, _ => Int.le_refl _
  | n + 1, h => by
    have h1 := sm_le (n := n) (fun k hk => h k (by omega))
    have h2 := h n (by omega)
    unfold sm; omega
theorem sm_mul (c : Int) (f : Nat → Int) : ∀ n, sm (fun k => c * f k) n = c * sm f n
  | 0 => by simp [sm]
  | n + 1 => by unfold sm; rw [sm_mul c f n, Int.mul_add]
theorem sm_zero : ∀ n, sm (fun _ => 0) n = 0
  | 0 => rfl
  | n + 1 => by unfold sm; rw [sm_zero n]; rfl
theorem sm_one (c : Nat) : ∀ n, sm (fun k => if k = c then 1 else 0) n = if c < n then 1 else 0
  | 0 => rfl
  | n + 1 => by
    unfold sm; rw [sm_one c n]
    by_cases h1 : c < n
    · rw [if_pos h1, if_neg (by omega), if_pos (by omega)]; rfl
    · by_cases h2 : n = c
      · rw [if_neg h1, if_pos h2, if_pos (by omega)]; rfl
      · rw [if_neg h1, if_neg h2, if_neg (by omega)]; rfl
theorem sm_nonneg {f : Nat → Int} {n : Nat} (h : ∀ k, k < n → 0 ≤ f k) : 0 ≤ sm f n := by
  have := sm_le (f := fun _ => 0) (g := f) (n := n) h; rw [sm_zero] at this; exact this
theorem sm_mono {f : Nat → Int} {n : Nat} (h : ∀ k, k < n → 0 ≤ f k) : ∀ {j : Nat}, j ≤ n → sm f j ≤ sm f n := fun {j} hj => by
  obtain ⟨d, rfl⟩ : ∃ d, n = j + d := ⟨n - j, by omega⟩
  clear hj
  induction d with
  | zero => exact Int.le_refl _
  | succ d ih =>
    have h1 := ih (fun k hk => h k (by omega))
    have h2 := h (j + d) (by omega)
    show _ ≤ sm f (j + d) + f (j + d)
    omega
theorem sm_term {f : Nat → Int} {n : Nat} (h : ∀ k, k < n → 0 ≤ f k) {i : Nat} (hi : i < n) : f i ≤ sm f n := by
  have h1 := sm_mono h (show i + 1 ≤ n by omega)
  have h2 := sm_mono h (show i ≤ n by omega)
  have h3 : 0 ≤ sm f i := sm_nonneg fun k hk => h k (by omega)
  have h4 : sm f (i + 1) = sm f i + f i := rfl
  omega
theorem sm_bound {f : Nat → Int} {M : Int} : ∀ {n : Nat}, (∀ k, k < n → f k ≤ M) → sm f n ≤ M * (n : Int)
  | 0, _ => by simp [sm]
  | n + 1, h => by
    have h1 := sm_bound (n := n) (fun k hk => h k (by omega))
    have h2 := h n (by omega)
    have h3 : M * ((n + 1 : Nat) : Int) = M * (n : Int) + M := by rw [Int.natCast_succ, Int.mul_add, Int.mul_one]
    unfold sm; omega
/-- Is i one of the first k in the order? -/
def pick (o : List Nat) (k i : Nat) : Int := if i ∈ o.take k then 1 else 0
theorem pick_bd (o : List Nat) (k i : Nat) : 0 ≤ pick o k i ∧ pick o k i ≤ 1 := by unfold pick; split <;> omega
theorem pick_zero (o : List Nat) (i : Nat) : pick o 0 i = 0 := by unfold pick; rw [if_neg (by simp)]
theorem mem_take_succ {o : List Nat} {k : Nat} (hk : k < o.length) {i : Nat} : i ∈ o.take (k + 1) ↔ i ∈ o.take k ∨ i = o[k] := by
  rw [List.take_succ_eq_append_getElem hk, List.mem_append, List.mem_singleton]
theorem nodup_take {o : List Nat} (h : o.Nodup) {k : Nat} (hk : k < o.length) : o[k] ∉ o.take k := fun hc => by
  obtain ⟨j, hj, e⟩ := List.mem_iff_getElem.1 hc
  rw [List.getElem_take] at e
  have hjk : j < k := by rw [List.length_take] at hj; omega
  exact (List.pairwise_iff_getElem.1 h j k (by omega) hk hjk) e
theorem pick_succ {o : List Nat} (h : o.Nodup) {k : Nat} (hk : k < o.length) (i : Nat) : pick o (k + 1) i = pick o k i + if i = o[k] then 1 else 0 := by
  unfold pick
  by_cases c : i = o[k]
  · rw [if_pos ((mem_take_succ hk).2 (Or.inr c)), if_neg (by rw [c]; exact nodup_take h hk), if_pos c]; rfl
  · by_cases c2 : i ∈ o.take k
    · rw [if_pos ((mem_take_succ hk).2 (Or.inl c2)), if_pos c2, if_neg c]; rfl
    · rw [if_neg (fun hc => by rcases (mem_take_succ hk).1 hc with h1 | h1 <;> contradiction), if_neg c2, if_neg c]; rfl
theorem Ord.get {R : Nat → Int} {n : Nat} {o : List Nat} (h : Ord R n o) {k : Nat} (hk : k < o.length) : o[k] < n := (h.mem _).1 (List.getElem_mem hk)
theorem sm_pick {R : Nat → Int} {n : Nat} {o : List Nat} (h : Ord R n o) : ∀ k, k ≤ o.length → sm (pick o k) n = (k : Int)
  | 0, _ => by rw [sm_congr (g := fun _ => 0) (fun k _ => pick_zero o k), sm_zero]; rfl
  | k + 1, hk => by
    have hk' : k < o.length := by omega
    rw [sm_congr (fun i _ => pick_succ h.nodup hk' i), sm_add, sm_pick h k (by omega), sm_one, if_pos (h.get hk')]; omega
theorem Ord.length {R : Nat → Int} {n : Nat} {o : List Nat} (h : Ord R n o) : o.length = n := by
  have h1 := sm_pick h o.length (Nat.le_refl _)
  have h2 : sm (pick o o.length) n = sm (fun _ => 1) n := sm_congr fun k hk => by unfold pick; rw [List.take_length, if_pos ((h.mem k).2 hk)]
  have h3 : ∀ n, sm (fun _ => 1) n = (n : Int) := fun n => by
    induction n with
    | zero => rfl
    | succ n ih => unfold sm; rw [ih]; omega
  rw [h2, h3] at h1; omega
/-- The remainders of those that are not picked are at most those of the picked. -/
theorem Ord.after {R : Nat → Int} {n : Nat} {o : List Nat} (h : Ord R n o) {j k : Nat} (hjk : j < k) (hk : k < o.length) : bef R (o[j]'(by omega)) o[k] := List.pairwise_iff_getElem.1 h.pw j k (by omega) hk hjk
theorem Ord.not_mem {R : Nat → Int} {n : Nat} {o : List Nat} (h : Ord R n o) {k i : Nat} (hi : i < n) (hn : i ∉ o.take k) : ∃ j, ∃ hj : j < o.length, k ≤ j ∧ o[j] = i := by
  obtain ⟨j, hj, e⟩ := List.mem_iff_getElem.1 ((h.mem i).2 hi)
  refine ⟨j, hj, ?_, e⟩
  rcases Nat.lt_or_ge j k with c | c
  · exfalso
    refine hn ?_
    rw [← e]
    exact List.mem_iff_getElem.2 ⟨j, by rw [List.length_take]; omega, by rw [List.getElem_take]⟩
  · exact c
/-- What is picked has a remainder. -/
theorem picked_pos {R : Nat → Int} {n : Nat} {o : List Nat} (h : Ord R n o) {t L : Int} (ht : 1 ≤ t) (h0 : ∀ k, k < n → 0 ≤ R k ∧ R k ≤ t - 1) (hs : sm R n = t * L) {k : Nat} (hk : (k : Int) < L) (hl : k < o.length) : R o[k] ≠ 0 := fun hz => by
  have hle : ∀ i, i < n → R i ≤ (t - 1) * pick o k i := fun i hi => by
    unfold pick
    by_cases c : i ∈ o.take k
    · rw [if_pos c, Int.mul_one]; exact (h0 i hi).2
    · rw [if_neg c, Int.mul_zero]
      obtain ⟨j, hj, hkj, e⟩ := h.not_mem hi c
      rcases Nat.eq_or_lt_of_le hkj with rfl | hlt
      · rw [← e, hz]; exact Int.le_refl _
      · have := h.after hlt hj
        rw [e] at this
        unfold bef at this; omega
  have h1 := sm_le hle
  rw [sm_mul, sm_pick h k (by omega), hs] at h1
  have h2 : (t - 1) * (k : Int) ≤ t * (k : Int) := Int.mul_le_mul_of_nonneg_right (by omega) (by omega)
  have h3 : t * (k : Int) < t * L := Int.mul_lt_mul_of_pos_left hk (by omega)
  omega
/-! From the stable sort to the order -/
theorem ord_of_merged {m : Nat} {R : Nat → Int} {d d' : Array (Fin (m + 1))} (hd : ∀ k, k < m + 1 → (d[k]!).val = k) (h : Merged (fun x y => decide (R y.val < R x.val)) 0 (m + 1) d d') :
    Ord R (m + 1) ((List.range (m + 1)).map fun k => (d'[k]!).val) := by
  have hS : SWO (fun (x y : Fin (m + 1)) => decide (R y.val < R x.val)) := ⟨fun x => by simp, fun x y z h1 h2 => by simp only [decide_eq_true_eq] at *; omega, fun x y z h1 h2 => by simp only [decide_eq_false_iff_not] at *; omega⟩
  have hc := h.stab.cls
  have hr : ∀ e : Array (Fin (m + 1)), seg e 0 (m + 1) = (List.range (m + 1)).map fun k => e[k]! := fun e => by unfold seg; rw [List.range_eq_range']; rfl
  rw [hr, hr] at hc
  refine ⟨fun x => ?_, ?_⟩
  · constructor
    · intro hx
      obtain ⟨k, _, rfl⟩ := List.mem_map.1 hx
      exact (d'[k]!).isLt
    · intro hx
      have h1 : d[x]! ∈ (List.range (m + 1)).map fun k => d[k]! := List.mem_map.2 ⟨x, List.mem_range.2 hx, rfl⟩
      have h2 := hc.symm.mem hS h1
      obtain ⟨k, hk, e⟩ := List.mem_map.1 h2
      exact List.mem_map.2 ⟨k, hk, by rw [e]; exact hd x hx⟩
  · rw [List.pairwise_iff_getElem]
    intro p q hp hq hpq
    simp only [List.length_map, List.length_range] at hp hq
    simp only [List.getElem_map, List.getElem_range]
    have h1 := h.sorted p q (Nat.zero_le _) hpq hq
    simp only [decide_eq_false_iff_not] at h1
    unfold bef
    by_cases c : R (d'[q]!).val < R (d'[p]!).val
    · exact Or.inl c
    · refine Or.inr ⟨by omega, ?_⟩
      have h2 : ((List.range (m + 1)).map fun k => d[k]!).Pairwise fun x y => x.val < y.val := by
        rw [List.pairwise_iff_getElem]
        intro a b ha hb hab
        simp only [List.length_map, List.length_range] at ha hb
        simp only [List.getElem_map, List.getElem_range]
        rw [hd a ha, hd b hb]; exact hab
      have h3 := h2.sublist (List.filter_sublist (p := eqv (fun (x y : Fin (m + 1)) => decide (R y.val < R x.val)) d'[p]!))
      rw [← hc d'[p]!, List.pairwise_filter, List.pairwise_iff_getElem] at h3
      have h4 := h3 p q (by simpa using hp) (by simpa using hq) hpq
      simp only [List.getElem_map, List.getElem_range] at h4
      exact h4 (eqv_self hS _) (by unfold eqv; simp; omega)
end Go.Lott.Spl
