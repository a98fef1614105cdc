/- Plain facts on shares: the search, the check, sorted lists by members, a transfer. No program stands in this text. -/
import Derived.Lib.ItoaNum
namespace Go.Lott.Syn
/-- The first of the first n rows with that member, or -1. -/
def fnd (z : Nat → Nat → Int) (m : Int) : Nat → Int
  | 0 => -1
  | n + 1 => if 0 ≤ fnd z m n then fnd z m n else if z n 0 = m then (n : Int) else -1
theorem fnd_spec (z : Nat → Nat → Int) (m : Int) : ∀ n, (fnd z m n = -1 ∧ ∀ i, i < n → z i 0 ≠ m) ∨ (∃ i : Nat, fnd z m n = i ∧ i < n ∧ z i 0 = m ∧ ∀ j, j < i → z j 0 ≠ m)
  | 0 => .inl ⟨rfl, fun i hi => by omega⟩
  | n + 1 => by
    unfold fnd
    rcases fnd_spec z m n with ⟨h, ha⟩ | ⟨i, h, hi, hz, ha⟩
    · rw [if_neg (by omega)]
      by_cases c : z n 0 = m
      · rw [if_pos c]; exact .inr ⟨n, rfl, by omega, c, ha⟩
      · rw [if_neg c]; exact .inl ⟨rfl, fun i hi => by
          rcases Nat.lt_or_ge i n with h | h
          · exact ha i h
          · obtain rfl : i = n := by omega
            exact c⟩
    · rw [if_pos (by omega)]; exact .inr ⟨i, h, by omega, hz, ha⟩
theorem fnd_bd (z : Nat → Nat → Int) (m : Int) (n : Nat) : -1 ≤ fnd z m n ∧ fnd z m n < n := by
  rcases fnd_spec z m n with ⟨h, _⟩ | ⟨i, h, hi, _⟩ <;> omega
theorem fnd_no {z : Nat → Nat → Int} {m : Int} {n : Nat} (h : ∀ i, i < n → z i 0 ≠ m) : fnd z m n = -1 := by
  rcases fnd_spec z m n with ⟨h, _⟩ | ⟨i, _, hi, hz, _⟩
  · exact h
  · exact absurd hz (h i hi)
theorem fnd_at {z : Nat → Nat → Int} {m : Int} {n i : Nat} (hi : i < n) (hz : z i 0 = m) (h : ∀ j, j < i → z j 0 ≠ m) : fnd z m n = i := by
  rcases fnd_spec z m n with ⟨_, ha⟩ | ⟨k, hk, hkn, hkz, hka⟩
  · exact absurd hz (ha i hi)
  · rcases Nat.lt_trichotomy i k with c | c | c
    · exact absurd hz (hka i c)
    · rw [hk, c]
    · exact absurd hkz (h k c)
theorem fnd_congr {z z' : Nat → Nat → Int} (m : Int) : ∀ {n : Nat}, (∀ i, i < n → z i 0 = z' i 0) → fnd z m n = fnd z' m n
  | 0, _ => rfl
  | n + 1, h => by unfold fnd; rw [fnd_congr m (fun i hi => h i (by omega)), h n (by omega)]
/-- The error at a row; of the first k rows; of a list. -/
def ce1 (z : Nat → Nat → Int) (k : Nat) : Int := if z k 0 < 1 ∨ z k 1 < 1 ∨ 1000000 < z k 1 then 2 else if 0 ≤ fnd z (z k 0) k then 6 else 0
def ceA (z : Nat → Nat → Int) : Nat → Int
  | 0 => 0
  | k + 1 => if ceA z k = 0 then ce1 z k else ceA z k
def ckS (z : Nat → Nat → Int) (n : Nat) : Int := if n < 1 ∨ 64 < n then 3 else ceA z n
theorem ceA_stay {z : Nat → Nat → Int} {k : Nat} (h : ceA z k ≠ 0) : ∀ d, ceA z (k + d) = ceA z k
  | 0 => rfl
  | d + 1 => by
    show (if ceA z (k + d) = 0 then _ else ceA z (k + d)) = _
    rw [ceA_stay h d, if_neg h]
theorem ce_out {z : Nat → Nat → Int} {n : Nat} (h : n < 1 ∨ 64 < n) : 3 = ckS z n := by unfold ckS; rw [if_pos h]
theorem ce_at {z : Nat → Nat → Int} {n k : Nat} (hn : ¬ (n < 1 ∨ 64 < n)) (hk : k < n) (h0 : ceA z k = 0) (h : ce1 z k ≠ 0) : ce1 z k = ckS z n := by
  unfold ckS; rw [if_neg hn]
  have e : ceA z (k + 1) = ce1 z k := by show (if ceA z k = 0 then _ else _) = _; rw [if_pos h0]
  have := ceA_stay (z := z) (k := k + 1) (by rw [e]; exact h) (n - (k + 1))
  rw [show k + 1 + (n - (k + 1)) = n by omega, e] at this
  exact this.symm
theorem ce_range {z : Nat → Nat → Int} {n k : Nat} (hn : ¬ (n < 1 ∨ 64 < n)) (hk : k < n) (h0 : ceA z k = 0) (h : z k 0 < 1 ∨ z k 1 < 1 ∨ 1000000 < z k 1) : 2 = ckS z n := by
  have e : ce1 z k = 2 := if_pos h
  rw [← e]; exact ce_at hn hk h0 (by omega)
theorem ce_dup {z : Nat → Nat → Int} {n k : Nat} (hn : ¬ (n < 1 ∨ 64 < n)) (hk : k < n) (h0 : ceA z k = 0) (h : ¬ (z k 0 < 1 ∨ z k 1 < 1 ∨ 1000000 < z k 1)) (h2 : 0 ≤ fnd z (z k 0) k) : 6 = ckS z n := by
  have e : ce1 z k = 6 := by unfold ce1; rw [if_neg h, if_pos h2]
  rw [← e]; exact ce_at hn hk h0 (by omega)
theorem ce_next {z : Nat → Nat → Int} {k : Nat} (h0 : ceA z k = 0) (h : ¬ (z k 0 < 1 ∨ z k 1 < 1 ∨ 1000000 < z k 1)) (h2 : ¬ 0 ≤ fnd z (z k 0) k) : ceA z (k + 1) = 0 := by
  show (if ceA z k = 0 then ce1 z k else _) = 0
  rw [if_pos h0]; unfold ce1; rw [if_neg h, if_neg h2]
theorem ce_fine {z : Nat → Nat → Int} {n : Nat} (hn : ¬ (n < 1 ∨ 64 < n)) (h0 : ceA z n = 0) : 0 = ckS z n := by unfold ckS; rw [if_neg hn, h0]
theorem ceA_all {z : Nat → Nat → Int} : ∀ {n : Nat}, ceA z n = 0 → ∀ k, k < n → (1 ≤ z k 0 ∧ 1 ≤ z k 1 ∧ z k 1 ≤ 1000000) ∧ ∀ j, j < k → z j 0 ≠ z k 0
  | 0, _, k, hk => by omega
  | n + 1, h, k, hk => by
    have e : (if ceA z n = 0 then ce1 z n else ceA z n) = 0 := h
    have h0 : ceA z n = 0 := by
      by_cases c : ceA z n = 0
      · exact c
      · rw [if_neg c] at e; exact e
    rw [if_pos h0] at e
    rcases Nat.lt_or_ge k n with c | c
    · exact ceA_all h0 k c
    · obtain rfl : k = n := by omega
      unfold ce1 at e
      by_cases c1 : z k 0 < 1 ∨ z k 1 < 1 ∨ 1000000 < z k 1
      · rw [if_pos c1] at e; omega
      · rw [if_neg c1] at e
        by_cases c2 : 0 ≤ fnd z (z k 0) k
        · rw [if_pos c2] at e; omega
        · refine ⟨by omega, ?_⟩
          rcases fnd_spec z (z k 0) k with ⟨_, ha⟩ | ⟨i, hi, _⟩
          · exact ha
          · omega
/-- A syndicate. -/
structure Vld (z : Nat → Nat → Int) (n : Nat) : Prop where
  n1 : 1 ≤ n
  n2 : n ≤ 64
  rng : ∀ k, k < n → 1 ≤ z k 0 ∧ 1 ≤ z k 1 ∧ z k 1 ≤ 1000000
  dif : ∀ j k, j < k → k < n → z j 0 ≠ z k 0
theorem ck_vld {z : Nat → Nat → Int} {n : Nat} (h : ckS z n = 0) : Vld z n := by
  unfold ckS at h
  by_cases c : n < 1 ∨ 64 < n
  · rw [if_pos c] at h; omega
  · rw [if_neg c] at h
    have := ceA_all h
    exact ⟨by omega, by omega, fun k hk => (this k hk).1, fun j k hj hk => (this k hk).2 j hj⟩
theorem Vld.inj {z : Nat → Nat → Int} {n : Nat} (h : Vld z n) {j k : Nat} (hj : j < n) (hk : k < n) (e : z j 0 = z k 0) : j = k := by
  rcases Nat.lt_trichotomy j k with c | c | c
  · exact absurd e (h.dif j k c hk)
  · exact c
  · exact absurd e.symm (h.dif k j c hj)
theorem vld_ck {z : Nat → Nat → Int} {n : Nat} (h : Vld z n) : ckS z n = 0 := by
  have hn := h.n1
  have hn2 := h.n2
  unfold ckS
  rw [if_neg (by omega)]
  have : ∀ k, k ≤ n → ceA z k = 0 := by
    intro k
    induction k with
    | zero => intro _; rfl
    | succ k ih =>
      intro hk
      have hr := h.rng k (by omega)
      refine ce_next (ih (by omega)) (by omega) ?_
      rw [fnd_no (fun i hi => h.dif i k hi (by omega))]; omega
  exact this n (Nat.le_refl _)
/-! Sorted lists. -/
abbrev Sh := Int × Int
def insL (x : Sh) : List Sh → List Sh
  | [] => [x]
  | y :: l => if y.1 < x.1 then y :: insL x l else x :: y :: l
def srt (l : List Sh) : List Sh := l.foldl (fun o x => insL x o) []
def Asc (l : List Sh) : Prop := l.Pairwise fun x y => x.1 < y.1
theorem insL_perm (x : Sh) : ∀ l, (insL x l).Perm (x :: l)
  | [] => .refl _
  | y :: l => by
    unfold insL
    split
    · exact ((insL_perm x l).cons y).trans (.swap x y l)
    · exact .refl _
theorem insL_mem {x u : Sh} {l : List Sh} : u ∈ insL x l ↔ u = x ∨ u ∈ l := by rw [(insL_perm x l).mem_iff, List.mem_cons]
theorem insL_asc {x : Sh} : ∀ {l : List Sh}, Asc l → (∀ y ∈ l, y.1 ≠ x.1) → Asc (insL x l)
  | [], _, _ => List.pairwise_singleton _ _
  | y :: l, h, hx => by
    unfold insL
    obtain ⟨h1, h2⟩ := List.pairwise_cons.1 h
    split
    · rename_i hlt
      refine List.pairwise_cons.2 ⟨fun u hu => ?_, insL_asc h2 (fun u hu => hx u (List.mem_cons_of_mem _ hu))⟩
      rcases insL_mem.1 hu with rfl | hu
      · exact hlt
      · exact h1 u hu
    · rename_i hlt
      have := hx y (List.mem_cons_self ..)
      refine List.pairwise_cons.2 ⟨fun u hu => ?_, h⟩
      rcases List.mem_cons.1 hu with rfl | hu
      · omega
      · have := h1 u hu; omega
theorem srt_from (l : List Sh) : ∀ o, Asc o → (l.map Prod.fst).Nodup → (∀ x ∈ l, ∀ y ∈ o, y.1 ≠ x.1) → Asc (l.foldl (fun o x => insL x o) o) ∧ (l.foldl (fun o x => insL x o) o).Perm (l ++ o) := by
  induction l with
  | nil => intro o h _ _; exact ⟨h, .refl _⟩
  | cons x l ih =>
    intro o h hn hx
    rw [List.map_cons, List.nodup_cons] at hn
    obtain ⟨i1, i2⟩ := ih (insL x o) (insL_asc h (hx x (List.mem_cons_self ..))) hn.2 (fun u hu y hy => by
      rcases insL_mem.1 hy with rfl | hy
      · intro e; exact hn.1 (by rw [e]; exact List.mem_map_of_mem hu)
      · exact hx u (List.mem_cons_of_mem _ hu) y hy)
    refine ⟨i1, i2.trans ?_⟩
    exact ((insL_perm x o).append_left l).trans List.perm_middle
theorem srt_asc {l : List Sh} (h : (l.map Prod.fst).Nodup) : Asc (srt l) := (srt_from l [] List.Pairwise.nil h (fun _ _ y hy => by cases hy)).1
theorem srt_perm {l : List Sh} (h : (l.map Prod.fst).Nodup) : (srt l).Perm l := by
  have := (srt_from l [] List.Pairwise.nil h (fun _ _ y hy => by cases hy)).2
  rwa [List.append_nil] at this
theorem srt_snoc (l : List Sh) (x : Sh) : srt (l ++ [x]) = insL x (srt l) := by unfold srt; rw [List.foldl_append]; rfl
/-- An ascending list is told by its elements. -/
theorem asc_unique : ∀ (l l' : List Sh), Asc l → Asc l' → (∀ x, x ∈ l ↔ x ∈ l') → l = l'
  | [], [], _, _, _ => rfl
  | [], y :: l', _, _, h => by have := (h y).2 (List.mem_cons_self ..); cases this
  | x :: l, [], _, _, h => by have := (h x).1 (List.mem_cons_self ..); cases this
  | x :: l, y :: l', h, h', hm => by
    obtain ⟨a1, a2⟩ := List.pairwise_cons.1 h
    obtain ⟨b1, b2⟩ := List.pairwise_cons.1 h'
    have hxy : x = y := by
      rcases List.mem_cons.1 ((hm x).1 (List.mem_cons_self ..)) with e | e
      · exact e
      · rcases List.mem_cons.1 ((hm y).2 (List.mem_cons_self ..)) with e' | e'
        · exact e'.symm
        · have := a1 y e'; have := b1 x e; omega
    subst hxy
    congr 1
    refine asc_unique l l' a2 b2 fun u => ⟨fun hu => ?_, fun hu => ?_⟩
    · rcases List.mem_cons.1 ((hm u).1 (List.mem_cons_of_mem _ hu)) with rfl | e
      · have := a1 u hu; omega
      · exact e
    · rcases List.mem_cons.1 ((hm u).2 (List.mem_cons_of_mem _ hu)) with rfl | e
      · have := b1 u hu; omega
      · exact e
/-! A transfer. -/
def mvP (f t p : Int) (x : Sh) : Sh := (x.1, if x.1 = f then x.2 - p else if x.1 = t then x.2 + p else x.2)
def rowL (z : Nat → Nat → Int) (n : Nat) : List Sh := (List.range n).map fun i => (z i 0, z i 1)
theorem rowL_succ (z : Nat → Nat → Int) (n : Nat) : rowL z (n + 1) = rowL z n ++ [(z n 0, z n 1)] := by unfold rowL; rw [List.range_succ, List.map_append]; rfl
theorem rowL_length (z : Nat → Nat → Int) (n : Nat) : (rowL z n).length = n := by simp [rowL]
/-- What the first k rows leave; the whole. -/
def kpL (z : Nat → Nat → Int) (f t p : Int) (k : Nat) : List Sh := ((rowL z k).map (mvP f t p)).filter fun x => decide (0 < x.2)
def mvL (z : Nat → Nat → Int) (f t p : Int) (n : Nat) : List Sh := kpL z f t p n ++ if fnd z t n < 0 then [(t, p)] else []
theorem kpL_yes {z : Nat → Nat → Int} {f t p : Int} {k : Nat} (h : 0 < (mvP f t p (z k 0, z k 1)).2) : kpL z f t p (k + 1) = kpL z f t p k ++ [mvP f t p (z k 0, z k 1)] := by
  unfold kpL; rw [rowL_succ, List.map_append, List.filter_append]
  show _ ++ List.filter _ [mvP f t p (z k 0, z k 1)] = _
  rw [List.filter_cons, if_pos (decide_eq_true h)]; rfl
theorem kpL_no {z : Nat → Nat → Int} {f t p : Int} {k : Nat} (h : ¬ 0 < (mvP f t p (z k 0, z k 1)).2) : kpL z f t p (k + 1) = kpL z f t p k := by
  unfold kpL; rw [rowL_succ, List.map_append, List.filter_append]
  show _ ++ List.filter _ [mvP f t p (z k 0, z k 1)] = _
  rw [List.filter_cons, if_neg (by simpa using h)]; simp
theorem kpL_length (z : Nat → Nat → Int) (f t p : Int) (k : Nat) : (kpL z f t p k).length ≤ k := by
  unfold kpL; refine Nat.le_trans (List.length_filter_le _ _) ?_; rw [List.length_map, rowL_length]; exact Nat.le_refl _
/-- A transfer that is accepted. -/
structure TOk (z : Nat → Nat → Int) (n : Nat) (f t p : Int) (i : Nat) : Prop where
  v : Vld z n
  i1 : i < n
  zi : z i 0 = f
  t1 : 1 ≤ t
  tf : t ≠ f
  p1 : 1 ≤ p
  p2 : p ≤ z i 1
  ov : ∀ j, j < n → z j 0 = t → z j 1 + p ≤ 1000000
  lm : fnd z t n < 0 → p < z i 1 → n ≠ 64
def trE2 (z : Nat → Nat → Int) (n : Nat) (f t p : Int) : Int :=
  if fnd z f n < 0 then 5 else if t < 1 ∨ t = f ∨ p < 1 ∨ z (fnd z f n).toNat 1 < p then 2
  else if 0 ≤ fnd z t n ∧ 1000000 < z (fnd z t n).toNat 1 + p then 9 else if fnd z t n < 0 ∧ p < z (fnd z f n).toNat 1 ∧ n = 64 then 3 else 0
def trE (z : Nat → Nat → Int) (n : Nat) (f t p : Int) : Int := if ckS z n ≠ 0 then ckS z n else trE2 z n f t p
theorem tr_ok {z : Nat → Nat → Int} {n : Nat} {f t p : Int} (h : trE z n f t p = 0) : TOk z n f t p (fnd z f n).toNat := by
  unfold trE at h
  by_cases c : ckS z n = 0
  · rw [if_neg (by omega)] at h
    have hv := ck_vld c
    unfold trE2 at h
    by_cases c1 : fnd z f n < 0
    · rw [if_pos c1] at h; omega
    · rw [if_neg c1] at h
      by_cases c2 : t < 1 ∨ t = f ∨ p < 1 ∨ z (fnd z f n).toNat 1 < p
      · rw [if_pos c2] at h; omega
      · rw [if_neg c2] at h
        by_cases c3 : 0 ≤ fnd z t n ∧ 1000000 < z (fnd z t n).toNat 1 + p
        · rw [if_pos c3] at h; omega
        · rw [if_neg c3] at h
          by_cases c4 : fnd z t n < 0 ∧ p < z (fnd z f n).toNat 1 ∧ n = 64
          · rw [if_pos c4] at h; omega
          · rcases fnd_spec z f n with ⟨e, _⟩ | ⟨i, e, hi, hz, _⟩
            · omega
            · have ei : (fnd z f n).toNat = i := by omega
              rw [ei] at c2 c4 ⊢
              refine ⟨hv, hi, hz, by omega, by omega, by omega, by omega, fun j hj hzj => ?_, fun h1 h2 h3 => c4 ⟨h1, h2, h3⟩⟩
              have ej : fnd z t n = j := by
                rcases fnd_spec z t n with ⟨_, ha⟩ | ⟨k, e, hk, hzk, _⟩
                · exact absurd hzj (ha j hj)
                · rw [e, hv.inj hj hk (hzj.trans hzk.symm)]
              rw [ej, Int.toNat_natCast] at c3
              omega
  · rw [if_pos c] at h; exact absurd h c
end Go.Lott.Syn
