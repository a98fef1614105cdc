/- Plain facts on transfers: what they keep, what a transfer back gives. No program stands in this text. -/
import Derived.Test.YtkpmbkkhdhjbnaaSya
namespace Go.Lott.Syn
theorem rowL_mem {z : Nat → Nat → Int} {n : Nat} {x : Sh} : x ∈ rowL z n ↔ ∃ i, i < n ∧ x = (z i 0, z i 1) := by
  unfold rowL; rw [List.mem_map]
  exact ⟨fun ⟨i, hi, e⟩ => ⟨i, List.mem_range.1 hi, e.symm⟩, fun ⟨i, hi, e⟩ => ⟨i, List.mem_range.2 hi, e.symm⟩⟩
theorem rowL_fst (z : Nat → Nat → Int) (n : Nat) : (rowL z n).map Prod.fst = (List.range n).map fun i => z i 0 := by
  unfold rowL; rw [List.map_map]; rfl
theorem Vld.nodup {z : Nat → Nat → Int} {n : Nat} (h : Vld z n) : ((rowL z n).map Prod.fst).Nodup := by
  rw [rowL_fst]
  refine List.pairwise_map.2 ?_
  have : (List.range n).Pairwise (· < ·) := List.pairwise_lt_range
  refine List.Pairwise.imp_of_mem ?_ this
  intro a b ha hb hab
  exact h.dif a b hab (List.mem_range.1 hb)
theorem kpL_mem {z : Nat → Nat → Int} {f t p : Int} {n : Nat} {x : Sh} : x ∈ kpL z f t p n ↔ ∃ i, i < n ∧ x = mvP f t p (z i 0, z i 1) ∧ 0 < x.2 := by
  unfold kpL; rw [List.mem_filter, List.mem_map]
  constructor
  · rintro ⟨⟨y, hy, rfl⟩, h⟩
    obtain ⟨i, hi, rfl⟩ := rowL_mem.1 hy
    exact ⟨i, hi, rfl, of_decide_eq_true h⟩
  · rintro ⟨i, hi, rfl, h⟩
    exact ⟨⟨_, rowL_mem.2 ⟨i, hi, rfl⟩, rfl⟩, decide_eq_true h⟩
theorem kpL_fst (z : Nat → Nat → Int) (f t p : Int) (n : Nat) : ((kpL z f t p n).map Prod.fst).Sublist ((rowL z n).map Prod.fst) := by
  have e : ((rowL z n).map (mvP f t p)).map Prod.fst = (rowL z n).map Prod.fst := by rw [List.map_map]; rfl
  rw [← e]; exact (List.filter_sublist).map _
theorem mvL_mem {z : Nat → Nat → Int} {f t p : Int} {n : Nat} {x : Sh} : x ∈ mvL z f t p n ↔ (∃ i, i < n ∧ x = mvP f t p (z i 0, z i 1) ∧ 0 < x.2) ∨ (fnd z t n < 0 ∧ x = (t, p)) := by
  unfold mvL; rw [List.mem_append, kpL_mem]
  refine or_congr_right ?_
  by_cases c : fnd z t n < 0
  · rw [if_pos c, List.mem_singleton]; exact ⟨fun h => ⟨c, h⟩, fun h => h.2⟩
  · rw [if_neg c]; exact ⟨(fun h => by cases h), fun h => absurd h.1 c⟩
theorem fnd_neg {z : Nat → Nat → Int} {m : Int} {n : Nat} (h : fnd z m n < 0) : ∀ i, i < n → z i 0 ≠ m := by
  rcases fnd_spec z m n with ⟨_, ha⟩ | ⟨i, e, _⟩
  · exact ha
  · omega
theorem fnd_pos {z : Nat → Nat → Int} {m : Int} {n : Nat} (h : ¬ fnd z m n < 0) : ∃ i : Nat, fnd z m n = i ∧ i < n ∧ z i 0 = m := by
  rcases fnd_spec z m n with ⟨e, _⟩ | ⟨i, e, hi, hz, _⟩
  · omega
  · exact ⟨i, e, hi, hz⟩
section
variable {z : Nat → Nat → Int} {n i : Nat} {f t p : Int}
theorem TOk.nodup (h : TOk z n f t p i) : ((mvL z f t p n).map Prod.fst).Nodup := by
  have hk := (kpL_fst z f t p n).nodup h.v.nodup
  unfold mvL
  by_cases c : fnd z t n < 0
  · rw [if_pos c, List.map_append, List.nodup_append]
    refine ⟨hk, by simp, ?_⟩
    intro a ha b hb
    obtain ⟨x, hx, rfl⟩ := List.mem_map.1 ha
    obtain ⟨j, hj, rfl, _⟩ := kpL_mem.1 hx
    simp only [List.map_cons, List.map_nil, List.mem_singleton] at hb
    subst hb
    exact fnd_neg c j hj
  · rw [if_neg c, List.append_nil]; exact hk
/-- What a transfer gives. -/
def trS (z : Nat → Nat → Int) (f t p : Int) (n : Nat) : List Sh := srt (mvL z f t p n)
theorem TOk.asc (h : TOk z n f t p i) : Asc (trS z f t p n) := srt_asc h.nodup
theorem TOk.perm (h : TOk z n f t p i) : (trS z f t p n).Perm (mvL z f t p n) := srt_perm h.nodup
theorem mvP_f {x : Sh} (h : x.1 = f) : mvP f t p x = (f, x.2 - p) := by unfold mvP; rw [if_pos h, h]
theorem mvP_t {x : Sh} (h : x.1 = t) (hf : t ≠ f) : mvP f t p x = (t, x.2 + p) := by unfold mvP; rw [if_neg (by rw [h]; exact hf), if_pos h, h]
theorem mvP_o {x : Sh} (h : x.1 ≠ t) (hf : x.1 ≠ f) : mvP f t p x = x := by unfold mvP; rw [if_neg hf, if_neg h]
/-- Each share of the result: valid, and what it was and what was moved. -/
theorem TOk.share (h : TOk z n f t p i) {x : Sh} (hx : x ∈ trS z f t p n) : (1 ≤ x.1 ∧ 1 ≤ x.2 ∧ x.2 ≤ 1000000) ∧
    x.2 = (if 0 ≤ fnd z x.1 n then z (fnd z x.1 n).toNat 1 else 0) + (if x.1 = f then -p else if x.1 = t then p else 0) := by
  have ht1 := h.t1; have hp1 := h.p1; have hp2 := h.p2; have htf := h.tf
  rcases mvL_mem.1 (h.perm.mem_iff.1 hx) with ⟨j, hj, rfl, hpos⟩ | ⟨hn, rfl⟩
  · have hr := h.v.rng j hj
    have ef : fnd z (z j 0) n = j := fnd_at hj rfl (fun k hk => h.v.dif k j hk hj)
    have e1 : (mvP f t p (z j 0, z j 1)).1 = z j 0 := rfl
    rw [e1, ef, if_pos (by omega), Int.toNat_natCast]
    by_cases c : z j 0 = f
    · rw [mvP_f (x := (z j 0, z j 1)) c] at hpos ⊢
      rw [if_pos c]
      have hpos : 0 < z j 1 - p := hpos
      exact ⟨⟨hr.1, by show 1 ≤ z j 1 - p; omega, by show z j 1 - p ≤ _; omega⟩, by show z j 1 - p = _; omega⟩
    · rw [if_neg c]
      by_cases c2 : z j 0 = t
      · rw [mvP_t (x := (z j 0, z j 1)) c2 htf, if_pos c2]
        have := h.ov j hj c2
        exact ⟨⟨hr.1, by show 1 ≤ z j 1 + p; omega, by show z j 1 + p ≤ _; omega⟩, rfl⟩
      · rw [mvP_o (x := (z j 0, z j 1)) c2 c, if_neg c2]
        exact ⟨⟨hr.1, hr.2.1, hr.2.2⟩, by show z j 1 = _; omega⟩
  · have hri := h.v.rng i h.i1
    show (1 ≤ t ∧ 1 ≤ p ∧ p ≤ 1000000) ∧ p = (if 0 ≤ fnd z t n then _ else 0) + (if t = f then _ else if t = t then p else 0)
    rw [if_neg (by omega), if_neg htf, if_pos rfl]
    exact ⟨⟨ht1, hp1, by omega⟩, by omega⟩
/-- Sums of parts. -/
def sumL (l : List Sh) : Int := (l.map Prod.snd).foldr (· + ·) 0
theorem sumL_cons (x : Sh) (l : List Sh) : sumL (x :: l) = x.2 + sumL l := rfl
theorem sumL_append : ∀ (l l' : List Sh), sumL (l ++ l') = sumL l + sumL l'
  | [], l' => by show sumL l' = 0 + sumL l'; omega
  | x :: l, l' => by rw [List.cons_append, sumL_cons, sumL_cons, sumL_append l l']; omega
theorem sumL_perm {l l' : List Sh} (h : l.Perm l') : sumL l = sumL l' := by
  induction h with
  | nil => rfl
  | cons x _ ih => rw [sumL_cons, sumL_cons, ih]
  | swap x y l => rw [sumL_cons, sumL_cons, sumL_cons, sumL_cons]; omega
  | trans _ _ i1 i2 => exact i1.trans i2
theorem kpL_sum (h : TOk z n f t p i) : ∀ k, k ≤ n → sumL (kpL z f t p k) = sumL (rowL z k) + (if i < k then -p else 0) + (if 0 ≤ fnd z t k then p else 0)
  | 0, _ => rfl
  | k + 1, hk => by
    have hp1 := h.p1; have hp2 := h.p2; have hi := h.i1
    have ih := kpL_sum h k (by omega)
    have hr := h.v.rng k (by omega)
    have es : sumL (rowL z (k + 1)) = sumL (rowL z k) + z k 1 := by rw [rowL_succ, sumL_append]; show _ + (z k 1 + 0) = _; omega
    have key : sumL (kpL z f t p (k + 1)) = sumL (kpL z f t p k) + (mvP f t p (z k 0, z k 1)).2 := by
      by_cases c : 0 < (mvP f t p (z k 0, z k 1)).2
      · rw [kpL_yes c, sumL_append]; show _ + (_ + 0) = _; omega
      · rw [kpL_no c]
        have : 0 ≤ (mvP f t p (z k 0, z k 1)).2 := by
          by_cases c2 : z k 0 = f
          · have := h.v.inj (j := k) (k := i) (by omega) hi (c2.trans h.zi.symm)
            subst this
            rw [mvP_f (x := (z k 0, z k 1)) c2]; show 0 ≤ z k 1 - p; omega
          · by_cases c3 : z k 0 = t
            · rw [mvP_t (x := (z k 0, z k 1)) c3 h.tf]; show 0 ≤ z k 1 + p; omega
            · rw [mvP_o (x := (z k 0, z k 1)) c3 c2]; show 0 ≤ z k 1; omega
        omega
    rw [key, ih, es]
    have ft : fnd z t (k + 1) = if 0 ≤ fnd z t k then fnd z t k else if z k 0 = t then (k : Int) else -1 := rfl
    by_cases c2 : z k 0 = f
    · have := h.v.inj (j := k) (k := i) (by omega) hi (c2.trans h.zi.symm)
      subst this
      rw [mvP_f (x := (z k 0, z k 1)) c2, if_neg (show ¬ k < k by omega), if_pos (show k < k + 1 by omega)]
      have e : (0 ≤ fnd z t (k + 1)) ↔ 0 ≤ fnd z t k := by
        rw [ft]
        by_cases c4 : 0 ≤ fnd z t k
        · rw [if_pos c4]
        · rw [if_neg c4, if_neg (by rw [c2]; exact fun e => h.tf e.symm)]; omega
      simp only [e]; show _ + (z k 1 - p) = _; omega
    · have hik : k ≠ i := fun e => c2 (by rw [e]; exact h.zi)
      have e1 : (i < k + 1) ↔ i < k := by omega
      simp only [e1]
      by_cases c3 : z k 0 = t
      · have e0 : fnd z t k = -1 := fnd_no fun j hj => by rw [← c3]; exact h.v.dif j k hj (by omega)
        have e1 : fnd z t (k + 1) = k := by rw [ft, if_neg (by omega), if_pos c3]
        rw [mvP_t (x := (z k 0, z k 1)) c3 h.tf, e1, e0, if_neg (by omega : ¬ (0 : Int) ≤ -1), if_pos (by omega : (0 : Int) ≤ (k : Int))]
        show _ + (z k 1 + p) = _; omega
      · have e : (0 ≤ fnd z t (k + 1)) ↔ 0 ≤ fnd z t k := by
          rw [ft]
          by_cases c4 : 0 ≤ fnd z t k
          · rw [if_pos c4]
          · rw [if_neg c4, if_neg c3]; omega
        rw [mvP_o (x := (z k 0, z k 1)) c3 c2]; simp only [e]; show _ + z k 1 = _; omega
theorem TOk.sum (h : TOk z n f t p i) : sumL (trS z f t p n) = sumL (rowL z n) := by
  rw [sumL_perm h.perm]
  unfold mvL
  rw [sumL_append, kpL_sum h n (Nat.le_refl _), if_pos h.i1]
  by_cases c : fnd z t n < 0
  · rw [if_pos c, if_neg (by omega)]; show _ + (p + 0) = _; omega
  · rw [if_neg c, if_pos (by omega)]; show _ + 0 = _; omega
end
end Go.Lott.Syn
