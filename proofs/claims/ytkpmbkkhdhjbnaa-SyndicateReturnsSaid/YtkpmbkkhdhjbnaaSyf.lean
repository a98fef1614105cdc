/- Plain facts on transfers: a transfer back. No program stands in this text. -/
import Derived.Test.YtkpmbkkhdhjbnaaSyb
namespace Go.Lott.Syn
/-- The rows of a list. -/
def zL (l : List Sh) (i j : Nat) : Int := if j = 0 then (l.getD i (0, 0)).1 else (l.getD i (0, 0)).2
theorem zL_get {l : List Sh} {i : Nat} (h : i < l.length) : (zL l i 0, zL l i 1) = l[i] := by
  unfold zL; rw [List.getD_eq_getElem?_getD, List.getElem?_eq_getElem h]; rfl
theorem zL_0 {l : List Sh} {i : Nat} (h : i < l.length) : zL l i 0 = l[i].1 := by unfold zL; rw [List.getD_eq_getElem?_getD, List.getElem?_eq_getElem h]; rfl
theorem zL_1 {l : List Sh} {i : Nat} (h : i < l.length) : zL l i 1 = l[i].2 := by unfold zL; rw [List.getD_eq_getElem?_getD, List.getElem?_eq_getElem h]; rfl
theorem rowL_zL (l : List Sh) : rowL (zL l) l.length = l := by
  refine List.ext_getElem (by rw [rowL_length]) fun i h1 h2 => ?_
  simp only [rowL, List.getElem_map, List.getElem_range]; exact zL_get h2
theorem sumL_take (z : Nat → Nat → Int) (k : Nat) : sumL (rowL z (k + 1)) = sumL (rowL z k) + z k 1 := by rw [rowL_succ, sumL_append]; show _ + (z k 1 + 0) = _; omega
section
variable {z : Nat → Nat → Int} {n i : Nat} {f t p : Int}
theorem kpL_len (h : TOk z n f t p i) : ∀ k, k ≤ n → (kpL z f t p k).length + (if i < k ∧ p = z i 1 then 1 else 0) ≤ k
  | 0, _ => by rw [if_neg (by omega)]; exact Nat.le_refl _
  | k + 1, hk => by
    have ih := kpL_len h k (by omega)
    by_cases c : 0 < (mvP f t p (z k 0, z k 1)).2
    · rw [kpL_yes c, List.length_append]
      have e : (i < k + 1 ∧ p = z i 1) ↔ (i < k ∧ p = z i 1) := by
        refine ⟨fun ⟨h1, h2⟩ => ⟨?_, h2⟩, fun ⟨h1, h2⟩ => ⟨by omega, h2⟩⟩
        rcases Nat.lt_or_ge i k with c2 | c2
        · exact c2
        · obtain rfl : i = k := by omega
          rw [mvP_f (x := (z i 0, z i 1)) h.zi] at c
          have c : 0 < z i 1 - p := c
          omega
      simp only [e, List.length_singleton]; omega
    · rw [kpL_no c]
      by_cases c2 : i < k ∧ p = z i 1
      · rw [if_pos c2] at ih; split <;> omega
      · rw [if_neg c2] at ih; split <;> omega
theorem TOk.len (h : TOk z n f t p i) : (trS z f t p n).length ≤ 64 := by
  rw [h.perm.length_eq]
  have hn2 := h.v.n2; have hp2 := h.p2; have hi := h.i1
  have hk := kpL_len h n (Nat.le_refl _)
  unfold mvL
  rw [List.length_append]
  by_cases c : fnd z t n < 0
  · rw [if_pos c]
    by_cases c2 : p = z i 1
    · rw [if_pos ⟨hi, c2⟩] at hk; simp only [List.length_singleton]; omega
    · have := h.lm c (by omega); simp only [List.length_singleton]; omega
  · rw [if_neg c]; simp only [List.length_nil]; omega
theorem TOk.target (h : TOk z n f t p i) : ∃ q, (t, q) ∈ trS z f t p n ∧ p ≤ q ∧ q = (if 0 ≤ fnd z t n then z (fnd z t n).toNat 1 else 0) + p := by
  by_cases c : fnd z t n < 0
  · exact ⟨p, h.perm.mem_iff.2 (mvL_mem.2 (.inr ⟨c, rfl⟩)), Int.le_refl _, by rw [if_neg (by omega)]; omega⟩
  · obtain ⟨j, e, hj, hz⟩ := fnd_pos c
    have hr := h.v.rng j hj
    have hp := h.p1
    have hm : mvP f t p (z j 0, z j 1) = (t, z j 1 + p) := mvP_t (x := (z j 0, z j 1)) hz h.tf
    refine ⟨z j 1 + p, h.perm.mem_iff.2 (mvL_mem.2 (.inl ⟨j, hj, hm.symm, ?_⟩)), by omega, by rw [e, if_pos (by omega), Int.toNat_natCast]⟩
    show 0 < z j 1 + p; omega
theorem asc_lt {l : List Sh} (h : Asc l) {j k : Nat} (hjk : j < k) (hk : k < l.length) : (l[j]'(by omega)).1 < l[k].1 := List.pairwise_iff_getElem.1 h j k (by omega) hk hjk
theorem TOk.vld (h : TOk z n f t p i) : Vld (zL (trS z f t p n)) (trS z f t p n).length := by
  refine ⟨?_, h.len, fun k hk => ?_, fun j k hj hk => ?_⟩
  · obtain ⟨q, hq, _⟩ := h.target
    exact List.length_pos_of_mem hq
  · rw [zL_0 hk, zL_1 hk]; exact (h.share (List.getElem_mem hk)).1
  · rw [zL_0 (by omega), zL_0 hk]; have := asc_lt h.asc hj hk; omega
theorem mem_get {l : List Sh} {x : Sh} (h : x ∈ l) : ∃ k, ∃ _ : k < l.length, zL l k 0 = x.1 ∧ zL l k 1 = x.2 := by
  obtain ⟨k, hk, rfl⟩ := List.getElem_of_mem h
  exact ⟨k, hk, zL_0 hk, zL_1 hk⟩
/-- What the member had, has in the result. -/
theorem TOk.of_row (h : TOk z n f t p i) {j : Nat} (hj : j < n) (hpos : 0 < (mvP f t p (z j 0, z j 1)).2) : mvP f t p (z j 0, z j 1) ∈ trS z f t p n := h.perm.mem_iff.2 (mvL_mem.2 (.inl ⟨j, hj, rfl, hpos⟩))
theorem TOk.back (h : TOk z n f t p i) : ∃ i', TOk (zL (trS z f t p n)) (trS z f t p n).length t f p i' := by
  obtain ⟨q, hq, hpq, hqe⟩ := h.target
  obtain ⟨k, hk, k0, k1⟩ := mem_get hq
  have k0 : zL (trS z f t p n) k 0 = t := k0
  have k1 : zL (trS z f t p n) k 1 = q := k1
  have hri := h.v.rng i h.i1
  have hzi := h.zi
  have ef : fnd z f n = i := fnd_at h.i1 hzi (fun j hj => by rw [← hzi]; exact h.v.dif j i hj h.i1)
  have htf := h.tf
  refine ⟨k, h.vld, hk, k0, by omega, fun e => htf e.symm, h.p1, by rw [k1]; exact hpq, fun j hj hz => ?_, fun hn hlt => ?_⟩
  · rw [zL_0 hj] at hz
    obtain ⟨_, hs⟩ := h.share (List.getElem_mem hj)
    rw [zL_1 hj, hs, hz, ef, if_pos (by omega), if_pos rfl, Int.toNat_natCast]; omega
  · have hno := fnd_neg hn
    have hp2 := h.p2
    have hpe : p = z i 1 := by
      rcases Int.lt_or_le p (z i 1) with c | c
      · exfalso
        have e : mvP f t p (z i 0, z i 1) = (f, z i 1 - p) := mvP_f (x := (z i 0, z i 1)) hzi
        have hm := h.of_row h.i1 (by rw [e]; show 0 < z i 1 - p; omega)
        rw [e] at hm
        obtain ⟨j, hj, j0, _⟩ := mem_get hm
        exact hno j hj j0
      · omega
    have hl := kpL_len h n (Nat.le_refl _)
    rw [if_pos ⟨h.i1, hpe⟩] at hl
    have hn2 := h.v.n2
    rw [h.perm.length_eq]
    unfold mvL
    rw [List.length_append]
    by_cases c : fnd z t n < 0
    · exfalso; rw [k1, hqe, if_neg (by omega)] at hlt; omega
    · rw [if_neg c]; simp only [List.length_nil]; omega
theorem TOk.returns (h : TOk z n f t p i) : trS (zL (trS z f t p n)) t f p (trS z f t p n).length = srt (rowL z n) := by
  obtain ⟨i', hb⟩ := h.back
  have hM := h.vld
  have hzi := h.zi
  have htf := h.tf
  have hp1 := h.p1
  have hp2 := h.p2
  have ef : fnd z f n = i := fnd_at h.i1 hzi (fun j hj => by rw [← hzi]; exact h.v.dif j i hj h.i1)
  have eMem : ∀ {x : Sh}, x ∈ trS z f t p n → ∃ k, k < (trS z f t p n).length ∧ zL (trS z f t p n) k 0 = x.1 ∧ zL (trS z f t p n) k 1 = x.2 := fun hx => by
    obtain ⟨k, hk, a, b⟩ := mem_get hx; exact ⟨k, hk, a, b⟩
  refine asc_unique _ _ hb.asc (srt_asc h.v.nodup) fun x => ?_
  rw [hb.perm.mem_iff, (srt_perm h.v.nodup).mem_iff, mvL_mem, rowL_mem]
  constructor
  · rintro (⟨k, hk, rfl, hpos⟩ | ⟨hn, rfl⟩)
    · obtain ⟨_, hs⟩ := h.share (List.getElem_mem hk)
      rw [zL_get hk] at hpos ⊢
      generalize (trS z f t p n)[k] = y at hs hpos ⊢
      by_cases c : y.1 = t
      · rw [mvP_f c] at hpos ⊢
        have hpos : 0 < y.2 - p := hpos
        rw [c] at hs
        rw [if_neg (show ¬ t = f from htf), if_pos (show t = t from rfl)] at hs
        by_cases c2 : 0 ≤ fnd z t n
        · obtain ⟨j, e, hj, hz⟩ := fnd_pos (show ¬ fnd z t n < 0 by omega)
          rw [if_pos c2, e, Int.toNat_natCast] at hs
          exact ⟨j, hj, by rw [hz]; congr 1; omega⟩
        · rw [if_neg c2] at hs; omega
      · by_cases c3 : y.1 = f
        · rw [mvP_t c3 (fun e => htf e.symm)]
          rw [c3] at hs
          rw [if_pos (show f = f from rfl), ef, if_pos (by omega), Int.toNat_natCast] at hs
          exact ⟨i, h.i1, by rw [hzi]; congr 1; omega⟩
        · rw [mvP_o c3 c] at hpos ⊢
          rw [if_neg (show ¬ y.1 = f from c3), if_neg (show ¬ y.1 = t from c)] at hs
          by_cases c2 : 0 ≤ fnd z y.1 n
          · obtain ⟨j, e, hj, hz⟩ := fnd_pos (show ¬ fnd z y.1 n < 0 by omega)
            rw [if_pos c2, e, Int.toNat_natCast] at hs
            exact ⟨j, hj, by rw [hz]; refine Prod.ext rfl ?_; show y.2 = z j 1; omega⟩
          · rw [if_neg c2] at hs; omega
    · have hno := fnd_neg hn
      refine ⟨i, h.i1, ?_⟩
      rcases Int.lt_or_le p (z i 1) with c | c
      · exfalso
        have e : mvP f t p (z i 0, z i 1) = (f, z i 1 - p) := mvP_f (x := (z i 0, z i 1)) hzi
        have hm := h.of_row h.i1 (by rw [e]; show 0 < z i 1 - p; omega)
        rw [e] at hm
        obtain ⟨j, hj, j0, _⟩ := eMem hm
        exact hno j hj j0
      · rw [hzi]; congr 1; omega
  · rintro ⟨j, hj, rfl⟩
    have hr := h.v.rng j hj
    by_cases c : z j 0 = f
    · obtain rfl : j = i := h.v.inj hj h.i1 (c.trans hzi.symm)
      have e : mvP f t p (z j 0, z j 1) = (f, z j 1 - p) := mvP_f (x := (z j 0, z j 1)) c
      rcases Int.lt_or_le p (z j 1) with c2 | c2
      · have hm := h.of_row hj (by rw [e]; show 0 < z j 1 - p; omega)
        rw [e] at hm
        obtain ⟨k, hk, k0, k1⟩ := eMem hm
        refine .inl ⟨k, hk, ?_, by show 0 < z j 1; omega⟩
        rw [mvP_t (x := (zL _ k 0, zL _ k 1)) k0 (fun e => htf e.symm), c]
        show (f, z j 1) = (f, zL _ k 1 + p)
        rw [k1]; show (f, z j 1) = (f, z j 1 - p + p); congr 1; omega
      · refine .inr ⟨?_, by rw [c]; congr 1; omega⟩
        rw [fnd_no fun k hk hz => ?_]
        · omega
        · have hx := List.getElem_mem hk
          obtain ⟨⟨_, h1, _⟩, hs⟩ := h.share hx
          rw [zL_0 hk] at hz
          rw [hz, ef, if_pos (by omega), if_pos rfl, Int.toNat_natCast] at hs
          omega
    · by_cases c3 : z j 0 = t
      · have e : mvP f t p (z j 0, z j 1) = (t, z j 1 + p) := mvP_t (x := (z j 0, z j 1)) c3 htf
        have hm := h.of_row hj (by rw [e]; show 0 < z j 1 + p; omega)
        rw [e] at hm
        obtain ⟨k, hk, k0, k1⟩ := eMem hm
        refine .inl ⟨k, hk, ?_, by show 0 < z j 1; omega⟩
        rw [mvP_f (x := (zL _ k 0, zL _ k 1)) k0, c3]
        show (t, z j 1) = (t, zL _ k 1 - p)
        rw [k1]; show (t, z j 1) = (t, z j 1 + p - p); congr 1; omega
      · have e : mvP f t p (z j 0, z j 1) = (z j 0, z j 1) := mvP_o (x := (z j 0, z j 1)) c3 c
        have hm := h.of_row hj (by rw [e]; show 0 < z j 1; omega)
        rw [e] at hm
        obtain ⟨k, hk, k0, k1⟩ := eMem hm
        have k0 : zL (trS z f t p n) k 0 = z j 0 := k0
        have k1 : zL (trS z f t p n) k 1 = z j 1 := k1
        refine .inl ⟨k, hk, ?_, by show 0 < z j 1; omega⟩
        rw [k0, k1, mvP_o (x := (z j 0, z j 1)) c c3]
end
end Go.Lott.Syn
