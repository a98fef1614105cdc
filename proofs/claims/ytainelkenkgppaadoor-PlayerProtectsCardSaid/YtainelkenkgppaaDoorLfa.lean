/- Plain facts on what is left: the greatest amount; turned lists give the same. -/
import Derived.Test.YtainelkenkgppaaDoorLimb
import Derived.Test.YtainelkenkgppaaDoorLmh
namespace Go.Lott.Lm
open Go.Sort Go.Lott.Stb
/-! The limits that hold are amounts. -/
def Bd (s : St) : Prop := (0 ≤ s.lim ∧ s.lim ≤ 1000000000000) ∧ (0 ≤ s.pend ∧ s.pend ≤ 1000000000000)
theorem settle_bd {s : St} {t : Int} (h : Bd s) : Bd (settle s t) := by
  unfold settle
  split
  · exact ⟨h.2, h.2⟩
  · exact h
theorem stepE_bd {s : St} {a n : Int} (h : Bd s) (hn : 0 ≤ n ∧ n ≤ 1000000000000) : Bd (stepE s a n) := by
  have hs := settle_bd (t := a) h
  unfold stepE
  split
  · exact ⟨hn, hs.2⟩
  · split
    · exact ⟨hs.1, hn⟩
    · exact hs
theorem foldE_bd' (k : Nat) : ∀ (l : List Cg) (s : St), Bd s → (∀ c ∈ l, 0 ≤ kd c k ∧ kd c k ≤ 1000000000000) → Bd (l.foldl (fun s c => stepE s c.1 (kd c k)) s)
  | [], _, h, _ => h
  | c :: l, _, h, hl => foldE_bd' k l _ (stepE_bd h (hl c (List.mem_cons_self ..))) (fun d hd => hl d (List.mem_cons_of_mem _ hd))
theorem kd_valid {t : Int} {c : Cg} {k : Nat} (h : vC t c = true) : 0 ≤ kd c k ∧ kd c k ≤ 1000000000000 := by
  unfold vC at h
  have := of_decide_eq_true h
  unfold kd
  split
  · omega
  · split <;> omega
theorem effE_bd {z : Nat → Nat → Int} {t : Int} {n k : Nat} : 0 ≤ effE (stS (vlL z t n)) k t ∧ effE (stS (vlL z t n)) k t ≤ 1000000000000 := by
  have h : Bd (foldE (stS (vlL z t n)) k) := foldE_bd' k _ _ ⟨⟨by decide, by decide⟩, ⟨by decide, by decide⟩⟩ (fun c hc => kd_valid (vlL_valid ((stS_perm _).mem_iff.1 hc)))
  exact (settle_bd (t := t) h).1
def efN (z : Nat → Nat → Int) (n : Nat) (t : Int) (k : Nat) : Int := if tm t = true then effE (stS (vlL z t n)) k t else 0
theorem efN_bd (z : Nat → Nat → Int) (n : Nat) (t : Int) (k : Nat) : 0 ≤ efN z n t k ∧ efN z n t k ≤ 1000000000000 := by
  unfold efN
  split
  · exact effE_bd
  · exact ⟨by decide, by decide⟩
theorem EV_efN (z : Nat → Nat → Int) (n : Nat) (t : Int) : EV z n t = .agg #[.int .i64 (efN z n t 0), .int .i64 (efN z n t 1), .int .i64 (efN z n t 2)] := by
  unfold EV efN effV
  split <;> rfl
/-! A list that is turned. -/
def rvz (z : Nat → Nat → Int) (n i j : Nat) : Int := z (n - 1 - i) j
theorem map_rev {α : Type} (g : Nat → α) (n : Nat) : (List.range n).map (fun i => g (n - 1 - i)) = ((List.range n).map g).reverse := by
  refine List.ext_getElem (by simp) fun i h1 h2 => ?_
  simp at h1
  simp [List.getElem_reverse]
theorem row4_rev (z : Nat → Nat → Int) (n : Nat) : row4 (rvz z n) n = (row4 z n).reverse := by
  unfold row4
  rw [← map_rev (rw4 z)]
  rfl
theorem stS_rows_rev {z : Nat → Nat → Int} {n : Nat} {t : Int} (hd : ∀ i k, k < i → i < n → z k 0 ≠ z i 0) : stS (vlL (rvz z n) t n) = stS (vlL z t n) := by
  refine stS_rev ?_ ?_
  · unfold vlL
    rw [row4_rev, List.filter_reverse]
    exact List.reverse_perm _
  · unfold vlL
    rw [row4_rev, List.filter_reverse, List.map_reverse]
    refine (List.reverse_perm _).nodup_iff.2 ?_
    refine List.Nodup.sublist (List.Sublist.map _ List.filter_sublist) ?_
    unfold row4
    rw [List.map_map]
    rw [List.nodup_iff_pairwise_ne, List.pairwise_map]
    refine List.pairwise_iff_getElem.2 fun i j hi hj hij => ?_
    simp at hi hj
    simp only [List.getElem_range]
    exact hd j i hij hj
theorem efN_rev {z : Nat → Nat → Int} {n : Nat} {t : Int} {k : Nat} (hd : ∀ i k, k < i → i < n → z k 0 ≠ z i 0) : efN (rvz z n) n t k = efN z n t k := by
  unfold efN; rw [stS_rows_rev hd]
end Go.Lott.Lm
namespace Go.Proofs.YtainelkenkgppaaDoor
open Go.ChangeShapes Go.WideShapes Go.ChangeAt Go.RowKit Go.Lott
open Go.Sort Go.Lott.Stb Go.Lott.Srt Go.Lott.Lm
theorem tm_isT (t : Int) : tm t = isT t := rfl
theorem sm_sum (z : Nat → Nat → Int) (f t : Int) : ∀ k : Nat, sm z f t k = ((List.range k).map fun i => if cnt f t (z i 0) (z i 1) then z i 1 else 0).sum
  | 0 => rfl
  | k + 1 => by rw [List.range_succ, List.map_append, List.sum_append, ← sm_sum z f t k]; simp [sm]
theorem sum_rev : ∀ l : List Int, l.reverse.sum = l.sum
  | [] => rfl
  | x :: l => by rw [List.reverse_cons, List.sum_append, sum_rev l, List.sum_cons]; simp; omega
theorem sm_rev (z : Nat → Nat → Int) (f t : Int) (n : Nat) : sm (rvz z n) f t n = sm z f t n := by
  rw [sm_sum, sm_sum, ← sum_rev ((List.range n).map fun i => if cnt f t (z i 0) (z i 1) then z i 1 else 0), ← map_rev]
  rfl
theorem spN_rev (z : Nat → Nat → Int) (n : Nat) (t kind : Int) : spN (rvz z n) n t kind = spN z n t kind := by
  unfold spN; rw [sm_rev]
theorem clamp_bd (n : Int) : 0 ≤ clamp n ∧ clamp n ≤ 1000000000000 := by
  unfold clamp
  split
  · omega
  · split <;> omega
theorem spN_bd (z : Nat → Nat → Int) (n : Nat) (t kind : Int) : 0 ≤ spN z n t kind ∧ spN z n t kind ≤ 1000000000000 := by
  unfold spN
  split
  · exact clamp_bd _
  · omega
/-! What is left. -/
def lf1 (l m s : Int) : Int := if m = 0 then l else if m - s < 0 then 0 else if m - s < l then m - s else l
theorem lf1_bd {l m s : Int} (h : 0 ≤ l ∧ l ≤ 1000000000000) : 0 ≤ lf1 l m s ∧ lf1 l m s ≤ 1000000000000 := by
  unfold lf1
  split
  · exact h
  · split
    · omega
    · split <;> omega
def lf3 (e s : Nat → Int) : Nat → Int
  | 0 => 1000000000000
  | k + 1 => lf1 (lf3 e s k) (e k) (s k)
theorem lf3_bd (e s : Nat → Int) : ∀ k, 0 ≤ lf3 e s k ∧ lf3 e s k ≤ 1000000000000
  | 0 => by show (0 : Int) ≤ 1000000000000 ∧ (1000000000000 : Int) ≤ 1000000000000; decide
  | k + 1 => lf1_bd (lf3_bd e s k)
def sp3 (z : Nat → Nat → Int) (n : Nat) (t : Int) (k : Nat) : Int := spN z n t ((k : Int) + 1)
def lfN (z2 : Nat → Nat → Int) (n2 : Nat) (z4 : Nat → Nat → Int) (n4 : Nat) (t : Int) : Int := if isT t then lf3 (efN z4 n4 t) (sp3 z2 n2 t) 3 else 0
theorem lfN_bd (z2 : Nat → Nat → Int) (n2 : Nat) (z4 : Nat → Nat → Int) (n4 : Nat) (t : Int) : 0 ≤ lfN z2 n2 z4 n4 t ∧ lfN z2 n2 z4 n4 t ≤ 1000000000000 := by
  unfold lfN
  split
  · exact lf3_bd _ _ _
  · omega
theorem lfN_rev {z2 : Nat → Nat → Int} {n2 : Nat} {z4 : Nat → Nat → Int} {n4 : Nat} {t : Int} (hd : ∀ i k, k < i → i < n4 → z4 k 0 ≠ z4 i 0) : lfN (rvz z2 n2) n2 (rvz z4 n4) n4 t = lfN z2 n2 z4 n4 t := by
  have h1 : efN (rvz z4 n4) n4 t = efN z4 n4 t := funext fun _ => efN_rev hd
  have h2 : sp3 (rvz z2 n2) n2 t = sp3 z2 n2 t := funext fun _ => spN_rev z2 n2 t _
  unfold lfN
  rw [h1, h2]
def alN (z2 : Nat → Nat → Int) (n2 : Nat) (z4 : Nat → Nat → Int) (n4 : Nat) (t m : Int) : Int :=
  if isT t = true ∧ 0 ≤ m ∧ m ≤ 1000000000000 then (if lfN z2 n2 z4 n4 t < m then 22 else 0) else 2
end Go.Proofs.YtainelkenkgppaaDoor
