/- Plain facts on changes of limits: the valid ones, their stable order by times, the limits that hold. No program stands in this text. -/
import Derived.Test.YtainelkenkgppaaDoorStb
namespace Go.Lott.Lm
open Go.Sort Go.Lott.Stb
abbrev Cg := Int × Int × Int × Int
def ltC (x y : Cg) : Bool := decide (x.1 < y.1)
theorem swoC : SWO ltC where
  irrefl x := by simp [ltC]
  trans x y z h1 h2 := by simp [ltC] at *; omega
  ntrans x y z h1 h2 := by simp [ltC] at *; omega
def insS (x : Cg) : List Cg → List Cg
  | [] => [x]
  | y :: l => if x.1 < y.1 then x :: y :: l else y :: insS x l
def stS (l : List Cg) : List Cg := l.foldl (fun o x => insS x o) []
theorem stS_snoc (l : List Cg) (x : Cg) : stS (l ++ [x]) = insS x (stS l) := by unfold stS; rw [List.foldl_append]; rfl
def Up (l : List Cg) : Prop := l.Pairwise fun x y => ltC y x = false
theorem ltC_iff {x y : Cg} : ltC x y = false ↔ y.1 ≤ x.1 := by simp [ltC]
theorem insS_perm (x : Cg) : ∀ l, (insS x l).Perm (x :: l)
  | [] => .refl _
  | y :: l => by
    unfold insS
    split
    · exact .refl _
    · exact ((insS_perm x l).cons y).trans (.swap x y l)
theorem insS_up {x : Cg} : ∀ {l : List Cg}, Up l → Up (insS x l)
  | [], _ => List.pairwise_singleton _ _
  | y :: l, h => by
    unfold insS
    obtain ⟨h1, h2⟩ := List.pairwise_cons.1 h
    split
    · rename_i hlt
      refine List.pairwise_cons.2 ⟨fun u hu => ?_, h⟩
      rcases List.mem_cons.1 hu with rfl | hu
      · rw [ltC_iff]; omega
      · have := ltC_iff.1 (h1 u hu); rw [ltC_iff]; omega
    · rename_i hlt
      refine List.pairwise_cons.2 ⟨fun u hu => ?_, insS_up h2⟩
      rcases List.mem_cons.1 ((insS_perm x l).mem_iff.1 hu) with rfl | hu
      · rw [ltC_iff]; omega
      · exact h1 u hu
theorem eqv_iff {z x : Cg} : eqv ltC z x = true ↔ z.1 = x.1 := by
  unfold eqv ltC; simp; omega
theorem insS_filter {x : Cg} (z : Cg) : ∀ {l : List Cg}, Up l → (insS x l).filter (eqv ltC z) = (l ++ [x]).filter (eqv ltC z)
  | [], _ => rfl
  | y :: l, h => by
    obtain ⟨h1, h2⟩ := List.pairwise_cons.1 h
    unfold insS
    split
    · rename_i hlt
      by_cases c : eqv ltC z x = true
      · have hn : (y :: l).filter (eqv ltC z) = [] := by
          rw [List.filter_eq_nil_iff]
          intro u hu
          have e := eqv_iff.1 c
          rcases List.mem_cons.1 hu with rfl | hu
          · intro d; have := eqv_iff.1 d; omega
          · intro d; have := eqv_iff.1 d; have := ltC_iff.1 (h1 u hu); omega
        rw [List.filter_append, hn, List.filter_cons, if_pos c, hn, List.filter_cons, if_pos c]; rfl
      · rw [List.filter_append, List.filter_cons, if_neg c, List.filter_cons (x := x) (xs := []), if_neg c]; simp
    · have ih := insS_filter (x := x) z h2
      rw [List.cons_append, List.filter_cons, List.filter_cons, ih]
theorem stS_from (l : List Cg) : ∀ o, Up o → Up (l.foldl (fun o x => insS x o) o) ∧ (∀ z, (l.foldl (fun o x => insS x o) o).filter (eqv ltC z) = (o ++ l).filter (eqv ltC z)) ∧ (l.foldl (fun o x => insS x o) o).Perm (o ++ l) := by
  induction l with
  | nil => intro o h; rw [List.append_nil]; exact ⟨h, fun _ => rfl, .refl _⟩
  | cons x l ih =>
    intro o h
    obtain ⟨i1, i2, i3⟩ := ih (insS x o) (insS_up h)
    refine ⟨i1, fun z => ?_, i3.trans ?_⟩
    · show (l.foldl _ (insS x o)).filter _ = _
      rw [i2 z, List.filter_append, insS_filter z h, ← List.filter_append, List.append_assoc]; rfl
    · exact ((insS_perm x o).append_right l).trans (List.perm_middle.symm)
theorem stS_up (l : List Cg) : Up (stS l) := (stS_from l [] List.Pairwise.nil).1
theorem stS_stab (l : List Cg) : StabL ltC l (stS l) := fun z => by have := (stS_from l [] List.Pairwise.nil).2.1 z; rwa [List.nil_append] at this
theorem stS_perm (l : List Cg) : (stS l).Perm l := by have := (stS_from l [] List.Pairwise.nil).2.2; rwa [List.nil_append] at this
/-- There is one stable order. -/
theorem stS_unique {l l' : List Cg} (h : Up l') (hs : StabL ltC l l') : l' = stS l :=
  stable_unique swoC (stS l) l' (stS_up l) h (fun z => by rw [hs z, stS_stab l z])
/-- A sort of an array, merged: the stable order. -/
theorem seg_all (d : Array Cg) : seg d 0 d.size = d.toList := by
  refine List.ext_getElem (by simp [seg]) fun i h1 h2 => ?_
  have : i < d.size := by simpa using h2
  simp [seg, this]
theorem merged_stS {d d' : Array Cg} (h : Merged ltC 0 d.size d d') : d'.toList = stS d.toList := by
  have hz := h.stab.size
  refine stS_unique ?_ ?_
  · refine List.pairwise_iff_getElem.2 fun i j hi hj hij => ?_
    have hi' : i < d'.size := by simpa using hi
    have hj' : j < d'.size := by simpa using hj
    have := h.sorted i j (Nat.zero_le _) hij (by omega)
    simpa [hi', hj'] using this
  · have := h.stab.cls
    rw [seg_all] at this
    rw [← hz, seg_all] at this
    exact this
/-- With different times, the order of the list does not matter. -/
theorem stS_rev {l l' : List Cg} (hp : l.Perm l') (hd : (l.map Prod.fst).Nodup) : stS l = stS l' := by
  have key : ∀ (a b : List Cg), Up a → Up b → (a.map Prod.fst).Nodup → a.Perm b → a = b := by
    intro a
    induction a with
    | nil => intro b _ _ _ h; exact (List.Perm.nil_eq h)
    | cons x a ih =>
      intro b ha hb hn h
      cases b with
      | nil => exact absurd h.length_eq (by simp)
      | cons y b =>
        obtain ⟨a1, a2⟩ := List.pairwise_cons.1 ha
        obtain ⟨b1, b2⟩ := List.pairwise_cons.1 hb
        rw [List.map_cons, List.nodup_cons] at hn
        have hxy : x = y := by
          rcases List.mem_cons.1 (h.mem_iff.1 (List.mem_cons_self ..)) with e | e
          · exact e
          · rcases List.mem_cons.1 (h.mem_iff.2 (List.mem_cons_self ..)) with e' | e'
            · exact e'.symm
            · have h1 := ltC_iff.1 (a1 y e'); have h2 := ltC_iff.1 (b1 x e)
              exact absurd (show x.1 = y.1 by omega) (fun c => hn.1 (by rw [c]; exact List.mem_map_of_mem e'))
        subst hxy
        rw [ih b a2 b2 hn.2 ((List.perm_cons x).1 h)]
  exact key _ _ (stS_up l) (stS_up l') (((stS_perm l).map Prod.fst).nodup_iff.2 hd) ((stS_perm l).trans (hp.trans (stS_perm l').symm))
/-! The limit of a kind that holds. -/
structure St where
  lim : Int
  pend : Int
  fr : Int
  wt : Bool
def settle (s : St) (t : Int) : St := if s.wt = true ∧ s.fr ≤ t then { s with lim := s.pend, wt := false } else s
def stepE (s : St) (a n : Int) : St :=
  if n ≠ 0 ∧ ((settle s a).lim = 0 ∨ n < (settle s a).lim) then { settle s a with lim := n, wt := false }
  else if n ≠ (settle s a).lim then { settle s a with pend := n, fr := a + 10080, wt := true } else { settle s a with wt := false }
def kd (c : Cg) (k : Nat) : Int := if k = 0 then c.2.1 else if k = 1 then c.2.2.1 else c.2.2.2
def foldE (l : List Cg) (k : Nat) : St := l.foldl (fun s c => stepE s c.1 (kd c k)) ⟨0, 0, 0, false⟩
def effE (l : List Cg) (k : Nat) (t : Int) : Int := (settle (foldE l k) t).lim
theorem foldE_snoc (l : List Cg) (c : Cg) (k : Nat) : foldE (l ++ [c]) k = stepE (foldE l k) c.1 (kd c k) := by unfold foldE; rw [List.foldl_append]; rfl
/-- The valid changes up to a time. -/
def vC (t : Int) (c : Cg) : Bool := decide ((0 ≤ c.1 ∧ c.1 ≤ 1073741824 ∧ c.1 ≤ t) ∧ (0 ≤ c.2.1 ∧ c.2.1 ≤ 1000000000000) ∧ (0 ≤ c.2.2.1 ∧ c.2.2.1 ≤ 1000000000000) ∧ (0 ≤ c.2.2.2 ∧ c.2.2.2 ≤ 1000000000000))
def rw4 (z : Nat → Nat → Int) (i : Nat) : Cg := (z i 0, z i 1, z i 2, z i 3)
def row4 (z : Nat → Nat → Int) (n : Nat) : List Cg := (List.range n).map (rw4 z)
theorem row4_succ (z : Nat → Nat → Int) (n : Nat) : row4 z (n + 1) = row4 z n ++ [rw4 z n] := by unfold row4; rw [List.range_succ, List.map_append]; rfl
theorem row4_length (z : Nat → Nat → Int) (n : Nat) : (row4 z n).length = n := by simp [row4]
def vlL (z : Nat → Nat → Int) (t : Int) (n : Nat) : List Cg := (row4 z n).filter (vC t)
theorem vlL_yes {z : Nat → Nat → Int} {t : Int} {n : Nat} (h : vC t (rw4 z n) = true) : vlL z t (n + 1) = vlL z t n ++ [rw4 z n] := by
  unfold vlL; rw [row4_succ, List.filter_append, List.filter_cons, if_pos h]; rfl
theorem vlL_no {z : Nat → Nat → Int} {t : Int} {n : Nat} (h : vC t (rw4 z n) = false) : vlL z t (n + 1) = vlL z t n := by
  unfold vlL; rw [row4_succ, List.filter_append, List.filter_cons, if_neg (by rw [h]; decide)]; simp
theorem vlL_length (z : Nat → Nat → Int) (t : Int) (n : Nat) : (vlL z t n).length ≤ n := by
  unfold vlL; refine Nat.le_trans (List.length_filter_le _ _) ?_; rw [row4_length]; exact Nat.le_refl _
theorem vlL_valid {z : Nat → Nat → Int} {t : Int} {n : Nat} {c : Cg} (h : c ∈ vlL z t n) : vC t c = true := (List.mem_filter.1 h).2
/-- A change put into its place, from behind: what stands ahead of it and behind it. -/
theorem insS_place {x : Cg} : ∀ {P Q : List Cg}, Up (P ++ Q) → (∀ y ∈ Q, x.1 < y.1) → (∀ y ∈ P, y.1 ≤ x.1) → insS x (P ++ Q) = P ++ x :: Q
  | [], [], _, _, _ => rfl
  | [], y :: Q, _, hq, _ => by
    show (if x.1 < y.1 then _ else _) = _
    rw [if_pos (hq y (List.mem_cons_self ..))]; rfl
  | y :: P, Q, h, hq, hp => by
    show (if x.1 < y.1 then _ else y :: insS x (P ++ Q)) = _
    rw [if_neg (by have := hp y (List.mem_cons_self ..); omega), insS_place (List.pairwise_cons.1 h).2 hq (fun u hu => hp u (List.mem_cons_of_mem _ hu))]; rfl
end Go.Lott.Lm
