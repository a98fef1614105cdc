/- The sort of shares by members; lists of shares in memory. -/
import Derived.Test.YtkpmbkkhdhjbnaaSye
import Derived.Test.YtkpmbkkhdhjbnaaSyf
import Derived.Test.YtkpmbkkhdhjbnaaShelf
import Derived.Test.YtkpmbkkhdhjbnaaShelfB
import Derived.Test.YtkpmbkkhdhjbnaaMoq
namespace Go.Lott.Syn
def encS (x : Sh) : List Value := [.int .i64 x.1, .int .i64 x.2]
def fl2 (l : List Sh) : List Value := l.flatMap encS
theorem fl2_snoc (l : List Sh) (x : Sh) : fl2 (l ++ [x]) = fl2 l ++ encS x := by simp [fl2]
theorem fl2_length : ∀ l : List Sh, (fl2 l).length = l.length * 2
  | [] => rfl
  | x :: l => by
    have := fl2_length l
    unfold fl2 at *
    rw [List.flatMap_cons, List.length_append, this, List.length_cons]; show 2 + _ = _; omega
theorem fl2_get : ∀ (l : List Sh) (i : Nat), i < l.length → (fl2 l)[i * 2]? = some (.int .i64 (zL l i 0)) ∧ (fl2 l)[i * 2 + 1]? = some (.int .i64 (zL l i 1))
  | [], i, h => by simp at h
  | x :: l, 0, _ => ⟨rfl, rfl⟩
  | x :: l, i + 1, h => by
    have h' : i < l.length := by simpa using h
    obtain ⟨h1, h2⟩ := fl2_get l i h'
    have e : fl2 (x :: l) = .int .i64 x.1 :: .int .i64 x.2 :: fl2 l := rfl
    rw [e, show (i + 1) * 2 = i * 2 + 1 + 1 by omega]
    have z0 : ∀ j, zL (x :: l) (i + 1) j = zL l i j := fun j => by unfold zL; simp
    rw [z0, z0]
    exact ⟨by simpa using h1, by simpa using h2⟩
theorem compare_lt (x y : Int) : decide (Go.Lib.compareInt x y < 0) = decide (x < y) := by
  unfold Go.Lib.compareInt
  by_cases h1 : x < y
  · simp [h1]
  · by_cases h2 : y < x <;> simp [h1, h2]
end Go.Lott.Syn
namespace Go.Proofs.Ytkpmbkkhdhjbnaa
open Go.ChangeShapes Go.WideShapes Go.ChangeAt Go.RowKit Go.Lott
open Go.Shelf Go.Lib Go.Sort
open Go.Lott.Syn
/-- The shares of a list lie at the head of a block. -/
def Rw2 (w : World) (b : Nat) (l : List Sh) (t : TypeId) : Prop := ∃ cur, Cel w b cur t ∧ ∀ i, i < l.length → cur[i * 2]? = some (.int .i64 (zL l i 0)) ∧ cur[i * 2 + 1]? = some (.int .i64 (zL l i 1))
theorem rw2_of_owns {w : World} {base : Nat} {e : TypeId} {g n cap : Nat} {l : List Sh} (hn : n = l.length) (h : w.ownsRow base e 2 (.slice (some ⟨g, 0, none⟩) n cap) n (fl2 l)) : Rw2 w g l e := by
  subst hn
  rcases h.2 with ⟨h, _⟩ | ⟨g', cap', cur, hv, hg, hh, hc1, hc2, hc3, hc4⟩
  · cases h
  · injection hv with h1 h2 h3
    injection h1 with h1
    injection h1 with h1 _ _
    subst h1
    refine ⟨cur, hh, fun i hi => ?_⟩
    have key : ∀ j, j < l.length * 2 → cur[j]? = (fl2 l)[j]? := fun j hj => by
      rw [← hc4, List.getElem?_take, if_pos hj, Array.getElem?_toList]
    rw [key _ (by omega), key _ (by omega)]
    exact fl2_get l i hi
theorem Rw2.lt {w : World} {b : Nat} {l : List Sh} {t : TypeId} (h : Rw2 w b l t) : b < w.heap.size := by obtain ⟨cur, hc, _⟩ := h; exact hc.lt
theorem Rw2.below {w w1 : World} {B b : Nat} {l : List Sh} {t : TypeId} (h : Rw2 w b l t) (hb : Below B w w1) (hB : b < B) : Rw2 w1 b l t := by obtain ⟨cur, hc, hf⟩ := h; exact ⟨cur, hc.below hb hB, hf⟩
theorem IsRows.of_rw2 {w : World} {b : Nat} {l : List Sh} {t : TypeId} (h : Rw2 w b l t) (hn : l.length ≤ maxLen) : IsRows 2 w (some ⟨b, 0, none⟩) l.length (zL l) := by
  have hlt := h.lt
  obtain ⟨cur, hc, hf⟩ := h
  refine .inr ⟨b, 0, rfl, hlt, hn, fun i j hi hj => ?_⟩
  rw [Nat.zero_add, hc.cell]
  rcases (show j = 0 ∨ j = 1 by omega) with rfl | rfl
  · exact (hf i hi).1
  · exact (hf i hi).2
theorem list_get! {l : List Sh} {i : Nat} (h : i < l.length) : l.toArray[i]! = (zL l i 0, zL l i 1) := by
  rw [zL_get h]; simp [h]
theorem Rw2.holds {w : World} {b : Nat} {l : List Sh} {t : TypeId} (h : Rw2 w b l t) : HoldsK encS 2 w b 0 l.toArray := by
  obtain ⟨cur, hc, hf⟩ := h
  intro j hj
  rw [size_flatK] at hj
  rw [get_flatK _ _ _ _ hj, Nat.zero_add, hc.cell, hc.free]
  have hl : j / 2 < l.length := by simp at hj; omega
  obtain ⟨f0, f1⟩ := hf (j / 2) hl
  refine ⟨?_, rfl⟩
  rw [list_get! hl]
  rcases (show j % 2 = 0 ∨ j % 2 = 1 by omega) with e | e
  · rw [show cur[j]? = cur[j / 2 * 2]? by congr 1; omega, f0, e]; rfl
  · rw [show cur[j]? = cur[j / 2 * 2 + 1]? by congr 1; omega, f1, e]; rfl
theorem isRows_of_holds {w : World} {b : Nat} {d : Array Sh} (h : HoldsK encS 2 w b 0 d) (hb : b < w.heap.size) (hn : d.size ≤ maxLen) : IsRows 2 w (some ⟨b, 0, none⟩) d.toList.length (zL d.toList) := by
  refine .inr ⟨b, 0, rfl, hb, by simpa using hn, fun i j hi hj => ?_⟩
  have hi' : i < d.size := by simpa using hi
  have := (h.cell hi' hj).1
  rw [← Nat.add_assoc, this]
  have e : d[i]! = (zL d.toList i 0, zL d.toList i 1) := by
    have := list_get! (l := d.toList) hi
    simpa using this
  rw [e]
  rcases (show j = 0 ∨ j = 1 by omega) with rfl | rfl <;> rfl
theorem swk_block {w W : World} {blk n : Nat} {d : Array Sh} {os : Array Obj} (h : W = sortWorldK encS 2 w blk 0 n d os) {b : Nat} (hb : b ≠ blk) (hl : b < w.heap.size) : W.heap[b]? = w.heap[b]? := by
  subst h
  unfold sortWorldK
  rw [heap_grow_old _ os (by rw [size_putRowK]; exact hl)]
  show (w.heap.modify blk _)[b]? = _
  rw [Array.getElem?_modify]
  rw [if_neg (fun e => hb e.symm)]
theorem swk_below {w W : World} {blk n B : Nat} {d : Array Sh} {os : Array Obj} (h : W = sortWorldK encS 2 w blk 0 n d os) (hb : B ≤ blk) (hl : blk < w.heap.size) : Below B w W := by
  have h1 : ∀ k, k < B → W.heap[k]? = w.heap[k]? := fun k hk => swk_block h (by omega) (by omega)
  have h2 : w.heap.size ≤ W.heap.size := by subst h; exact Go.Proofs.SWK.le ⟨n, os, rfl⟩
  subst h
  exact ⟨rfl, rfl, rfl, h2, h1⟩
theorem byMember_any (x y : Sh) (W : World) : Calls Try.prog 48 #[.agg #[.int .i64 x.1, .int .i64 x.2], .agg #[.int .i64 y.1, .int .i64 y.2]] W fun e w' => e = .returned (.int .i64 (Lib.compareInt x.1 y.1)) ∧ ∃ q os', w' = grow (W.drewN q) os' := by
  have hcon := fun W' => Try.cmp_Compare_int x.1 y.1 W'
  generalize Lib.compareInt x.1 y.1 = r at hcon ⊢
  go_enter Try.func48, Try.ntmps48
  go_wp2_with (go_at_call 49; refine (hcon _).mono ?_; rintro e w' ⟨rfl, rfl⟩)
  go_ret
  exact ⟨rfl, 0, _, by rw [alloc_eq_grow, alloc_eq_grow, grow_grow]; rfl⟩
theorem ltM (x y : Sh) : ltOf (fun x y : Sh => Lib.compareInt x.1 y.1) x y = decide (x.1 < y.1) := by unfold ltOf; exact compare_lt x.1 y.1
theorem swoM : SWO (ltOf fun x y : Sh => Lib.compareInt x.1 y.1) where
  irrefl x := by rw [ltM]; simp
  trans x y z h1 h2 := by rw [ltM] at *; simp at *; omega
  ntrans x y z h1 h2 := by rw [ltM] at *; simp at *; omega
/-- The sort of a list of shares whose members differ: the ascending list. -/
theorem sortS_any (l : List Sh) (g cap : Nat) (t : TypeId) (w : World) (hR : Rw2 w g l t) (hn : l.length ≤ 1000000) (hd : (l.map Prod.fst).Nodup) :
    Calls Try.prog 47 #[.slice (some ⟨g, 0, none⟩) l.length cap, .func (.func 48) #[] #[]] w fun e w' =>
      e = .returned (.tuple #[]) ∧ Below g w w' ∧ IsRows 2 w' (some ⟨g, 0, none⟩) l.length (zL (srt l)) ∧ (srt l).length = l.length := by
  have eg : ∀ args w, (callFunc 48 args).run Try.prog w = .ok (.enter 48 args) w := enters_of Try.func48 (by kernel_rfl) rfl
  have hcon := AnyQ.slices_SortFunc Try.laysSF 2 Try.isAgg46 Try.sizeOf46 encS (fun _ => rfl) (fun x v hv => by simp [encS] at hv; rcases hv with rfl | rfl <;> rfl) (fun x y => Lib.compareInt x.1 y.1) swoM 48 #[] g 0 cap l.toArray w eg (fun _ _ _ _ x y => byMember_any x y _) hR.holds hR.lt (by simp; omega)
  have hsz : l.toArray.size = l.length := by simp
  rw [hsz] at hcon
  change Calls Try.prog 47 _ _ _ at hcon
  refine hcon.mono fun e w' ⟨he, d', n, os, hp, hs, hw⟩ => ?_
  obtain ⟨hz, _, hperm⟩ := hp
  rw [hsz] at hz
  have hperm' : d'.toList.Perm l := by
    have e1 : d'.extract 0 l.length = d' := by rw [← hz]; simp
    have e2 : l.toArray.extract 0 l.length = l.toArray := by rw [← hsz]; simp
    rw [e1, e2] at hperm; exact hperm
  have hnd : (d'.toList.map Prod.fst).Nodup := (hperm'.map Prod.fst).nodup_iff.2 hd
  have hasc : Asc d'.toList := by
    refine List.pairwise_iff_getElem.2 fun i j hi hj hij => ?_
    have h1 := hs i j (Nat.zero_le _) hij (by rw [← hz]; simpa using hj)
    rw [ltM, decide_eq_false_iff_not] at h1
    have e1 : d'[i]! = d'.toList[i] := by simp at hi; simp [hi]
    have e2 : d'[j]! = d'.toList[j] := by simp at hj; simp [hj]
    rw [e1, e2] at h1
    have h2 : d'.toList[i].1 ≠ d'.toList[j].1 := by
      have := List.pairwise_iff_getElem.1 hnd i j (by simpa using hi) (by simpa using hj) hij
      simpa using this
    omega
  have heq : d'.toList = srt l := asc_unique _ _ hasc (srt_asc hd) fun x => by rw [hperm'.mem_iff, (srt_perm hd).mem_iff]
  have hle : (srt l).length = l.length := (srt_perm hd).length_eq
  refine ⟨he, swk_below hw (Nat.le_refl _) hR.lt, ?_, hle⟩
  have hH : HoldsK encS 2 w' g 0 d' := by rw [hw]; exact holdsK_sortWorldK encS 2 w g 0 n l.toArray d' os hR.lt hR.holds (by rw [hz]; simp)
  have hgl : g < w'.heap.size := by rw [hw]; exact lt_sortWorldK encS 2 w g 0 n d' os hR.lt
  have := isRows_of_holds hH hgl (by rw [hz]; unfold maxLen; omega)
  rw [heq, hle] at this
  exact this
end Go.Proofs.Ytkpmbkkhdhjbnaa
