/- Lists of changes in memory; the stable sort of a slice that is nil. -/
import Derived.Test.YtainelkenkgppaaDoorLmf
import Derived.Test.YtainelkenkgppaaDoorSke
import Derived.Deep.AppendLies
namespace Go.Lott.Lm
open Go.Sort
def zC (l : List Cg) (i j : Nat) : Int := if j = 0 then ((l[i]?).getD default).1 else if j = 1 then ((l[i]?).getD default).2.1 else if j = 2 then ((l[i]?).getD default).2.2.1 else ((l[i]?).getD default).2.2.2
theorem zC_rw (l : List Cg) (i : Nat) : rw4 (zC l) i = (l[i]?).getD default := rfl
theorem row4_zC (l : List Cg) : row4 (zC l) l.length = l := by
  refine List.ext_getElem (by rw [row4_length]) fun i h1 h2 => ?_
  simp [row4, zC_rw, h2]
end Go.Lott.Lm
namespace Go.Proofs.YtainelkenkgppaaDoor
open Go.ChangeShapes Go.WideShapes Go.ChangeAt Go.RowKit Go.Lott
open Go.Sort Go.Lott.Stb Go.Lott.Srt Go.Lott.Lm
def flC (l : List Cg) : List Value := l.flatMap encC
theorem flC_snoc (l : List Cg) (x : Cg) : flC (l ++ [x]) = flC l ++ encC x := by simp [flC]
theorem flC_length : ∀ l : List Cg, (flC l).length = l.length * 4
  | [] => rfl
  | x :: l => by
    have := flC_length l
    unfold flC at *
    rw [List.flatMap_cons, List.length_append, this, List.length_cons]; show 4 + _ = _; omega
theorem flC_get : ∀ (l : List Cg) (i j : Nat), i < l.length → j < 4 → (flC l)[i * 4 + j]? = some (.int .i64 (zC l i j))
  | [], i, _, h, _ => by simp at h
  | x :: l, 0, j, _, hj => by
    have e : flC (x :: l) = .int .i64 x.1 :: .int .i64 x.2.1 :: .int .i64 x.2.2.1 :: .int .i64 x.2.2.2 :: flC l := rfl
    rw [e]
    rcases (show j = 0 ∨ j = 1 ∨ j = 2 ∨ j = 3 by omega) with rfl | rfl | rfl | rfl <;> rfl
  | x :: l, i + 1, j, h, hj => by
    have h' : i < l.length := by simpa using h
    have ih := flC_get l i j h' hj
    have e : flC (x :: l) = .int .i64 x.1 :: .int .i64 x.2.1 :: .int .i64 x.2.2.1 :: .int .i64 x.2.2.2 :: flC l := rfl
    rw [e, show (i + 1) * 4 + j = i * 4 + j + 1 + 1 + 1 + 1 by omega]
    have z0 : zC (x :: l) (i + 1) j = zC l i j := by unfold zC; simp
    rw [z0]
    simpa using ih
theorem encC_at (l : List Cg) (i j : Nat) (hj : j < 4) : (encC ((l[i]?).getD default))[j]! = .int .i64 (zC l i j) := by
  rcases (show j = 0 ∨ j = 1 ∨ j = 2 ∨ j = 3 by omega) with rfl | rfl | rfl | rfl <;> rfl
theorem toArr_get (l : List Cg) (i : Nat) : l.toArray[i]! = (l[i]?).getD default := by simp [getElem!_def]; cases l[i]? <;> rfl
theorem arr_get (d : Array Cg) (i : Nat) : d[i]! = (d.toList[i]?).getD default := by rw [← toArr_get]
/-- A row that the call owns: an array of changes. -/
theorem holds_of_owns {w : World} {base g n cap : Nat} {e : TypeId} {l : List Cg} (hn : n = l.length) (h : w.ownsRow base e 4 (.slice (some ⟨g, 0, none⟩) n cap) n (flC l)) : HoldsK encC 4 w g 0 l.toArray ∧ g < w.heap.size ∧ base ≤ g := by
  subst hn
  rcases h.2 with ⟨h, _⟩ | ⟨g', cap', cur, hv, hg, hh, hc1, hc2, hc3, hc4⟩
  · cases h
  · injection hv with h1 h2 h3
    injection h1 with h1
    injection h1 with h1 _ _
    subst h1
    have hc : Cel w g cur e := hh
    refine ⟨?_, hc.lt, hg⟩
    intro j hj
    rw [size_flatK] at hj
    have hj' : j < l.length * 4 := by simpa using hj
    rw [get_flatK _ _ _ _ hj, Nat.zero_add, hc.cell, hc.free, toArr_get, encC_at _ _ _ (by omega)]
    refine ⟨?_, rfl⟩
    have key : cur[j]? = (flC l)[j]? := by rw [← hc4, List.getElem?_take, if_pos hj', Array.getElem?_toList]
    rw [key, show (flC l)[j]? = (flC l)[j / 4 * 4 + j % 4]? by congr 1; omega, flC_get l (j / 4) (j % 4) (by omega) (by omega)]; rfl
theorem rows_of_holds {w : World} {b : Nat} {d : Array Cg} (h : HoldsK encC 4 w b 0 d) (hb : b < w.heap.size) (hn : d.size ≤ maxLen) : IsRows 4 w (some ⟨b, 0, none⟩) d.size (zC d.toList) := by
  refine .inr ⟨b, 0, rfl, hb, hn, fun i j hi hj => ?_⟩
  have := (h.cell hi hj).1
  rw [← Nat.add_assoc, this, arr_get, encC_at _ _ _ hj]
theorem owns_below {w w1 : World} {base : Nat} {e : TypeId} {size : Nat} {v : Value} {n : Nat} {xs : List Value} (h : w.ownsRow base e size v n xs) (hb : Below w.heap.size w w1) : w1.ownsRow base e size v n xs := by
  refine ⟨h.1, ?_⟩
  rcases h.2 with h2 | ⟨g, cap, cur, hv, hg, hh, hr⟩
  · exact .inl h2
  · exact .inr ⟨g, cap, cur, hv, hg, by rw [hb.block g (lt_of_block hh)]; exact hh, hr⟩
theorem insF_none (w : World) : Calls Tryd.prog 80 #[.slice none 0 0, .int .i64 0, .int .i64 0, .func (.func 36) #[] #[]] w (RetS (.tuple #[]) w) := by
  go_enter Tryd.func80, Tryd.ntmps80
  go_wp2
  refine wp_loop_rounds 1 ?_
  rw [rounds_succ]
  go_wp2
  go_end0
  exact ⟨rfl, rfl⟩
theorem stab_none (w : World) : Calls Tryd.prog 63 #[.slice none 0 0, .int .i64 0, .func (.func 36) #[] #[]] w (RetS (.tuple #[]) w) := by
  go_enter Tryd.func63, Tryd.ntmps63
  go_wp2
  refine wp_loop_rounds 1 ?_
  rw [rounds_succ]
  go_wp2_with (go_at_call 80; refine (insF_none _).mono ?_; rintro e w1 ⟨rfl, rfl⟩)
  refine wp_loop_rounds 1 ?_
  rw [rounds_succ]
  go_wp2
  go_end0
  exact ⟨rfl, rfl⟩
theorem SStab_none (w : World) : Calls Tryd.prog 35 #[.slice none 0 0, .func (.func 36) #[] #[]] w (RetS (.tuple #[]) w) := by
  go_enter Tryd.func35, Tryd.ntmps35
  go_wp2_with (go_at_call 63; refine (stab_none _).mono ?_; rintro e w1 ⟨rfl, rfl⟩)
  go_end0
  exact ⟨rfl, rfl⟩
theorem infoC : (Tryd.prog.info? 30).map (fun i => (i.zero, i.size, i.bytes)) = some (some (.agg #[.int .i64 0, .int .i64 0, .int .i64 0, .int .i64 0]), 4, 32) := by kernel_rfl
end Go.Proofs.YtainelkenkgppaaDoor
