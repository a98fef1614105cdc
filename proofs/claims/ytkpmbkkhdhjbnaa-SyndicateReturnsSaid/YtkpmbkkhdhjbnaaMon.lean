/- money.Split: what it is made of. -/
import Derived.Test.YtkpmbkkhdhjbnaaSte
import Derived.Test.YtkpmbkkhdhjbnaaSpm
import Derived.Test.YtkpmbkkhdhjbnaaMem
import Derived.Test.YtkpmbkkhdhjbnaaNumj
namespace Go.Proofs.Ytkpmbkkhdhjbnaa
open Go.ChangeShapes Go.WideShapes Go.ChangeAt Go.RowKit Go.Lott

/-- An amount. -/
def amB (n : Int) : Bool := decide (0 ≤ n ∧ n ≤ 1000000000000)
theorem amB_iff (n : Int) : amB n = true ↔ 0 ≤ n ∧ n ≤ 1000000000000 := by simp [amB]
theorem Valid_any (n : Int) (w : World) : Calls Try.prog 35 #[.int .i64 n] w (RetS (.bool (amB n)) w) := by
  by_cases h : 0 ≤ n
  · go_enter Try.func35, Try.ntmps35
    go_wp2
    go_ret
    exact ⟨ret_bool (by simp [amB, h]), rfl⟩
  · go_enter Try.func35, Try.ntmps35
    go_wp2
    go_ret
    exact ⟨ret_bool (by rw [amB, decide_eq_false (by omega)]), rfl⟩
theorem rValid_any (n : Int) (w : World) : Calls Try.prog 37 #[.int .i64 n] w (RetS (.bool (amB n)) w) := by
  by_cases h : 0 ≤ n
  · go_enter Try.func37, Try.ntmps37
    go_wp2
    go_ret
    exact ⟨ret_bool (by simp [amB, h]), rfl⟩
  · go_enter Try.func37, Try.ntmps37
    go_wp2
    go_ret
    exact ⟨ret_bool (by rw [amB, decide_eq_false (by omega)]), rfl⟩
set_option maxHeartbeats 2000000 in
/-- The comparison: 'rests[order[i]] > rests[order[j]]'. -/
theorem less_any (bR R0 bO o0 oo n cr co : Nat) (W : World) (R : Nat → Int) (hR : W.cell? ⟨bR, 0, none⟩ = some (.slice (some ⟨R0, 0, none⟩) n cr)) (hO : W.cell? ⟨bO, 0, none⟩ = some (.slice (some ⟨o0, oo, none⟩) n co))
    (cR : ∀ k, k < n → W.cell? ⟨R0, k, none⟩ = some (.int .i64 (R k))) (i j x y : Nat) (hi : i < n) (hj : j < n) (hx : x < n) (hy : y < n)
    (ci : W.cell? ⟨o0, oo + i, none⟩ = some (.int .i64 x)) (cj : W.cell? ⟨o0, oo + j, none⟩ = some (.int .i64 y)) :
    Calls Try.prog 54 #[.int .i64 i, .int .i64 j, .pointer (some ⟨bR, 0, none⟩), .pointer (some ⟨bO, 0, none⟩)] W fun e w' => e = .returned (.bool (decide (R y < R x))) ∧ ∃ q, w' = W.drewN q := by
  have c1 := cR x hx
  have c2 := cR y hy
  clear cR
  go_enter Try.func54, Try.ntmps54
  go_wp2
  go_quiet (fail)
  go_wp2
  go_ret
  exact ⟨rfl, nq, rfl⟩
set_option maxHeartbeats 2000000 in
/-- One unit is given. -/
theorem give_any (bP P0 bL n cp i : Nat) (W : World) (p L : Int) (hP : W.cell? ⟨bP, 0, none⟩ = some (.slice (some ⟨P0, 0, none⟩) n cp)) (hi : i < n) (cP : W.cell? ⟨P0, i, none⟩ = some (.int .i64 p)) (fP : W.frozen? ⟨P0, i, none⟩ = false)
    (cL : W.cell? ⟨bL, 0, none⟩ = some (.int .i64 L)) (fL : W.frozen? ⟨bL, 0, none⟩ = false) (hne : P0 ≠ bL) (p0 : 0 ≤ p) (p1 : p ≤ 1000000000000) (L0 : 0 ≤ L) (L1 : L ≤ 1000000000000) :
    Calls Try.prog 55 #[.int .i64 i, .pointer (some ⟨bP, 0, none⟩), .pointer (some ⟨bL, 0, none⟩)] W fun e w' => e = .returned (.tuple #[]) ∧ w' = (W.setCell ⟨P0, i, none⟩ (.int .i64 (p + 1))).setCell ⟨bL, 0, none⟩ (.int .i64 (L - 1)) := by
  have c2 : (W.setCell ⟨P0, i, none⟩ (.int .i64 (p + 1))).cell? ⟨bL, 0, none⟩ = some (.int .i64 L) := by
    rw [World.cell?_of_block (w := W) (Below.heap_setCell _ _ _ _ (fun e => hne e.symm))]; exact cL
  have f2 : (W.setCell ⟨P0, i, none⟩ (.int .i64 (p + 1))).frozen? ⟨bL, 0, none⟩ = false := by
    rw [World.frozen?_of_block (w := W) (Below.heap_setCell _ _ _ _ (fun e => hne e.symm))]; exact fL
  go_enter Try.func55, Try.ntmps55
  go_wp2
  go_end0
  exact ⟨rfl, rfl⟩
open Go.Shelf Go.Lib Go.Sort Go.Lott.Stb Go.Lott.Spl
noncomputable def siT : TypeInfo := (Try.prog.info? 22).get (by kernel_rfl)
noncomputable def siE : TypeInfo := (Try.prog.info? 3).get (by kernel_rfl)
theorem siK (n : Nat) (h2 : 2 ≤ n) : Lib.swapperK n siE 2 = 5 := by
  have a : siE.hasPointers = false := by kernel_rfl
  have b : siE.bytes = 8 := by kernel_rfl
  have c : (n == 0) = false := by simp; omega
  have d : (n == 1) = false := by simp; omega
  simp [Lib.swapperK, a, b, c, d]
theorem siK1 : Lib.swapperK 1 siE 2 = 2 := by
  simp [Lib.swapperK]
def encF (m : Nat) (x : Fin (m + 1)) : Value := .int .i64 (x.val : Int)
/-- The places in the order in which they begin. -/
def d0F (m : Nat) : Array (Fin (m + 1)) := Array.ofFn fun x => x
theorem d0F_size (m : Nat) : (d0F m).size = m + 1 := by simp [d0F]
theorem d0F_get (m k : Nat) (hk : k < m + 1) : ((d0F m)[k]!).val = k := by simp [d0F, hk]
theorem holds_of_cel {w : World} {b m : Nat} {f : Nat → Int} {t : TypeId} {d : Array (Fin (m + 1))} (hd : d.size = m + 1) (h : Cel w b (fv (m + 1) f) t) (hf : ∀ k, k < m + 1 → f k = ((d[k]!).val : Int)) : Holds (encF m) w b 0 d := fun j hj => by
  have := h.at (i := j) (by omega)
  rw [hf j (by omega)] at this
  rw [Nat.zero_add]; exact ⟨this, h.free j⟩
/-- The order of the remainders, by the library's stable sort. -/
theorem SlSt_any (m : Nat) (W : World) (R : Nat → Int) (bR R0 bO O0 : Nat) (t tt : TypeId) (hm : m + 1 < 1000000000)
    (hR : Cel W bR #[.slice (some ⟨R0, 0, none⟩) (m + 1) (m + 1)] t) (hO : Cel W bO #[.slice (some ⟨O0, 0, none⟩) (m + 1) (m + 1)] t) (cR : Cel W R0 (fv (m + 1) R) tt) (cO : Cel W O0 (fv (m + 1) (fun k => (k : Int))) tt) (n1 : bR ≠ O0) (n2 : bO ≠ O0) (n3 : R0 ≠ O0) :
    Calls Try.prog 53 #[.iface 22 (.slice (some ⟨O0, 0, none⟩) (m + 1) (m + 1)), .func (.func 54) #[] #[.pointer (some ⟨bR, 0, none⟩), .pointer (some ⟨bO, 0, none⟩)]] W fun e w' =>
      e = .returned (.tuple #[]) ∧ ∃ d', SW (encF m) W O0 0 d' w' ∧ d'.size = m + 1 ∧ Merged (fun (x y : Fin (m + 1)) => decide (R y.val < R x.val)) 0 (m + 1) (d0F m) d' := by
  have hH : Holds (encF m) W O0 0 (d0F m) := holds_of_cel (d0F_size m) cO (fun k hk => by rw [d0F_get m k hk])
  have hS : SWO (fun (x y : Fin (m + 1)) => decide (R y.val < R x.val)) := ⟨fun x => by simp, fun x y z h1 h2 => by simp only [decide_eq_true_eq] at *; omega, fun x y z h1 h2 => by simp only [decide_eq_false_iff_not] at *; omega⟩
  have hblk := cO.lt
  have hless : LessReads Try.prog 54 #[.pointer (some ⟨bR, 0, none⟩), .pointer (some ⟨bO, 0, none⟩)] (encF m) (fun (x y : Fin (m + 1)) => decide (R y.val < R x.val)) O0 0 (m + 1) W := by
    intro q os dk hs i j hi hj
    have hSW : SW (encF m) W O0 0 dk (sortWorld (encF m) W O0 0 q dk os) := ⟨q, os, rfl⟩
    have far : ∀ b k v, b ≠ O0 → b < W.heap.size → W.cell? ⟨b, k, none⟩ = some v → (sortWorld (encF m) W O0 0 q dk os).cell? ⟨b, k, none⟩ = some v := fun b k v hb hl h => by
      unfold sortWorld
      rw [cell?_grow _ _ _ (by rw [size_putRow]; exact hl), cell?_putRow_other (encF m) _ O0 0 dk _ (Or.inl hb)]; exact h
    have hHd := hSW.holds hblk hH (hs.trans (d0F_size m).symm)
    have gi := hHd i (by omega)
    have gj := hHd j (by omega)
    refine less_any bR R0 bO O0 0 (m + 1) (m + 1) (m + 1) _ R (far _ _ _ n1 hR.lt (by rw [hR.cell]; rfl)) (far _ _ _ n2 hO.lt (by rw [hO.cell]; rfl)) (fun k hk => far _ _ _ n3 cR.lt (cR.at hk)) i j (dk[i]!).val (dk[j]!).val hi hj (dk[i]!).isLt (dk[j]!).isLt gi.1 gj.1
  by_cases h1 : m = 0
  · subst h1
    have ht := Any.sort_SliceStable_tiny Try.laysGt8 22 3 siT siE (by kernel_rfl) (by kernel_rfl) (by kernel_rfl) (by kernel_rfl) 2 (fun _ => by kernel_rfl) (some ⟨O0, 0, none⟩) 1 1 (Nat.le_refl _) 81 (by rw [siK1]; kernel_rfl) (.func 54) #[] #[.pointer (some ⟨bR, 0, none⟩), .pointer (some ⟨bO, 0, none⟩)] W
    refine Calls.mono ht fun e w' hx => ?_
    obtain ⟨he, os, hw⟩ := hx
    refine ⟨he, d0F 0, ⟨0, os, ?_⟩, d0F_size 0, Merged.same fun i j i1 ij j1 => by omega⟩
    rw [hw]
    have := sortWorld_start (encF 0) W O0 0 (d0F 0) hH
    unfold sortWorld at *
    rw [grow_empty] at this
    rw [this]
  · obtain ⟨os0, hos⟩ : ∃ os0, stableWorld Try.prog Try.laysGt8_ren 22 (some ⟨O0, 0, none⟩) (m + 1) (m + 1) W = grow W os0 := ⟨_, by unfold stableWorld; rw [alloc_eq_grow, alloc_eq_grow, grow_grow]⟩
    have hB : sliceBound Try.prog 3 siE 2 (some ⟨O0, 0, none⟩) (m + 1) (m + 1) = #[.slice (some ⟨O0, 0, none⟩) (m + 1) (m + 1), typeHandle Try.prog 3] := by
      unfold sliceBound; rw [if_neg (swapperK_gt _ _ _ (by omega))]
    have E : SEnv (encF m) (fun (x y : Fin (m + 1)) => decide (R y.val < R x.val)) 54 #[.pointer (some ⟨bR, 0, none⟩), .pointer (some ⟨bO, 0, none⟩)] 84 #[.slice (some ⟨O0, 0, none⟩) (m + 1) (m + 1), typeHandle Try.prog 3] O0 0 (m + 1) (grow W os0) :=
      ⟨enters_of Try.func54 (by kernel_rfl) rfl, hless.grow hblk os0,
        swapSwaps_of_literal true 84 (fun args W => run_callFunc_extern Try.func84 (by kernel_rfl) (by kernel_rfl) (by kernel_rfl) (e := Extern.ReflectliteSwapper.swap true) (by kernel_rfl) args W) 3 siE (by kernel_rfl) (by kernel_rfl) (fun _ => by kernel_rfl) (encF m) (fun _ => rfl) O0 0 (m + 1) (m + 1),
        ⟨d0F m, d0F_size m, holds_grow (encF m) W os0 O0 0 _ hblk hH⟩, by rw [size_grow]; omega, hm⟩
    have hp := stab_any hS E (holds_grow (encF m) W os0 O0 0 _ hblk hH) (d0F_size m)
    refine Calls.mono (Any.sort_SliceStable_of_stable Try.laysGt8 22 3 siT siE (by kernel_rfl) (by kernel_rfl) (by kernel_rfl) (by kernel_rfl) 2 (fun _ => by kernel_rfl) (some ⟨O0, 0, none⟩) (m + 1) (m + 1) (by omega) 84 (by rw [siK _ (by omega)]; kernel_rfl) (.func 54) #[] #[.pointer (some ⟨bR, 0, none⟩), .pointer (some ⟨bO, 0, none⟩)] W
      (fun w' => ∃ d', SW (encF m) W O0 0 d' w' ∧ d'.size = m + 1 ∧ Merged (fun (x y : Fin (m + 1)) => decide (R y.val < R x.val)) 0 (m + 1) (d0F m) d') ?_) fun e w' hx => hx
    rw [hos, hB]
    refine hp.mono fun e w' ⟨he, d', hs, hz, hr⟩ => ⟨he, d', ?_, hz, hr⟩
    obtain ⟨q, os, rfl⟩ := hs
    exact ⟨q, os0 ++ os, by unfold sortWorld; rw [ahead_grow, putRow_grow (encF m) (Sort.ahead W q) _ O0 0 _ hblk, grow_grow]⟩
end Go.Proofs.Ytkpmbkkhdhjbnaa
