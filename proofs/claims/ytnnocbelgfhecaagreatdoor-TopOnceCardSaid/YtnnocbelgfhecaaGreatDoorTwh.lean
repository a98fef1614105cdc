/- Memory of objects: each block of an object has a role; what a call may turn. No program stands in this text. -/
import Derived.Test.YtnnocbelgfhecaaGreatDoorMem
import Derived.Deep.AppendLies
import Derived.Maps.OwnSet
import Derived.Laws.OwnMore
set_option linter.unusedSimpArgs false
namespace Go.Lott
open Go.RowKit
/-- The roles of an object's blocks. -/
abbrev Rl := Nat → Option (Nat × Nat)
def tg (τ : Rl) (b : Nat) (t : Nat × Nat) : Rl := fun x => if x = b then some t else τ x
theorem tg_same (τ : Rl) (b : Nat) (t : Nat × Nat) : tg τ b t b = some t := if_pos rfl
theorem tg_ne {τ : Rl} {b x : Nat} (t : Nat × Nat) (h : x ≠ b) : tg τ b t x = τ x := if_neg h
/-- w' is w but for blocks with a role, and new ones. -/
structure Fr (τ : Rl) (w w' : World) : Prop where
  os : w'.os = w.os
  tape : w'.tape = w.tape
  output : w'.output = w.output
  size : w.heap.size ≤ w'.heap.size
  block : ∀ k, k < w.heap.size → τ k = none → w'.heap[k]? = w.heap[k]?
/-- The roles behind a call: those ahead of it, and roles of new blocks. -/
def Gr (τ τ' : Rl) (n : Nat) : Prop := ∀ b, τ' b ≠ none → τ b ≠ none ∨ n ≤ b
theorem Gr.refl (τ : Rl) (n : Nat) : Gr τ τ n := fun _ h => .inl h
theorem Gr.trans {τ τ1 τ2 : Rl} {n n1 : Nat} (h : Gr τ τ1 n) (h1 : Gr τ1 τ2 n1) (hn : n ≤ n1) : Gr τ τ2 n := fun b hb => by
  rcases h1 b hb with c | c
  · exact h b c
  · exact .inr (by omega)
theorem Gr.tg {τ : Rl} {n b : Nat} {t : Nat × Nat} (h : τ b ≠ none ∨ n ≤ b) : Gr τ (tg τ b t) n := fun x hx => by
  by_cases c : x = b
  · rw [c]; exact h
  · rw [tg_ne _ c] at hx; exact .inl hx
section
variable {τ : Rl} {w w1 w2 : World}
theorem Fr.refl (τ : Rl) (w : World) : Fr τ w w := ⟨rfl, rfl, rfl, Nat.le_refl _, fun _ _ _ => rfl⟩
theorem Fr.of_below (h : Below w.heap.size w w1) : Fr τ w w1 := ⟨h.os, h.tape, h.output, h.size, fun k hk _ => h.block k hk⟩
theorem Fr.trans {τ1 : Rl} (h : Fr τ w w1) (hg : Gr τ τ1 w.heap.size) (h1 : Fr τ1 w1 w2) : Fr τ w w2 :=
  ⟨h1.os.trans h.os, h1.tape.trans h.tape, h1.output.trans h.output, Nat.le_trans h.size h1.size, fun k hk hn =>
    (h1.block k (Nat.lt_of_lt_of_le hk h.size) (Classical.byContradiction fun c => by rcases hg k c with d | d; exact d hn; omega)).trans (h.block k hk hn)⟩
theorem Fr.alloc (h : Fr τ w w1) (o : Obj) : Fr τ w (w1.alloc o) :=
  h.trans (Gr.refl _ _) (Fr.of_below ((Below.refl _ _).alloc (Nat.le_refl _) o))
theorem Fr.setCell (h : Fr τ w w1) {a : Addr} (ha : τ a.block ≠ none ∨ w.heap.size ≤ a.block) (u : Value) : Fr τ w (w1.setCell a u) :=
  ⟨h.os, h.tape, h.output, by rw [show (w1.setCell a u).heap.size = w1.heap.size by simp [World.setCell]]; exact h.size, fun k hk hn => by
    rw [Below.heap_setCell _ _ _ _ (fun c => by subst c; rcases ha with d | d; exact d hn; omega)]
    exact h.block k hk hn⟩
theorem Fr.grown (h : Fr τ w w1) {row : Option Nat} (hg : w1.grownBy w2 row) (hr : ∀ k, row = some k → τ k ≠ none ∨ w.heap.size ≤ k) : Fr τ w w2 :=
  ⟨hg.os.trans h.os, hg.tape.trans h.tape, hg.output.trans h.output, Nat.le_trans h.size hg.size, fun k hk hn =>
    (hg.block k (Nat.lt_of_lt_of_le hk h.size) (fun c => by rcases hr k c.symm with d | d; exact d hn; omega)).trans (h.block k hk hn)⟩
theorem Fr.below {B : Nat} (h : Fr τ w w1) (hB : B ≤ w.heap.size) (ht : ∀ b, τ b ≠ none → B ≤ b) : Below B w w1 :=
  ⟨h.os, h.tape, h.output, h.size, fun k hk => h.block k (by omega) (Classical.byContradiction fun c => by have := ht k c; omega)⟩
theorem Fr.then (h : Fr τ w w1) (hb : Below w1.heap.size w1 w2) : Fr τ w w2 := h.trans (Gr.refl _ _) (Fr.of_below hb)
theorem Cel.fr {b : Nat} {cs : Array Value} {t : TypeId} (h : Cel w b cs t) (hf : Fr τ w w1) (hb : τ b = none) : Cel w1 b cs t := by
  unfold Cel; rw [hf.block b h.lt hb]; exact h
theorem Cel.grow {b : Nat} {cs : Array Value} {t : TypeId} {row : Option Nat} (h : Cel w b cs t) (hg : w.grownBy w1 row) (hb : row ≠ some b) : Cel w1 b cs t := by
  unfold Cel; rw [hg.block b h.lt (fun c => hb c.symm)]; exact h
theorem owns_fr {base : Nat} {e : TypeId} {size : Nat} {v : Value} {n : Nat} {xs : List Value} (h : w.ownsRow base e size v n xs) (hf : Fr τ w w1) (hb : ∀ g, v.ownBlock = some g → τ g = none) : w1.ownsRow base e size v n xs := by
  refine ⟨h.1, ?_⟩
  rcases h.2 with h2 | ⟨g, cap, cur, hv, hg, hh, hr⟩
  · exact .inl h2
  · exact .inr ⟨g, cap, cur, hv, hg, by rw [hf.block g (lt_of_block hh) (hb g (by rw [hv]; rfl))]; exact hh, hr⟩
theorem owns_set {base : Nat} {e : TypeId} {size : Nat} {v : Value} {n : Nat} {xs : List Value} (h : w.ownsRow base e size v n xs) {a : Addr} (ha : v.ownBlock ≠ some a.block) (u : Value) : (w.setCell a u).ownsRow base e size v n xs := by
  refine ⟨h.1, ?_⟩
  rcases h.2 with h2 | ⟨g, cap, cur, hv, hg, hh, hr⟩
  · exact .inl h2
  · exact .inr ⟨g, cap, cur, hv, hg, by rw [Below.heap_setCell _ _ _ _ (fun c => ha (by rw [hv]; simp [Value.ownBlock, c]))]; exact hh, hr⟩
end
end Go.Lott
