import Derived.WalkKit
import Derived.ProofKit
import Derived.OpenShut
import Derived.Below
import Derived.Outline
import Derived.BigQuiet
import Derived.Deep.QuietTactic
import Derived.Lib.Hide
namespace Go.Lott
open Go.RowKit

/-- The post of a contract: the value that comes back; below the heap's size at the call nothing has turned. -/
def RetB (v : Value) (w : World) (e : Ending) (w' : World) : Prop := e = .returned v ∧ Below w.heap.size w w'
/-- The post of a contract: the value that comes back, in the very world. -/
def RetS (v : Value) (w : World) (e : Ending) (w' : World) : Prop := e = .returned v ∧ w = w'
theorem ret_bool {a b : Bool} (h : a = b) : Ending.returned (.bool a) = .returned (.bool b) := by rw [h]
theorem ret_two {k k' : IntKind} {a b a' b' : Int} (h : a = a') (h' : b = b') : Ending.returned (.tuple #[.int k a, .int k' b]) = .returned (.tuple #[.int k a', .int k' b']) := by rw [h, h']
theorem ret_three {k k' k'' : IntKind} {a b c a' b' c' : Int} (h : a = a') (h' : b = b') (h'' : c = c') : Ending.returned (.tuple #[.int k a, .int k' b, .int k'' c]) = .returned (.tuple #[.int k a', .int k' b', .int k'' c']) := by rw [h, h', h'']
theorem ret_int {k : IntKind} {a b : Int} (h : a = b) : Ending.returned (.int k a) = .returned (.int k b) := by rw [h]

/-- A world that is, below block B, as w0 was. -/
structure Sub (B : Nat) (w0 : World) where
  w : World
  h : Below B w0 w

instance (B : Nat) (w0 : World) : Nonempty (Sub B w0) := ⟨⟨w0, Below.refl _ _⟩⟩

theorem Sub.ofB {P : Program} {B : Nat} {w0 : World} (x : Sub B w0) {f : FuncId} {args : Array Value} {v : Value} (hB : B ≤ w0.heap.size) (h : Calls P f args x.w (RetB v x.w)) :
    Calls P f args x.w fun e w'' => e = .returned v ∧ ∃ y : Sub B w0, w'' = y.w :=
  h.mono fun _ w1 ⟨he, hb⟩ => ⟨he, ⟨w1, x.h.trans (hb.mono (Nat.le_trans hB x.h.size))⟩, rfl⟩
theorem Sub.ofS {P : Program} {B : Nat} {w0 : World} (x : Sub B w0) {f : FuncId} {args : Array Value} {v : Value} (h : Calls P f args x.w (RetS v x.w)) :
    Calls P f args x.w fun e w'' => e = .returned v ∧ ∃ y : Sub B w0, w'' = y.w :=
  h.mono fun _ _ ⟨he, hb⟩ => ⟨he, x, hb.symm⟩

/-- A region that draws its order, whose operations read below the heap's size, and whose calls turn nothing below it: one walk, in the order of the text. -/
theorem wp_region_below {P : Program} {id : Nat} {Q : Exit → Act → World → Prop} {a : Act} {w : World} {l : List Oper} (hm : P.follows .mixedOrders = true) (hB : Region.lexB .any l.toArray = true)
    (h : wpQuiet P l.toArray (fun w' => ∃ x : Sub w.heap.size w, w' = x.w) (fun a' => ∀ w', (∃ x : Sub w.heap.size w, w' = x.w) → Q .normal a' w') l a) : (Code.region id l.toArray true).wp P Q a w :=
  wp_region_quiet (C := fun w' => ∃ x : Sub w.heap.size w, w' = x.w) hm hB ⟨⟨_, (Below.refl _ _).drew⟩, rfl⟩ (by simpa using h)
theorem Sub.cell {B : Nat} {w0 : World} {b o : Nat} {v : Value} (h : w0.cell? ⟨b, o, none⟩ = some v) (hb : b < B) : ∀ x : Sub B w0, x.w.cell? ⟨b, o, none⟩ = some v :=
  fun x => by rw [x.h.cell (p := ⟨b, o, none⟩) hb]; exact h

theorem results_tmp4 {fn : Func} {t u v x : Tmp} (h : fn.results = #[.tmp t, .tmp u, .tmp v, .tmp x]) (tmps : Array Value) (P : Program) (w : World) :
    (results fn tmps).run P w = .ok (.tuple #[tmps.getD t undef, tmps.getD u undef, tmps.getD v undef, tmps.getD x undef]) w := by simp [results, h]
theorem results_tmp5 {fn : Func} {t u v x y : Tmp} (h : fn.results = #[.tmp t, .tmp u, .tmp v, .tmp x, .tmp y]) (tmps : Array Value) (P : Program) (w : World) :
    (results fn tmps).run P w = .ok (.tuple #[tmps.getD t undef, tmps.getD u undef, tmps.getD v undef, tmps.getD x undef, tmps.getD y undef]) w := by simp [results, h]
end Go.Lott
