/-
  No cell of these rows narrows 'for every input' (looked for: loops, veiled, ifaces, maps, wideKeys, modest, calm, conditions, laid).
  DERIVED. THE GIVEN ROWS OF THIS SEAT. 2 by the template 'for every input the law returns true; each argument reads behind the call as it read before'; 0 by the template 'total and deterministic' (their statements: YtainelkenkgppaaTotals.lean).
  GIVEN WITH THE SEED: the statements are not yours to turn. If you find one false, say at which input.
  Laid BY PROGRAM, IN A SANDBOX (cutbox-rows.mjs): the forced cells as the released guide's own fill.sh prints them over the translation 79a1c050309ac6b0… (all of the seat's roots in one cut). By AI agents, Wed Nov 11 2026. No macro, syntax, notation, axiom, sorry.
-/
import Derived.Test.YtainelkenkgppaaChecked
import GoSem.Claim
import GoSem.ClaimJoined
import GoSem.ClaimMapViews
import Derived.JoinedTies
import Derived.KernelRfl
namespace Go.Proofs.Ytainelkenkgppaa
/- THE CELL 'sum', in the pinned program and in every row, IS THE sha256 OF THE DUMP (.gsa) THAT YtainelkenkgppaaProg.lean LOADS. Nothing in Lean hashes anything: it is a label: what it is worth is what the hold of that sum in a sandbox is worth. -/
noncomputable def Try.pinned : Pinned := { name := "ytainelkenkgppaa", sum := "79a1c050309ac6b0b0dc319e717fccbd97df64839f602e42de324dd68afc3212", checked := Try.checked }
namespace Rows
def none {H : Type} : Left H := { results := [], args := [] }

/-- 'lotterylaw21.LimitEffects': WHATEVER THE INPUT: true; the input reads as it did. -/
def limitEffectsSpec : ChangeSpec := { name := "limitEffects", fn := fun _ => fun
  | [d1, d2] => { results := [.lit (.bool true)], args := [d1, d2] }
  | _ => none }
def limitEffectsRow : OpenClaim := { program := "ytainelkenkgppaa", sum := "79a1c050309ac6b0b0dc319e717fccbd97df64839f602e42de324dd68afc3212", func := "lottery/lotterylaw21.LimitEffects", spec := "limitEffects", unfollowed := true, recurses := true, apart := false }
def LimitEffectsSaid : Prop := limitEffectsRow.holds Try.pinned (OpenSpec.ofChange limitEffectsSpec)

/-- ITS FALSE NEIGHBOUR: 'it returns false'. Refute it at one input. -/
def limitEffectsWrong : ChangeSpec := { name := "limitEffects", fn := fun _ => fun
  | [d1, d2] => { results := [.lit (.bool false)], args := [d1, d2] }
  | _ => none }
def LimitEffectsWrongFalsely : Prop := limitEffectsRow.holds Try.pinned (OpenSpec.ofChange limitEffectsWrong)

/-- 'lotterylaw21.LimitWaits': WHATEVER THE INPUT: true; the input reads as it did. -/
def limitWaitsSpec : ChangeSpec := { name := "limitWaits", fn := fun _ => fun
  | [d1, d2, d3] => { results := [.lit (.bool true)], args := [d1, d2, d3] }
  | _ => none }
def limitWaitsRow : OpenClaim := { program := "ytainelkenkgppaa", sum := "79a1c050309ac6b0b0dc319e717fccbd97df64839f602e42de324dd68afc3212", func := "lottery/lotterylaw21.LimitWaits", spec := "limitWaits", unfollowed := true, recurses := true, apart := false }
def LimitWaitsSaid : Prop := limitWaitsRow.holds Try.pinned (OpenSpec.ofChange limitWaitsSpec)

/-- ITS FALSE NEIGHBOUR: 'it returns false'. Refute it at one input. -/
def limitWaitsWrong : ChangeSpec := { name := "limitWaits", fn := fun _ => fun
  | [d1, d2, d3] => { results := [.lit (.bool false)], args := [d1, d2, d3] }
  | _ => none }
def LimitWaitsWrongFalsely : Prop := limitWaitsRow.holds Try.pinned (OpenSpec.ofChange limitWaitsWrong)

/- THE SECOND FORM. 'bulk': how many values and letters a reading holds, each counted each time it is reached (what is shared counts as often as it is met; a slice's spare places count too). A statement '..UptoSaid' is the law's where the arguments, and the package variables that the reading takes, are together of bulk at most 1048576: NARROWER than '..Said'. Prove '..Said' where nothing that the law and all that it calls make is longer than what came in: it says more and counts as full. Else prove '..UptoSaid'. A law counts once. -/
mutual
def uptoBulk {H : Type} : DataW H → Nat
  | .lit (.string bytes) => bytes.length + 1
  | .lit _ => 1
  | .nil => 1
  | .ptr d => uptoBulk d + 1
  | .slice elems spare => uptoBulkAll elems + uptoBulkAll spare + 1
  | .agg parts => uptoBulkAll parts + 1
  | .iface _ d => uptoBulk d + 1
  | .map entries => uptoBulkEntries entries + 1
  | .held _ => 1
def uptoBulkAll {H : Type} : List (DataW H) → Nat
  | [] => 0
  | d :: r => uptoBulk d + uptoBulkAll r
def uptoBulkEntries {H : Type} : List (Lit × DataW H) → Nat
  | [] => 0
  | x :: r => uptoBulkEntry x + uptoBulkEntries r
def uptoBulkEntry {H : Type} : Lit × DataW H → Nat
  | (.string bytes, d) => bytes.length + uptoBulk d + 1
  | (_, d) => uptoBulk d + 1
 end
def uptoSmall : (H : Type) → List (DataW H) → Bool := fun _ ds => decide (uptoBulkAll ds ≤ 1048576)
def OpenSpec.upto (s : _root_.Go.ChangeSpec) : _root_.Go.OpenSpec := { _root_.Go.OpenSpec.ofChange s with cond := some uptoSmall }

/-- 'lotterylaw21.LimitEffects', WHERE WHAT IT READS IS OF BULK AT MOST 1048576: true; the input reads as it did. -/
def limitEffectsUptoRow : OpenClaim := { program := "ytainelkenkgppaa", sum := "79a1c050309ac6b0b0dc319e717fccbd97df64839f602e42de324dd68afc3212", func := "lottery/lotterylaw21.LimitEffects", spec := "limitEffects", unfollowed := true, recurses := true, apart := false, narrowed := true }
def LimitEffectsUptoSaid : Prop := limitEffectsUptoRow.holds Try.pinned (OpenSpec.upto limitEffectsSpec)

/-- 'lotterylaw21.LimitWaits', WHERE WHAT IT READS IS OF BULK AT MOST 1048576: true; the input reads as it did. -/
def limitWaitsUptoRow : OpenClaim := { program := "ytainelkenkgppaa", sum := "79a1c050309ac6b0b0dc319e717fccbd97df64839f602e42de324dd68afc3212", func := "lottery/lotterylaw21.LimitWaits", spec := "limitWaits", unfollowed := true, recurses := true, apart := false, narrowed := true }
def LimitWaitsUptoSaid : Prop := limitWaitsUptoRow.holds Try.pinned (OpenSpec.upto limitWaitsSpec)

end Rows
end Go.Proofs.Ytainelkenkgppaa
