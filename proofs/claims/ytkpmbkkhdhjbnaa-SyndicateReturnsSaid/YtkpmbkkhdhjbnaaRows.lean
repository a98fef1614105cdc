/-
  No cell of these rows narrows 'for every input' (looked for: loops, veiled, ifaces, maps, wideKeys, modest, calm, conditions, laid).
  DERIVED. THE GIVEN ROWS OF THIS SEAT. 11 by the template 'for every input the law returns true; each argument reads behind the call as it read before'; 0 by the template 'total and deterministic' (their statements: YtkpmbkkhdhjbnaaTotals.lean).
  GIVEN WITH THE SEED: the statements are not yours to turn. If you find one false, say at which input.
  Laid BY PROGRAM, IN A SANDBOX (cutbox-rows.mjs): the forced cells as the released guide's own fill.sh prints them over the translation 93ad697ed1d75ef2… (all of the seat's roots in one cut). By AI agents, Wed Nov 11 2026. No macro, syntax, notation, axiom, sorry.
-/
import Derived.Test.YtkpmbkkhdhjbnaaChecked
import GoSem.Claim
import GoSem.ClaimJoined
import GoSem.ClaimMapViews
import Derived.JoinedTies
import Derived.KernelRfl
namespace Go.Proofs.Ytkpmbkkhdhjbnaa
/- THE CELL 'sum', in the pinned program and in every row, IS THE sha256 OF THE DUMP (.gsa) THAT YtkpmbkkhdhjbnaaProg.lean LOADS. Nothing in Lean hashes anything: it is a label: what it is worth is what the hold of that sum in a sandbox is worth. -/
noncomputable def Try.pinned : Pinned := { name := "ytkpmbkkhdhjbnaa", sum := "93ad697ed1d75ef282ec7615346acfe21d9a0ed4b2851504b9aa2615976028ed", checked := Try.checked }
namespace Rows
def none {H : Type} : Left H := { results := [], args := [] }

/-- 'lotterylaw39.AnnuityPlans': WHATEVER THE INPUT: true; the input reads as it did. -/
def annuityPlansSpec : ChangeSpec := { name := "annuityPlans", fn := fun _ => fun
  | [d1, d2, d3] => { results := [.lit (.bool true)], args := [d1, d2, d3] }
  | _ => none }
def annuityPlansRow : OpenClaim := { program := "ytkpmbkkhdhjbnaa", sum := "93ad697ed1d75ef282ec7615346acfe21d9a0ed4b2851504b9aa2615976028ed", func := "lottery/lotterylaw39.AnnuityPlans", spec := "annuityPlans", inPlace := ["internal/reflectlite.ValueOf", "internal/reflectlite.Swapper", "(internal/reflectlite.Value).Len"], unfollowed := true, recurses := true, named := ["math/bits.divideError", "math/bits.overflowError"], apart := false }
def AnnuityPlansSaid : Prop := annuityPlansRow.holds Try.pinned (OpenSpec.ofChange annuityPlansSpec)

/-- ITS FALSE NEIGHBOUR: 'it returns false'. Refute it at one input. -/
def annuityPlansWrong : ChangeSpec := { name := "annuityPlans", fn := fun _ => fun
  | [d1, d2, d3] => { results := [.lit (.bool false)], args := [d1, d2, d3] }
  | _ => none }
def AnnuityPlansWrongFalsely : Prop := annuityPlansRow.holds Try.pinned (OpenSpec.ofChange annuityPlansWrong)

/-- 'lotterylaw39.AnnuityCashes': WHATEVER THE INPUT: true; the input reads as it did. -/
def annuityCashesSpec : ChangeSpec := { name := "annuityCashes", fn := fun _ => fun
  | [d1, d2, d3] => { results := [.lit (.bool true)], args := [d1, d2, d3] }
  | _ => none }
def annuityCashesRow : OpenClaim := { program := "ytkpmbkkhdhjbnaa", sum := "93ad697ed1d75ef282ec7615346acfe21d9a0ed4b2851504b9aa2615976028ed", func := "lottery/lotterylaw39.AnnuityCashes", spec := "annuityCashes", inPlace := ["internal/reflectlite.ValueOf", "internal/reflectlite.Swapper", "(internal/reflectlite.Value).Len"], unfollowed := true, recurses := true, named := ["math/bits.divideError", "math/bits.overflowError"], apart := false }
def AnnuityCashesSaid : Prop := annuityCashesRow.holds Try.pinned (OpenSpec.ofChange annuityCashesSpec)

/-- ITS FALSE NEIGHBOUR: 'it returns false'. Refute it at one input. -/
def annuityCashesWrong : ChangeSpec := { name := "annuityCashes", fn := fun _ => fun
  | [d1, d2, d3] => { results := [.lit (.bool false)], args := [d1, d2, d3] }
  | _ => none }
def AnnuityCashesWrongFalsely : Prop := annuityCashesRow.holds Try.pinned (OpenSpec.ofChange annuityCashesWrong)

/-- 'lotterylaw39.AnnuityPays': WHATEVER THE INPUT: true; the input reads as it did. -/
def annuityPaysSpec : ChangeSpec := { name := "annuityPays", fn := fun _ => fun
  | [d1, d2, d3] => { results := [.lit (.bool true)], args := [d1, d2, d3] }
  | _ => none }
def annuityPaysRow : OpenClaim := { program := "ytkpmbkkhdhjbnaa", sum := "93ad697ed1d75ef282ec7615346acfe21d9a0ed4b2851504b9aa2615976028ed", func := "lottery/lotterylaw39.AnnuityPays", spec := "annuityPays", inPlace := ["internal/reflectlite.ValueOf", "internal/reflectlite.Swapper", "(internal/reflectlite.Value).Len"], unfollowed := true, recurses := true, named := ["math/bits.divideError", "math/bits.overflowError"], apart := false }
def AnnuityPaysSaid : Prop := annuityPaysRow.holds Try.pinned (OpenSpec.ofChange annuityPaysSpec)

/-- ITS FALSE NEIGHBOUR: 'it returns false'. Refute it at one input. -/
def annuityPaysWrong : ChangeSpec := { name := "annuityPays", fn := fun _ => fun
  | [d1, d2, d3] => { results := [.lit (.bool false)], args := [d1, d2, d3] }
  | _ => none }
def AnnuityPaysWrongFalsely : Prop := annuityPaysRow.holds Try.pinned (OpenSpec.ofChange annuityPaysWrong)

/-- 'lotterylaw39.AnnuityValues': WHATEVER THE INPUT: true; the input reads as it did. -/
def annuityValuesSpec : ChangeSpec := { name := "annuityValues", fn := fun _ => fun
  | [d1, d2, d3] => { results := [.lit (.bool true)], args := [d1, d2, d3] }
  | _ => none }
def annuityValuesRow : OpenClaim := { program := "ytkpmbkkhdhjbnaa", sum := "93ad697ed1d75ef282ec7615346acfe21d9a0ed4b2851504b9aa2615976028ed", func := "lottery/lotterylaw39.AnnuityValues", spec := "annuityValues", inPlace := ["internal/reflectlite.ValueOf", "internal/reflectlite.Swapper", "(internal/reflectlite.Value).Len"], unfollowed := true, recurses := true, named := ["math/bits.divideError", "math/bits.overflowError"], apart := false }
def AnnuityValuesSaid : Prop := annuityValuesRow.holds Try.pinned (OpenSpec.ofChange annuityValuesSpec)

/-- ITS FALSE NEIGHBOUR: 'it returns false'. Refute it at one input. -/
def annuityValuesWrong : ChangeSpec := { name := "annuityValues", fn := fun _ => fun
  | [d1, d2, d3] => { results := [.lit (.bool false)], args := [d1, d2, d3] }
  | _ => none }
def AnnuityValuesWrongFalsely : Prop := annuityValuesRow.holds Try.pinned (OpenSpec.ofChange annuityValuesWrong)

/-- 'lotterylaw39.AnnuityRests': WHATEVER THE INPUT: true; the input reads as it did. -/
def annuityRestsSpec : ChangeSpec := { name := "annuityRests", fn := fun _ => fun
  | [d] => { results := [.lit (.bool true)], args := [d] }
  | _ => none }
def annuityRestsRow : OpenClaim := { program := "ytkpmbkkhdhjbnaa", sum := "93ad697ed1d75ef282ec7615346acfe21d9a0ed4b2851504b9aa2615976028ed", func := "lottery/lotterylaw39.AnnuityRests", spec := "annuityRests", inPlace := ["internal/reflectlite.ValueOf", "internal/reflectlite.Swapper", "(internal/reflectlite.Value).Len"], unfollowed := true, recurses := true, named := ["math/bits.divideError", "math/bits.overflowError"], apart := false }
def AnnuityRestsSaid : Prop := annuityRestsRow.holds Try.pinned (OpenSpec.ofChange annuityRestsSpec)

/-- ITS FALSE NEIGHBOUR: 'it returns false'. Refute it at one input. -/
def annuityRestsWrong : ChangeSpec := { name := "annuityRests", fn := fun _ => fun
  | [d] => { results := [.lit (.bool false)], args := [d] }
  | _ => none }
def AnnuityRestsWrongFalsely : Prop := annuityRestsRow.holds Try.pinned (OpenSpec.ofChange annuityRestsWrong)

/-- 'lotterylaw39.AnnuityWorth': WHATEVER THE INPUT: true; the input reads as it did. -/
def annuityWorthSpec : ChangeSpec := { name := "annuityWorth", fn := fun _ => fun
  | [d1, d2, d3] => { results := [.lit (.bool true)], args := [d1, d2, d3] }
  | _ => none }
def annuityWorthRow : OpenClaim := { program := "ytkpmbkkhdhjbnaa", sum := "93ad697ed1d75ef282ec7615346acfe21d9a0ed4b2851504b9aa2615976028ed", func := "lottery/lotterylaw39.AnnuityWorth", spec := "annuityWorth", inPlace := ["internal/reflectlite.ValueOf", "internal/reflectlite.Swapper", "(internal/reflectlite.Value).Len"], unfollowed := true, recurses := true, named := ["math/bits.divideError", "math/bits.overflowError"], apart := false }
def AnnuityWorthSaid : Prop := annuityWorthRow.holds Try.pinned (OpenSpec.ofChange annuityWorthSpec)

/-- ITS FALSE NEIGHBOUR: 'it returns false'. Refute it at one input. -/
def annuityWorthWrong : ChangeSpec := { name := "annuityWorth", fn := fun _ => fun
  | [d1, d2, d3] => { results := [.lit (.bool false)], args := [d1, d2, d3] }
  | _ => none }
def AnnuityWorthWrongFalsely : Prop := annuityWorthRow.holds Try.pinned (OpenSpec.ofChange annuityWorthWrong)

/-- 'lotterylaw23.SyndicateChecks': WHATEVER THE INPUT: true; the input reads as it did. -/
def syndicateChecksSpec : ChangeSpec := { name := "syndicateChecks", fn := fun _ => fun
  | [d1, d2] => { results := [.lit (.bool true)], args := [d1, d2] }
  | _ => none }
def syndicateChecksRow : OpenClaim := { program := "ytkpmbkkhdhjbnaa", sum := "93ad697ed1d75ef282ec7615346acfe21d9a0ed4b2851504b9aa2615976028ed", func := "lottery/lotterylaw23.SyndicateChecks", spec := "syndicateChecks", inPlace := ["internal/reflectlite.ValueOf", "internal/reflectlite.Swapper", "(internal/reflectlite.Value).Len"], unfollowed := true, recurses := true, named := ["math/bits.divideError", "math/bits.overflowError"], apart := false }
def SyndicateChecksSaid : Prop := syndicateChecksRow.holds Try.pinned (OpenSpec.ofChange syndicateChecksSpec)

/-- ITS FALSE NEIGHBOUR: 'it returns false'. Refute it at one input. -/
def syndicateChecksWrong : ChangeSpec := { name := "syndicateChecks", fn := fun _ => fun
  | [d1, d2] => { results := [.lit (.bool false)], args := [d1, d2] }
  | _ => none }
def SyndicateChecksWrongFalsely : Prop := syndicateChecksRow.holds Try.pinned (OpenSpec.ofChange syndicateChecksWrong)

/-- 'lotterylaw23.SyndicateTransfers': WHATEVER THE INPUT: true; the input reads as it did. -/
def syndicateTransfersSpec : ChangeSpec := { name := "syndicateTransfers", fn := fun _ => fun
  | [d1, d2] => { results := [.lit (.bool true)], args := [d1, d2] }
  | _ => none }
def syndicateTransfersRow : OpenClaim := { program := "ytkpmbkkhdhjbnaa", sum := "93ad697ed1d75ef282ec7615346acfe21d9a0ed4b2851504b9aa2615976028ed", func := "lottery/lotterylaw23.SyndicateTransfers", spec := "syndicateTransfers", inPlace := ["internal/reflectlite.ValueOf", "internal/reflectlite.Swapper", "(internal/reflectlite.Value).Len"], unfollowed := true, recurses := true, named := ["math/bits.divideError", "math/bits.overflowError"], apart := false }
def SyndicateTransfersSaid : Prop := syndicateTransfersRow.holds Try.pinned (OpenSpec.ofChange syndicateTransfersSpec)

/-- ITS FALSE NEIGHBOUR: 'it returns false'. Refute it at one input. -/
def syndicateTransfersWrong : ChangeSpec := { name := "syndicateTransfers", fn := fun _ => fun
  | [d1, d2] => { results := [.lit (.bool false)], args := [d1, d2] }
  | _ => none }
def SyndicateTransfersWrongFalsely : Prop := syndicateTransfersRow.holds Try.pinned (OpenSpec.ofChange syndicateTransfersWrong)

/-- 'lotterylaw23.SyndicatePays': WHATEVER THE INPUT: true; the input reads as it did. -/
def syndicatePaysSpec : ChangeSpec := { name := "syndicatePays", fn := fun _ => fun
  | [d1, d2] => { results := [.lit (.bool true)], args := [d1, d2] }
  | _ => none }
def syndicatePaysRow : OpenClaim := { program := "ytkpmbkkhdhjbnaa", sum := "93ad697ed1d75ef282ec7615346acfe21d9a0ed4b2851504b9aa2615976028ed", func := "lottery/lotterylaw23.SyndicatePays", spec := "syndicatePays", inPlace := ["internal/reflectlite.ValueOf", "internal/reflectlite.Swapper", "(internal/reflectlite.Value).Len"], unfollowed := true, recurses := true, named := ["math/bits.divideError", "math/bits.overflowError"], apart := false }
def SyndicatePaysSaid : Prop := syndicatePaysRow.holds Try.pinned (OpenSpec.ofChange syndicatePaysSpec)

/-- ITS FALSE NEIGHBOUR: 'it returns false'. Refute it at one input. -/
def syndicatePaysWrong : ChangeSpec := { name := "syndicatePays", fn := fun _ => fun
  | [d1, d2] => { results := [.lit (.bool false)], args := [d1, d2] }
  | _ => none }
def SyndicatePaysWrongFalsely : Prop := syndicatePaysRow.holds Try.pinned (OpenSpec.ofChange syndicatePaysWrong)

/-- 'lotterylaw23.SyndicateKeeps': WHATEVER THE INPUT: true; the input reads as it did. -/
def syndicateKeepsSpec : ChangeSpec := { name := "syndicateKeeps", fn := fun _ => fun
  | [d1, d2] => { results := [.lit (.bool true)], args := [d1, d2] }
  | _ => none }
def syndicateKeepsRow : OpenClaim := { program := "ytkpmbkkhdhjbnaa", sum := "93ad697ed1d75ef282ec7615346acfe21d9a0ed4b2851504b9aa2615976028ed", func := "lottery/lotterylaw23.SyndicateKeeps", spec := "syndicateKeeps", inPlace := ["internal/reflectlite.ValueOf", "internal/reflectlite.Swapper", "(internal/reflectlite.Value).Len"], unfollowed := true, recurses := true, named := ["math/bits.divideError", "math/bits.overflowError"], apart := false }
def SyndicateKeepsSaid : Prop := syndicateKeepsRow.holds Try.pinned (OpenSpec.ofChange syndicateKeepsSpec)

/-- ITS FALSE NEIGHBOUR: 'it returns false'. Refute it at one input. -/
def syndicateKeepsWrong : ChangeSpec := { name := "syndicateKeeps", fn := fun _ => fun
  | [d1, d2] => { results := [.lit (.bool false)], args := [d1, d2] }
  | _ => none }
def SyndicateKeepsWrongFalsely : Prop := syndicateKeepsRow.holds Try.pinned (OpenSpec.ofChange syndicateKeepsWrong)

/-- 'lotterylaw23.SyndicateReturns': WHATEVER THE INPUT: true; the input reads as it did. -/
def syndicateReturnsSpec : ChangeSpec := { name := "syndicateReturns", fn := fun _ => fun
  | [d1, d2] => { results := [.lit (.bool true)], args := [d1, d2] }
  | _ => none }
def syndicateReturnsRow : OpenClaim := { program := "ytkpmbkkhdhjbnaa", sum := "93ad697ed1d75ef282ec7615346acfe21d9a0ed4b2851504b9aa2615976028ed", func := "lottery/lotterylaw23.SyndicateReturns", spec := "syndicateReturns", inPlace := ["internal/reflectlite.ValueOf", "internal/reflectlite.Swapper", "(internal/reflectlite.Value).Len"], unfollowed := true, recurses := true, named := ["math/bits.divideError", "math/bits.overflowError"], apart := false }
def SyndicateReturnsSaid : Prop := syndicateReturnsRow.holds Try.pinned (OpenSpec.ofChange syndicateReturnsSpec)

/-- ITS FALSE NEIGHBOUR: 'it returns false'. Refute it at one input. -/
def syndicateReturnsWrong : ChangeSpec := { name := "syndicateReturns", fn := fun _ => fun
  | [d1, d2] => { results := [.lit (.bool false)], args := [d1, d2] }
  | _ => none }
def SyndicateReturnsWrongFalsely : Prop := syndicateReturnsRow.holds Try.pinned (OpenSpec.ofChange syndicateReturnsWrong)

/- THE SECOND FORM. 'bulk': how many values and letters a reading holds, each counted each time it is reached (what is shared counts as often as it is met; a slice's spare places count too). A statement '..UptoSaid' is the law's where the arguments, and the package variables that the reading takes, are together of bulk at most 1048576: NARROWER than '..Said'. Prove '..Said' where nothing that the law and all that it calls make is longer than what came in: it says more and counts as full. Else prove '..UptoSaid'. A law counts once. -/
mutual
def uptoBulk {H : Type} : DataW H → Nat
  | .lit (.string bytes) => bytes.length + 1
  | .lit _ => 1
  | .nil => 1
  | .ptr d => uptoBulk d + 1
  | .slice elems spare => uptoBulkAll elems + uptoBulkAll spare + 1
  | .agg parts => uptoBulkAll parts + 1
  | .iface _ d => uptoBulk d + 1
  | .map entries => uptoBulkEntries entries + 1
  | .held _ => 1
def uptoBulkAll {H : Type} : List (DataW H) → Nat
  | [] => 0
  | d :: r => uptoBulk d + uptoBulkAll r
def uptoBulkEntries {H : Type} : List (Lit × DataW H) → Nat
  | [] => 0
  | x :: r => uptoBulkEntry x + uptoBulkEntries r
def uptoBulkEntry {H : Type} : Lit × DataW H → Nat
  | (.string bytes, d) => bytes.length + uptoBulk d + 1
  | (_, d) => uptoBulk d + 1
 end
def uptoSmall : (H : Type) → List (DataW H) → Bool := fun _ ds => decide (uptoBulkAll ds ≤ 1048576)
def OpenSpec.upto (s : _root_.Go.ChangeSpec) : _root_.Go.OpenSpec := { _root_.Go.OpenSpec.ofChange s with cond := some uptoSmall }

/-- 'lotterylaw39.AnnuityPlans', WHERE WHAT IT READS IS OF BULK AT MOST 1048576: true; the input reads as it did. -/
def annuityPlansUptoRow : OpenClaim := { program := "ytkpmbkkhdhjbnaa", sum := "93ad697ed1d75ef282ec7615346acfe21d9a0ed4b2851504b9aa2615976028ed", func := "lottery/lotterylaw39.AnnuityPlans", spec := "annuityPlans", inPlace := ["internal/reflectlite.ValueOf", "internal/reflectlite.Swapper", "(internal/reflectlite.Value).Len"], unfollowed := true, recurses := true, named := ["math/bits.divideError", "math/bits.overflowError"], apart := false, narrowed := true }
def AnnuityPlansUptoSaid : Prop := annuityPlansUptoRow.holds Try.pinned (OpenSpec.upto annuityPlansSpec)

/-- 'lotterylaw39.AnnuityCashes', WHERE WHAT IT READS IS OF BULK AT MOST 1048576: true; the input reads as it did. -/
def annuityCashesUptoRow : OpenClaim := { program := "ytkpmbkkhdhjbnaa", sum := "93ad697ed1d75ef282ec7615346acfe21d9a0ed4b2851504b9aa2615976028ed", func := "lottery/lotterylaw39.AnnuityCashes", spec := "annuityCashes", inPlace := ["internal/reflectlite.ValueOf", "internal/reflectlite.Swapper", "(internal/reflectlite.Value).Len"], unfollowed := true, recurses := true, named := ["math/bits.divideError", "math/bits.overflowError"], apart := false, narrowed := true }
def AnnuityCashesUptoSaid : Prop := annuityCashesUptoRow.holds Try.pinned (OpenSpec.upto annuityCashesSpec)

/-- 'lotterylaw39.AnnuityPays', WHERE WHAT IT READS IS OF BULK AT MOST 1048576: true; the input reads as it did. -/
def annuityPaysUptoRow : OpenClaim := { program := "ytkpmbkkhdhjbnaa", sum := "93ad697ed1d75ef282ec7615346acfe21d9a0ed4b2851504b9aa2615976028ed", func := "lottery/lotterylaw39.AnnuityPays", spec := "annuityPays", inPlace := ["internal/reflectlite.ValueOf", "internal/reflectlite.Swapper", "(internal/reflectlite.Value).Len"], unfollowed := true, recurses := true, named := ["math/bits.divideError", "math/bits.overflowError"], apart := false, narrowed := true }
def AnnuityPaysUptoSaid : Prop := annuityPaysUptoRow.holds Try.pinned (OpenSpec.upto annuityPaysSpec)

/-- 'lotterylaw39.AnnuityValues', WHERE WHAT IT READS IS OF BULK AT MOST 1048576: true; the input reads as it did. -/
def annuityValuesUptoRow : OpenClaim := { program := "ytkpmbkkhdhjbnaa", sum := "93ad697ed1d75ef282ec7615346acfe21d9a0ed4b2851504b9aa2615976028ed", func := "lottery/lotterylaw39.AnnuityValues", spec := "annuityValues", inPlace := ["internal/reflectlite.ValueOf", "internal/reflectlite.Swapper", "(internal/reflectlite.Value).Len"], unfollowed := true, recurses := true, named := ["math/bits.divideError", "math/bits.overflowError"], apart := false, narrowed := true }
def AnnuityValuesUptoSaid : Prop := annuityValuesUptoRow.holds Try.pinned (OpenSpec.upto annuityValuesSpec)

/-- 'lotterylaw39.AnnuityRests', WHERE WHAT IT READS IS OF BULK AT MOST 1048576: true; the input reads as it did. -/
def annuityRestsUptoRow : OpenClaim := { program := "ytkpmbkkhdhjbnaa", sum := "93ad697ed1d75ef282ec7615346acfe21d9a0ed4b2851504b9aa2615976028ed", func := "lottery/lotterylaw39.AnnuityRests", spec := "annuityRests", inPlace := ["internal/reflectlite.ValueOf", "internal/reflectlite.Swapper", "(internal/reflectlite.Value).Len"], unfollowed := true, recurses := true, named := ["math/bits.divideError", "math/bits.overflowError"], apart := false, narrowed := true }
def AnnuityRestsUptoSaid : Prop := annuityRestsUptoRow.holds Try.pinned (OpenSpec.upto annuityRestsSpec)

/-- 'lotterylaw39.AnnuityWorth', WHERE WHAT IT READS IS OF BULK AT MOST 1048576: true; the input reads as it did. -/
def annuityWorthUptoRow : OpenClaim := { program := "ytkpmbkkhdhjbnaa", sum := "93ad697ed1d75ef282ec7615346acfe21d9a0ed4b2851504b9aa2615976028ed", func := "lottery/lotterylaw39.AnnuityWorth", spec := "annuityWorth", inPlace := ["internal/reflectlite.ValueOf", "internal/reflectlite.Swapper", "(internal/reflectlite.Value).Len"], unfollowed := true, recurses := true, named := ["math/bits.divideError", "math/bits.overflowError"], apart := false, narrowed := true }
def AnnuityWorthUptoSaid : Prop := annuityWorthUptoRow.holds Try.pinned (OpenSpec.upto annuityWorthSpec)

/-- 'lotterylaw23.SyndicateChecks', WHERE WHAT IT READS IS OF BULK AT MOST 1048576: true; the input reads as it did. -/
def syndicateChecksUptoRow : OpenClaim := { program := "ytkpmbkkhdhjbnaa", sum := "93ad697ed1d75ef282ec7615346acfe21d9a0ed4b2851504b9aa2615976028ed", func := "lottery/lotterylaw23.SyndicateChecks", spec := "syndicateChecks", inPlace := ["internal/reflectlite.ValueOf", "internal/reflectlite.Swapper", "(internal/reflectlite.Value).Len"], unfollowed := true, recurses := true, named := ["math/bits.divideError", "math/bits.overflowError"], apart := false, narrowed := true }
def SyndicateChecksUptoSaid : Prop := syndicateChecksUptoRow.holds Try.pinned (OpenSpec.upto syndicateChecksSpec)

/-- 'lotterylaw23.SyndicateTransfers', WHERE WHAT IT READS IS OF BULK AT MOST 1048576: true; the input reads as it did. -/
def syndicateTransfersUptoRow : OpenClaim := { program := "ytkpmbkkhdhjbnaa", sum := "93ad697ed1d75ef282ec7615346acfe21d9a0ed4b2851504b9aa2615976028ed", func := "lottery/lotterylaw23.SyndicateTransfers", spec := "syndicateTransfers", inPlace := ["internal/reflectlite.ValueOf", "internal/reflectlite.Swapper", "(internal/reflectlite.Value).Len"], unfollowed := true, recurses := true, named := ["math/bits.divideError", "math/bits.overflowError"], apart := false, narrowed := true }
def SyndicateTransfersUptoSaid : Prop := syndicateTransfersUptoRow.holds Try.pinned (OpenSpec.upto syndicateTransfersSpec)

/-- 'lotterylaw23.SyndicatePays', WHERE WHAT IT READS IS OF BULK AT MOST 1048576: true; the input reads as it did. -/
def syndicatePaysUptoRow : OpenClaim := { program := "ytkpmbkkhdhjbnaa", sum := "93ad697ed1d75ef282ec7615346acfe21d9a0ed4b2851504b9aa2615976028ed", func := "lottery/lotterylaw23.SyndicatePays", spec := "syndicatePays", inPlace := ["internal/reflectlite.ValueOf", "internal/reflectlite.Swapper", "(internal/reflectlite.Value).Len"], unfollowed := true, recurses := true, named := ["math/bits.divideError", "math/bits.overflowError"], apart := false, narrowed := true }
def SyndicatePaysUptoSaid : Prop := syndicatePaysUptoRow.holds Try.pinned (OpenSpec.upto syndicatePaysSpec)

/-- 'lotterylaw23.SyndicateKeeps', WHERE WHAT IT READS IS OF BULK AT MOST 1048576: true; the input reads as it did. -/
def syndicateKeepsUptoRow : OpenClaim := { program := "ytkpmbkkhdhjbnaa", sum := "93ad697ed1d75ef282ec7615346acfe21d9a0ed4b2851504b9aa2615976028ed", func := "lottery/lotterylaw23.SyndicateKeeps", spec := "syndicateKeeps", inPlace := ["internal/reflectlite.ValueOf", "internal/reflectlite.Swapper", "(internal/reflectlite.Value).Len"], unfollowed := true, recurses := true, named := ["math/bits.divideError", "math/bits.overflowError"], apart := false, narrowed := true }
def SyndicateKeepsUptoSaid : Prop := syndicateKeepsUptoRow.holds Try.pinned (OpenSpec.upto syndicateKeepsSpec)

/-- 'lotterylaw23.SyndicateReturns', WHERE WHAT IT READS IS OF BULK AT MOST 1048576: true; the input reads as it did. -/
def syndicateReturnsUptoRow : OpenClaim := { program := "ytkpmbkkhdhjbnaa", sum := "93ad697ed1d75ef282ec7615346acfe21d9a0ed4b2851504b9aa2615976028ed", func := "lottery/lotterylaw23.SyndicateReturns", spec := "syndicateReturns", inPlace := ["internal/reflectlite.ValueOf", "internal/reflectlite.Swapper", "(internal/reflectlite.Value).Len"], unfollowed := true, recurses := true, named := ["math/bits.divideError", "math/bits.overflowError"], apart := false, narrowed := true }
def SyndicateReturnsUptoSaid : Prop := syndicateReturnsUptoRow.holds Try.pinned (OpenSpec.upto syndicateReturnsSpec)

end Rows
end Go.Proofs.Ytkpmbkkhdhjbnaa
