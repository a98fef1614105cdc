/-
  NARROWER THAN 'FOR EVERY INPUT', by the rows' own cells (each row's printed sentence says how): LimitOrders: laid · LimitAllows: laid · PlayerDoes: laid · PlayerAges: laid · PlayerProtects: laid · PlayerErrors: laid · PlayerApart: laid · PlayerNobody: laid.
  DERIVED. THE GIVEN ROWS OF THIS SEAT. 8 by the template 'for every input the law returns true; each argument reads behind the call as it read before'; 0 by the template 'total and deterministic' (their statements: YtainelkenkgppaaDoorTotals.lean).
  GIVEN WITH THE SEED: the statements are not yours to turn. If you find one false, say at which input.
  Laid BY PROGRAM, IN A SANDBOX (cutbox-rows.mjs): the forced cells as the released guide's own fill.sh prints them over the translation f92147be3f19e340… (all of the seat's roots in one cut). By AI agents, Wed Nov 11 2026. No macro, syntax, notation, axiom, sorry.
-/
import Derived.Test.YtainelkenkgppaaDoorChecked
import GoSem.Claim
import GoSem.ClaimJoined
import GoSem.ClaimMapViews
import Derived.JoinedTies
import Derived.KernelRfl
namespace Go.Proofs.YtainelkenkgppaaDoor
/- THE CELL 'sum', in the pinned program and in every row, IS THE sha256 OF THE DUMP (.gsa) THAT YtainelkenkgppaaDoorProg.lean LOADS. Nothing in Lean hashes anything: it is a label: what it is worth is what the hold of that sum in a sandbox is worth. -/
noncomputable def Tryd.pinned : Pinned := { name := "ytainelkenkgppaadoor", sum := "f92147be3f19e3400ac39e56c4e03dd534118d3b7bc8b7242b03b92b67bf5999", checked := Tryd.checked }
namespace Rows
def none {H : Type} : Left H := { results := [], args := [] }

/- WHAT THE LISTED PACKAGE-LEVEL VARIABLES READ AS WHEN THE CALL BEGINS. Each datum BY PROGRAM (the guide's laid-datum.mjs) off the statement by which the dump's own 'gosem.cut.vars' lays the variable. In a bare row this is a premise. The card (YtainelkenkgppaaDoorCards.lean) ties it to the program's text. -/
def laid_lottery_calendar_monthDays {H : Type} : DataW H := .agg [.lit (.int .i64 0), .lit (.int .i64 31), .lit (.int .i64 28), .lit (.int .i64 31), .lit (.int .i64 30), .lit (.int .i64 31), .lit (.int .i64 30), .lit (.int .i64 31), .lit (.int .i64 31), .lit (.int .i64 30), .lit (.int .i64 31), .lit (.int .i64 30), .lit (.int .i64 31)]

/-- 'lotterylaw21.LimitOrders': WHATEVER THE INPUT: true; the input reads as it did. -/
def limitOrdersSpec : ChangeSpec := { name := "limitOrders", fn := fun _ => fun
  | [d1, d2, d3] => { results := [.lit (.bool true)], args := [d1, d2, d3] }
  | _ => none }
def limitOrdersRow : OpenClaim := { program := "ytainelkenkgppaadoor", sum := "f92147be3f19e3400ac39e56c4e03dd534118d3b7bc8b7242b03b92b67bf5999", func := "lottery/lotterylaw21.LimitOrders", spec := "limitOrders", unfollowed := true, recurses := true, named := ["lottery/calendar.monthDays"], apart := false, laid := [("lottery/calendar.monthDays", laid_lottery_calendar_monthDays)] }
def LimitOrdersSaid : Prop := limitOrdersRow.holds Tryd.pinned (OpenSpec.ofChange limitOrdersSpec)

/-- ITS FALSE NEIGHBOUR: 'it returns false'. Refute it at one input. -/
def limitOrdersWrong : ChangeSpec := { name := "limitOrders", fn := fun _ => fun
  | [d1, d2, d3] => { results := [.lit (.bool false)], args := [d1, d2, d3] }
  | _ => none }
def LimitOrdersWrongFalsely : Prop := limitOrdersRow.holds Tryd.pinned (OpenSpec.ofChange limitOrdersWrong)

/-- 'lotterylaw21.LimitAllows': WHATEVER THE INPUT: true; the input reads as it did. -/
def limitAllowsSpec : ChangeSpec := { name := "limitAllows", fn := fun _ => fun
  | [d1, d2, d3, d4] => { results := [.lit (.bool true)], args := [d1, d2, d3, d4] }
  | _ => none }
def limitAllowsRow : OpenClaim := { program := "ytainelkenkgppaadoor", sum := "f92147be3f19e3400ac39e56c4e03dd534118d3b7bc8b7242b03b92b67bf5999", func := "lottery/lotterylaw21.LimitAllows", spec := "limitAllows", unfollowed := true, recurses := true, named := ["lottery/calendar.monthDays"], apart := false, laid := [("lottery/calendar.monthDays", laid_lottery_calendar_monthDays)] }
def LimitAllowsSaid : Prop := limitAllowsRow.holds Tryd.pinned (OpenSpec.ofChange limitAllowsSpec)

/-- ITS FALSE NEIGHBOUR: 'it returns false'. Refute it at one input. -/
def limitAllowsWrong : ChangeSpec := { name := "limitAllows", fn := fun _ => fun
  | [d1, d2, d3, d4] => { results := [.lit (.bool false)], args := [d1, d2, d3, d4] }
  | _ => none }
def LimitAllowsWrongFalsely : Prop := limitAllowsRow.holds Tryd.pinned (OpenSpec.ofChange limitAllowsWrong)

/-- 'lotterylaw22.PlayerDoes': WHATEVER THE INPUT: true; the input reads as it did. -/
def playerDoesSpec : ChangeSpec := { name := "playerDoes", fn := fun _ => fun
  | [d] => { results := [.lit (.bool true)], args := [d] }
  | _ => none }
def playerDoesRow : OpenClaim := { program := "ytainelkenkgppaadoor", sum := "f92147be3f19e3400ac39e56c4e03dd534118d3b7bc8b7242b03b92b67bf5999", func := "lottery/lotterylaw22.PlayerDoes", spec := "playerDoes", unfollowed := true, recurses := true, named := ["lottery/calendar.monthDays"], apart := false, laid := [("lottery/calendar.monthDays", laid_lottery_calendar_monthDays)] }
def PlayerDoesSaid : Prop := playerDoesRow.holds Tryd.pinned (OpenSpec.ofChange playerDoesSpec)

/-- ITS FALSE NEIGHBOUR: 'it returns false'. Refute it at one input. -/
def playerDoesWrong : ChangeSpec := { name := "playerDoes", fn := fun _ => fun
  | [d] => { results := [.lit (.bool false)], args := [d] }
  | _ => none }
def PlayerDoesWrongFalsely : Prop := playerDoesRow.holds Tryd.pinned (OpenSpec.ofChange playerDoesWrong)

/-- 'lotterylaw22.PlayerAges': WHATEVER THE INPUT: true; the input reads as it did. -/
def playerAgesSpec : ChangeSpec := { name := "playerAges", fn := fun _ => fun
  | [d1, d2, d3] => { results := [.lit (.bool true)], args := [d1, d2, d3] }
  | _ => none }
def playerAgesRow : OpenClaim := { program := "ytainelkenkgppaadoor", sum := "f92147be3f19e3400ac39e56c4e03dd534118d3b7bc8b7242b03b92b67bf5999", func := "lottery/lotterylaw22.PlayerAges", spec := "playerAges", unfollowed := true, recurses := true, named := ["lottery/calendar.monthDays"], apart := false, laid := [("lottery/calendar.monthDays", laid_lottery_calendar_monthDays)] }
def PlayerAgesSaid : Prop := playerAgesRow.holds Tryd.pinned (OpenSpec.ofChange playerAgesSpec)

/-- ITS FALSE NEIGHBOUR: 'it returns false'. Refute it at one input. -/
def playerAgesWrong : ChangeSpec := { name := "playerAges", fn := fun _ => fun
  | [d1, d2, d3] => { results := [.lit (.bool false)], args := [d1, d2, d3] }
  | _ => none }
def PlayerAgesWrongFalsely : Prop := playerAgesRow.holds Tryd.pinned (OpenSpec.ofChange playerAgesWrong)

/-- 'lotterylaw22.PlayerProtects': WHATEVER THE INPUT: true; the input reads as it did. -/
def playerProtectsSpec : ChangeSpec := { name := "playerProtects", fn := fun _ => fun
  | [d] => { results := [.lit (.bool true)], args := [d] }
  | _ => none }
def playerProtectsRow : OpenClaim := { program := "ytainelkenkgppaadoor", sum := "f92147be3f19e3400ac39e56c4e03dd534118d3b7bc8b7242b03b92b67bf5999", func := "lottery/lotterylaw22.PlayerProtects", spec := "playerProtects", unfollowed := true, recurses := true, named := ["lottery/calendar.monthDays"], apart := false, laid := [("lottery/calendar.monthDays", laid_lottery_calendar_monthDays)] }
def PlayerProtectsSaid : Prop := playerProtectsRow.holds Tryd.pinned (OpenSpec.ofChange playerProtectsSpec)

/-- ITS FALSE NEIGHBOUR: 'it returns false'. Refute it at one input. -/
def playerProtectsWrong : ChangeSpec := { name := "playerProtects", fn := fun _ => fun
  | [d] => { results := [.lit (.bool false)], args := [d] }
  | _ => none }
def PlayerProtectsWrongFalsely : Prop := playerProtectsRow.holds Tryd.pinned (OpenSpec.ofChange playerProtectsWrong)

/-- 'lotterylaw22.PlayerErrors': WHATEVER THE INPUT: true; the input reads as it did. -/
def playerErrorsSpec : ChangeSpec := { name := "playerErrors", fn := fun _ => fun
  | [d] => { results := [.lit (.bool true)], args := [d] }
  | _ => none }
def playerErrorsRow : OpenClaim := { program := "ytainelkenkgppaadoor", sum := "f92147be3f19e3400ac39e56c4e03dd534118d3b7bc8b7242b03b92b67bf5999", func := "lottery/lotterylaw22.PlayerErrors", spec := "playerErrors", unfollowed := true, recurses := true, named := ["lottery/calendar.monthDays"], apart := false, laid := [("lottery/calendar.monthDays", laid_lottery_calendar_monthDays)] }
def PlayerErrorsSaid : Prop := playerErrorsRow.holds Tryd.pinned (OpenSpec.ofChange playerErrorsSpec)

/-- ITS FALSE NEIGHBOUR: 'it returns false'. Refute it at one input. -/
def playerErrorsWrong : ChangeSpec := { name := "playerErrors", fn := fun _ => fun
  | [d] => { results := [.lit (.bool false)], args := [d] }
  | _ => none }
def PlayerErrorsWrongFalsely : Prop := playerErrorsRow.holds Tryd.pinned (OpenSpec.ofChange playerErrorsWrong)

/-- 'lotterylaw22.PlayerApart': WHATEVER THE INPUT: true; the input reads as it did. -/
def playerApartSpec : ChangeSpec := { name := "playerApart", fn := fun _ => fun
  | [d1, d2] => { results := [.lit (.bool true)], args := [d1, d2] }
  | _ => none }
def playerApartRow : OpenClaim := { program := "ytainelkenkgppaadoor", sum := "f92147be3f19e3400ac39e56c4e03dd534118d3b7bc8b7242b03b92b67bf5999", func := "lottery/lotterylaw22.PlayerApart", spec := "playerApart", unfollowed := true, recurses := true, named := ["lottery/calendar.monthDays"], apart := false, laid := [("lottery/calendar.monthDays", laid_lottery_calendar_monthDays)] }
def PlayerApartSaid : Prop := playerApartRow.holds Tryd.pinned (OpenSpec.ofChange playerApartSpec)

/-- ITS FALSE NEIGHBOUR: 'it returns false'. Refute it at one input. -/
def playerApartWrong : ChangeSpec := { name := "playerApart", fn := fun _ => fun
  | [d1, d2] => { results := [.lit (.bool false)], args := [d1, d2] }
  | _ => none }
def PlayerApartWrongFalsely : Prop := playerApartRow.holds Tryd.pinned (OpenSpec.ofChange playerApartWrong)

/-- 'lotterylaw22.PlayerNobody': WHATEVER THE INPUT: true; the input reads as it did. -/
def playerNobodySpec : ChangeSpec := { name := "playerNobody", fn := fun _ => fun
  | [d] => { results := [.lit (.bool true)], args := [d] }
  | _ => none }
def playerNobodyRow : OpenClaim := { program := "ytainelkenkgppaadoor", sum := "f92147be3f19e3400ac39e56c4e03dd534118d3b7bc8b7242b03b92b67bf5999", func := "lottery/lotterylaw22.PlayerNobody", spec := "playerNobody", unfollowed := true, recurses := true, named := ["lottery/calendar.monthDays"], apart := false, laid := [("lottery/calendar.monthDays", laid_lottery_calendar_monthDays)] }
def PlayerNobodySaid : Prop := playerNobodyRow.holds Tryd.pinned (OpenSpec.ofChange playerNobodySpec)

/-- ITS FALSE NEIGHBOUR: 'it returns false'. Refute it at one input. -/
def playerNobodyWrong : ChangeSpec := { name := "playerNobody", fn := fun _ => fun
  | [d] => { results := [.lit (.bool false)], args := [d] }
  | _ => none }
def PlayerNobodyWrongFalsely : Prop := playerNobodyRow.holds Tryd.pinned (OpenSpec.ofChange playerNobodyWrong)

/- THE SECOND FORM. 'bulk': how many values and letters a reading holds, each counted each time it is reached (what is shared counts as often as it is met; a slice's spare places count too). A statement '..UptoSaid' is the law's where the arguments, and the package variables that the reading takes, are together of bulk at most 1048576: NARROWER than '..Said'. Prove '..Said' where nothing that the law and all that it calls make is longer than what came in: it says more and counts as full. Else prove '..UptoSaid'. A law counts once. -/
mutual
def uptoBulk {H : Type} : DataW H → Nat
  | .lit (.string bytes) => bytes.length + 1
  | .lit _ => 1
  | .nil => 1
  | .ptr d => uptoBulk d + 1
  | .slice elems spare => uptoBulkAll elems + uptoBulkAll spare + 1
  | .agg parts => uptoBulkAll parts + 1
  | .iface _ d => uptoBulk d + 1
  | .map entries => uptoBulkEntries entries + 1
  | .held _ => 1
def uptoBulkAll {H : Type} : List (DataW H) → Nat
  | [] => 0
  | d :: r => uptoBulk d + uptoBulkAll r
def uptoBulkEntries {H : Type} : List (Lit × DataW H) → Nat
  | [] => 0
  | x :: r => uptoBulkEntry x + uptoBulkEntries r
def uptoBulkEntry {H : Type} : Lit × DataW H → Nat
  | (.string bytes, d) => bytes.length + uptoBulk d + 1
  | (_, d) => uptoBulk d + 1
 end
def uptoSmall : (H : Type) → List (DataW H) → Bool := fun _ ds => decide (uptoBulkAll ds ≤ 1048576)
def OpenSpec.upto (s : _root_.Go.ChangeSpec) : _root_.Go.OpenSpec := { _root_.Go.OpenSpec.ofChange s with cond := some uptoSmall }

/-- 'lotterylaw21.LimitOrders', WHERE WHAT IT READS IS OF BULK AT MOST 1048576: true; the input reads as it did. -/
def limitOrdersUptoRow : OpenClaim := { program := "ytainelkenkgppaadoor", sum := "f92147be3f19e3400ac39e56c4e03dd534118d3b7bc8b7242b03b92b67bf5999", func := "lottery/lotterylaw21.LimitOrders", spec := "limitOrders", unfollowed := true, recurses := true, named := ["lottery/calendar.monthDays"], apart := false, laid := [("lottery/calendar.monthDays", laid_lottery_calendar_monthDays)], narrowed := true }
def LimitOrdersUptoSaid : Prop := limitOrdersUptoRow.holds Tryd.pinned (OpenSpec.upto limitOrdersSpec)

/-- 'lotterylaw21.LimitAllows', WHERE WHAT IT READS IS OF BULK AT MOST 1048576: true; the input reads as it did. -/
def limitAllowsUptoRow : OpenClaim := { program := "ytainelkenkgppaadoor", sum := "f92147be3f19e3400ac39e56c4e03dd534118d3b7bc8b7242b03b92b67bf5999", func := "lottery/lotterylaw21.LimitAllows", spec := "limitAllows", unfollowed := true, recurses := true, named := ["lottery/calendar.monthDays"], apart := false, laid := [("lottery/calendar.monthDays", laid_lottery_calendar_monthDays)], narrowed := true }
def LimitAllowsUptoSaid : Prop := limitAllowsUptoRow.holds Tryd.pinned (OpenSpec.upto limitAllowsSpec)

/-- 'lotterylaw22.PlayerDoes', WHERE WHAT IT READS IS OF BULK AT MOST 1048576: true; the input reads as it did. -/
def playerDoesUptoRow : OpenClaim := { program := "ytainelkenkgppaadoor", sum := "f92147be3f19e3400ac39e56c4e03dd534118d3b7bc8b7242b03b92b67bf5999", func := "lottery/lotterylaw22.PlayerDoes", spec := "playerDoes", unfollowed := true, recurses := true, named := ["lottery/calendar.monthDays"], apart := false, laid := [("lottery/calendar.monthDays", laid_lottery_calendar_monthDays)], narrowed := true }
def PlayerDoesUptoSaid : Prop := playerDoesUptoRow.holds Tryd.pinned (OpenSpec.upto playerDoesSpec)

/-- 'lotterylaw22.PlayerAges', WHERE WHAT IT READS IS OF BULK AT MOST 1048576: true; the input reads as it did. -/
def playerAgesUptoRow : OpenClaim := { program := "ytainelkenkgppaadoor", sum := "f92147be3f19e3400ac39e56c4e03dd534118d3b7bc8b7242b03b92b67bf5999", func := "lottery/lotterylaw22.PlayerAges", spec := "playerAges", unfollowed := true, recurses := true, named := ["lottery/calendar.monthDays"], apart := false, laid := [("lottery/calendar.monthDays", laid_lottery_calendar_monthDays)], narrowed := true }
def PlayerAgesUptoSaid : Prop := playerAgesUptoRow.holds Tryd.pinned (OpenSpec.upto playerAgesSpec)

/-- 'lotterylaw22.PlayerProtects', WHERE WHAT IT READS IS OF BULK AT MOST 1048576: true; the input reads as it did. -/
def playerProtectsUptoRow : OpenClaim := { program := "ytainelkenkgppaadoor", sum := "f92147be3f19e3400ac39e56c4e03dd534118d3b7bc8b7242b03b92b67bf5999", func := "lottery/lotterylaw22.PlayerProtects", spec := "playerProtects", unfollowed := true, recurses := true, named := ["lottery/calendar.monthDays"], apart := false, laid := [("lottery/calendar.monthDays", laid_lottery_calendar_monthDays)], narrowed := true }
def PlayerProtectsUptoSaid : Prop := playerProtectsUptoRow.holds Tryd.pinned (OpenSpec.upto playerProtectsSpec)

/-- 'lotterylaw22.PlayerErrors', WHERE WHAT IT READS IS OF BULK AT MOST 1048576: true; the input reads as it did. -/
def playerErrorsUptoRow : OpenClaim := { program := "ytainelkenkgppaadoor", sum := "f92147be3f19e3400ac39e56c4e03dd534118d3b7bc8b7242b03b92b67bf5999", func := "lottery/lotterylaw22.PlayerErrors", spec := "playerErrors", unfollowed := true, recurses := true, named := ["lottery/calendar.monthDays"], apart := false, laid := [("lottery/calendar.monthDays", laid_lottery_calendar_monthDays)], narrowed := true }
def PlayerErrorsUptoSaid : Prop := playerErrorsUptoRow.holds Tryd.pinned (OpenSpec.upto playerErrorsSpec)

/-- 'lotterylaw22.PlayerApart', WHERE WHAT IT READS IS OF BULK AT MOST 1048576: true; the input reads as it did. -/
def playerApartUptoRow : OpenClaim := { program := "ytainelkenkgppaadoor", sum := "f92147be3f19e3400ac39e56c4e03dd534118d3b7bc8b7242b03b92b67bf5999", func := "lottery/lotterylaw22.PlayerApart", spec := "playerApart", unfollowed := true, recurses := true, named := ["lottery/calendar.monthDays"], apart := false, laid := [("lottery/calendar.monthDays", laid_lottery_calendar_monthDays)], narrowed := true }
def PlayerApartUptoSaid : Prop := playerApartUptoRow.holds Tryd.pinned (OpenSpec.upto playerApartSpec)

/-- 'lotterylaw22.PlayerNobody', WHERE WHAT IT READS IS OF BULK AT MOST 1048576: true; the input reads as it did. -/
def playerNobodyUptoRow : OpenClaim := { program := "ytainelkenkgppaadoor", sum := "f92147be3f19e3400ac39e56c4e03dd534118d3b7bc8b7242b03b92b67bf5999", func := "lottery/lotterylaw22.PlayerNobody", spec := "playerNobody", unfollowed := true, recurses := true, named := ["lottery/calendar.monthDays"], apart := false, laid := [("lottery/calendar.monthDays", laid_lottery_calendar_monthDays)], narrowed := true }
def PlayerNobodyUptoSaid : Prop := playerNobodyUptoRow.holds Tryd.pinned (OpenSpec.upto playerNobodySpec)

end Rows
end Go.Proofs.YtainelkenkgppaaDoor
