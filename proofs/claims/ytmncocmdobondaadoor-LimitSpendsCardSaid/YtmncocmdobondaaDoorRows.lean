/-
  NARROWER THAN 'FOR EVERY INPUT', by the rows' own cells (each row's printed sentence says how): CalendarAges: laid · CalendarPeriods: laid · CalendarParts: laid · CalendarInverts: laid · CalendarDates: laid · LimitSpends: laid · CalendarTexts: laid · LimitOrders: laid · LimitAllows: laid.
  DERIVED. THE GIVEN ROWS OF THIS SEAT. 9 by the template 'for every input the law returns true; each argument reads behind the call as it read before'; 0 by the template 'total and deterministic' (their statements: YtmncocmdobondaaDoorTotals.lean).
  GIVEN WITH THE SEED: the statements are not yours to turn. If you find one false, say at which input.
  Laid BY PROGRAM, IN A SANDBOX (cutbox-rows.mjs): the forced cells as the released guide's own fill.sh prints them over the translation 1dfd4465e9d4faab… (all of the seat's roots in one cut). By AI agents, Wed Nov 11 2026. No macro, syntax, notation, axiom, sorry.
-/
import Derived.Test.YtmncocmdobondaaDoorChecked
import GoSem.Claim
import GoSem.ClaimJoined
import GoSem.ClaimMapViews
import Derived.JoinedTies
import Derived.KernelRfl
namespace Go.Proofs.YtmncocmdobondaaDoor
/- THE CELL 'sum', in the pinned program and in every row, IS THE sha256 OF THE DUMP (.gsa) THAT YtmncocmdobondaaDoorProg.lean LOADS. Nothing in Lean hashes anything: it is a label: what it is worth is what the hold of that sum in a sandbox is worth. -/
noncomputable def Tryd.pinned : Pinned := { name := "ytmncocmdobondaadoor", sum := "1dfd4465e9d4faab62ba690cc1860a7ee14106f5f10947bb23082eff90a53ee5", checked := Tryd.checked }
namespace Rows
def none {H : Type} : Left H := { results := [], args := [] }

/- WHAT THE LISTED PACKAGE-LEVEL VARIABLES READ AS WHEN THE CALL BEGINS. Each datum BY PROGRAM (the guide's laid-datum.mjs) off the statement by which the dump's own 'gosem.cut.vars' lays the variable. In a bare row this is a premise. The card (YtmncocmdobondaaDoorCards.lean) ties it to the program's text. -/
def laid_lottery_calendar_monthDays {H : Type} : DataW H := .agg [.lit (.int .i64 0), .lit (.int .i64 31), .lit (.int .i64 28), .lit (.int .i64 31), .lit (.int .i64 30), .lit (.int .i64 31), .lit (.int .i64 30), .lit (.int .i64 31), .lit (.int .i64 31), .lit (.int .i64 30), .lit (.int .i64 31), .lit (.int .i64 30), .lit (.int .i64 31)]

/-- 'lotterylaw06.CalendarAges': WHATEVER THE INPUT: true; the input reads as it did. -/
def calendarAgesSpec : ChangeSpec := { name := "calendarAges", fn := fun _ => fun
  | [d1, d2] => { results := [.lit (.bool true)], args := [d1, d2] }
  | _ => none }
def calendarAgesRow : OpenClaim := { program := "ytmncocmdobondaadoor", sum := "1dfd4465e9d4faab62ba690cc1860a7ee14106f5f10947bb23082eff90a53ee5", func := "lottery/lotterylaw06.CalendarAges", spec := "calendarAges", unfollowed := true, recurses := true, named := ["lottery/calendar.monthDays"], apart := false, laid := [("lottery/calendar.monthDays", laid_lottery_calendar_monthDays)] }
def CalendarAgesSaid : Prop := calendarAgesRow.holds Tryd.pinned (OpenSpec.ofChange calendarAgesSpec)

/-- ITS FALSE NEIGHBOUR: 'it returns false'. Refute it at one input. -/
def calendarAgesWrong : ChangeSpec := { name := "calendarAges", fn := fun _ => fun
  | [d1, d2] => { results := [.lit (.bool false)], args := [d1, d2] }
  | _ => none }
def CalendarAgesWrongFalsely : Prop := calendarAgesRow.holds Tryd.pinned (OpenSpec.ofChange calendarAgesWrong)

/-- 'lotterylaw06.CalendarPeriods': WHATEVER THE INPUT: true; the input reads as it did. -/
def calendarPeriodsSpec : ChangeSpec := { name := "calendarPeriods", fn := fun _ => fun
  | [d1, d2] => { results := [.lit (.bool true)], args := [d1, d2] }
  | _ => none }
def calendarPeriodsRow : OpenClaim := { program := "ytmncocmdobondaadoor", sum := "1dfd4465e9d4faab62ba690cc1860a7ee14106f5f10947bb23082eff90a53ee5", func := "lottery/lotterylaw06.CalendarPeriods", spec := "calendarPeriods", unfollowed := true, recurses := true, named := ["lottery/calendar.monthDays"], apart := false, laid := [("lottery/calendar.monthDays", laid_lottery_calendar_monthDays)] }
def CalendarPeriodsSaid : Prop := calendarPeriodsRow.holds Tryd.pinned (OpenSpec.ofChange calendarPeriodsSpec)

/-- ITS FALSE NEIGHBOUR: 'it returns false'. Refute it at one input. -/
def calendarPeriodsWrong : ChangeSpec := { name := "calendarPeriods", fn := fun _ => fun
  | [d1, d2] => { results := [.lit (.bool false)], args := [d1, d2] }
  | _ => none }
def CalendarPeriodsWrongFalsely : Prop := calendarPeriodsRow.holds Tryd.pinned (OpenSpec.ofChange calendarPeriodsWrong)

/-- 'lotterylaw06.CalendarParts': WHATEVER THE INPUT: true; the input reads as it did. -/
def calendarPartsSpec : ChangeSpec := { name := "calendarParts", fn := fun _ => fun
  | [d1, d2, d3] => { results := [.lit (.bool true)], args := [d1, d2, d3] }
  | _ => none }
def calendarPartsRow : OpenClaim := { program := "ytmncocmdobondaadoor", sum := "1dfd4465e9d4faab62ba690cc1860a7ee14106f5f10947bb23082eff90a53ee5", func := "lottery/lotterylaw06.CalendarParts", spec := "calendarParts", unfollowed := true, recurses := true, named := ["lottery/calendar.monthDays"], apart := false, laid := [("lottery/calendar.monthDays", laid_lottery_calendar_monthDays)] }
def CalendarPartsSaid : Prop := calendarPartsRow.holds Tryd.pinned (OpenSpec.ofChange calendarPartsSpec)

/-- ITS FALSE NEIGHBOUR: 'it returns false'. Refute it at one input. -/
def calendarPartsWrong : ChangeSpec := { name := "calendarParts", fn := fun _ => fun
  | [d1, d2, d3] => { results := [.lit (.bool false)], args := [d1, d2, d3] }
  | _ => none }
def CalendarPartsWrongFalsely : Prop := calendarPartsRow.holds Tryd.pinned (OpenSpec.ofChange calendarPartsWrong)

/-- 'lotterylaw06.CalendarInverts': WHATEVER THE INPUT: true; the input reads as it did. -/
def calendarInvertsSpec : ChangeSpec := { name := "calendarInverts", fn := fun _ => fun
  | [d] => { results := [.lit (.bool true)], args := [d] }
  | _ => none }
def calendarInvertsRow : OpenClaim := { program := "ytmncocmdobondaadoor", sum := "1dfd4465e9d4faab62ba690cc1860a7ee14106f5f10947bb23082eff90a53ee5", func := "lottery/lotterylaw06.CalendarInverts", spec := "calendarInverts", unfollowed := true, recurses := true, named := ["lottery/calendar.monthDays"], apart := false, laid := [("lottery/calendar.monthDays", laid_lottery_calendar_monthDays)] }
def CalendarInvertsSaid : Prop := calendarInvertsRow.holds Tryd.pinned (OpenSpec.ofChange calendarInvertsSpec)

/-- ITS FALSE NEIGHBOUR: 'it returns false'. Refute it at one input. -/
def calendarInvertsWrong : ChangeSpec := { name := "calendarInverts", fn := fun _ => fun
  | [d] => { results := [.lit (.bool false)], args := [d] }
  | _ => none }
def CalendarInvertsWrongFalsely : Prop := calendarInvertsRow.holds Tryd.pinned (OpenSpec.ofChange calendarInvertsWrong)

/-- 'lotterylaw06.CalendarDates': WHATEVER THE INPUT: true; the input reads as it did. -/
def calendarDatesSpec : ChangeSpec := { name := "calendarDates", fn := fun _ => fun
  | [d1, d2, d3, d4] => { results := [.lit (.bool true)], args := [d1, d2, d3, d4] }
  | _ => none }
def calendarDatesRow : OpenClaim := { program := "ytmncocmdobondaadoor", sum := "1dfd4465e9d4faab62ba690cc1860a7ee14106f5f10947bb23082eff90a53ee5", func := "lottery/lotterylaw06.CalendarDates", spec := "calendarDates", unfollowed := true, recurses := true, named := ["lottery/calendar.monthDays"], apart := false, laid := [("lottery/calendar.monthDays", laid_lottery_calendar_monthDays)] }
def CalendarDatesSaid : Prop := calendarDatesRow.holds Tryd.pinned (OpenSpec.ofChange calendarDatesSpec)

/-- ITS FALSE NEIGHBOUR: 'it returns false'. Refute it at one input. -/
def calendarDatesWrong : ChangeSpec := { name := "calendarDates", fn := fun _ => fun
  | [d1, d2, d3, d4] => { results := [.lit (.bool false)], args := [d1, d2, d3, d4] }
  | _ => none }
def CalendarDatesWrongFalsely : Prop := calendarDatesRow.holds Tryd.pinned (OpenSpec.ofChange calendarDatesWrong)

/-- 'lotterylaw21.LimitSpends': WHATEVER THE INPUT: true; the input reads as it did. -/
def limitSpendsSpec : ChangeSpec := { name := "limitSpends", fn := fun _ => fun
  | [d1, d2] => { results := [.lit (.bool true)], args := [d1, d2] }
  | _ => none }
def limitSpendsRow : OpenClaim := { program := "ytmncocmdobondaadoor", sum := "1dfd4465e9d4faab62ba690cc1860a7ee14106f5f10947bb23082eff90a53ee5", func := "lottery/lotterylaw21.LimitSpends", spec := "limitSpends", unfollowed := true, recurses := true, named := ["lottery/calendar.monthDays"], apart := false, laid := [("lottery/calendar.monthDays", laid_lottery_calendar_monthDays)] }
def LimitSpendsSaid : Prop := limitSpendsRow.holds Tryd.pinned (OpenSpec.ofChange limitSpendsSpec)

/-- ITS FALSE NEIGHBOUR: 'it returns false'. Refute it at one input. -/
def limitSpendsWrong : ChangeSpec := { name := "limitSpends", fn := fun _ => fun
  | [d1, d2] => { results := [.lit (.bool false)], args := [d1, d2] }
  | _ => none }
def LimitSpendsWrongFalsely : Prop := limitSpendsRow.holds Tryd.pinned (OpenSpec.ofChange limitSpendsWrong)

/-- 'lotterylaw06.CalendarTexts': WHATEVER THE INPUT: true; the input reads as it did. -/
def calendarTextsSpec : ChangeSpec := { name := "calendarTexts", fn := fun _ => fun
  | [d1, d2] => { results := [.lit (.bool true)], args := [d1, d2] }
  | _ => none }
def calendarTextsRow : OpenClaim := { program := "ytmncocmdobondaadoor", sum := "1dfd4465e9d4faab62ba690cc1860a7ee14106f5f10947bb23082eff90a53ee5", func := "lottery/lotterylaw06.CalendarTexts", spec := "calendarTexts", unfollowed := true, recurses := true, named := ["lottery/calendar.monthDays"], apart := false, laid := [("lottery/calendar.monthDays", laid_lottery_calendar_monthDays)] }
def CalendarTextsSaid : Prop := calendarTextsRow.holds Tryd.pinned (OpenSpec.ofChange calendarTextsSpec)

/-- ITS FALSE NEIGHBOUR: 'it returns false'. Refute it at one input. -/
def calendarTextsWrong : ChangeSpec := { name := "calendarTexts", fn := fun _ => fun
  | [d1, d2] => { results := [.lit (.bool false)], args := [d1, d2] }
  | _ => none }
def CalendarTextsWrongFalsely : Prop := calendarTextsRow.holds Tryd.pinned (OpenSpec.ofChange calendarTextsWrong)

/-- 'lotterylaw21.LimitOrders': WHATEVER THE INPUT: true; the input reads as it did. -/
def limitOrdersSpec : ChangeSpec := { name := "limitOrders", fn := fun _ => fun
  | [d1, d2, d3] => { results := [.lit (.bool true)], args := [d1, d2, d3] }
  | _ => none }
def limitOrdersRow : OpenClaim := { program := "ytmncocmdobondaadoor", sum := "1dfd4465e9d4faab62ba690cc1860a7ee14106f5f10947bb23082eff90a53ee5", func := "lottery/lotterylaw21.LimitOrders", spec := "limitOrders", unfollowed := true, recurses := true, named := ["lottery/calendar.monthDays"], apart := false, laid := [("lottery/calendar.monthDays", laid_lottery_calendar_monthDays)] }
def LimitOrdersSaid : Prop := limitOrdersRow.holds Tryd.pinned (OpenSpec.ofChange limitOrdersSpec)

/-- ITS FALSE NEIGHBOUR: 'it returns false'. Refute it at one input. -/
def limitOrdersWrong : ChangeSpec := { name := "limitOrders", fn := fun _ => fun
  | [d1, d2, d3] => { results := [.lit (.bool false)], args := [d1, d2, d3] }
  | _ => none }
def LimitOrdersWrongFalsely : Prop := limitOrdersRow.holds Tryd.pinned (OpenSpec.ofChange limitOrdersWrong)

/-- 'lotterylaw21.LimitAllows': WHATEVER THE INPUT: true; the input reads as it did. -/
def limitAllowsSpec : ChangeSpec := { name := "limitAllows", fn := fun _ => fun
  | [d1, d2, d3, d4] => { results := [.lit (.bool true)], args := [d1, d2, d3, d4] }
  | _ => none }
def limitAllowsRow : OpenClaim := { program := "ytmncocmdobondaadoor", sum := "1dfd4465e9d4faab62ba690cc1860a7ee14106f5f10947bb23082eff90a53ee5", func := "lottery/lotterylaw21.LimitAllows", spec := "limitAllows", unfollowed := true, recurses := true, named := ["lottery/calendar.monthDays"], apart := false, laid := [("lottery/calendar.monthDays", laid_lottery_calendar_monthDays)] }
def LimitAllowsSaid : Prop := limitAllowsRow.holds Tryd.pinned (OpenSpec.ofChange limitAllowsSpec)

/-- ITS FALSE NEIGHBOUR: 'it returns false'. Refute it at one input. -/
def limitAllowsWrong : ChangeSpec := { name := "limitAllows", fn := fun _ => fun
  | [d1, d2, d3, d4] => { results := [.lit (.bool false)], args := [d1, d2, d3, d4] }
  | _ => none }
def LimitAllowsWrongFalsely : Prop := limitAllowsRow.holds Tryd.pinned (OpenSpec.ofChange limitAllowsWrong)

/- THE SECOND FORM. 'bulk': how many values and letters a reading holds, each counted each time it is reached (what is shared counts as often as it is met; a slice's spare places count too). A statement '..UptoSaid' is the law's where the arguments, and the package variables that the reading takes, are together of bulk at most 1048576: NARROWER than '..Said'. Prove '..Said' where nothing that the law and all that it calls make is longer than what came in: it says more and counts as full. Else prove '..UptoSaid'. A law counts once. -/
mutual
def uptoBulk {H : Type} : DataW H → Nat
  | .lit (.string bytes) => bytes.length + 1
  | .lit _ => 1
  | .nil => 1
  | .ptr d => uptoBulk d + 1
  | .slice elems spare => uptoBulkAll elems + uptoBulkAll spare + 1
  | .agg parts => uptoBulkAll parts + 1
  | .iface _ d => uptoBulk d + 1
  | .map entries => uptoBulkEntries entries + 1
  | .held _ => 1
def uptoBulkAll {H : Type} : List (DataW H) → Nat
  | [] => 0
  | d :: r => uptoBulk d + uptoBulkAll r
def uptoBulkEntries {H : Type} : List (Lit × DataW H) → Nat
  | [] => 0
  | x :: r => uptoBulkEntry x + uptoBulkEntries r
def uptoBulkEntry {H : Type} : Lit × DataW H → Nat
  | (.string bytes, d) => bytes.length + uptoBulk d + 1
  | (_, d) => uptoBulk d + 1
 end
def uptoSmall : (H : Type) → List (DataW H) → Bool := fun _ ds => decide (uptoBulkAll ds ≤ 1048576)
def OpenSpec.upto (s : _root_.Go.ChangeSpec) : _root_.Go.OpenSpec := { _root_.Go.OpenSpec.ofChange s with cond := some uptoSmall }

/-- 'lotterylaw06.CalendarAges', WHERE WHAT IT READS IS OF BULK AT MOST 1048576: true; the input reads as it did. -/
def calendarAgesUptoRow : OpenClaim := { program := "ytmncocmdobondaadoor", sum := "1dfd4465e9d4faab62ba690cc1860a7ee14106f5f10947bb23082eff90a53ee5", func := "lottery/lotterylaw06.CalendarAges", spec := "calendarAges", unfollowed := true, recurses := true, named := ["lottery/calendar.monthDays"], apart := false, laid := [("lottery/calendar.monthDays", laid_lottery_calendar_monthDays)], narrowed := true }
def CalendarAgesUptoSaid : Prop := calendarAgesUptoRow.holds Tryd.pinned (OpenSpec.upto calendarAgesSpec)

/-- 'lotterylaw06.CalendarPeriods', WHERE WHAT IT READS IS OF BULK AT MOST 1048576: true; the input reads as it did. -/
def calendarPeriodsUptoRow : OpenClaim := { program := "ytmncocmdobondaadoor", sum := "1dfd4465e9d4faab62ba690cc1860a7ee14106f5f10947bb23082eff90a53ee5", func := "lottery/lotterylaw06.CalendarPeriods", spec := "calendarPeriods", unfollowed := true, recurses := true, named := ["lottery/calendar.monthDays"], apart := false, laid := [("lottery/calendar.monthDays", laid_lottery_calendar_monthDays)], narrowed := true }
def CalendarPeriodsUptoSaid : Prop := calendarPeriodsUptoRow.holds Tryd.pinned (OpenSpec.upto calendarPeriodsSpec)

/-- 'lotterylaw06.CalendarParts', WHERE WHAT IT READS IS OF BULK AT MOST 1048576: true; the input reads as it did. -/
def calendarPartsUptoRow : OpenClaim := { program := "ytmncocmdobondaadoor", sum := "1dfd4465e9d4faab62ba690cc1860a7ee14106f5f10947bb23082eff90a53ee5", func := "lottery/lotterylaw06.CalendarParts", spec := "calendarParts", unfollowed := true, recurses := true, named := ["lottery/calendar.monthDays"], apart := false, laid := [("lottery/calendar.monthDays", laid_lottery_calendar_monthDays)], narrowed := true }
def CalendarPartsUptoSaid : Prop := calendarPartsUptoRow.holds Tryd.pinned (OpenSpec.upto calendarPartsSpec)

/-- 'lotterylaw06.CalendarInverts', WHERE WHAT IT READS IS OF BULK AT MOST 1048576: true; the input reads as it did. -/
def calendarInvertsUptoRow : OpenClaim := { program := "ytmncocmdobondaadoor", sum := "1dfd4465e9d4faab62ba690cc1860a7ee14106f5f10947bb23082eff90a53ee5", func := "lottery/lotterylaw06.CalendarInverts", spec := "calendarInverts", unfollowed := true, recurses := true, named := ["lottery/calendar.monthDays"], apart := false, laid := [("lottery/calendar.monthDays", laid_lottery_calendar_monthDays)], narrowed := true }
def CalendarInvertsUptoSaid : Prop := calendarInvertsUptoRow.holds Tryd.pinned (OpenSpec.upto calendarInvertsSpec)

/-- 'lotterylaw06.CalendarDates', WHERE WHAT IT READS IS OF BULK AT MOST 1048576: true; the input reads as it did. -/
def calendarDatesUptoRow : OpenClaim := { program := "ytmncocmdobondaadoor", sum := "1dfd4465e9d4faab62ba690cc1860a7ee14106f5f10947bb23082eff90a53ee5", func := "lottery/lotterylaw06.CalendarDates", spec := "calendarDates", unfollowed := true, recurses := true, named := ["lottery/calendar.monthDays"], apart := false, laid := [("lottery/calendar.monthDays", laid_lottery_calendar_monthDays)], narrowed := true }
def CalendarDatesUptoSaid : Prop := calendarDatesUptoRow.holds Tryd.pinned (OpenSpec.upto calendarDatesSpec)

/-- 'lotterylaw21.LimitSpends', WHERE WHAT IT READS IS OF BULK AT MOST 1048576: true; the input reads as it did. -/
def limitSpendsUptoRow : OpenClaim := { program := "ytmncocmdobondaadoor", sum := "1dfd4465e9d4faab62ba690cc1860a7ee14106f5f10947bb23082eff90a53ee5", func := "lottery/lotterylaw21.LimitSpends", spec := "limitSpends", unfollowed := true, recurses := true, named := ["lottery/calendar.monthDays"], apart := false, laid := [("lottery/calendar.monthDays", laid_lottery_calendar_monthDays)], narrowed := true }
def LimitSpendsUptoSaid : Prop := limitSpendsUptoRow.holds Tryd.pinned (OpenSpec.upto limitSpendsSpec)

/-- 'lotterylaw06.CalendarTexts', WHERE WHAT IT READS IS OF BULK AT MOST 1048576: true; the input reads as it did. -/
def calendarTextsUptoRow : OpenClaim := { program := "ytmncocmdobondaadoor", sum := "1dfd4465e9d4faab62ba690cc1860a7ee14106f5f10947bb23082eff90a53ee5", func := "lottery/lotterylaw06.CalendarTexts", spec := "calendarTexts", unfollowed := true, recurses := true, named := ["lottery/calendar.monthDays"], apart := false, laid := [("lottery/calendar.monthDays", laid_lottery_calendar_monthDays)], narrowed := true }
def CalendarTextsUptoSaid : Prop := calendarTextsUptoRow.holds Tryd.pinned (OpenSpec.upto calendarTextsSpec)

/-- 'lotterylaw21.LimitOrders', WHERE WHAT IT READS IS OF BULK AT MOST 1048576: true; the input reads as it did. -/
def limitOrdersUptoRow : OpenClaim := { program := "ytmncocmdobondaadoor", sum := "1dfd4465e9d4faab62ba690cc1860a7ee14106f5f10947bb23082eff90a53ee5", func := "lottery/lotterylaw21.LimitOrders", spec := "limitOrders", unfollowed := true, recurses := true, named := ["lottery/calendar.monthDays"], apart := false, laid := [("lottery/calendar.monthDays", laid_lottery_calendar_monthDays)], narrowed := true }
def LimitOrdersUptoSaid : Prop := limitOrdersUptoRow.holds Tryd.pinned (OpenSpec.upto limitOrdersSpec)

/-- 'lotterylaw21.LimitAllows', WHERE WHAT IT READS IS OF BULK AT MOST 1048576: true; the input reads as it did. -/
def limitAllowsUptoRow : OpenClaim := { program := "ytmncocmdobondaadoor", sum := "1dfd4465e9d4faab62ba690cc1860a7ee14106f5f10947bb23082eff90a53ee5", func := "lottery/lotterylaw21.LimitAllows", spec := "limitAllows", unfollowed := true, recurses := true, named := ["lottery/calendar.monthDays"], apart := false, laid := [("lottery/calendar.monthDays", laid_lottery_calendar_monthDays)], narrowed := true }
def LimitAllowsUptoSaid : Prop := limitAllowsUptoRow.holds Tryd.pinned (OpenSpec.upto limitAllowsSpec)

end Rows
end Go.Proofs.YtmncocmdobondaaDoor
