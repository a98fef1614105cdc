/-
  DERIVED. GIVEN WITH THE SEED: THE CARDS: each row of YtgmilhhifigkkaaDoorRows.lean that lists a variable, with what it lists TIED to the program's text (the seventh form; the later family's looks); each row that meets fmt, with fmt's text TOLD by the authors' own Lean function (tested against real Go, not proved from fmt's source: count such statements apart). THE CARD IS WHAT COUNTS. Prove the row's statement (the work); the ties are given (YtgmilhhifigkkaaDoorTie.lean); close each card by the builder's one call (the guide's Derived/Test/ToyasCard.lean, 'card_holds'). Laid BY PROGRAM, IN A SANDBOX (cutbox-door.mjs). By AI agents, Wed Nov 11 2026. No macro, syntax, notation, axiom, sorry.
-/
import Derived.Test.YtgmilhhifigkkaaDoorRows
import GoSem.ClaimSeven
namespace Go.Proofs.YtgmilhhifigkkaaDoor
namespace Rows

/-- THE TIED CARD OF 'lotterylaw56.ReportSettles'. -/
def reportSettlesCard : Claim7 := { stood := { row := reportSettlesRow, standIns := [], harness := (true, "b6dd548bddcfa3ee7b42637b70b56ab4aa3da203da1329b8f1aa82f28257933a"), looks := false }, kinds := [], alts := [], laidByText := true, laidKinds := [.data, .data, .data], laidTests := true, laidLooks := .later }
def ReportSettlesCardSaid : Prop := Claim7.holds Tryd.pinned (.plain (OpenSpec.ofChange reportSettlesSpec)) reportSettlesCard

/-- THE TIED CARD OF 'lotterylaw56.ReportTells'. -/
def reportTellsCard : Claim7 := { stood := { row := reportTellsRow, standIns := [], harness := (true, "b6dd548bddcfa3ee7b42637b70b56ab4aa3da203da1329b8f1aa82f28257933a"), looks := false }, kinds := [], alts := [], laidByText := true, laidKinds := [.data, .data, .data], laidTests := true, laidLooks := .later }
def ReportTellsCardSaid : Prop := Claim7.holds Tryd.pinned (.plain (OpenSpec.ofChange reportTellsSpec)) reportTellsCard

/-- THE TIED CARD OF 'lotterylaw56.ReportOrders'. -/
def reportOrdersCard : Claim7 := { stood := { row := reportOrdersRow, standIns := [], harness := (true, "b6dd548bddcfa3ee7b42637b70b56ab4aa3da203da1329b8f1aa82f28257933a"), looks := false }, kinds := [], alts := [], laidByText := true, laidKinds := [.data, .data, .data], laidTests := true, laidLooks := .later }
def ReportOrdersCardSaid : Prop := Claim7.holds Tryd.pinned (.plain (OpenSpec.ofChange reportOrdersSpec)) reportOrdersCard

/-- THE TIED CARD OF 'lotterylaw56.ReportTotals'. -/
def reportTotalsCard : Claim7 := { stood := { row := reportTotalsRow, standIns := [], harness := (true, "b6dd548bddcfa3ee7b42637b70b56ab4aa3da203da1329b8f1aa82f28257933a"), looks := false }, kinds := [], alts := [], laidByText := true, laidKinds := [.data, .data, .data, .data], laidTests := true, laidLooks := .later }
def ReportTotalsCardSaid : Prop := Claim7.holds Tryd.pinned (.plain (OpenSpec.ofChange reportTotalsSpec)) reportTotalsCard

/-- THE TIED CARD OF 'lotterylaw56.ReportDraws'. -/
def reportDrawsCard : Claim7 := { stood := { row := reportDrawsRow, standIns := [], harness := (true, "b6dd548bddcfa3ee7b42637b70b56ab4aa3da203da1329b8f1aa82f28257933a"), looks := false }, kinds := [], alts := [], laidByText := true, laidKinds := [.data, .data, .data], laidTests := true, laidLooks := .later }
def ReportDrawsCardSaid : Prop := Claim7.holds Tryd.pinned (.plain (OpenSpec.ofChange reportDrawsSpec)) reportDrawsCard

/-- THE TIED CARD OF 'lotterylaw56.ReportLines'. -/
def reportLinesCard : Claim7 := { stood := { row := reportLinesRow, standIns := [], harness := (true, "b6dd548bddcfa3ee7b42637b70b56ab4aa3da203da1329b8f1aa82f28257933a"), looks := false }, kinds := [], alts := [], laidByText := true, laidKinds := [.data, .data, .data], laidTests := true, laidLooks := .later }
def ReportLinesCardSaid : Prop := Claim7.holds Tryd.pinned (.plain (OpenSpec.ofChange reportLinesSpec)) reportLinesCard

/-- THE SECOND FORM's CARD OF 'lotterylaw56.ReportSettles'. -/
def reportSettlesUptoCard : Claim7 := { stood := { row := reportSettlesUptoRow, standIns := [], harness := (true, "b6dd548bddcfa3ee7b42637b70b56ab4aa3da203da1329b8f1aa82f28257933a"), looks := false }, kinds := [], alts := [], laidByText := true, laidKinds := [.data, .data, .data], laidTests := true, laidLooks := .later }
def ReportSettlesUptoCardSaid : Prop := Claim7.holds Tryd.pinned (.plain (OpenSpec.upto reportSettlesSpec)) reportSettlesUptoCard

/-- THE SECOND FORM's CARD OF 'lotterylaw56.ReportTells'. -/
def reportTellsUptoCard : Claim7 := { stood := { row := reportTellsUptoRow, standIns := [], harness := (true, "b6dd548bddcfa3ee7b42637b70b56ab4aa3da203da1329b8f1aa82f28257933a"), looks := false }, kinds := [], alts := [], laidByText := true, laidKinds := [.data, .data, .data], laidTests := true, laidLooks := .later }
def ReportTellsUptoCardSaid : Prop := Claim7.holds Tryd.pinned (.plain (OpenSpec.upto reportTellsSpec)) reportTellsUptoCard

/-- THE SECOND FORM's CARD OF 'lotterylaw56.ReportOrders'. -/
def reportOrdersUptoCard : Claim7 := { stood := { row := reportOrdersUptoRow, standIns := [], harness := (true, "b6dd548bddcfa3ee7b42637b70b56ab4aa3da203da1329b8f1aa82f28257933a"), looks := false }, kinds := [], alts := [], laidByText := true, laidKinds := [.data, .data, .data], laidTests := true, laidLooks := .later }
def ReportOrdersUptoCardSaid : Prop := Claim7.holds Tryd.pinned (.plain (OpenSpec.upto reportOrdersSpec)) reportOrdersUptoCard

/-- THE SECOND FORM's CARD OF 'lotterylaw56.ReportTotals'. -/
def reportTotalsUptoCard : Claim7 := { stood := { row := reportTotalsUptoRow, standIns := [], harness := (true, "b6dd548bddcfa3ee7b42637b70b56ab4aa3da203da1329b8f1aa82f28257933a"), looks := false }, kinds := [], alts := [], laidByText := true, laidKinds := [.data, .data, .data, .data], laidTests := true, laidLooks := .later }
def ReportTotalsUptoCardSaid : Prop := Claim7.holds Tryd.pinned (.plain (OpenSpec.upto reportTotalsSpec)) reportTotalsUptoCard

/-- THE SECOND FORM's CARD OF 'lotterylaw56.ReportDraws'. -/
def reportDrawsUptoCard : Claim7 := { stood := { row := reportDrawsUptoRow, standIns := [], harness := (true, "b6dd548bddcfa3ee7b42637b70b56ab4aa3da203da1329b8f1aa82f28257933a"), looks := false }, kinds := [], alts := [], laidByText := true, laidKinds := [.data, .data, .data], laidTests := true, laidLooks := .later }
def ReportDrawsUptoCardSaid : Prop := Claim7.holds Tryd.pinned (.plain (OpenSpec.upto reportDrawsSpec)) reportDrawsUptoCard

/-- THE SECOND FORM's CARD OF 'lotterylaw56.ReportLines'. -/
def reportLinesUptoCard : Claim7 := { stood := { row := reportLinesUptoRow, standIns := [], harness := (true, "b6dd548bddcfa3ee7b42637b70b56ab4aa3da203da1329b8f1aa82f28257933a"), looks := false }, kinds := [], alts := [], laidByText := true, laidKinds := [.data, .data, .data], laidTests := true, laidLooks := .later }
def ReportLinesUptoCardSaid : Prop := Claim7.holds Tryd.pinned (.plain (OpenSpec.upto reportLinesSpec)) reportLinesUptoCard
end Rows
end Go.Proofs.YtgmilhhifigkkaaDoor
