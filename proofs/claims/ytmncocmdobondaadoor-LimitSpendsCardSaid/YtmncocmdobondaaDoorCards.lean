/-
  DERIVED. GIVEN WITH THE SEED: THE CARDS: each row of YtmncocmdobondaaDoorRows.lean that lists a variable, with what it lists TIED to the program's text (the seventh form; the later family's looks); each row that meets fmt, with fmt's text TOLD by the authors' own Lean function (tested against real Go, not proved from fmt's source: count such statements apart). THE CARD IS WHAT COUNTS. Prove the row's statement (the work); the ties are given (YtmncocmdobondaaDoorTie.lean); close each card by the builder's one call (the guide's Derived/Test/ToyasCard.lean, 'card_holds'). Laid BY PROGRAM, IN A SANDBOX (cutbox-door.mjs). By AI agents, Wed Nov 11 2026. No macro, syntax, notation, axiom, sorry.
-/
import Derived.Test.YtmncocmdobondaaDoorRows
import GoSem.ClaimSeven
namespace Go.Proofs.YtmncocmdobondaaDoor
namespace Rows

/-- THE TIED CARD OF 'lotterylaw06.CalendarAges'. -/
def calendarAgesCard : Claim7 := { stood := { row := calendarAgesRow, standIns := [], harness := (true, "2e88bda02c40f4f5d1daba5a6118aaeaf6a98dbd3ab27090420d5244248e8add"), looks := false }, kinds := [], alts := [], laidByText := true, laidKinds := [.data], laidTests := true, laidLooks := .later }
def CalendarAgesCardSaid : Prop := Claim7.holds Tryd.pinned (.plain (OpenSpec.ofChange calendarAgesSpec)) calendarAgesCard

/-- THE TIED CARD OF 'lotterylaw06.CalendarPeriods'. -/
def calendarPeriodsCard : Claim7 := { stood := { row := calendarPeriodsRow, standIns := [], harness := (true, "2e88bda02c40f4f5d1daba5a6118aaeaf6a98dbd3ab27090420d5244248e8add"), looks := false }, kinds := [], alts := [], laidByText := true, laidKinds := [.data], laidTests := true, laidLooks := .later }
def CalendarPeriodsCardSaid : Prop := Claim7.holds Tryd.pinned (.plain (OpenSpec.ofChange calendarPeriodsSpec)) calendarPeriodsCard

/-- THE TIED CARD OF 'lotterylaw06.CalendarParts'. -/
def calendarPartsCard : Claim7 := { stood := { row := calendarPartsRow, standIns := [], harness := (true, "2e88bda02c40f4f5d1daba5a6118aaeaf6a98dbd3ab27090420d5244248e8add"), looks := false }, kinds := [], alts := [], laidByText := true, laidKinds := [.data], laidTests := true, laidLooks := .later }
def CalendarPartsCardSaid : Prop := Claim7.holds Tryd.pinned (.plain (OpenSpec.ofChange calendarPartsSpec)) calendarPartsCard

/-- THE TIED CARD OF 'lotterylaw06.CalendarInverts'. -/
def calendarInvertsCard : Claim7 := { stood := { row := calendarInvertsRow, standIns := [], harness := (true, "2e88bda02c40f4f5d1daba5a6118aaeaf6a98dbd3ab27090420d5244248e8add"), looks := false }, kinds := [], alts := [], laidByText := true, laidKinds := [.data], laidTests := true, laidLooks := .later }
def CalendarInvertsCardSaid : Prop := Claim7.holds Tryd.pinned (.plain (OpenSpec.ofChange calendarInvertsSpec)) calendarInvertsCard

/-- THE TIED CARD OF 'lotterylaw06.CalendarDates'. -/
def calendarDatesCard : Claim7 := { stood := { row := calendarDatesRow, standIns := [], harness := (true, "2e88bda02c40f4f5d1daba5a6118aaeaf6a98dbd3ab27090420d5244248e8add"), looks := false }, kinds := [], alts := [], laidByText := true, laidKinds := [.data], laidTests := true, laidLooks := .later }
def CalendarDatesCardSaid : Prop := Claim7.holds Tryd.pinned (.plain (OpenSpec.ofChange calendarDatesSpec)) calendarDatesCard

/-- THE TIED CARD OF 'lotterylaw21.LimitSpends'. -/
def limitSpendsCard : Claim7 := { stood := { row := limitSpendsRow, standIns := [], harness := (true, "2e88bda02c40f4f5d1daba5a6118aaeaf6a98dbd3ab27090420d5244248e8add"), looks := false }, kinds := [], alts := [], laidByText := true, laidKinds := [.data], laidTests := true, laidLooks := .later }
def LimitSpendsCardSaid : Prop := Claim7.holds Tryd.pinned (.plain (OpenSpec.ofChange limitSpendsSpec)) limitSpendsCard

/-- THE TIED CARD OF 'lotterylaw06.CalendarTexts'. -/
def calendarTextsCard : Claim7 := { stood := { row := calendarTextsRow, standIns := [], harness := (true, "2e88bda02c40f4f5d1daba5a6118aaeaf6a98dbd3ab27090420d5244248e8add"), looks := false }, kinds := [], alts := [], laidByText := true, laidKinds := [.data], laidTests := true, laidLooks := .later }
def CalendarTextsCardSaid : Prop := Claim7.holds Tryd.pinned (.plain (OpenSpec.ofChange calendarTextsSpec)) calendarTextsCard

/-- THE TIED CARD OF 'lotterylaw21.LimitOrders'. -/
def limitOrdersCard : Claim7 := { stood := { row := limitOrdersRow, standIns := [], harness := (true, "2e88bda02c40f4f5d1daba5a6118aaeaf6a98dbd3ab27090420d5244248e8add"), looks := false }, kinds := [], alts := [], laidByText := true, laidKinds := [.data], laidTests := true, laidLooks := .later }
def LimitOrdersCardSaid : Prop := Claim7.holds Tryd.pinned (.plain (OpenSpec.ofChange limitOrdersSpec)) limitOrdersCard

/-- THE TIED CARD OF 'lotterylaw21.LimitAllows'. -/
def limitAllowsCard : Claim7 := { stood := { row := limitAllowsRow, standIns := [], harness := (true, "2e88bda02c40f4f5d1daba5a6118aaeaf6a98dbd3ab27090420d5244248e8add"), looks := false }, kinds := [], alts := [], laidByText := true, laidKinds := [.data], laidTests := true, laidLooks := .later }
def LimitAllowsCardSaid : Prop := Claim7.holds Tryd.pinned (.plain (OpenSpec.ofChange limitAllowsSpec)) limitAllowsCard

/-- THE SECOND FORM's CARD OF 'lotterylaw06.CalendarAges'. -/
def calendarAgesUptoCard : Claim7 := { stood := { row := calendarAgesUptoRow, standIns := [], harness := (true, "2e88bda02c40f4f5d1daba5a6118aaeaf6a98dbd3ab27090420d5244248e8add"), looks := false }, kinds := [], alts := [], laidByText := true, laidKinds := [.data], laidTests := true, laidLooks := .later }
def CalendarAgesUptoCardSaid : Prop := Claim7.holds Tryd.pinned (.plain (OpenSpec.upto calendarAgesSpec)) calendarAgesUptoCard

/-- THE SECOND FORM's CARD OF 'lotterylaw06.CalendarPeriods'. -/
def calendarPeriodsUptoCard : Claim7 := { stood := { row := calendarPeriodsUptoRow, standIns := [], harness := (true, "2e88bda02c40f4f5d1daba5a6118aaeaf6a98dbd3ab27090420d5244248e8add"), looks := false }, kinds := [], alts := [], laidByText := true, laidKinds := [.data], laidTests := true, laidLooks := .later }
def CalendarPeriodsUptoCardSaid : Prop := Claim7.holds Tryd.pinned (.plain (OpenSpec.upto calendarPeriodsSpec)) calendarPeriodsUptoCard

/-- THE SECOND FORM's CARD OF 'lotterylaw06.CalendarParts'. -/
def calendarPartsUptoCard : Claim7 := { stood := { row := calendarPartsUptoRow, standIns := [], harness := (true, "2e88bda02c40f4f5d1daba5a6118aaeaf6a98dbd3ab27090420d5244248e8add"), looks := false }, kinds := [], alts := [], laidByText := true, laidKinds := [.data], laidTests := true, laidLooks := .later }
def CalendarPartsUptoCardSaid : Prop := Claim7.holds Tryd.pinned (.plain (OpenSpec.upto calendarPartsSpec)) calendarPartsUptoCard

/-- THE SECOND FORM's CARD OF 'lotterylaw06.CalendarInverts'. -/
def calendarInvertsUptoCard : Claim7 := { stood := { row := calendarInvertsUptoRow, standIns := [], harness := (true, "2e88bda02c40f4f5d1daba5a6118aaeaf6a98dbd3ab27090420d5244248e8add"), looks := false }, kinds := [], alts := [], laidByText := true, laidKinds := [.data], laidTests := true, laidLooks := .later }
def CalendarInvertsUptoCardSaid : Prop := Claim7.holds Tryd.pinned (.plain (OpenSpec.upto calendarInvertsSpec)) calendarInvertsUptoCard

/-- THE SECOND FORM's CARD OF 'lotterylaw06.CalendarDates'. -/
def calendarDatesUptoCard : Claim7 := { stood := { row := calendarDatesUptoRow, standIns := [], harness := (true, "2e88bda02c40f4f5d1daba5a6118aaeaf6a98dbd3ab27090420d5244248e8add"), looks := false }, kinds := [], alts := [], laidByText := true, laidKinds := [.data], laidTests := true, laidLooks := .later }
def CalendarDatesUptoCardSaid : Prop := Claim7.holds Tryd.pinned (.plain (OpenSpec.upto calendarDatesSpec)) calendarDatesUptoCard

/-- THE SECOND FORM's CARD OF 'lotterylaw21.LimitSpends'. -/
def limitSpendsUptoCard : Claim7 := { stood := { row := limitSpendsUptoRow, standIns := [], harness := (true, "2e88bda02c40f4f5d1daba5a6118aaeaf6a98dbd3ab27090420d5244248e8add"), looks := false }, kinds := [], alts := [], laidByText := true, laidKinds := [.data], laidTests := true, laidLooks := .later }
def LimitSpendsUptoCardSaid : Prop := Claim7.holds Tryd.pinned (.plain (OpenSpec.upto limitSpendsSpec)) limitSpendsUptoCard

/-- THE SECOND FORM's CARD OF 'lotterylaw06.CalendarTexts'. -/
def calendarTextsUptoCard : Claim7 := { stood := { row := calendarTextsUptoRow, standIns := [], harness := (true, "2e88bda02c40f4f5d1daba5a6118aaeaf6a98dbd3ab27090420d5244248e8add"), looks := false }, kinds := [], alts := [], laidByText := true, laidKinds := [.data], laidTests := true, laidLooks := .later }
def CalendarTextsUptoCardSaid : Prop := Claim7.holds Tryd.pinned (.plain (OpenSpec.upto calendarTextsSpec)) calendarTextsUptoCard

/-- THE SECOND FORM's CARD OF 'lotterylaw21.LimitOrders'. -/
def limitOrdersUptoCard : Claim7 := { stood := { row := limitOrdersUptoRow, standIns := [], harness := (true, "2e88bda02c40f4f5d1daba5a6118aaeaf6a98dbd3ab27090420d5244248e8add"), looks := false }, kinds := [], alts := [], laidByText := true, laidKinds := [.data], laidTests := true, laidLooks := .later }
def LimitOrdersUptoCardSaid : Prop := Claim7.holds Tryd.pinned (.plain (OpenSpec.upto limitOrdersSpec)) limitOrdersUptoCard

/-- THE SECOND FORM's CARD OF 'lotterylaw21.LimitAllows'. -/
def limitAllowsUptoCard : Claim7 := { stood := { row := limitAllowsUptoRow, standIns := [], harness := (true, "2e88bda02c40f4f5d1daba5a6118aaeaf6a98dbd3ab27090420d5244248e8add"), looks := false }, kinds := [], alts := [], laidByText := true, laidKinds := [.data], laidTests := true, laidLooks := .later }
def LimitAllowsUptoCardSaid : Prop := Claim7.holds Tryd.pinned (.plain (OpenSpec.upto limitAllowsSpec)) limitAllowsUptoCard
end Rows
end Go.Proofs.YtmncocmdobondaaDoor
