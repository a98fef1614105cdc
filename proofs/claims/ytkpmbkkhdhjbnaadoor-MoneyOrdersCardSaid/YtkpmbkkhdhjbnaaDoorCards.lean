/-
  DERIVED. GIVEN WITH THE SEED: THE CARDS: each row of YtkpmbkkhdhjbnaaDoorRows.lean that lists a variable, with what it lists TIED to the program's text (the seventh form; the later family's looks); each row that meets fmt, with fmt's text TOLD by the authors' own Lean function (tested against real Go, not proved from fmt's source: count such statements apart). THE CARD IS WHAT COUNTS. Prove the row's statement (the work); the ties are given (YtkpmbkkhdhjbnaaDoorTie.lean); close each card by the builder's one call (the guide's Derived/Test/ToyasCard.lean, 'card_holds'). Laid BY PROGRAM, IN A SANDBOX (cutbox-door.mjs). By AI agents, Wed Nov 11 2026. No macro, syntax, notation, axiom, sorry.
-/
import Derived.Test.YtkpmbkkhdhjbnaaDoorRows
import GoSem.ClaimSeven
namespace Go.Proofs.YtkpmbkkhdhjbnaaDoor
namespace Rows

/-- THE TIED CARD OF 'lotterylaw02.MoneyDivides'. -/
def moneyDividesCard : Claim7 := { stood := { row := moneyDividesRow, standIns := [], harness := (true, "25487b7d036248d5c416c44a388f4a9819cd4fc54ffaad8ffacaf6b216781856"), looks := false }, kinds := [], alts := [], laidByText := true, laidKinds := [.data, .data, .data], laidTests := true, laidLooks := .later }
def MoneyDividesCardSaid : Prop := Claim7.holds Tryd.pinned (.plain (OpenSpec.ofChange moneyDividesSpec)) moneyDividesCard

/-- THE TIED CARD OF 'lotterylaw02.MoneySplits'. -/
def moneySplitsCard : Claim7 := { stood := { row := moneySplitsRow, standIns := [], harness := (true, "25487b7d036248d5c416c44a388f4a9819cd4fc54ffaad8ffacaf6b216781856"), looks := false }, kinds := [], alts := [], laidByText := true, laidKinds := [.data, .data, .data], laidTests := true, laidLooks := .later }
def MoneySplitsCardSaid : Prop := Claim7.holds Tryd.pinned (.plain (OpenSpec.ofChange moneySplitsSpec)) moneySplitsCard

/-- THE TIED CARD OF 'lotterylaw02.MoneyOrders'. -/
def moneyOrdersCard : Claim7 := { stood := { row := moneyOrdersRow, standIns := [], harness := (true, "25487b7d036248d5c416c44a388f4a9819cd4fc54ffaad8ffacaf6b216781856"), looks := false }, kinds := [], alts := [], laidByText := true, laidKinds := [.data, .data, .data], laidTests := true, laidLooks := .later }
def MoneyOrdersCardSaid : Prop := Claim7.holds Tryd.pinned (.plain (OpenSpec.ofChange moneyOrdersSpec)) moneyOrdersCard

/-- THE TIED CARD OF 'lotterylaw02.MoneyWrites'. -/
def moneyWritesCard : Claim7 := { stood := { row := moneyWritesRow, standIns := [], harness := (true, "25487b7d036248d5c416c44a388f4a9819cd4fc54ffaad8ffacaf6b216781856"), looks := false }, kinds := [], alts := [], laidByText := true, laidKinds := [.data, .data, .data], laidTests := true, laidLooks := .later }
def MoneyWritesCardSaid : Prop := Claim7.holds Tryd.pinned (.plain (OpenSpec.ofChange moneyWritesSpec)) moneyWritesCard

/-- THE TIED CARD OF 'lotterylaw02.MoneyReads'. -/
def moneyReadsCard : Claim7 := { stood := { row := moneyReadsRow, standIns := [], harness := (true, "25487b7d036248d5c416c44a388f4a9819cd4fc54ffaad8ffacaf6b216781856"), looks := false }, kinds := [], alts := [], laidByText := true, laidKinds := [.data, .data, .data], laidTests := true, laidLooks := .later }
def MoneyReadsCardSaid : Prop := Claim7.holds Tryd.pinned (.plain (OpenSpec.ofChange moneyReadsSpec)) moneyReadsCard

/-- THE TIED CARD OF 'lotterylaw02.MoneyRounds'. -/
def moneyRoundsCard : Claim7 := { stood := { row := moneyRoundsRow, standIns := [], harness := (true, "25487b7d036248d5c416c44a388f4a9819cd4fc54ffaad8ffacaf6b216781856"), looks := false }, kinds := [], alts := [], laidByText := true, laidKinds := [.data, .data, .data], laidTests := true, laidLooks := .later }
def MoneyRoundsCardSaid : Prop := Claim7.holds Tryd.pinned (.plain (OpenSpec.ofChange moneyRoundsSpec)) moneyRoundsCard

/-- THE TIED CARD OF 'lotterylaw02.MoneyTakes'. -/
def moneyTakesCard : Claim7 := { stood := { row := moneyTakesRow, standIns := [], harness := (true, "25487b7d036248d5c416c44a388f4a9819cd4fc54ffaad8ffacaf6b216781856"), looks := false }, kinds := [], alts := [], laidByText := true, laidKinds := [.data, .data, .data], laidTests := true, laidLooks := .later }
def MoneyTakesCardSaid : Prop := Claim7.holds Tryd.pinned (.plain (OpenSpec.ofChange moneyTakesSpec)) moneyTakesCard

/-- THE TIED CARD OF 'lotterylaw02.MoneySums'. -/
def moneySumsCard : Claim7 := { stood := { row := moneySumsRow, standIns := [], harness := (true, "25487b7d036248d5c416c44a388f4a9819cd4fc54ffaad8ffacaf6b216781856"), looks := false }, kinds := [], alts := [], laidByText := true, laidKinds := [.data, .data, .data], laidTests := true, laidLooks := .later }
def MoneySumsCardSaid : Prop := Claim7.holds Tryd.pinned (.plain (OpenSpec.ofChange moneySumsSpec)) moneySumsCard

/-- THE SECOND FORM's CARD OF 'lotterylaw02.MoneyDivides'. -/
def moneyDividesUptoCard : Claim7 := { stood := { row := moneyDividesUptoRow, standIns := [], harness := (true, "25487b7d036248d5c416c44a388f4a9819cd4fc54ffaad8ffacaf6b216781856"), looks := false }, kinds := [], alts := [], laidByText := true, laidKinds := [.data, .data, .data], laidTests := true, laidLooks := .later }
def MoneyDividesUptoCardSaid : Prop := Claim7.holds Tryd.pinned (.plain (OpenSpec.upto moneyDividesSpec)) moneyDividesUptoCard

/-- THE SECOND FORM's CARD OF 'lotterylaw02.MoneySplits'. -/
def moneySplitsUptoCard : Claim7 := { stood := { row := moneySplitsUptoRow, standIns := [], harness := (true, "25487b7d036248d5c416c44a388f4a9819cd4fc54ffaad8ffacaf6b216781856"), looks := false }, kinds := [], alts := [], laidByText := true, laidKinds := [.data, .data, .data], laidTests := true, laidLooks := .later }
def MoneySplitsUptoCardSaid : Prop := Claim7.holds Tryd.pinned (.plain (OpenSpec.upto moneySplitsSpec)) moneySplitsUptoCard

/-- THE SECOND FORM's CARD OF 'lotterylaw02.MoneyOrders'. -/
def moneyOrdersUptoCard : Claim7 := { stood := { row := moneyOrdersUptoRow, standIns := [], harness := (true, "25487b7d036248d5c416c44a388f4a9819cd4fc54ffaad8ffacaf6b216781856"), looks := false }, kinds := [], alts := [], laidByText := true, laidKinds := [.data, .data, .data], laidTests := true, laidLooks := .later }
def MoneyOrdersUptoCardSaid : Prop := Claim7.holds Tryd.pinned (.plain (OpenSpec.upto moneyOrdersSpec)) moneyOrdersUptoCard

/-- THE SECOND FORM's CARD OF 'lotterylaw02.MoneyWrites'. -/
def moneyWritesUptoCard : Claim7 := { stood := { row := moneyWritesUptoRow, standIns := [], harness := (true, "25487b7d036248d5c416c44a388f4a9819cd4fc54ffaad8ffacaf6b216781856"), looks := false }, kinds := [], alts := [], laidByText := true, laidKinds := [.data, .data, .data], laidTests := true, laidLooks := .later }
def MoneyWritesUptoCardSaid : Prop := Claim7.holds Tryd.pinned (.plain (OpenSpec.upto moneyWritesSpec)) moneyWritesUptoCard

/-- THE SECOND FORM's CARD OF 'lotterylaw02.MoneyReads'. -/
def moneyReadsUptoCard : Claim7 := { stood := { row := moneyReadsUptoRow, standIns := [], harness := (true, "25487b7d036248d5c416c44a388f4a9819cd4fc54ffaad8ffacaf6b216781856"), looks := false }, kinds := [], alts := [], laidByText := true, laidKinds := [.data, .data, .data], laidTests := true, laidLooks := .later }
def MoneyReadsUptoCardSaid : Prop := Claim7.holds Tryd.pinned (.plain (OpenSpec.upto moneyReadsSpec)) moneyReadsUptoCard

/-- THE SECOND FORM's CARD OF 'lotterylaw02.MoneyRounds'. -/
def moneyRoundsUptoCard : Claim7 := { stood := { row := moneyRoundsUptoRow, standIns := [], harness := (true, "25487b7d036248d5c416c44a388f4a9819cd4fc54ffaad8ffacaf6b216781856"), looks := false }, kinds := [], alts := [], laidByText := true, laidKinds := [.data, .data, .data], laidTests := true, laidLooks := .later }
def MoneyRoundsUptoCardSaid : Prop := Claim7.holds Tryd.pinned (.plain (OpenSpec.upto moneyRoundsSpec)) moneyRoundsUptoCard

/-- THE SECOND FORM's CARD OF 'lotterylaw02.MoneyTakes'. -/
def moneyTakesUptoCard : Claim7 := { stood := { row := moneyTakesUptoRow, standIns := [], harness := (true, "25487b7d036248d5c416c44a388f4a9819cd4fc54ffaad8ffacaf6b216781856"), looks := false }, kinds := [], alts := [], laidByText := true, laidKinds := [.data, .data, .data], laidTests := true, laidLooks := .later }
def MoneyTakesUptoCardSaid : Prop := Claim7.holds Tryd.pinned (.plain (OpenSpec.upto moneyTakesSpec)) moneyTakesUptoCard

/-- THE SECOND FORM's CARD OF 'lotterylaw02.MoneySums'. -/
def moneySumsUptoCard : Claim7 := { stood := { row := moneySumsUptoRow, standIns := [], harness := (true, "25487b7d036248d5c416c44a388f4a9819cd4fc54ffaad8ffacaf6b216781856"), looks := false }, kinds := [], alts := [], laidByText := true, laidKinds := [.data, .data, .data], laidTests := true, laidLooks := .later }
def MoneySumsUptoCardSaid : Prop := Claim7.holds Tryd.pinned (.plain (OpenSpec.upto moneySumsSpec)) moneySumsUptoCard
end Rows
end Go.Proofs.YtkpmbkkhdhjbnaaDoor
