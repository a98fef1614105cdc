/-
  DERIVED. GIVEN WITH THE SEED: THE CARDS: each row of YtgloiddnbppblaaDoorRows.lean that lists a variable, with what it lists TIED to the program's text (the seventh form; the later family's looks); each row that meets fmt, with fmt's text TOLD by the authors' own Lean function (tested against real Go, not proved from fmt's source: count such statements apart). THE CARD IS WHAT COUNTS. Prove the row's statement (the work); the ties are given (YtgloiddnbppblaaDoorTie.lean); close each card by the builder's one call (the guide's Derived/Test/ToyasCard.lean, 'card_holds'). Laid BY PROGRAM, IN A SANDBOX (cutbox-door.mjs). By AI agents, Wed Nov 11 2026. No macro, syntax, notation, axiom, sorry.
-/
import Derived.Test.YtgloiddnbppblaaDoorRows
import GoSem.ClaimSeven
namespace Go.Proofs.YtgloiddnbppblaaDoor
namespace Rows

/-- THE TIED CARD OF 'lotterylaw18.TicketnoMakes'. -/
def ticketnoMakesCard : Claim7 := { stood := { row := ticketnoMakesRow, standIns := [], harness := (true, "91472caf6cc43280180f7343aeba6c2750f51b648ffbd192d122103c177090d1"), looks := false }, kinds := [], alts := [], laidByText := true, laidKinds := [.data, .data, .data, .data], laidTests := true, laidLooks := .later }
def TicketnoMakesCardSaid : Prop := Claim7.holds Tryd.pinned (.plain (OpenSpec.ofChange ticketnoMakesSpec)) ticketnoMakesCard

/-- THE TIED CARD OF 'lotterylaw18.TicketnoDiffers'. -/
def ticketnoDiffersCard : Claim7 := { stood := { row := ticketnoDiffersRow, standIns := [], harness := (true, "91472caf6cc43280180f7343aeba6c2750f51b648ffbd192d122103c177090d1"), looks := false }, kinds := [], alts := [], laidByText := true, laidKinds := [.data, .data, .data, .data], laidTests := true, laidLooks := .later }
def TicketnoDiffersCardSaid : Prop := Claim7.holds Tryd.pinned (.plain (OpenSpec.ofChange ticketnoDiffersSpec)) ticketnoDiffersCard

/-- THE TIED CARD OF 'lotterylaw01.NumAdds'. -/
def numAddsCard : Claim7 := { stood := { row := numAddsRow, standIns := [], harness := (true, "91472caf6cc43280180f7343aeba6c2750f51b648ffbd192d122103c177090d1"), looks := false }, kinds := [], alts := [], laidByText := true, laidKinds := [.data, .data, .data], laidTests := true, laidLooks := .later }
def NumAddsCardSaid : Prop := Claim7.holds Tryd.pinned (.plain (OpenSpec.ofChange numAddsSpec)) numAddsCard

/-- THE TIED CARD OF 'lotterylaw01.NumInverts'. -/
def numInvertsCard : Claim7 := { stood := { row := numInvertsRow, standIns := [], harness := (true, "91472caf6cc43280180f7343aeba6c2750f51b648ffbd192d122103c177090d1"), looks := false }, kinds := [], alts := [], laidByText := true, laidKinds := [.data, .data, .data], laidTests := true, laidLooks := .later }
def NumInvertsCardSaid : Prop := Claim7.holds Tryd.pinned (.plain (OpenSpec.ofChange numInvertsSpec)) numInvertsCard

/-- THE TIED CARD OF 'lotterylaw01.NumMulDivs'. -/
def numMulDivsCard : Claim7 := { stood := { row := numMulDivsRow, standIns := [], harness := (true, "91472caf6cc43280180f7343aeba6c2750f51b648ffbd192d122103c177090d1"), looks := false }, kinds := [], alts := [], laidByText := true, laidKinds := [.data, .data, .data], laidTests := true, laidLooks := .later }
def NumMulDivsCardSaid : Prop := Claim7.holds Tryd.pinned (.plain (OpenSpec.ofChange numMulDivsSpec)) numMulDivsCard

/-- THE TIED CARD OF 'lotterylaw01.NumDivides'. -/
def numDividesCard : Claim7 := { stood := { row := numDividesRow, standIns := [], harness := (true, "91472caf6cc43280180f7343aeba6c2750f51b648ffbd192d122103c177090d1"), looks := false }, kinds := [], alts := [], laidByText := true, laidKinds := [.data, .data, .data], laidTests := true, laidLooks := .later }
def NumDividesCardSaid : Prop := Claim7.holds Tryd.pinned (.plain (OpenSpec.ofChange numDividesSpec)) numDividesCard

/-- THE TIED CARD OF 'lotterylaw01.NumPowers'. -/
def numPowersCard : Claim7 := { stood := { row := numPowersRow, standIns := [], harness := (true, "91472caf6cc43280180f7343aeba6c2750f51b648ffbd192d122103c177090d1"), looks := false }, kinds := [], alts := [], laidByText := true, laidKinds := [.data, .data, .data], laidTests := true, laidLooks := .later }
def NumPowersCardSaid : Prop := Claim7.holds Tryd.pinned (.plain (OpenSpec.ofChange numPowersSpec)) numPowersCard

/-- THE TIED CARD OF 'lotterylaw01.NumPowersGrow'. -/
def numPowersGrowCard : Claim7 := { stood := { row := numPowersGrowRow, standIns := [], harness := (true, "91472caf6cc43280180f7343aeba6c2750f51b648ffbd192d122103c177090d1"), looks := false }, kinds := [], alts := [], laidByText := true, laidKinds := [.data, .data, .data], laidTests := true, laidLooks := .later }
def NumPowersGrowCardSaid : Prop := Claim7.holds Tryd.pinned (.plain (OpenSpec.ofChange numPowersGrowSpec)) numPowersGrowCard

/-- THE TIED CARD OF 'lotterylaw01.NumGCDs'. -/
def numGCDsCard : Claim7 := { stood := { row := numGCDsRow, standIns := [], harness := (true, "91472caf6cc43280180f7343aeba6c2750f51b648ffbd192d122103c177090d1"), looks := false }, kinds := [], alts := [], laidByText := true, laidKinds := [.data, .data, .data], laidTests := true, laidLooks := .later }
def NumGCDsCardSaid : Prop := Claim7.holds Tryd.pinned (.plain (OpenSpec.ofChange numGCDsSpec)) numGCDsCard

/-- THE TIED CARD OF 'lotterylaw01.NumParses'. -/
def numParsesCard : Claim7 := { stood := { row := numParsesRow, standIns := [], harness := (true, "91472caf6cc43280180f7343aeba6c2750f51b648ffbd192d122103c177090d1"), looks := false }, kinds := [], alts := [], laidByText := true, laidKinds := [.data, .data, .data], laidTests := true, laidLooks := .later }
def NumParsesCardSaid : Prop := Claim7.holds Tryd.pinned (.plain (OpenSpec.ofChange numParsesSpec)) numParsesCard

/-- THE TIED CARD OF 'lotterylaw01.NumFormats'. -/
def numFormatsCard : Claim7 := { stood := { row := numFormatsRow, standIns := [], harness := (true, "91472caf6cc43280180f7343aeba6c2750f51b648ffbd192d122103c177090d1"), looks := false }, kinds := [], alts := [], laidByText := true, laidKinds := [.data, .data, .data], laidTests := true, laidLooks := .later }
def NumFormatsCardSaid : Prop := Claim7.holds Tryd.pinned (.plain (OpenSpec.ofChange numFormatsSpec)) numFormatsCard

/-- THE TIED CARD OF 'lotterylaw18.TicketnoInverts'. -/
def ticketnoInvertsCard : Claim7 := { stood := { row := ticketnoInvertsRow, standIns := [], harness := (true, "91472caf6cc43280180f7343aeba6c2750f51b648ffbd192d122103c177090d1"), looks := false }, kinds := [], alts := [], laidByText := true, laidKinds := [.data, .data, .data, .data], laidTests := true, laidLooks := .later }
def TicketnoInvertsCardSaid : Prop := Claim7.holds Tryd.pinned (.plain (OpenSpec.ofChange ticketnoInvertsSpec)) ticketnoInvertsCard

/-- THE TIED CARD OF 'lotterylaw18.TicketnoParses'. -/
def ticketnoParsesCard : Claim7 := { stood := { row := ticketnoParsesRow, standIns := [], harness := (true, "91472caf6cc43280180f7343aeba6c2750f51b648ffbd192d122103c177090d1"), looks := false }, kinds := [], alts := [], laidByText := true, laidKinds := [.data, .data, .data, .data], laidTests := true, laidLooks := .later }
def TicketnoParsesCardSaid : Prop := Claim7.holds Tryd.pinned (.plain (OpenSpec.ofChange ticketnoParsesSpec)) ticketnoParsesCard

/-- THE TIED CARD OF 'lotterylaw18.TicketnoDetects'. -/
def ticketnoDetectsCard : Claim7 := { stood := { row := ticketnoDetectsRow, standIns := [], harness := (true, "91472caf6cc43280180f7343aeba6c2750f51b648ffbd192d122103c177090d1"), looks := false }, kinds := [], alts := [], laidByText := true, laidKinds := [.data, .data, .data, .data], laidTests := true, laidLooks := .later }
def TicketnoDetectsCardSaid : Prop := Claim7.holds Tryd.pinned (.plain (OpenSpec.ofChange ticketnoDetectsSpec)) ticketnoDetectsCard

/-- THE TIED CARD OF 'lotterylaw18.TicketnoSwaps'. -/
def ticketnoSwapsCard : Claim7 := { stood := { row := ticketnoSwapsRow, standIns := [], harness := (true, "91472caf6cc43280180f7343aeba6c2750f51b648ffbd192d122103c177090d1"), looks := false }, kinds := [], alts := [], laidByText := true, laidKinds := [.data, .data, .data, .data], laidTests := true, laidLooks := .later }
def TicketnoSwapsCardSaid : Prop := Claim7.holds Tryd.pinned (.plain (OpenSpec.ofChange ticketnoSwapsSpec)) ticketnoSwapsCard

/-- THE SECOND FORM's CARD OF 'lotterylaw18.TicketnoMakes'. -/
def ticketnoMakesUptoCard : Claim7 := { stood := { row := ticketnoMakesUptoRow, standIns := [], harness := (true, "91472caf6cc43280180f7343aeba6c2750f51b648ffbd192d122103c177090d1"), looks := false }, kinds := [], alts := [], laidByText := true, laidKinds := [.data, .data, .data, .data], laidTests := true, laidLooks := .later }
def TicketnoMakesUptoCardSaid : Prop := Claim7.holds Tryd.pinned (.plain (OpenSpec.upto ticketnoMakesSpec)) ticketnoMakesUptoCard

/-- THE SECOND FORM's CARD OF 'lotterylaw18.TicketnoDiffers'. -/
def ticketnoDiffersUptoCard : Claim7 := { stood := { row := ticketnoDiffersUptoRow, standIns := [], harness := (true, "91472caf6cc43280180f7343aeba6c2750f51b648ffbd192d122103c177090d1"), looks := false }, kinds := [], alts := [], laidByText := true, laidKinds := [.data, .data, .data, .data], laidTests := true, laidLooks := .later }
def TicketnoDiffersUptoCardSaid : Prop := Claim7.holds Tryd.pinned (.plain (OpenSpec.upto ticketnoDiffersSpec)) ticketnoDiffersUptoCard

/-- THE SECOND FORM's CARD OF 'lotterylaw01.NumAdds'. -/
def numAddsUptoCard : Claim7 := { stood := { row := numAddsUptoRow, standIns := [], harness := (true, "91472caf6cc43280180f7343aeba6c2750f51b648ffbd192d122103c177090d1"), looks := false }, kinds := [], alts := [], laidByText := true, laidKinds := [.data, .data, .data], laidTests := true, laidLooks := .later }
def NumAddsUptoCardSaid : Prop := Claim7.holds Tryd.pinned (.plain (OpenSpec.upto numAddsSpec)) numAddsUptoCard

/-- THE SECOND FORM's CARD OF 'lotterylaw01.NumInverts'. -/
def numInvertsUptoCard : Claim7 := { stood := { row := numInvertsUptoRow, standIns := [], harness := (true, "91472caf6cc43280180f7343aeba6c2750f51b648ffbd192d122103c177090d1"), looks := false }, kinds := [], alts := [], laidByText := true, laidKinds := [.data, .data, .data], laidTests := true, laidLooks := .later }
def NumInvertsUptoCardSaid : Prop := Claim7.holds Tryd.pinned (.plain (OpenSpec.upto numInvertsSpec)) numInvertsUptoCard

/-- THE SECOND FORM's CARD OF 'lotterylaw01.NumMulDivs'. -/
def numMulDivsUptoCard : Claim7 := { stood := { row := numMulDivsUptoRow, standIns := [], harness := (true, "91472caf6cc43280180f7343aeba6c2750f51b648ffbd192d122103c177090d1"), looks := false }, kinds := [], alts := [], laidByText := true, laidKinds := [.data, .data, .data], laidTests := true, laidLooks := .later }
def NumMulDivsUptoCardSaid : Prop := Claim7.holds Tryd.pinned (.plain (OpenSpec.upto numMulDivsSpec)) numMulDivsUptoCard

/-- THE SECOND FORM's CARD OF 'lotterylaw01.NumDivides'. -/
def numDividesUptoCard : Claim7 := { stood := { row := numDividesUptoRow, standIns := [], harness := (true, "91472caf6cc43280180f7343aeba6c2750f51b648ffbd192d122103c177090d1"), looks := false }, kinds := [], alts := [], laidByText := true, laidKinds := [.data, .data, .data], laidTests := true, laidLooks := .later }
def NumDividesUptoCardSaid : Prop := Claim7.holds Tryd.pinned (.plain (OpenSpec.upto numDividesSpec)) numDividesUptoCard

/-- THE SECOND FORM's CARD OF 'lotterylaw01.NumPowers'. -/
def numPowersUptoCard : Claim7 := { stood := { row := numPowersUptoRow, standIns := [], harness := (true, "91472caf6cc43280180f7343aeba6c2750f51b648ffbd192d122103c177090d1"), looks := false }, kinds := [], alts := [], laidByText := true, laidKinds := [.data, .data, .data], laidTests := true, laidLooks := .later }
def NumPowersUptoCardSaid : Prop := Claim7.holds Tryd.pinned (.plain (OpenSpec.upto numPowersSpec)) numPowersUptoCard

/-- THE SECOND FORM's CARD OF 'lotterylaw01.NumPowersGrow'. -/
def numPowersGrowUptoCard : Claim7 := { stood := { row := numPowersGrowUptoRow, standIns := [], harness := (true, "91472caf6cc43280180f7343aeba6c2750f51b648ffbd192d122103c177090d1"), looks := false }, kinds := [], alts := [], laidByText := true, laidKinds := [.data, .data, .data], laidTests := true, laidLooks := .later }
def NumPowersGrowUptoCardSaid : Prop := Claim7.holds Tryd.pinned (.plain (OpenSpec.upto numPowersGrowSpec)) numPowersGrowUptoCard

/-- THE SECOND FORM's CARD OF 'lotterylaw01.NumGCDs'. -/
def numGCDsUptoCard : Claim7 := { stood := { row := numGCDsUptoRow, standIns := [], harness := (true, "91472caf6cc43280180f7343aeba6c2750f51b648ffbd192d122103c177090d1"), looks := false }, kinds := [], alts := [], laidByText := true, laidKinds := [.data, .data, .data], laidTests := true, laidLooks := .later }
def NumGCDsUptoCardSaid : Prop := Claim7.holds Tryd.pinned (.plain (OpenSpec.upto numGCDsSpec)) numGCDsUptoCard

/-- THE SECOND FORM's CARD OF 'lotterylaw01.NumParses'. -/
def numParsesUptoCard : Claim7 := { stood := { row := numParsesUptoRow, standIns := [], harness := (true, "91472caf6cc43280180f7343aeba6c2750f51b648ffbd192d122103c177090d1"), looks := false }, kinds := [], alts := [], laidByText := true, laidKinds := [.data, .data, .data], laidTests := true, laidLooks := .later }
def NumParsesUptoCardSaid : Prop := Claim7.holds Tryd.pinned (.plain (OpenSpec.upto numParsesSpec)) numParsesUptoCard

/-- THE SECOND FORM's CARD OF 'lotterylaw01.NumFormats'. -/
def numFormatsUptoCard : Claim7 := { stood := { row := numFormatsUptoRow, standIns := [], harness := (true, "91472caf6cc43280180f7343aeba6c2750f51b648ffbd192d122103c177090d1"), looks := false }, kinds := [], alts := [], laidByText := true, laidKinds := [.data, .data, .data], laidTests := true, laidLooks := .later }
def NumFormatsUptoCardSaid : Prop := Claim7.holds Tryd.pinned (.plain (OpenSpec.upto numFormatsSpec)) numFormatsUptoCard

/-- THE SECOND FORM's CARD OF 'lotterylaw18.TicketnoInverts'. -/
def ticketnoInvertsUptoCard : Claim7 := { stood := { row := ticketnoInvertsUptoRow, standIns := [], harness := (true, "91472caf6cc43280180f7343aeba6c2750f51b648ffbd192d122103c177090d1"), looks := false }, kinds := [], alts := [], laidByText := true, laidKinds := [.data, .data, .data, .data], laidTests := true, laidLooks := .later }
def TicketnoInvertsUptoCardSaid : Prop := Claim7.holds Tryd.pinned (.plain (OpenSpec.upto ticketnoInvertsSpec)) ticketnoInvertsUptoCard

/-- THE SECOND FORM's CARD OF 'lotterylaw18.TicketnoParses'. -/
def ticketnoParsesUptoCard : Claim7 := { stood := { row := ticketnoParsesUptoRow, standIns := [], harness := (true, "91472caf6cc43280180f7343aeba6c2750f51b648ffbd192d122103c177090d1"), looks := false }, kinds := [], alts := [], laidByText := true, laidKinds := [.data, .data, .data, .data], laidTests := true, laidLooks := .later }
def TicketnoParsesUptoCardSaid : Prop := Claim7.holds Tryd.pinned (.plain (OpenSpec.upto ticketnoParsesSpec)) ticketnoParsesUptoCard

/-- THE SECOND FORM's CARD OF 'lotterylaw18.TicketnoDetects'. -/
def ticketnoDetectsUptoCard : Claim7 := { stood := { row := ticketnoDetectsUptoRow, standIns := [], harness := (true, "91472caf6cc43280180f7343aeba6c2750f51b648ffbd192d122103c177090d1"), looks := false }, kinds := [], alts := [], laidByText := true, laidKinds := [.data, .data, .data, .data], laidTests := true, laidLooks := .later }
def TicketnoDetectsUptoCardSaid : Prop := Claim7.holds Tryd.pinned (.plain (OpenSpec.upto ticketnoDetectsSpec)) ticketnoDetectsUptoCard

/-- THE SECOND FORM's CARD OF 'lotterylaw18.TicketnoSwaps'. -/
def ticketnoSwapsUptoCard : Claim7 := { stood := { row := ticketnoSwapsUptoRow, standIns := [], harness := (true, "91472caf6cc43280180f7343aeba6c2750f51b648ffbd192d122103c177090d1"), looks := false }, kinds := [], alts := [], laidByText := true, laidKinds := [.data, .data, .data, .data], laidTests := true, laidLooks := .later }
def TicketnoSwapsUptoCardSaid : Prop := Claim7.holds Tryd.pinned (.plain (OpenSpec.upto ticketnoSwapsSpec)) ticketnoSwapsUptoCard
end Rows
end Go.Proofs.YtgloiddnbppblaaDoor
