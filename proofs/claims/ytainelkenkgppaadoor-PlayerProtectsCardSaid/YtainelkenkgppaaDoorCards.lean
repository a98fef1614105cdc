/-
  DERIVED. GIVEN WITH THE SEED: THE CARDS: each row of YtainelkenkgppaaDoorRows.lean that lists a variable, with what it lists TIED to the program's text (the seventh form; the later family's looks); each row that meets fmt, with fmt's text TOLD by the authors' own Lean function (tested against real Go, not proved from fmt's source: count such statements apart). THE CARD IS WHAT COUNTS. Prove the row's statement (the work); the ties are given (YtainelkenkgppaaDoorTie.lean); close each card by the builder's one call (the guide's Derived/Test/ToyasCard.lean, 'card_holds'). Laid BY PROGRAM, IN A SANDBOX (cutbox-door.mjs). By AI agents, Wed Nov 11 2026. No macro, syntax, notation, axiom, sorry.
-/
import Derived.Test.YtainelkenkgppaaDoorRows
import GoSem.ClaimSeven
namespace Go.Proofs.YtainelkenkgppaaDoor
namespace Rows

/-- THE TIED CARD OF 'lotterylaw21.LimitOrders'. -/
def limitOrdersCard : Claim7 := { stood := { row := limitOrdersRow, standIns := [], harness := (true, "f365015fb1f3045a5da2eece32257fa1a1b0cf617724c95b10cace90f1193851"), looks := false }, kinds := [], alts := [], laidByText := true, laidKinds := [.data], laidTests := true, laidLooks := .later }
def LimitOrdersCardSaid : Prop := Claim7.holds Tryd.pinned (.plain (OpenSpec.ofChange limitOrdersSpec)) limitOrdersCard

/-- THE TIED CARD OF 'lotterylaw21.LimitAllows'. -/
def limitAllowsCard : Claim7 := { stood := { row := limitAllowsRow, standIns := [], harness := (true, "f365015fb1f3045a5da2eece32257fa1a1b0cf617724c95b10cace90f1193851"), looks := false }, kinds := [], alts := [], laidByText := true, laidKinds := [.data], laidTests := true, laidLooks := .later }
def LimitAllowsCardSaid : Prop := Claim7.holds Tryd.pinned (.plain (OpenSpec.ofChange limitAllowsSpec)) limitAllowsCard

/-- THE TIED CARD OF 'lotterylaw22.PlayerDoes'. -/
def playerDoesCard : Claim7 := { stood := { row := playerDoesRow, standIns := [], harness := (true, "f365015fb1f3045a5da2eece32257fa1a1b0cf617724c95b10cace90f1193851"), looks := false }, kinds := [], alts := [], laidByText := true, laidKinds := [.data], laidTests := true, laidLooks := .later }
def PlayerDoesCardSaid : Prop := Claim7.holds Tryd.pinned (.plain (OpenSpec.ofChange playerDoesSpec)) playerDoesCard

/-- THE TIED CARD OF 'lotterylaw22.PlayerAges'. -/
def playerAgesCard : Claim7 := { stood := { row := playerAgesRow, standIns := [], harness := (true, "f365015fb1f3045a5da2eece32257fa1a1b0cf617724c95b10cace90f1193851"), looks := false }, kinds := [], alts := [], laidByText := true, laidKinds := [.data], laidTests := true, laidLooks := .later }
def PlayerAgesCardSaid : Prop := Claim7.holds Tryd.pinned (.plain (OpenSpec.ofChange playerAgesSpec)) playerAgesCard

/-- THE TIED CARD OF 'lotterylaw22.PlayerProtects'. -/
def playerProtectsCard : Claim7 := { stood := { row := playerProtectsRow, standIns := [], harness := (true, "f365015fb1f3045a5da2eece32257fa1a1b0cf617724c95b10cace90f1193851"), looks := false }, kinds := [], alts := [], laidByText := true, laidKinds := [.data], laidTests := true, laidLooks := .later }
def PlayerProtectsCardSaid : Prop := Claim7.holds Tryd.pinned (.plain (OpenSpec.ofChange playerProtectsSpec)) playerProtectsCard

/-- THE TIED CARD OF 'lotterylaw22.PlayerErrors'. -/
def playerErrorsCard : Claim7 := { stood := { row := playerErrorsRow, standIns := [], harness := (true, "f365015fb1f3045a5da2eece32257fa1a1b0cf617724c95b10cace90f1193851"), looks := false }, kinds := [], alts := [], laidByText := true, laidKinds := [.data], laidTests := true, laidLooks := .later }
def PlayerErrorsCardSaid : Prop := Claim7.holds Tryd.pinned (.plain (OpenSpec.ofChange playerErrorsSpec)) playerErrorsCard

/-- THE TIED CARD OF 'lotterylaw22.PlayerApart'. -/
def playerApartCard : Claim7 := { stood := { row := playerApartRow, standIns := [], harness := (true, "f365015fb1f3045a5da2eece32257fa1a1b0cf617724c95b10cace90f1193851"), looks := false }, kinds := [], alts := [], laidByText := true, laidKinds := [.data], laidTests := true, laidLooks := .later }
def PlayerApartCardSaid : Prop := Claim7.holds Tryd.pinned (.plain (OpenSpec.ofChange playerApartSpec)) playerApartCard

/-- THE TIED CARD OF 'lotterylaw22.PlayerNobody'. -/
def playerNobodyCard : Claim7 := { stood := { row := playerNobodyRow, standIns := [], harness := (true, "f365015fb1f3045a5da2eece32257fa1a1b0cf617724c95b10cace90f1193851"), looks := false }, kinds := [], alts := [], laidByText := true, laidKinds := [.data], laidTests := true, laidLooks := .later }
def PlayerNobodyCardSaid : Prop := Claim7.holds Tryd.pinned (.plain (OpenSpec.ofChange playerNobodySpec)) playerNobodyCard

/-- THE SECOND FORM's CARD OF 'lotterylaw21.LimitOrders'. -/
def limitOrdersUptoCard : Claim7 := { stood := { row := limitOrdersUptoRow, standIns := [], harness := (true, "f365015fb1f3045a5da2eece32257fa1a1b0cf617724c95b10cace90f1193851"), looks := false }, kinds := [], alts := [], laidByText := true, laidKinds := [.data], laidTests := true, laidLooks := .later }
def LimitOrdersUptoCardSaid : Prop := Claim7.holds Tryd.pinned (.plain (OpenSpec.upto limitOrdersSpec)) limitOrdersUptoCard

/-- THE SECOND FORM's CARD OF 'lotterylaw21.LimitAllows'. -/
def limitAllowsUptoCard : Claim7 := { stood := { row := limitAllowsUptoRow, standIns := [], harness := (true, "f365015fb1f3045a5da2eece32257fa1a1b0cf617724c95b10cace90f1193851"), looks := false }, kinds := [], alts := [], laidByText := true, laidKinds := [.data], laidTests := true, laidLooks := .later }
def LimitAllowsUptoCardSaid : Prop := Claim7.holds Tryd.pinned (.plain (OpenSpec.upto limitAllowsSpec)) limitAllowsUptoCard

/-- THE SECOND FORM's CARD OF 'lotterylaw22.PlayerDoes'. -/
def playerDoesUptoCard : Claim7 := { stood := { row := playerDoesUptoRow, standIns := [], harness := (true, "f365015fb1f3045a5da2eece32257fa1a1b0cf617724c95b10cace90f1193851"), looks := false }, kinds := [], alts := [], laidByText := true, laidKinds := [.data], laidTests := true, laidLooks := .later }
def PlayerDoesUptoCardSaid : Prop := Claim7.holds Tryd.pinned (.plain (OpenSpec.upto playerDoesSpec)) playerDoesUptoCard

/-- THE SECOND FORM's CARD OF 'lotterylaw22.PlayerAges'. -/
def playerAgesUptoCard : Claim7 := { stood := { row := playerAgesUptoRow, standIns := [], harness := (true, "f365015fb1f3045a5da2eece32257fa1a1b0cf617724c95b10cace90f1193851"), looks := false }, kinds := [], alts := [], laidByText := true, laidKinds := [.data], laidTests := true, laidLooks := .later }
def PlayerAgesUptoCardSaid : Prop := Claim7.holds Tryd.pinned (.plain (OpenSpec.upto playerAgesSpec)) playerAgesUptoCard

/-- THE SECOND FORM's CARD OF 'lotterylaw22.PlayerProtects'. -/
def playerProtectsUptoCard : Claim7 := { stood := { row := playerProtectsUptoRow, standIns := [], harness := (true, "f365015fb1f3045a5da2eece32257fa1a1b0cf617724c95b10cace90f1193851"), looks := false }, kinds := [], alts := [], laidByText := true, laidKinds := [.data], laidTests := true, laidLooks := .later }
def PlayerProtectsUptoCardSaid : Prop := Claim7.holds Tryd.pinned (.plain (OpenSpec.upto playerProtectsSpec)) playerProtectsUptoCard

/-- THE SECOND FORM's CARD OF 'lotterylaw22.PlayerErrors'. -/
def playerErrorsUptoCard : Claim7 := { stood := { row := playerErrorsUptoRow, standIns := [], harness := (true, "f365015fb1f3045a5da2eece32257fa1a1b0cf617724c95b10cace90f1193851"), looks := false }, kinds := [], alts := [], laidByText := true, laidKinds := [.data], laidTests := true, laidLooks := .later }
def PlayerErrorsUptoCardSaid : Prop := Claim7.holds Tryd.pinned (.plain (OpenSpec.upto playerErrorsSpec)) playerErrorsUptoCard

/-- THE SECOND FORM's CARD OF 'lotterylaw22.PlayerApart'. -/
def playerApartUptoCard : Claim7 := { stood := { row := playerApartUptoRow, standIns := [], harness := (true, "f365015fb1f3045a5da2eece32257fa1a1b0cf617724c95b10cace90f1193851"), looks := false }, kinds := [], alts := [], laidByText := true, laidKinds := [.data], laidTests := true, laidLooks := .later }
def PlayerApartUptoCardSaid : Prop := Claim7.holds Tryd.pinned (.plain (OpenSpec.upto playerApartSpec)) playerApartUptoCard

/-- THE SECOND FORM's CARD OF 'lotterylaw22.PlayerNobody'. -/
def playerNobodyUptoCard : Claim7 := { stood := { row := playerNobodyUptoRow, standIns := [], harness := (true, "f365015fb1f3045a5da2eece32257fa1a1b0cf617724c95b10cace90f1193851"), looks := false }, kinds := [], alts := [], laidByText := true, laidKinds := [.data], laidTests := true, laidLooks := .later }
def PlayerNobodyUptoCardSaid : Prop := Claim7.holds Tryd.pinned (.plain (OpenSpec.upto playerNobodySpec)) playerNobodyUptoCard
end Rows
end Go.Proofs.YtainelkenkgppaaDoor
