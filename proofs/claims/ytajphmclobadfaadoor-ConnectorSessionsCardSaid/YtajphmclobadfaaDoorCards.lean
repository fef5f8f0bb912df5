/-
  DERIVED. GIVEN WITH THE SEED: THE CARDS: each row of YtajphmclobadfaaDoorRows.lean that lists a variable, with what it lists TIED to the program's text (the seventh form; the later family's looks); each row that meets fmt, with fmt's text TOLD by the authors' own Lean function (tested against real Go, not proved from fmt's source: count such statements apart). THE CARD IS WHAT COUNTS. Prove the row's statement (the work); the ties are given (YtajphmclobadfaaDoorTie.lean); close each card by the builder's one call (the guide's Derived/Test/ToyasCard.lean, 'card_holds'). Laid BY PROGRAM, IN A SANDBOX (cutbox-door.mjs). By AI agents, Wed Nov 11 2026. No macro, syntax, notation, axiom, sorry.
-/
import Derived.Test.YtajphmclobadfaaDoorRows
import GoSem.ClaimSeven
namespace Go.Proofs.YtajphmclobadfaaDoor
namespace Rows

/-- THE TIED CARD OF 'chargenetlaw28.ConnectorNexts'. -/
def connectorNextsCard : Claim7 := { stood := { row := connectorNextsRow, standIns := [], harness := (true, "543eefb673a9cca651255649dafb7d4e9dd367f3093254f5caad38a3a0b11b26"), looks := false }, kinds := [], alts := [], laidByText := true, laidKinds := [.data], laidTests := true, laidLooks := .later }
def ConnectorNextsCardSaid : Prop := Claim7.holds Tryd.pinned (.plain (OpenSpec.ofChange connectorNextsSpec)) connectorNextsCard

/-- THE TIED CARD OF 'chargenetlaw28.ConnectorRuns'. -/
def connectorRunsCard : Claim7 := { stood := { row := connectorRunsRow, standIns := [], harness := (true, "543eefb673a9cca651255649dafb7d4e9dd367f3093254f5caad38a3a0b11b26"), looks := false }, kinds := [], alts := [], laidByText := true, laidKinds := [.data], laidTests := true, laidLooks := .later }
def ConnectorRunsCardSaid : Prop := Claim7.holds Tryd.pinned (.plain (OpenSpec.ofChange connectorRunsSpec)) connectorRunsCard

/-- THE TIED CARD OF 'chargenetlaw28.ConnectorFrees'. -/
def connectorFreesCard : Claim7 := { stood := { row := connectorFreesRow, standIns := [], harness := (true, "543eefb673a9cca651255649dafb7d4e9dd367f3093254f5caad38a3a0b11b26"), looks := false }, kinds := [], alts := [], laidByText := true, laidKinds := [.data], laidTests := true, laidLooks := .later }
def ConnectorFreesCardSaid : Prop := Claim7.holds Tryd.pinned (.plain (OpenSpec.ofChange connectorFreesSpec)) connectorFreesCard

/-- THE TIED CARD OF 'chargenetlaw28.ConnectorSessions'. -/
def connectorSessionsCard : Claim7 := { stood := { row := connectorSessionsRow, standIns := [], harness := (true, "543eefb673a9cca651255649dafb7d4e9dd367f3093254f5caad38a3a0b11b26"), looks := false }, kinds := [], alts := [], laidByText := true, laidKinds := [.data], laidTests := true, laidLooks := .later }
def ConnectorSessionsCardSaid : Prop := Claim7.holds Tryd.pinned (.plain (OpenSpec.ofChange connectorSessionsSpec)) connectorSessionsCard

/-- THE TIED CARD OF 'chargenetlaw28.ConnectorCharges'. -/
def connectorChargesCard : Claim7 := { stood := { row := connectorChargesRow, standIns := [], harness := (true, "543eefb673a9cca651255649dafb7d4e9dd367f3093254f5caad38a3a0b11b26"), looks := false }, kinds := [], alts := [], laidByText := true, laidKinds := [.data], laidTests := true, laidLooks := .later }
def ConnectorChargesCardSaid : Prop := Claim7.holds Tryd.pinned (.plain (OpenSpec.ofChange connectorChargesSpec)) connectorChargesCard

/-- THE SECOND FORM's CARD OF 'chargenetlaw28.ConnectorNexts'. -/
def connectorNextsUptoCard : Claim7 := { stood := { row := connectorNextsUptoRow, standIns := [], harness := (true, "543eefb673a9cca651255649dafb7d4e9dd367f3093254f5caad38a3a0b11b26"), looks := false }, kinds := [], alts := [], laidByText := true, laidKinds := [.data], laidTests := true, laidLooks := .later }
def ConnectorNextsUptoCardSaid : Prop := Claim7.holds Tryd.pinned (.plain (OpenSpec.upto connectorNextsSpec)) connectorNextsUptoCard

/-- THE SECOND FORM's CARD OF 'chargenetlaw28.ConnectorRuns'. -/
def connectorRunsUptoCard : Claim7 := { stood := { row := connectorRunsUptoRow, standIns := [], harness := (true, "543eefb673a9cca651255649dafb7d4e9dd367f3093254f5caad38a3a0b11b26"), looks := false }, kinds := [], alts := [], laidByText := true, laidKinds := [.data], laidTests := true, laidLooks := .later }
def ConnectorRunsUptoCardSaid : Prop := Claim7.holds Tryd.pinned (.plain (OpenSpec.upto connectorRunsSpec)) connectorRunsUptoCard

/-- THE SECOND FORM's CARD OF 'chargenetlaw28.ConnectorFrees'. -/
def connectorFreesUptoCard : Claim7 := { stood := { row := connectorFreesUptoRow, standIns := [], harness := (true, "543eefb673a9cca651255649dafb7d4e9dd367f3093254f5caad38a3a0b11b26"), looks := false }, kinds := [], alts := [], laidByText := true, laidKinds := [.data], laidTests := true, laidLooks := .later }
def ConnectorFreesUptoCardSaid : Prop := Claim7.holds Tryd.pinned (.plain (OpenSpec.upto connectorFreesSpec)) connectorFreesUptoCard

/-- THE SECOND FORM's CARD OF 'chargenetlaw28.ConnectorSessions'. -/
def connectorSessionsUptoCard : Claim7 := { stood := { row := connectorSessionsUptoRow, standIns := [], harness := (true, "543eefb673a9cca651255649dafb7d4e9dd367f3093254f5caad38a3a0b11b26"), looks := false }, kinds := [], alts := [], laidByText := true, laidKinds := [.data], laidTests := true, laidLooks := .later }
def ConnectorSessionsUptoCardSaid : Prop := Claim7.holds Tryd.pinned (.plain (OpenSpec.upto connectorSessionsSpec)) connectorSessionsUptoCard

/-- THE SECOND FORM's CARD OF 'chargenetlaw28.ConnectorCharges'. -/
def connectorChargesUptoCard : Claim7 := { stood := { row := connectorChargesUptoRow, standIns := [], harness := (true, "543eefb673a9cca651255649dafb7d4e9dd367f3093254f5caad38a3a0b11b26"), looks := false }, kinds := [], alts := [], laidByText := true, laidKinds := [.data], laidTests := true, laidLooks := .later }
def ConnectorChargesUptoCardSaid : Prop := Claim7.holds Tryd.pinned (.plain (OpenSpec.upto connectorChargesSpec)) connectorChargesUptoCard
end Rows
end Go.Proofs.YtajphmclobadfaaDoor
