/-
  DERIVED. GIVEN WITH THE SEED: THE CARDS: each row of YtpcojaoeahdgcaaGreatDoorRows.lean that lists a variable, with what it lists TIED to the program's text (the seventh form; the later family's looks); each row that meets fmt, with fmt's text TOLD by the authors' own Lean function (tested against real Go, not proved from fmt's source: count such statements apart). THE CARD IS WHAT COUNTS. Prove the row's statement (the work); the ties are given (YtpcojaoeahdgcaaGreatDoorTie.lean); close each card by the builder's one call (the guide's Derived/Test/ToyasCard.lean, 'card_holds'). Laid BY PROGRAM, IN A SANDBOX (cutbox-door.mjs). By AI agents, Wed Nov 11 2026. No macro, syntax, notation, axiom, sorry.
-/
import Derived.Test.YtpcojaoeahdgcaaGreatDoorRows
import GoSem.ClaimSeven
namespace Go.Proofs.YtpcojaoeahdgcaaGreatDoor
namespace Rows

/-- THE TIED CARD OF 'lockbarlaw11.RouteTells'. -/
def routeTellsCard : Claim7 := { stood := { row := routeTellsRow, standIns := [], harness := (true, "9bdda15eb5e79e4dd1b87e27d980966ad00243ffe7fceca9a20ec91886e337e4"), looks := false }, kinds := [], alts := [], laidByText := true, laidKinds := [.data, .data, .data], laidTests := true, laidLooks := .later }
def RouteTellsCardSaid : Prop := Claim7.holds Tryz.pinned (.plain (OpenSpec.ofChange routeTellsSpec)) routeTellsCard

/-- THE SECOND FORM's CARD OF 'lockbarlaw11.RouteTells'. -/
def routeTellsUptoCard : Claim7 := { stood := { row := routeTellsUptoRow, standIns := [], harness := (true, "9bdda15eb5e79e4dd1b87e27d980966ad00243ffe7fceca9a20ec91886e337e4"), looks := false }, kinds := [], alts := [], laidByText := true, laidKinds := [.data, .data, .data], laidTests := true, laidLooks := .later }
def RouteTellsUptoCardSaid : Prop := Claim7.holds Tryz.pinned (.plain (OpenSpec.upto routeTellsSpec)) routeTellsUptoCard
end Rows
end Go.Proofs.YtpcojaoeahdgcaaGreatDoor
