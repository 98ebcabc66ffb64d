/-
  DERIVED. GIVEN WITH THE SEED: THE CARDS: each row of YtpnnbihofoomeaaDoorRows.lean that lists a variable, with what it lists TIED to the program's text (the seventh form; the later family's looks); each row that meets fmt, with fmt's text TOLD by the authors' own Lean function (tested against real Go, not proved from fmt's source: count such statements apart). THE CARD IS WHAT COUNTS. Prove the row's statement (the work); the ties are given (YtpnnbihofoomeaaDoorTie.lean); close each card by the builder's one call (the guide's Derived/Test/ToyasCard.lean, 'card_holds'). Laid BY PROGRAM, IN A SANDBOX (cutbox-door.mjs). By AI agents, Wed Nov 11 2026. No macro, syntax, notation, axiom, sorry.
-/
import Derived.Test.YtpnnbihofoomeaaDoorRows
import GoSem.ClaimSeven
namespace Go.Proofs.YtpnnbihofoomeaaDoor
namespace Rows

/-- THE TIED CARD OF 'lockbarlaw08.PlanTells'. -/
def planTellsCard : Claim7 := { stood := { row := planTellsRow, standIns := [], harness := (true, "479b1d365078aa6a65adb860a79fd47d98a9c035ed1b6145318c218d63b0cd9c"), looks := false }, kinds := [], alts := [], laidByText := true, laidKinds := [.data, .data], laidTests := true, laidLooks := .later }
def PlanTellsCardSaid : Prop := Claim7.holds Tryd.pinned (.plain (OpenSpec.ofChange planTellsSpec)) planTellsCard

/-- THE TIED CARD OF 'lockbarlaw08.PlanBack'. -/
def planBackCard : Claim7 := { stood := { row := planBackRow, standIns := [], harness := (true, "479b1d365078aa6a65adb860a79fd47d98a9c035ed1b6145318c218d63b0cd9c"), looks := false }, kinds := [], alts := [], laidByText := true, laidKinds := [.data, .data], laidTests := true, laidLooks := .later }
def PlanBackCardSaid : Prop := Claim7.holds Tryd.pinned (.plain (OpenSpec.ofChange planBackSpec)) planBackCard

/-- THE TIED CARD OF 'lockbarlaw08.PlanOnly'. -/
def planOnlyCard : Claim7 := { stood := { row := planOnlyRow, standIns := [], harness := (true, "479b1d365078aa6a65adb860a79fd47d98a9c035ed1b6145318c218d63b0cd9c"), looks := false }, kinds := [], alts := [], laidByText := true, laidKinds := [.data, .data], laidTests := true, laidLooks := .later }
def PlanOnlyCardSaid : Prop := Claim7.holds Tryd.pinned (.plain (OpenSpec.ofChange planOnlySpec)) planOnlyCard

/-- THE TIED CARD OF 'lockbarlaw08.PlanApart'. -/
def planApartCard : Claim7 := { stood := { row := planApartRow, standIns := [], harness := (true, "479b1d365078aa6a65adb860a79fd47d98a9c035ed1b6145318c218d63b0cd9c"), looks := false }, kinds := [], alts := [], laidByText := true, laidKinds := [.data, .data], laidTests := true, laidLooks := .later }
def PlanApartCardSaid : Prop := Claim7.holds Tryd.pinned (.plain (OpenSpec.ofChange planApartSpec)) planApartCard

/-- THE SECOND FORM's CARD OF 'lockbarlaw08.PlanTells'. -/
def planTellsUptoCard : Claim7 := { stood := { row := planTellsUptoRow, standIns := [], harness := (true, "479b1d365078aa6a65adb860a79fd47d98a9c035ed1b6145318c218d63b0cd9c"), looks := false }, kinds := [], alts := [], laidByText := true, laidKinds := [.data, .data], laidTests := true, laidLooks := .later }
def PlanTellsUptoCardSaid : Prop := Claim7.holds Tryd.pinned (.plain (OpenSpec.upto planTellsSpec)) planTellsUptoCard

/-- THE SECOND FORM's CARD OF 'lockbarlaw08.PlanBack'. -/
def planBackUptoCard : Claim7 := { stood := { row := planBackUptoRow, standIns := [], harness := (true, "479b1d365078aa6a65adb860a79fd47d98a9c035ed1b6145318c218d63b0cd9c"), looks := false }, kinds := [], alts := [], laidByText := true, laidKinds := [.data, .data], laidTests := true, laidLooks := .later }
def PlanBackUptoCardSaid : Prop := Claim7.holds Tryd.pinned (.plain (OpenSpec.upto planBackSpec)) planBackUptoCard

/-- THE SECOND FORM's CARD OF 'lockbarlaw08.PlanOnly'. -/
def planOnlyUptoCard : Claim7 := { stood := { row := planOnlyUptoRow, standIns := [], harness := (true, "479b1d365078aa6a65adb860a79fd47d98a9c035ed1b6145318c218d63b0cd9c"), looks := false }, kinds := [], alts := [], laidByText := true, laidKinds := [.data, .data], laidTests := true, laidLooks := .later }
def PlanOnlyUptoCardSaid : Prop := Claim7.holds Tryd.pinned (.plain (OpenSpec.upto planOnlySpec)) planOnlyUptoCard

/-- THE SECOND FORM's CARD OF 'lockbarlaw08.PlanApart'. -/
def planApartUptoCard : Claim7 := { stood := { row := planApartUptoRow, standIns := [], harness := (true, "479b1d365078aa6a65adb860a79fd47d98a9c035ed1b6145318c218d63b0cd9c"), looks := false }, kinds := [], alts := [], laidByText := true, laidKinds := [.data, .data], laidTests := true, laidLooks := .later }
def PlanApartUptoCardSaid : Prop := Claim7.holds Tryd.pinned (.plain (OpenSpec.upto planApartSpec)) planApartUptoCard
end Rows
end Go.Proofs.YtpnnbihofoomeaaDoor
