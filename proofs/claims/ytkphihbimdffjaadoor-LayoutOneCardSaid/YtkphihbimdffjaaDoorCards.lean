/-
  DERIVED. GIVEN WITH THE SEED: THE CARDS: each row of YtkphihbimdffjaaDoorRows.lean that lists a variable, with what it lists TIED to the program's text (the seventh form; the later family's looks); each row that meets fmt, with fmt's text TOLD by the authors' own Lean function (tested against real Go, not proved from fmt's source: count such statements apart). THE CARD IS WHAT COUNTS. Prove the row's statement (the work); the ties are given (YtkphihbimdffjaaDoorTie.lean); close each card by the builder's one call (the guide's Derived/Test/ToyasCard.lean, 'card_holds'). Laid BY PROGRAM, IN A SANDBOX (cutbox-door.mjs). By AI agents, Wed Nov 11 2026. No macro, syntax, notation, axiom, sorry.
-/
import Derived.Test.YtkphihbimdffjaaDoorRows
import GoSem.ClaimSeven
namespace Go.Proofs.YtkphihbimdffjaaDoor
namespace Rows

/-- THE TIED CARD OF 'lockbarlaw06.LayoutTells'. -/
def layoutTellsCard : Claim7 := { stood := { row := layoutTellsRow, standIns := [], harness := (true, "1e7f514dbb31303eded64312d141cc0a5ee797b482e87a942d6e3c1dce5cc0de"), looks := false }, kinds := [], alts := [], laidByText := true, laidKinds := [.data, .data], laidTests := true, laidLooks := .later }
def LayoutTellsCardSaid : Prop := Claim7.holds Tryd.pinned (.plain (OpenSpec.ofChange layoutTellsSpec)) layoutTellsCard

/-- THE TIED CARD OF 'lockbarlaw06.LayoutOne'. -/
def layoutOneCard : Claim7 := { stood := { row := layoutOneRow, standIns := [], harness := (true, "1e7f514dbb31303eded64312d141cc0a5ee797b482e87a942d6e3c1dce5cc0de"), looks := false }, kinds := [], alts := [], laidByText := true, laidKinds := [.data, .data], laidTests := true, laidLooks := .later }
def LayoutOneCardSaid : Prop := Claim7.holds Tryd.pinned (.plain (OpenSpec.ofChange layoutOneSpec)) layoutOneCard

/-- THE TIED CARD OF 'lockbarlaw06.LayoutPorts'. -/
def layoutPortsCard : Claim7 := { stood := { row := layoutPortsRow, standIns := [], harness := (true, "1e7f514dbb31303eded64312d141cc0a5ee797b482e87a942d6e3c1dce5cc0de"), looks := false }, kinds := [], alts := [], laidByText := true, laidKinds := [.data, .data], laidTests := true, laidLooks := .later }
def LayoutPortsCardSaid : Prop := Claim7.holds Tryd.pinned (.plain (OpenSpec.ofChange layoutPortsSpec)) layoutPortsCard

/-- THE TIED CARD OF 'lockbarlaw06.LayoutFinds'. -/
def layoutFindsCard : Claim7 := { stood := { row := layoutFindsRow, standIns := [], harness := (true, "1e7f514dbb31303eded64312d141cc0a5ee797b482e87a942d6e3c1dce5cc0de"), looks := false }, kinds := [], alts := [], laidByText := true, laidKinds := [.data, .data], laidTests := true, laidLooks := .later }
def LayoutFindsCardSaid : Prop := Claim7.holds Tryd.pinned (.plain (OpenSpec.ofChange layoutFindsSpec)) layoutFindsCard

/-- THE TIED CARD OF 'lockbarlaw06.LayoutSteps'. -/
def layoutStepsCard : Claim7 := { stood := { row := layoutStepsRow, standIns := [], harness := (true, "1e7f514dbb31303eded64312d141cc0a5ee797b482e87a942d6e3c1dce5cc0de"), looks := false }, kinds := [], alts := [], laidByText := true, laidKinds := [.data, .data], laidTests := true, laidLooks := .later }
def LayoutStepsCardSaid : Prop := Claim7.holds Tryd.pinned (.plain (OpenSpec.ofChange layoutStepsSpec)) layoutStepsCard

/-- THE SECOND FORM's CARD OF 'lockbarlaw06.LayoutTells'. -/
def layoutTellsUptoCard : Claim7 := { stood := { row := layoutTellsUptoRow, standIns := [], harness := (true, "1e7f514dbb31303eded64312d141cc0a5ee797b482e87a942d6e3c1dce5cc0de"), looks := false }, kinds := [], alts := [], laidByText := true, laidKinds := [.data, .data], laidTests := true, laidLooks := .later }
def LayoutTellsUptoCardSaid : Prop := Claim7.holds Tryd.pinned (.plain (OpenSpec.upto layoutTellsSpec)) layoutTellsUptoCard

/-- THE SECOND FORM's CARD OF 'lockbarlaw06.LayoutOne'. -/
def layoutOneUptoCard : Claim7 := { stood := { row := layoutOneUptoRow, standIns := [], harness := (true, "1e7f514dbb31303eded64312d141cc0a5ee797b482e87a942d6e3c1dce5cc0de"), looks := false }, kinds := [], alts := [], laidByText := true, laidKinds := [.data, .data], laidTests := true, laidLooks := .later }
def LayoutOneUptoCardSaid : Prop := Claim7.holds Tryd.pinned (.plain (OpenSpec.upto layoutOneSpec)) layoutOneUptoCard

/-- THE SECOND FORM's CARD OF 'lockbarlaw06.LayoutPorts'. -/
def layoutPortsUptoCard : Claim7 := { stood := { row := layoutPortsUptoRow, standIns := [], harness := (true, "1e7f514dbb31303eded64312d141cc0a5ee797b482e87a942d6e3c1dce5cc0de"), looks := false }, kinds := [], alts := [], laidByText := true, laidKinds := [.data, .data], laidTests := true, laidLooks := .later }
def LayoutPortsUptoCardSaid : Prop := Claim7.holds Tryd.pinned (.plain (OpenSpec.upto layoutPortsSpec)) layoutPortsUptoCard

/-- THE SECOND FORM's CARD OF 'lockbarlaw06.LayoutFinds'. -/
def layoutFindsUptoCard : Claim7 := { stood := { row := layoutFindsUptoRow, standIns := [], harness := (true, "1e7f514dbb31303eded64312d141cc0a5ee797b482e87a942d6e3c1dce5cc0de"), looks := false }, kinds := [], alts := [], laidByText := true, laidKinds := [.data, .data], laidTests := true, laidLooks := .later }
def LayoutFindsUptoCardSaid : Prop := Claim7.holds Tryd.pinned (.plain (OpenSpec.upto layoutFindsSpec)) layoutFindsUptoCard

/-- THE SECOND FORM's CARD OF 'lockbarlaw06.LayoutSteps'. -/
def layoutStepsUptoCard : Claim7 := { stood := { row := layoutStepsUptoRow, standIns := [], harness := (true, "1e7f514dbb31303eded64312d141cc0a5ee797b482e87a942d6e3c1dce5cc0de"), looks := false }, kinds := [], alts := [], laidByText := true, laidKinds := [.data, .data], laidTests := true, laidLooks := .later }
def LayoutStepsUptoCardSaid : Prop := Claim7.holds Tryd.pinned (.plain (OpenSpec.upto layoutStepsSpec)) layoutStepsUptoCard
end Rows
end Go.Proofs.YtkphihbimdffjaaDoor
