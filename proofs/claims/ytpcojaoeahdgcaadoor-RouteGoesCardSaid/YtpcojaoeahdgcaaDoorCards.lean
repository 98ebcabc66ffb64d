/-
  DERIVED. GIVEN WITH THE SEED: THE CARDS: each row of YtpcojaoeahdgcaaDoorRows.lean that lists a variable, with what it lists TIED to the program's text (the seventh form; the later family's looks); each row that meets fmt, with fmt's text TOLD by the authors' own Lean function (tested against real Go, not proved from fmt's source: count such statements apart). THE CARD IS WHAT COUNTS. Prove the row's statement (the work); the ties are given (YtpcojaoeahdgcaaDoorTie.lean); close each card by the builder's one call (the guide's Derived/Test/ToyasCard.lean, 'card_holds'). Laid BY PROGRAM, IN A SANDBOX (cutbox-door.mjs). By AI agents, Wed Nov 11 2026. No macro, syntax, notation, axiom, sorry.
-/
import Derived.Test.YtpcojaoeahdgcaaDoorRows
import GoSem.ClaimSeven
namespace Go.Proofs.YtpcojaoeahdgcaaDoor
namespace Rows

/-- THE TIED CARD OF 'lockbarlaw11.RoutePath'. -/
def routePathCard : Claim7 := { stood := { row := routePathRow, standIns := [], harness := (true, "cfff4adc463c6f9ce7949ac5343bd4b581054832799839b491415a10a7ea59f5"), looks := false }, kinds := [], alts := [], laidByText := true, laidKinds := [.data, .data, .data], laidTests := true, laidLooks := .later }
def RoutePathCardSaid : Prop := Claim7.holds Tryd.pinned (.plain (OpenSpec.ofChange routePathSpec)) routePathCard

/-- THE TIED CARD OF 'lockbarlaw11.RouteLess'. -/
def routeLessCard : Claim7 := { stood := { row := routeLessRow, standIns := [], harness := (true, "cfff4adc463c6f9ce7949ac5343bd4b581054832799839b491415a10a7ea59f5"), looks := false }, kinds := [], alts := [], laidByText := true, laidKinds := [.data, .data, .data], laidTests := true, laidLooks := .later }
def RouteLessCardSaid : Prop := Claim7.holds Tryd.pinned (.plain (OpenSpec.ofChange routeLessSpec)) routeLessCard

/-- THE TIED CARD OF 'lockbarlaw11.RouteParts'. -/
def routePartsCard : Claim7 := { stood := { row := routePartsRow, standIns := [], harness := (true, "cfff4adc463c6f9ce7949ac5343bd4b581054832799839b491415a10a7ea59f5"), looks := false }, kinds := [], alts := [], laidByText := true, laidKinds := [.data, .data, .data], laidTests := true, laidLooks := .later }
def RoutePartsCardSaid : Prop := Claim7.holds Tryd.pinned (.plain (OpenSpec.ofChange routePartsSpec)) routePartsCard

/-- THE TIED CARD OF 'lockbarlaw11.RouteGoes'. -/
def routeGoesCard : Claim7 := { stood := { row := routeGoesRow, standIns := [], harness := (true, "cfff4adc463c6f9ce7949ac5343bd4b581054832799839b491415a10a7ea59f5"), looks := false }, kinds := [], alts := [], laidByText := true, laidKinds := [.data, .data, .data], laidTests := true, laidLooks := .later }
def RouteGoesCardSaid : Prop := Claim7.holds Tryd.pinned (.plain (OpenSpec.ofChange routeGoesSpec)) routeGoesCard

/-- THE SECOND FORM's CARD OF 'lockbarlaw11.RoutePath'. -/
def routePathUptoCard : Claim7 := { stood := { row := routePathUptoRow, standIns := [], harness := (true, "cfff4adc463c6f9ce7949ac5343bd4b581054832799839b491415a10a7ea59f5"), looks := false }, kinds := [], alts := [], laidByText := true, laidKinds := [.data, .data, .data], laidTests := true, laidLooks := .later }
def RoutePathUptoCardSaid : Prop := Claim7.holds Tryd.pinned (.plain (OpenSpec.upto routePathSpec)) routePathUptoCard

/-- THE SECOND FORM's CARD OF 'lockbarlaw11.RouteLess'. -/
def routeLessUptoCard : Claim7 := { stood := { row := routeLessUptoRow, standIns := [], harness := (true, "cfff4adc463c6f9ce7949ac5343bd4b581054832799839b491415a10a7ea59f5"), looks := false }, kinds := [], alts := [], laidByText := true, laidKinds := [.data, .data, .data], laidTests := true, laidLooks := .later }
def RouteLessUptoCardSaid : Prop := Claim7.holds Tryd.pinned (.plain (OpenSpec.upto routeLessSpec)) routeLessUptoCard

/-- THE SECOND FORM's CARD OF 'lockbarlaw11.RouteParts'. -/
def routePartsUptoCard : Claim7 := { stood := { row := routePartsUptoRow, standIns := [], harness := (true, "cfff4adc463c6f9ce7949ac5343bd4b581054832799839b491415a10a7ea59f5"), looks := false }, kinds := [], alts := [], laidByText := true, laidKinds := [.data, .data, .data], laidTests := true, laidLooks := .later }
def RoutePartsUptoCardSaid : Prop := Claim7.holds Tryd.pinned (.plain (OpenSpec.upto routePartsSpec)) routePartsUptoCard

/-- THE SECOND FORM's CARD OF 'lockbarlaw11.RouteGoes'. -/
def routeGoesUptoCard : Claim7 := { stood := { row := routeGoesUptoRow, standIns := [], harness := (true, "cfff4adc463c6f9ce7949ac5343bd4b581054832799839b491415a10a7ea59f5"), looks := false }, kinds := [], alts := [], laidByText := true, laidKinds := [.data, .data, .data], laidTests := true, laidLooks := .later }
def RouteGoesUptoCardSaid : Prop := Claim7.holds Tryd.pinned (.plain (OpenSpec.upto routeGoesSpec)) routeGoesUptoCard
end Rows
end Go.Proofs.YtpcojaoeahdgcaaDoor
