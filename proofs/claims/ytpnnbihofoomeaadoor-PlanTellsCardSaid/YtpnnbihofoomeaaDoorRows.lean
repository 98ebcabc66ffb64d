/-
  NARROWER THAN 'FOR EVERY INPUT', by the rows' own cells (each row's printed sentence says how): PlanTells: laid · PlanBack: laid · PlanOnly: laid · PlanApart: laid.
  DERIVED. THE GIVEN ROWS OF THIS SEAT. 4 by the template 'for every input the law returns true; each argument reads behind the call as it read before'; 0 by the template 'total and deterministic' (their statements: YtpnnbihofoomeaaDoorTotals.lean).
  GIVEN WITH THE SEED: the statements are not yours to turn. If you find one false, say at which input.
  Laid BY PROGRAM, IN A SANDBOX (cutbox-rows.mjs): the forced cells as the released guide's own fill.sh prints them over the translation d5cd2c2bea8a5520… (all of the seat's roots in one cut). By AI agents, Wed Nov 11 2026. No macro, syntax, notation, axiom, sorry.
-/
import Derived.Test.YtpnnbihofoomeaaDoorChecked
import GoSem.Claim
import GoSem.ClaimJoined
import GoSem.ClaimMapViews
import Derived.JoinedTies
import Derived.KernelRfl
namespace Go.Proofs.YtpnnbihofoomeaaDoor
/- THE CELL 'sum', in the pinned program and in every row, IS THE sha256 OF THE DUMP (.gsa) THAT YtpnnbihofoomeaaDoorProg.lean LOADS. Nothing in Lean hashes anything: it is a label: what it is worth is what the hold of that sum in a sandbox is worth. -/
noncomputable def Tryd.pinned : Pinned := { name := "ytpnnbihofoomeaadoor", sum := "d5cd2c2bea8a552053b277422b124dbc23d1e653ab8df611919264a872477d40", checked := Tryd.checked }
namespace Rows
def none {H : Type} : Left H := { results := [], args := [] }

/- WHAT THE LISTED PACKAGE-LEVEL VARIABLES READ AS WHEN THE CALL BEGINS. Each datum BY PROGRAM (the guide's laid-datum.mjs) off the statement by which the dump's own 'gosem.cut.vars' lays the variable. In a bare row this is a premise. The card (YtpnnbihofoomeaaDoorCards.lean) ties it to the program's text. -/
def laid_lockbar_port_kinds {H : Type} : DataW H := .agg [.agg [.lit (.int .i64 0), .agg [.agg [.lit (.int .i64 0), .lit (.int .i64 0)], .agg [.lit (.int .i64 0), .lit (.int .i64 0)]], .lit (.int .i64 0), .lit (.bool false)], .agg [.lit (.int .i64 2), .agg [.agg [.lit (.int .i64 0), .lit (.int .i64 1)], .agg [.lit (.int .i64 0), .lit (.int .i64 0)]], .lit (.int .i64 1), .lit (.bool false)], .agg [.lit (.int .i64 3), .agg [.agg [.lit (.int .i64 0), .lit (.int .i64 1)], .agg [.lit (.int .i64 0), .lit (.int .i64 2)]], .lit (.int .i64 2), .lit (.bool true)], .agg [.lit (.int .i64 4), .agg [.agg [.lit (.int .i64 0), .lit (.int .i64 1)], .agg [.lit (.int .i64 2), .lit (.int .i64 3)]], .lit (.int .i64 2), .lit (.bool false)]]
def laid_lockbar_port_none {H : Type} : DataW H := .agg [.lit (.int .i64 (-1)), .lit (.int .i64 0)]

/-- 'lockbarlaw08.PlanTells': WHATEVER THE INPUT: true; the input reads as it did. -/
def planTellsSpec : ChangeSpec := { name := "planTells", fn := fun _ => fun
  | [d1, d2] => { results := [.lit (.bool true)], args := [d1, d2] }
  | _ => none }
def planTellsRow : OpenClaim := { program := "ytpnnbihofoomeaadoor", sum := "d5cd2c2bea8a552053b277422b124dbc23d1e653ab8df611919264a872477d40", func := "lockbar/lockbarlaw08.PlanTells", spec := "planTells", unfollowed := true, recurses := true, named := ["lockbar/port.none", "lockbar/port.kinds"], apart := false, laid := [("lockbar/port.kinds", laid_lockbar_port_kinds), ("lockbar/port.none", laid_lockbar_port_none)] }
def PlanTellsSaid : Prop := planTellsRow.holds Tryd.pinned (OpenSpec.ofChange planTellsSpec)

/-- ITS FALSE NEIGHBOUR: 'it returns false'. Refute it at one input. -/
def planTellsWrong : ChangeSpec := { name := "planTells", fn := fun _ => fun
  | [d1, d2] => { results := [.lit (.bool false)], args := [d1, d2] }
  | _ => none }
def PlanTellsWrongFalsely : Prop := planTellsRow.holds Tryd.pinned (OpenSpec.ofChange planTellsWrong)

/-- 'lockbarlaw08.PlanBack': WHATEVER THE INPUT: true; the input reads as it did. -/
def planBackSpec : ChangeSpec := { name := "planBack", fn := fun _ => fun
  | [d1, d2] => { results := [.lit (.bool true)], args := [d1, d2] }
  | _ => none }
def planBackRow : OpenClaim := { program := "ytpnnbihofoomeaadoor", sum := "d5cd2c2bea8a552053b277422b124dbc23d1e653ab8df611919264a872477d40", func := "lockbar/lockbarlaw08.PlanBack", spec := "planBack", unfollowed := true, recurses := true, named := ["lockbar/port.none", "lockbar/port.kinds"], apart := false, laid := [("lockbar/port.kinds", laid_lockbar_port_kinds), ("lockbar/port.none", laid_lockbar_port_none)] }
def PlanBackSaid : Prop := planBackRow.holds Tryd.pinned (OpenSpec.ofChange planBackSpec)

/-- ITS FALSE NEIGHBOUR: 'it returns false'. Refute it at one input. -/
def planBackWrong : ChangeSpec := { name := "planBack", fn := fun _ => fun
  | [d1, d2] => { results := [.lit (.bool false)], args := [d1, d2] }
  | _ => none }
def PlanBackWrongFalsely : Prop := planBackRow.holds Tryd.pinned (OpenSpec.ofChange planBackWrong)

/-- 'lockbarlaw08.PlanOnly': WHATEVER THE INPUT: true; the input reads as it did. -/
def planOnlySpec : ChangeSpec := { name := "planOnly", fn := fun _ => fun
  | [d] => { results := [.lit (.bool true)], args := [d] }
  | _ => none }
def planOnlyRow : OpenClaim := { program := "ytpnnbihofoomeaadoor", sum := "d5cd2c2bea8a552053b277422b124dbc23d1e653ab8df611919264a872477d40", func := "lockbar/lockbarlaw08.PlanOnly", spec := "planOnly", unfollowed := true, recurses := true, named := ["lockbar/port.none", "lockbar/port.kinds"], apart := false, laid := [("lockbar/port.kinds", laid_lockbar_port_kinds), ("lockbar/port.none", laid_lockbar_port_none)] }
def PlanOnlySaid : Prop := planOnlyRow.holds Tryd.pinned (OpenSpec.ofChange planOnlySpec)

/-- ITS FALSE NEIGHBOUR: 'it returns false'. Refute it at one input. -/
def planOnlyWrong : ChangeSpec := { name := "planOnly", fn := fun _ => fun
  | [d] => { results := [.lit (.bool false)], args := [d] }
  | _ => none }
def PlanOnlyWrongFalsely : Prop := planOnlyRow.holds Tryd.pinned (OpenSpec.ofChange planOnlyWrong)

/-- 'lockbarlaw08.PlanApart': WHATEVER THE INPUT: true; the input reads as it did. -/
def planApartSpec : ChangeSpec := { name := "planApart", fn := fun _ => fun
  | [d1, d2, d3] => { results := [.lit (.bool true)], args := [d1, d2, d3] }
  | _ => none }
def planApartRow : OpenClaim := { program := "ytpnnbihofoomeaadoor", sum := "d5cd2c2bea8a552053b277422b124dbc23d1e653ab8df611919264a872477d40", func := "lockbar/lockbarlaw08.PlanApart", spec := "planApart", unfollowed := true, recurses := true, named := ["lockbar/port.none", "lockbar/port.kinds"], apart := false, laid := [("lockbar/port.kinds", laid_lockbar_port_kinds), ("lockbar/port.none", laid_lockbar_port_none)] }
def PlanApartSaid : Prop := planApartRow.holds Tryd.pinned (OpenSpec.ofChange planApartSpec)

/-- ITS FALSE NEIGHBOUR: 'it returns false'. Refute it at one input. -/
def planApartWrong : ChangeSpec := { name := "planApart", fn := fun _ => fun
  | [d1, d2, d3] => { results := [.lit (.bool false)], args := [d1, d2, d3] }
  | _ => none }
def PlanApartWrongFalsely : Prop := planApartRow.holds Tryd.pinned (OpenSpec.ofChange planApartWrong)

/- THE SECOND FORM. 'bulk': how many values and letters a reading holds, each counted each time it is reached (what is shared counts as often as it is met; a slice's spare places count too). A statement '..UptoSaid' is the law's where the arguments, and the package variables that the reading takes, are together of bulk at most 1048576: NARROWER than '..Said'. Prove '..Said' where nothing that the law and all that it calls make is longer than what came in: it says more and counts as full. Else prove '..UptoSaid'. A law counts once. -/
mutual
def uptoBulk {H : Type} : DataW H → Nat
  | .lit (.string bytes) => bytes.length + 1
  | .lit _ => 1
  | .nil => 1
  | .ptr d => uptoBulk d + 1
  | .slice elems spare => uptoBulkAll elems + uptoBulkAll spare + 1
  | .agg parts => uptoBulkAll parts + 1
  | .iface _ d => uptoBulk d + 1
  | .map entries => uptoBulkEntries entries + 1
  | .held _ => 1
def uptoBulkAll {H : Type} : List (DataW H) → Nat
  | [] => 0
  | d :: r => uptoBulk d + uptoBulkAll r
def uptoBulkEntries {H : Type} : List (Lit × DataW H) → Nat
  | [] => 0
  | x :: r => uptoBulkEntry x + uptoBulkEntries r
def uptoBulkEntry {H : Type} : Lit × DataW H → Nat
  | (.string bytes, d) => bytes.length + uptoBulk d + 1
  | (_, d) => uptoBulk d + 1
 end
def uptoSmall : (H : Type) → List (DataW H) → Bool := fun _ ds => decide (uptoBulkAll ds ≤ 1048576)
def OpenSpec.upto (s : _root_.Go.ChangeSpec) : _root_.Go.OpenSpec := { _root_.Go.OpenSpec.ofChange s with cond := some uptoSmall }

/-- 'lockbarlaw08.PlanTells', WHERE WHAT IT READS IS OF BULK AT MOST 1048576: true; the input reads as it did. -/
def planTellsUptoRow : OpenClaim := { program := "ytpnnbihofoomeaadoor", sum := "d5cd2c2bea8a552053b277422b124dbc23d1e653ab8df611919264a872477d40", func := "lockbar/lockbarlaw08.PlanTells", spec := "planTells", unfollowed := true, recurses := true, named := ["lockbar/port.none", "lockbar/port.kinds"], apart := false, laid := [("lockbar/port.kinds", laid_lockbar_port_kinds), ("lockbar/port.none", laid_lockbar_port_none)], narrowed := true }
def PlanTellsUptoSaid : Prop := planTellsUptoRow.holds Tryd.pinned (OpenSpec.upto planTellsSpec)

/-- 'lockbarlaw08.PlanBack', WHERE WHAT IT READS IS OF BULK AT MOST 1048576: true; the input reads as it did. -/
def planBackUptoRow : OpenClaim := { program := "ytpnnbihofoomeaadoor", sum := "d5cd2c2bea8a552053b277422b124dbc23d1e653ab8df611919264a872477d40", func := "lockbar/lockbarlaw08.PlanBack", spec := "planBack", unfollowed := true, recurses := true, named := ["lockbar/port.none", "lockbar/port.kinds"], apart := false, laid := [("lockbar/port.kinds", laid_lockbar_port_kinds), ("lockbar/port.none", laid_lockbar_port_none)], narrowed := true }
def PlanBackUptoSaid : Prop := planBackUptoRow.holds Tryd.pinned (OpenSpec.upto planBackSpec)

/-- 'lockbarlaw08.PlanOnly', WHERE WHAT IT READS IS OF BULK AT MOST 1048576: true; the input reads as it did. -/
def planOnlyUptoRow : OpenClaim := { program := "ytpnnbihofoomeaadoor", sum := "d5cd2c2bea8a552053b277422b124dbc23d1e653ab8df611919264a872477d40", func := "lockbar/lockbarlaw08.PlanOnly", spec := "planOnly", unfollowed := true, recurses := true, named := ["lockbar/port.none", "lockbar/port.kinds"], apart := false, laid := [("lockbar/port.kinds", laid_lockbar_port_kinds), ("lockbar/port.none", laid_lockbar_port_none)], narrowed := true }
def PlanOnlyUptoSaid : Prop := planOnlyUptoRow.holds Tryd.pinned (OpenSpec.upto planOnlySpec)

/-- 'lockbarlaw08.PlanApart', WHERE WHAT IT READS IS OF BULK AT MOST 1048576: true; the input reads as it did. -/
def planApartUptoRow : OpenClaim := { program := "ytpnnbihofoomeaadoor", sum := "d5cd2c2bea8a552053b277422b124dbc23d1e653ab8df611919264a872477d40", func := "lockbar/lockbarlaw08.PlanApart", spec := "planApart", unfollowed := true, recurses := true, named := ["lockbar/port.none", "lockbar/port.kinds"], apart := false, laid := [("lockbar/port.kinds", laid_lockbar_port_kinds), ("lockbar/port.none", laid_lockbar_port_none)], narrowed := true }
def PlanApartUptoSaid : Prop := planApartUptoRow.holds Tryd.pinned (OpenSpec.upto planApartSpec)

end Rows
end Go.Proofs.YtpnnbihofoomeaaDoor
