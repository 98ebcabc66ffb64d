/-
  NARROWER THAN 'FOR EVERY INPUT', by the rows' own cells (each row's printed sentence says how): LayoutTells: laid · LayoutOne: laid · LayoutPorts: laid · LayoutFinds: laid · LayoutSteps: laid.
  DERIVED. THE GIVEN ROWS OF THIS SEAT. 5 by the template 'for every input the law returns true; each argument reads behind the call as it read before'; 0 by the template 'total and deterministic' (their statements: YtkphihbimdffjaaDoorTotals.lean).
  GIVEN WITH THE SEED: the statements are not yours to turn. If you find one false, say at which input.
  Laid BY PROGRAM, IN A SANDBOX (cutbox-rows.mjs): the forced cells as the released guide's own fill.sh prints them over the translation 67f284ae7fd51ee2… (all of the seat's roots in one cut). By AI agents, Wed Nov 11 2026. No macro, syntax, notation, axiom, sorry.
-/
import Derived.Test.YtkphihbimdffjaaDoorChecked
import GoSem.Claim
import GoSem.ClaimJoined
import GoSem.ClaimMapViews
import Derived.JoinedTies
import Derived.KernelRfl
namespace Go.Proofs.YtkphihbimdffjaaDoor
/- THE CELL 'sum', in the pinned program and in every row, IS THE sha256 OF THE DUMP (.gsa) THAT YtkphihbimdffjaaDoorProg.lean LOADS. Nothing in Lean hashes anything: it is a label: what it is worth is what the hold of that sum in a sandbox is worth. -/
noncomputable def Tryd.pinned : Pinned := { name := "ytkphihbimdffjaadoor", sum := "67f284ae7fd51ee26fe98196bda97534f016a293ed92d43342475c2adf21a79a", checked := Tryd.checked }
namespace Rows
def none {H : Type} : Left H := { results := [], args := [] }

/- WHAT THE LISTED PACKAGE-LEVEL VARIABLES READ AS WHEN THE CALL BEGINS. Each datum BY PROGRAM (the guide's laid-datum.mjs) off the statement by which the dump's own 'gosem.cut.vars' lays the variable. In a bare row this is a premise. The card (YtkphihbimdffjaaDoorCards.lean) ties it to the program's text. -/
def laid_lockbar_port_kinds {H : Type} : DataW H := .agg [.agg [.lit (.int .i64 0), .agg [.agg [.lit (.int .i64 0), .lit (.int .i64 0)], .agg [.lit (.int .i64 0), .lit (.int .i64 0)]], .lit (.int .i64 0), .lit (.bool false)], .agg [.lit (.int .i64 2), .agg [.agg [.lit (.int .i64 0), .lit (.int .i64 1)], .agg [.lit (.int .i64 0), .lit (.int .i64 0)]], .lit (.int .i64 1), .lit (.bool false)], .agg [.lit (.int .i64 3), .agg [.agg [.lit (.int .i64 0), .lit (.int .i64 1)], .agg [.lit (.int .i64 0), .lit (.int .i64 2)]], .lit (.int .i64 2), .lit (.bool true)], .agg [.lit (.int .i64 4), .agg [.agg [.lit (.int .i64 0), .lit (.int .i64 1)], .agg [.lit (.int .i64 2), .lit (.int .i64 3)]], .lit (.int .i64 2), .lit (.bool false)]]
def laid_lockbar_port_none {H : Type} : DataW H := .agg [.lit (.int .i64 (-1)), .lit (.int .i64 0)]

/-- 'lockbarlaw06.LayoutTells': WHATEVER THE INPUT: true; the input reads as it did. -/
def layoutTellsSpec : ChangeSpec := { name := "layoutTells", fn := fun _ => fun
  | [d1, d2, d3, d4] => { results := [.lit (.bool true)], args := [d1, d2, d3, d4] }
  | _ => none }
def layoutTellsRow : OpenClaim := { program := "ytkphihbimdffjaadoor", sum := "67f284ae7fd51ee26fe98196bda97534f016a293ed92d43342475c2adf21a79a", func := "lockbar/lockbarlaw06.LayoutTells", spec := "layoutTells", unfollowed := true, recurses := true, named := ["lockbar/port.kinds", "lockbar/port.none"], apart := false, laid := [("lockbar/port.kinds", laid_lockbar_port_kinds), ("lockbar/port.none", laid_lockbar_port_none)] }
def LayoutTellsSaid : Prop := layoutTellsRow.holds Tryd.pinned (OpenSpec.ofChange layoutTellsSpec)

/-- ITS FALSE NEIGHBOUR: 'it returns false'. Refute it at one input. -/
def layoutTellsWrong : ChangeSpec := { name := "layoutTells", fn := fun _ => fun
  | [d1, d2, d3, d4] => { results := [.lit (.bool false)], args := [d1, d2, d3, d4] }
  | _ => none }
def LayoutTellsWrongFalsely : Prop := layoutTellsRow.holds Tryd.pinned (OpenSpec.ofChange layoutTellsWrong)

/-- 'lockbarlaw06.LayoutOne': WHATEVER THE INPUT: true; the input reads as it did. -/
def layoutOneSpec : ChangeSpec := { name := "layoutOne", fn := fun _ => fun
  | [d1, d2, d3] => { results := [.lit (.bool true)], args := [d1, d2, d3] }
  | _ => none }
def layoutOneRow : OpenClaim := { program := "ytkphihbimdffjaadoor", sum := "67f284ae7fd51ee26fe98196bda97534f016a293ed92d43342475c2adf21a79a", func := "lockbar/lockbarlaw06.LayoutOne", spec := "layoutOne", unfollowed := true, recurses := true, named := ["lockbar/port.kinds", "lockbar/port.none"], apart := false, laid := [("lockbar/port.kinds", laid_lockbar_port_kinds), ("lockbar/port.none", laid_lockbar_port_none)] }
def LayoutOneSaid : Prop := layoutOneRow.holds Tryd.pinned (OpenSpec.ofChange layoutOneSpec)

/-- ITS FALSE NEIGHBOUR: 'it returns false'. Refute it at one input. -/
def layoutOneWrong : ChangeSpec := { name := "layoutOne", fn := fun _ => fun
  | [d1, d2, d3] => { results := [.lit (.bool false)], args := [d1, d2, d3] }
  | _ => none }
def LayoutOneWrongFalsely : Prop := layoutOneRow.holds Tryd.pinned (OpenSpec.ofChange layoutOneWrong)

/-- 'lockbarlaw06.LayoutPorts': WHATEVER THE INPUT: true; the input reads as it did. -/
def layoutPortsSpec : ChangeSpec := { name := "layoutPorts", fn := fun _ => fun
  | [d] => { results := [.lit (.bool true)], args := [d] }
  | _ => none }
def layoutPortsRow : OpenClaim := { program := "ytkphihbimdffjaadoor", sum := "67f284ae7fd51ee26fe98196bda97534f016a293ed92d43342475c2adf21a79a", func := "lockbar/lockbarlaw06.LayoutPorts", spec := "layoutPorts", unfollowed := true, recurses := true, named := ["lockbar/port.none", "lockbar/port.kinds"], apart := false, laid := [("lockbar/port.kinds", laid_lockbar_port_kinds), ("lockbar/port.none", laid_lockbar_port_none)] }
def LayoutPortsSaid : Prop := layoutPortsRow.holds Tryd.pinned (OpenSpec.ofChange layoutPortsSpec)

/-- ITS FALSE NEIGHBOUR: 'it returns false'. Refute it at one input. -/
def layoutPortsWrong : ChangeSpec := { name := "layoutPorts", fn := fun _ => fun
  | [d] => { results := [.lit (.bool false)], args := [d] }
  | _ => none }
def LayoutPortsWrongFalsely : Prop := layoutPortsRow.holds Tryd.pinned (OpenSpec.ofChange layoutPortsWrong)

/-- 'lockbarlaw06.LayoutFinds': WHATEVER THE INPUT: true; the input reads as it did. -/
def layoutFindsSpec : ChangeSpec := { name := "layoutFinds", fn := fun _ => fun
  | [d1, d2] => { results := [.lit (.bool true)], args := [d1, d2] }
  | _ => none }
def layoutFindsRow : OpenClaim := { program := "ytkphihbimdffjaadoor", sum := "67f284ae7fd51ee26fe98196bda97534f016a293ed92d43342475c2adf21a79a", func := "lockbar/lockbarlaw06.LayoutFinds", spec := "layoutFinds", unfollowed := true, recurses := true, named := ["lockbar/port.kinds", "lockbar/port.none"], apart := false, laid := [("lockbar/port.kinds", laid_lockbar_port_kinds), ("lockbar/port.none", laid_lockbar_port_none)] }
def LayoutFindsSaid : Prop := layoutFindsRow.holds Tryd.pinned (OpenSpec.ofChange layoutFindsSpec)

/-- ITS FALSE NEIGHBOUR: 'it returns false'. Refute it at one input. -/
def layoutFindsWrong : ChangeSpec := { name := "layoutFinds", fn := fun _ => fun
  | [d1, d2] => { results := [.lit (.bool false)], args := [d1, d2] }
  | _ => none }
def LayoutFindsWrongFalsely : Prop := layoutFindsRow.holds Tryd.pinned (OpenSpec.ofChange layoutFindsWrong)

/-- 'lockbarlaw06.LayoutSteps': WHATEVER THE INPUT: true; the input reads as it did. -/
def layoutStepsSpec : ChangeSpec := { name := "layoutSteps", fn := fun _ => fun
  | [d1, d2] => { results := [.lit (.bool true)], args := [d1, d2] }
  | _ => none }
def layoutStepsRow : OpenClaim := { program := "ytkphihbimdffjaadoor", sum := "67f284ae7fd51ee26fe98196bda97534f016a293ed92d43342475c2adf21a79a", func := "lockbar/lockbarlaw06.LayoutSteps", spec := "layoutSteps", unfollowed := true, recurses := true, named := ["lockbar/port.kinds", "lockbar/port.none"], apart := false, laid := [("lockbar/port.kinds", laid_lockbar_port_kinds), ("lockbar/port.none", laid_lockbar_port_none)] }
def LayoutStepsSaid : Prop := layoutStepsRow.holds Tryd.pinned (OpenSpec.ofChange layoutStepsSpec)

/-- ITS FALSE NEIGHBOUR: 'it returns false'. Refute it at one input. -/
def layoutStepsWrong : ChangeSpec := { name := "layoutSteps", fn := fun _ => fun
  | [d1, d2] => { results := [.lit (.bool false)], args := [d1, d2] }
  | _ => none }
def LayoutStepsWrongFalsely : Prop := layoutStepsRow.holds Tryd.pinned (OpenSpec.ofChange layoutStepsWrong)

/- THE SECOND FORM. 'bulk': how many values and letters a reading holds, each counted each time it is reached (what is shared counts as often as it is met; a slice's spare places count too). A statement '..UptoSaid' is the law's where the arguments, and the package variables that the reading takes, are together of bulk at most 1048576: NARROWER than '..Said'. Prove '..Said' where nothing that the law and all that it calls make is longer than what came in: it says more and counts as full. Else prove '..UptoSaid'. A law counts once. -/
mutual
def uptoBulk {H : Type} : DataW H → Nat
  | .lit (.string bytes) => bytes.length + 1
  | .lit _ => 1
  | .nil => 1
  | .ptr d => uptoBulk d + 1
  | .slice elems spare => uptoBulkAll elems + uptoBulkAll spare + 1
  | .agg parts => uptoBulkAll parts + 1
  | .iface _ d => uptoBulk d + 1
  | .map entries => uptoBulkEntries entries + 1
  | .held _ => 1
def uptoBulkAll {H : Type} : List (DataW H) → Nat
  | [] => 0
  | d :: r => uptoBulk d + uptoBulkAll r
def uptoBulkEntries {H : Type} : List (Lit × DataW H) → Nat
  | [] => 0
  | x :: r => uptoBulkEntry x + uptoBulkEntries r
def uptoBulkEntry {H : Type} : Lit × DataW H → Nat
  | (.string bytes, d) => bytes.length + uptoBulk d + 1
  | (_, d) => uptoBulk d + 1
 end
def uptoSmall : (H : Type) → List (DataW H) → Bool := fun _ ds => decide (uptoBulkAll ds ≤ 1048576)
def OpenSpec.upto (s : _root_.Go.ChangeSpec) : _root_.Go.OpenSpec := { _root_.Go.OpenSpec.ofChange s with cond := some uptoSmall }

/-- 'lockbarlaw06.LayoutTells', WHERE WHAT IT READS IS OF BULK AT MOST 1048576: true; the input reads as it did. -/
def layoutTellsUptoRow : OpenClaim := { program := "ytkphihbimdffjaadoor", sum := "67f284ae7fd51ee26fe98196bda97534f016a293ed92d43342475c2adf21a79a", func := "lockbar/lockbarlaw06.LayoutTells", spec := "layoutTells", unfollowed := true, recurses := true, named := ["lockbar/port.kinds", "lockbar/port.none"], apart := false, laid := [("lockbar/port.kinds", laid_lockbar_port_kinds), ("lockbar/port.none", laid_lockbar_port_none)], narrowed := true }
def LayoutTellsUptoSaid : Prop := layoutTellsUptoRow.holds Tryd.pinned (OpenSpec.upto layoutTellsSpec)

/-- 'lockbarlaw06.LayoutOne', WHERE WHAT IT READS IS OF BULK AT MOST 1048576: true; the input reads as it did. -/
def layoutOneUptoRow : OpenClaim := { program := "ytkphihbimdffjaadoor", sum := "67f284ae7fd51ee26fe98196bda97534f016a293ed92d43342475c2adf21a79a", func := "lockbar/lockbarlaw06.LayoutOne", spec := "layoutOne", unfollowed := true, recurses := true, named := ["lockbar/port.kinds", "lockbar/port.none"], apart := false, laid := [("lockbar/port.kinds", laid_lockbar_port_kinds), ("lockbar/port.none", laid_lockbar_port_none)], narrowed := true }
def LayoutOneUptoSaid : Prop := layoutOneUptoRow.holds Tryd.pinned (OpenSpec.upto layoutOneSpec)

/-- 'lockbarlaw06.LayoutPorts', WHERE WHAT IT READS IS OF BULK AT MOST 1048576: true; the input reads as it did. -/
def layoutPortsUptoRow : OpenClaim := { program := "ytkphihbimdffjaadoor", sum := "67f284ae7fd51ee26fe98196bda97534f016a293ed92d43342475c2adf21a79a", func := "lockbar/lockbarlaw06.LayoutPorts", spec := "layoutPorts", unfollowed := true, recurses := true, named := ["lockbar/port.none", "lockbar/port.kinds"], apart := false, laid := [("lockbar/port.kinds", laid_lockbar_port_kinds), ("lockbar/port.none", laid_lockbar_port_none)], narrowed := true }
def LayoutPortsUptoSaid : Prop := layoutPortsUptoRow.holds Tryd.pinned (OpenSpec.upto layoutPortsSpec)

/-- 'lockbarlaw06.LayoutFinds', WHERE WHAT IT READS IS OF BULK AT MOST 1048576: true; the input reads as it did. -/
def layoutFindsUptoRow : OpenClaim := { program := "ytkphihbimdffjaadoor", sum := "67f284ae7fd51ee26fe98196bda97534f016a293ed92d43342475c2adf21a79a", func := "lockbar/lockbarlaw06.LayoutFinds", spec := "layoutFinds", unfollowed := true, recurses := true, named := ["lockbar/port.kinds", "lockbar/port.none"], apart := false, laid := [("lockbar/port.kinds", laid_lockbar_port_kinds), ("lockbar/port.none", laid_lockbar_port_none)], narrowed := true }
def LayoutFindsUptoSaid : Prop := layoutFindsUptoRow.holds Tryd.pinned (OpenSpec.upto layoutFindsSpec)

/-- 'lockbarlaw06.LayoutSteps', WHERE WHAT IT READS IS OF BULK AT MOST 1048576: true; the input reads as it did. -/
def layoutStepsUptoRow : OpenClaim := { program := "ytkphihbimdffjaadoor", sum := "67f284ae7fd51ee26fe98196bda97534f016a293ed92d43342475c2adf21a79a", func := "lockbar/lockbarlaw06.LayoutSteps", spec := "layoutSteps", unfollowed := true, recurses := true, named := ["lockbar/port.kinds", "lockbar/port.none"], apart := false, laid := [("lockbar/port.kinds", laid_lockbar_port_kinds), ("lockbar/port.none", laid_lockbar_port_none)], narrowed := true }
def LayoutStepsUptoSaid : Prop := layoutStepsUptoRow.holds Tryd.pinned (OpenSpec.upto layoutStepsSpec)

end Rows
end Go.Proofs.YtkphihbimdffjaaDoor
