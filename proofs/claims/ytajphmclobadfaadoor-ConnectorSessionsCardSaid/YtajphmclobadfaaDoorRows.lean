/-
  NARROWER THAN 'FOR EVERY INPUT', by the rows' own cells (each row's printed sentence says how): ConnectorNexts: laid · ConnectorRuns: laid · ConnectorFrees: laid · ConnectorSessions: laid · ConnectorCharges: laid.
  DERIVED. THE GIVEN ROWS OF THIS SEAT. 5 by the template 'for every input the law returns true; each argument reads behind the call as it read before'; 0 by the template 'total and deterministic' (their statements: YtajphmclobadfaaDoorTotals.lean).
  GIVEN WITH THE SEED: the statements are not yours to turn. If you find one false, say at which input.
  Laid BY PROGRAM, IN A SANDBOX (cutbox-rows.mjs): the forced cells as the released guide's own fill.sh prints them over the translation 50b4a442861e59a0… (all of the seat's roots in one cut). By AI agents, Wed Nov 11 2026. No macro, syntax, notation, axiom, sorry.
-/
import Derived.Test.YtajphmclobadfaaDoorChecked
import GoSem.Claim
import GoSem.ClaimJoined
import GoSem.ClaimMapViews
import Derived.JoinedTies
import Derived.KernelRfl
namespace Go.Proofs.YtajphmclobadfaaDoor
/- THE CELL 'sum', in the pinned program and in every row, IS THE sha256 OF THE DUMP (.gsa) THAT YtajphmclobadfaaDoorProg.lean LOADS. Nothing in Lean hashes anything: it is a label: what it is worth is what the hold of that sum in a sandbox is worth. -/
noncomputable def Tryd.pinned : Pinned := { name := "ytajphmclobadfaadoor", sum := "50b4a442861e59a083f7c620730e9cde48000f5490e4a411275589f3b996d5e3", checked := Tryd.checked }
namespace Rows
def none {H : Type} : Left H := { results := [], args := [] }

/- WHAT THE LISTED PACKAGE-LEVEL VARIABLES READ AS WHEN THE CALL BEGINS. Each datum BY PROGRAM (the guide's laid-datum.mjs) off the statement by which the dump's own 'gosem.cut.vars' lays the variable. In a bare row this is a premise. The card (YtajphmclobadfaaDoorCards.lean) ties it to the program's text. -/
def laid_chargenet_connector_transitions {H : Type} : DataW H := .agg [.agg [.lit (.int .i64 0), .lit (.int .i64 0), .lit (.int .i64 0), .lit (.int .i64 0), .lit (.int .i64 0), .lit (.int .i64 0)], .agg [.lit (.int .i64 0), .lit (.int .i64 0), .lit (.int .i64 1), .lit (.int .i64 1), .lit (.int .i64 0), .lit (.int .i64 0)], .agg [.lit (.int .i64 0), .lit (.int .i64 1), .lit (.int .i64 0), .lit (.int .i64 0), .lit (.int .i64 1), .lit (.int .i64 0)], .agg [.lit (.int .i64 4), .lit (.int .i64 0), .lit (.int .i64 0), .lit (.int .i64 0), .lit (.int .i64 2), .lit (.int .i64 3)], .agg [.lit (.int .i64 24), .lit (.int .i64 0), .lit (.int .i64 0), .lit (.int .i64 0), .lit (.int .i64 0), .lit (.int .i64 5)], .agg [.lit (.int .i64 8), .lit (.int .i64 0), .lit (.int .i64 0), .lit (.int .i64 0), .lit (.int .i64 0), .lit (.int .i64 4)], .agg [.lit (.int .i64 16), .lit (.int .i64 0), .lit (.int .i64 0), .lit (.int .i64 0), .lit (.int .i64 0), .lit (.int .i64 3)], .agg [.lit (.int .i64 0), .lit (.int .i64 0), .lit (.int .i64 8), .lit (.int .i64 8), .lit (.int .i64 0), .lit (.int .i64 0)], .agg [.lit (.int .i64 0), .lit (.int .i64 8), .lit (.int .i64 0), .lit (.int .i64 0), .lit (.int .i64 8), .lit (.int .i64 0)], .agg [.lit (.int .i64 2), .lit (.int .i64 0), .lit (.int .i64 0), .lit (.int .i64 2), .lit (.int .i64 0), .lit (.int .i64 0)], .agg [.lit (.int .i64 0), .lit (.int .i64 2), .lit (.int .i64 0), .lit (.int .i64 0), .lit (.int .i64 2), .lit (.int .i64 0)], .agg [.lit (.int .i64 0), .lit (.int .i64 0), .lit (.int .i64 4), .lit (.int .i64 4), .lit (.int .i64 0), .lit (.int .i64 (-1))], .agg [.lit (.int .i64 0), .lit (.int .i64 4), .lit (.int .i64 0), .lit (.int .i64 0), .lit (.int .i64 4), .lit (.int .i64 (-1))]]

/-- 'chargenetlaw28.ConnectorNexts': WHATEVER THE INPUT: true; the input reads as it did. -/
def connectorNextsSpec : ChangeSpec := { name := "connectorNexts", fn := fun _ => fun
  | [d1, d2] => { results := [.lit (.bool true)], args := [d1, d2] }
  | _ => none }
def connectorNextsRow : OpenClaim := { program := "ytajphmclobadfaadoor", sum := "50b4a442861e59a083f7c620730e9cde48000f5490e4a411275589f3b996d5e3", func := "chargenet/chargenetlaw28.ConnectorNexts", spec := "connectorNexts", named := ["chargenet/connector.transitions"], apart := false, laid := [("chargenet/connector.transitions", laid_chargenet_connector_transitions)] }
def ConnectorNextsSaid : Prop := connectorNextsRow.holds Tryd.pinned (OpenSpec.ofChange connectorNextsSpec)

/-- ITS FALSE NEIGHBOUR: 'it returns false'. Refute it at one input. -/
def connectorNextsWrong : ChangeSpec := { name := "connectorNexts", fn := fun _ => fun
  | [d1, d2] => { results := [.lit (.bool false)], args := [d1, d2] }
  | _ => none }
def ConnectorNextsWrongFalsely : Prop := connectorNextsRow.holds Tryd.pinned (OpenSpec.ofChange connectorNextsWrong)

/-- 'chargenetlaw28.ConnectorRuns': WHATEVER THE INPUT: true; the input reads as it did. -/
def connectorRunsSpec : ChangeSpec := { name := "connectorRuns", fn := fun _ => fun
  | [d] => { results := [.lit (.bool true)], args := [d] }
  | _ => none }
def connectorRunsRow : OpenClaim := { program := "ytajphmclobadfaadoor", sum := "50b4a442861e59a083f7c620730e9cde48000f5490e4a411275589f3b996d5e3", func := "chargenet/chargenetlaw28.ConnectorRuns", spec := "connectorRuns", named := ["chargenet/connector.transitions"], apart := false, laid := [("chargenet/connector.transitions", laid_chargenet_connector_transitions)] }
def ConnectorRunsSaid : Prop := connectorRunsRow.holds Tryd.pinned (OpenSpec.ofChange connectorRunsSpec)

/-- ITS FALSE NEIGHBOUR: 'it returns false'. Refute it at one input. -/
def connectorRunsWrong : ChangeSpec := { name := "connectorRuns", fn := fun _ => fun
  | [d] => { results := [.lit (.bool false)], args := [d] }
  | _ => none }
def ConnectorRunsWrongFalsely : Prop := connectorRunsRow.holds Tryd.pinned (OpenSpec.ofChange connectorRunsWrong)

/-- 'chargenetlaw28.ConnectorFrees': WHATEVER THE INPUT: true; the input reads as it did. -/
def connectorFreesSpec : ChangeSpec := { name := "connectorFrees", fn := fun _ => fun
  | [d] => { results := [.lit (.bool true)], args := [d] }
  | _ => none }
def connectorFreesRow : OpenClaim := { program := "ytajphmclobadfaadoor", sum := "50b4a442861e59a083f7c620730e9cde48000f5490e4a411275589f3b996d5e3", func := "chargenet/chargenetlaw28.ConnectorFrees", spec := "connectorFrees", named := ["chargenet/connector.transitions"], apart := false, laid := [("chargenet/connector.transitions", laid_chargenet_connector_transitions)] }
def ConnectorFreesSaid : Prop := connectorFreesRow.holds Tryd.pinned (OpenSpec.ofChange connectorFreesSpec)

/-- ITS FALSE NEIGHBOUR: 'it returns false'. Refute it at one input. -/
def connectorFreesWrong : ChangeSpec := { name := "connectorFrees", fn := fun _ => fun
  | [d] => { results := [.lit (.bool false)], args := [d] }
  | _ => none }
def ConnectorFreesWrongFalsely : Prop := connectorFreesRow.holds Tryd.pinned (OpenSpec.ofChange connectorFreesWrong)

/-- 'chargenetlaw28.ConnectorSessions': WHATEVER THE INPUT: true; the input reads as it did. -/
def connectorSessionsSpec : ChangeSpec := { name := "connectorSessions", fn := fun _ => fun
  | [d1, d2, d3] => { results := [.lit (.bool true)], args := [d1, d2, d3] }
  | _ => none }
def connectorSessionsRow : OpenClaim := { program := "ytajphmclobadfaadoor", sum := "50b4a442861e59a083f7c620730e9cde48000f5490e4a411275589f3b996d5e3", func := "chargenet/chargenetlaw28.ConnectorSessions", spec := "connectorSessions", named := ["chargenet/connector.transitions"], apart := false, laid := [("chargenet/connector.transitions", laid_chargenet_connector_transitions)] }
def ConnectorSessionsSaid : Prop := connectorSessionsRow.holds Tryd.pinned (OpenSpec.ofChange connectorSessionsSpec)

/-- ITS FALSE NEIGHBOUR: 'it returns false'. Refute it at one input. -/
def connectorSessionsWrong : ChangeSpec := { name := "connectorSessions", fn := fun _ => fun
  | [d1, d2, d3] => { results := [.lit (.bool false)], args := [d1, d2, d3] }
  | _ => none }
def ConnectorSessionsWrongFalsely : Prop := connectorSessionsRow.holds Tryd.pinned (OpenSpec.ofChange connectorSessionsWrong)

/-- 'chargenetlaw28.ConnectorCharges': WHATEVER THE INPUT: true; the input reads as it did. -/
def connectorChargesSpec : ChangeSpec := { name := "connectorCharges", fn := fun _ => fun
  | [d1, d2] => { results := [.lit (.bool true)], args := [d1, d2] }
  | _ => none }
def connectorChargesRow : OpenClaim := { program := "ytajphmclobadfaadoor", sum := "50b4a442861e59a083f7c620730e9cde48000f5490e4a411275589f3b996d5e3", func := "chargenet/chargenetlaw28.ConnectorCharges", spec := "connectorCharges", named := ["chargenet/connector.transitions"], apart := false, laid := [("chargenet/connector.transitions", laid_chargenet_connector_transitions)] }
def ConnectorChargesSaid : Prop := connectorChargesRow.holds Tryd.pinned (OpenSpec.ofChange connectorChargesSpec)

/-- ITS FALSE NEIGHBOUR: 'it returns false'. Refute it at one input. -/
def connectorChargesWrong : ChangeSpec := { name := "connectorCharges", fn := fun _ => fun
  | [d1, d2] => { results := [.lit (.bool false)], args := [d1, d2] }
  | _ => none }
def ConnectorChargesWrongFalsely : Prop := connectorChargesRow.holds Tryd.pinned (OpenSpec.ofChange connectorChargesWrong)

/- THE SECOND FORM. 'bulk': how many values and letters a reading holds, each counted each time it is reached (what is shared counts as often as it is met; a slice's spare places count too). A statement '..UptoSaid' is the law's where the arguments, and the package variables that the reading takes, are together of bulk at most 1048576: NARROWER than '..Said'. Prove '..Said' where nothing that the law and all that it calls make is longer than what came in: it says more and counts as full. Else prove '..UptoSaid'. A law counts once. -/
mutual
def uptoBulk {H : Type} : DataW H → Nat
  | .lit (.string bytes) => bytes.length + 1
  | .lit _ => 1
  | .nil => 1
  | .ptr d => uptoBulk d + 1
  | .slice elems spare => uptoBulkAll elems + uptoBulkAll spare + 1
  | .agg parts => uptoBulkAll parts + 1
  | .iface _ d => uptoBulk d + 1
  | .map entries => uptoBulkEntries entries + 1
  | .held _ => 1
def uptoBulkAll {H : Type} : List (DataW H) → Nat
  | [] => 0
  | d :: r => uptoBulk d + uptoBulkAll r
def uptoBulkEntries {H : Type} : List (Lit × DataW H) → Nat
  | [] => 0
  | x :: r => uptoBulkEntry x + uptoBulkEntries r
def uptoBulkEntry {H : Type} : Lit × DataW H → Nat
  | (.string bytes, d) => bytes.length + uptoBulk d + 1
  | (_, d) => uptoBulk d + 1
 end
def uptoSmall : (H : Type) → List (DataW H) → Bool := fun _ ds => decide (uptoBulkAll ds ≤ 1048576)
def OpenSpec.upto (s : _root_.Go.ChangeSpec) : _root_.Go.OpenSpec := { _root_.Go.OpenSpec.ofChange s with cond := some uptoSmall }

/-- 'chargenetlaw28.ConnectorNexts', WHERE WHAT IT READS IS OF BULK AT MOST 1048576: true; the input reads as it did. -/
def connectorNextsUptoRow : OpenClaim := { program := "ytajphmclobadfaadoor", sum := "50b4a442861e59a083f7c620730e9cde48000f5490e4a411275589f3b996d5e3", func := "chargenet/chargenetlaw28.ConnectorNexts", spec := "connectorNexts", named := ["chargenet/connector.transitions"], apart := false, laid := [("chargenet/connector.transitions", laid_chargenet_connector_transitions)], narrowed := true }
def ConnectorNextsUptoSaid : Prop := connectorNextsUptoRow.holds Tryd.pinned (OpenSpec.upto connectorNextsSpec)

/-- 'chargenetlaw28.ConnectorRuns', WHERE WHAT IT READS IS OF BULK AT MOST 1048576: true; the input reads as it did. -/
def connectorRunsUptoRow : OpenClaim := { program := "ytajphmclobadfaadoor", sum := "50b4a442861e59a083f7c620730e9cde48000f5490e4a411275589f3b996d5e3", func := "chargenet/chargenetlaw28.ConnectorRuns", spec := "connectorRuns", named := ["chargenet/connector.transitions"], apart := false, laid := [("chargenet/connector.transitions", laid_chargenet_connector_transitions)], narrowed := true }
def ConnectorRunsUptoSaid : Prop := connectorRunsUptoRow.holds Tryd.pinned (OpenSpec.upto connectorRunsSpec)

/-- 'chargenetlaw28.ConnectorFrees', WHERE WHAT IT READS IS OF BULK AT MOST 1048576: true; the input reads as it did. -/
def connectorFreesUptoRow : OpenClaim := { program := "ytajphmclobadfaadoor", sum := "50b4a442861e59a083f7c620730e9cde48000f5490e4a411275589f3b996d5e3", func := "chargenet/chargenetlaw28.ConnectorFrees", spec := "connectorFrees", named := ["chargenet/connector.transitions"], apart := false, laid := [("chargenet/connector.transitions", laid_chargenet_connector_transitions)], narrowed := true }
def ConnectorFreesUptoSaid : Prop := connectorFreesUptoRow.holds Tryd.pinned (OpenSpec.upto connectorFreesSpec)

/-- 'chargenetlaw28.ConnectorSessions', WHERE WHAT IT READS IS OF BULK AT MOST 1048576: true; the input reads as it did. -/
def connectorSessionsUptoRow : OpenClaim := { program := "ytajphmclobadfaadoor", sum := "50b4a442861e59a083f7c620730e9cde48000f5490e4a411275589f3b996d5e3", func := "chargenet/chargenetlaw28.ConnectorSessions", spec := "connectorSessions", named := ["chargenet/connector.transitions"], apart := false, laid := [("chargenet/connector.transitions", laid_chargenet_connector_transitions)], narrowed := true }
def ConnectorSessionsUptoSaid : Prop := connectorSessionsUptoRow.holds Tryd.pinned (OpenSpec.upto connectorSessionsSpec)

/-- 'chargenetlaw28.ConnectorCharges', WHERE WHAT IT READS IS OF BULK AT MOST 1048576: true; the input reads as it did. -/
def connectorChargesUptoRow : OpenClaim := { program := "ytajphmclobadfaadoor", sum := "50b4a442861e59a083f7c620730e9cde48000f5490e4a411275589f3b996d5e3", func := "chargenet/chargenetlaw28.ConnectorCharges", spec := "connectorCharges", named := ["chargenet/connector.transitions"], apart := false, laid := [("chargenet/connector.transitions", laid_chargenet_connector_transitions)], narrowed := true }
def ConnectorChargesUptoSaid : Prop := connectorChargesUptoRow.holds Tryd.pinned (OpenSpec.upto connectorChargesSpec)

end Rows
end Go.Proofs.YtajphmclobadfaaDoor
