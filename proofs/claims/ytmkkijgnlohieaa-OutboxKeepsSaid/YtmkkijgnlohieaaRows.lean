/-
  No cell of these rows narrows 'for every input' (looked for: loops, veiled, ifaces, maps, wideKeys, modest, calm, conditions, laid).
  DERIVED. THE GIVEN ROWS OF THIS SEAT. 6 by the template 'for every input the law returns true; each argument reads behind the call as it read before'; 0 by the template 'total and deterministic' (their statements: YtmkkijgnlohieaaTotals.lean).
  GIVEN WITH THE SEED: the statements are not yours to turn. If you find one false, say at which input.
  Laid BY PROGRAM, IN A SANDBOX (cutbox-rows.mjs): the forced cells as the released guide's own fill.sh prints them over the translation a02da1b1b8e07f11… (all of the seat's roots in one cut). By AI agents, Wed Nov 11 2026. No macro, syntax, notation, axiom, sorry.
-/
import Derived.Test.YtmkkijgnlohieaaChecked
import GoSem.Claim
import GoSem.ClaimJoined
import GoSem.ClaimMapViews
import Derived.JoinedTies
import Derived.KernelRfl
namespace Go.Proofs.Ytmkkijgnlohieaa
/- THE CELL 'sum', in the pinned program and in every row, IS THE sha256 OF THE DUMP (.gsa) THAT YtmkkijgnlohieaaProg.lean LOADS. Nothing in Lean hashes anything: it is a label: what it is worth is what the hold of that sum in a sandbox is worth. -/
noncomputable def Try.pinned : Pinned := { name := "ytmkkijgnlohieaa", sum := "a02da1b1b8e07f117779886a2babd02ab02a7a5b5b4c8f1f03ba968a7c68d638", checked := Try.checked }
namespace Rows
def none {H : Type} : Left H := { results := [], args := [] }

/-- 'chargenetlaw31.OutboxValids': WHATEVER THE INPUT: true; the input reads as it did. -/
def outboxValidsSpec : ChangeSpec := { name := "outboxValids", fn := fun _ => fun
  | [d1, d2] => { results := [.lit (.bool true)], args := [d1, d2] }
  | _ => none }
def outboxValidsRow : OpenClaim := { program := "ytmkkijgnlohieaa", sum := "a02da1b1b8e07f117779886a2babd02ab02a7a5b5b4c8f1f03ba968a7c68d638", func := "chargenet/chargenetlaw31.OutboxValids", spec := "outboxValids", unfollowed := true, recurses := true, apart := false }
def OutboxValidsSaid : Prop := outboxValidsRow.holds Try.pinned (OpenSpec.ofChange outboxValidsSpec)

/-- ITS FALSE NEIGHBOUR: 'it returns false'. Refute it at one input. -/
def outboxValidsWrong : ChangeSpec := { name := "outboxValids", fn := fun _ => fun
  | [d1, d2] => { results := [.lit (.bool false)], args := [d1, d2] }
  | _ => none }
def OutboxValidsWrongFalsely : Prop := outboxValidsRow.holds Try.pinned (OpenSpec.ofChange outboxValidsWrong)

/-- 'chargenetlaw31.OutboxPushes': WHATEVER THE INPUT: true; the input reads as it did. -/
def outboxPushesSpec : ChangeSpec := { name := "outboxPushes", fn := fun _ => fun
  | [d1, d2] => { results := [.lit (.bool true)], args := [d1, d2] }
  | _ => none }
def outboxPushesRow : OpenClaim := { program := "ytmkkijgnlohieaa", sum := "a02da1b1b8e07f117779886a2babd02ab02a7a5b5b4c8f1f03ba968a7c68d638", func := "chargenet/chargenetlaw31.OutboxPushes", spec := "outboxPushes", unfollowed := true, recurses := true, apart := false }
def OutboxPushesSaid : Prop := outboxPushesRow.holds Try.pinned (OpenSpec.ofChange outboxPushesSpec)

/-- ITS FALSE NEIGHBOUR: 'it returns false'. Refute it at one input. -/
def outboxPushesWrong : ChangeSpec := { name := "outboxPushes", fn := fun _ => fun
  | [d1, d2] => { results := [.lit (.bool false)], args := [d1, d2] }
  | _ => none }
def OutboxPushesWrongFalsely : Prop := outboxPushesRow.holds Try.pinned (OpenSpec.ofChange outboxPushesWrong)

/-- 'chargenetlaw31.OutboxAcks': WHATEVER THE INPUT: true; the input reads as it did. -/
def outboxAcksSpec : ChangeSpec := { name := "outboxAcks", fn := fun _ => fun
  | [d1, d2, d3] => { results := [.lit (.bool true)], args := [d1, d2, d3] }
  | _ => none }
def outboxAcksRow : OpenClaim := { program := "ytmkkijgnlohieaa", sum := "a02da1b1b8e07f117779886a2babd02ab02a7a5b5b4c8f1f03ba968a7c68d638", func := "chargenet/chargenetlaw31.OutboxAcks", spec := "outboxAcks", unfollowed := true, recurses := true, apart := false }
def OutboxAcksSaid : Prop := outboxAcksRow.holds Try.pinned (OpenSpec.ofChange outboxAcksSpec)

/-- ITS FALSE NEIGHBOUR: 'it returns false'. Refute it at one input. -/
def outboxAcksWrong : ChangeSpec := { name := "outboxAcks", fn := fun _ => fun
  | [d1, d2, d3] => { results := [.lit (.bool false)], args := [d1, d2, d3] }
  | _ => none }
def OutboxAcksWrongFalsely : Prop := outboxAcksRow.holds Try.pinned (OpenSpec.ofChange outboxAcksWrong)

/-- 'chargenetlaw31.OutboxSaves': WHATEVER THE INPUT: true; the input reads as it did. -/
def outboxSavesSpec : ChangeSpec := { name := "outboxSaves", fn := fun _ => fun
  | [d] => { results := [.lit (.bool true)], args := [d] }
  | _ => none }
def outboxSavesRow : OpenClaim := { program := "ytmkkijgnlohieaa", sum := "a02da1b1b8e07f117779886a2babd02ab02a7a5b5b4c8f1f03ba968a7c68d638", func := "chargenet/chargenetlaw31.OutboxSaves", spec := "outboxSaves", unfollowed := true, recurses := true, apart := false }
def OutboxSavesSaid : Prop := outboxSavesRow.holds Try.pinned (OpenSpec.ofChange outboxSavesSpec)

/-- ITS FALSE NEIGHBOUR: 'it returns false'. Refute it at one input. -/
def outboxSavesWrong : ChangeSpec := { name := "outboxSaves", fn := fun _ => fun
  | [d] => { results := [.lit (.bool false)], args := [d] }
  | _ => none }
def OutboxSavesWrongFalsely : Prop := outboxSavesRow.holds Try.pinned (OpenSpec.ofChange outboxSavesWrong)

/-- 'chargenetlaw31.OutboxLoads': WHATEVER THE INPUT: true; the input reads as it did. -/
def outboxLoadsSpec : ChangeSpec := { name := "outboxLoads", fn := fun _ => fun
  | [d] => { results := [.lit (.bool true)], args := [d] }
  | _ => none }
def outboxLoadsRow : OpenClaim := { program := "ytmkkijgnlohieaa", sum := "a02da1b1b8e07f117779886a2babd02ab02a7a5b5b4c8f1f03ba968a7c68d638", func := "chargenet/chargenetlaw31.OutboxLoads", spec := "outboxLoads", unfollowed := true, recurses := true, apart := false }
def OutboxLoadsSaid : Prop := outboxLoadsRow.holds Try.pinned (OpenSpec.ofChange outboxLoadsSpec)

/-- ITS FALSE NEIGHBOUR: 'it returns false'. Refute it at one input. -/
def outboxLoadsWrong : ChangeSpec := { name := "outboxLoads", fn := fun _ => fun
  | [d] => { results := [.lit (.bool false)], args := [d] }
  | _ => none }
def OutboxLoadsWrongFalsely : Prop := outboxLoadsRow.holds Try.pinned (OpenSpec.ofChange outboxLoadsWrong)

/-- 'chargenetlaw31.OutboxKeeps': WHATEVER THE INPUT: true; the input reads as it did. -/
def outboxKeepsSpec : ChangeSpec := { name := "outboxKeeps", fn := fun _ => fun
  | [d1, d2, d3] => { results := [.lit (.bool true)], args := [d1, d2, d3] }
  | _ => none }
def outboxKeepsRow : OpenClaim := { program := "ytmkkijgnlohieaa", sum := "a02da1b1b8e07f117779886a2babd02ab02a7a5b5b4c8f1f03ba968a7c68d638", func := "chargenet/chargenetlaw31.OutboxKeeps", spec := "outboxKeeps", unfollowed := true, recurses := true, apart := false }
def OutboxKeepsSaid : Prop := outboxKeepsRow.holds Try.pinned (OpenSpec.ofChange outboxKeepsSpec)

/-- ITS FALSE NEIGHBOUR: 'it returns false'. Refute it at one input. -/
def outboxKeepsWrong : ChangeSpec := { name := "outboxKeeps", fn := fun _ => fun
  | [d1, d2, d3] => { results := [.lit (.bool false)], args := [d1, d2, d3] }
  | _ => none }
def OutboxKeepsWrongFalsely : Prop := outboxKeepsRow.holds Try.pinned (OpenSpec.ofChange outboxKeepsWrong)

/- THE SECOND FORM. 'bulk': how many values and letters a reading holds, each counted each time it is reached (what is shared counts as often as it is met; a slice's spare places count too). A statement '..UptoSaid' is the law's where the arguments, and the package variables that the reading takes, are together of bulk at most 1048576: NARROWER than '..Said'. Prove '..Said' where nothing that the law and all that it calls make is longer than what came in: it says more and counts as full. Else prove '..UptoSaid'. A law counts once. -/
mutual
def uptoBulk {H : Type} : DataW H → Nat
  | .lit (.string bytes) => bytes.length + 1
  | .lit _ => 1
  | .nil => 1
  | .ptr d => uptoBulk d + 1
  | .slice elems spare => uptoBulkAll elems + uptoBulkAll spare + 1
  | .agg parts => uptoBulkAll parts + 1
  | .iface _ d => uptoBulk d + 1
  | .map entries => uptoBulkEntries entries + 1
  | .held _ => 1
def uptoBulkAll {H : Type} : List (DataW H) → Nat
  | [] => 0
  | d :: r => uptoBulk d + uptoBulkAll r
def uptoBulkEntries {H : Type} : List (Lit × DataW H) → Nat
  | [] => 0
  | x :: r => uptoBulkEntry x + uptoBulkEntries r
def uptoBulkEntry {H : Type} : Lit × DataW H → Nat
  | (.string bytes, d) => bytes.length + uptoBulk d + 1
  | (_, d) => uptoBulk d + 1
 end
def uptoSmall : (H : Type) → List (DataW H) → Bool := fun _ ds => decide (uptoBulkAll ds ≤ 1048576)
def OpenSpec.upto (s : _root_.Go.ChangeSpec) : _root_.Go.OpenSpec := { _root_.Go.OpenSpec.ofChange s with cond := some uptoSmall }

/-- 'chargenetlaw31.OutboxValids', WHERE WHAT IT READS IS OF BULK AT MOST 1048576: true; the input reads as it did. -/
def outboxValidsUptoRow : OpenClaim := { program := "ytmkkijgnlohieaa", sum := "a02da1b1b8e07f117779886a2babd02ab02a7a5b5b4c8f1f03ba968a7c68d638", func := "chargenet/chargenetlaw31.OutboxValids", spec := "outboxValids", unfollowed := true, recurses := true, apart := false, narrowed := true }
def OutboxValidsUptoSaid : Prop := outboxValidsUptoRow.holds Try.pinned (OpenSpec.upto outboxValidsSpec)

/-- 'chargenetlaw31.OutboxPushes', WHERE WHAT IT READS IS OF BULK AT MOST 1048576: true; the input reads as it did. -/
def outboxPushesUptoRow : OpenClaim := { program := "ytmkkijgnlohieaa", sum := "a02da1b1b8e07f117779886a2babd02ab02a7a5b5b4c8f1f03ba968a7c68d638", func := "chargenet/chargenetlaw31.OutboxPushes", spec := "outboxPushes", unfollowed := true, recurses := true, apart := false, narrowed := true }
def OutboxPushesUptoSaid : Prop := outboxPushesUptoRow.holds Try.pinned (OpenSpec.upto outboxPushesSpec)

/-- 'chargenetlaw31.OutboxAcks', WHERE WHAT IT READS IS OF BULK AT MOST 1048576: true; the input reads as it did. -/
def outboxAcksUptoRow : OpenClaim := { program := "ytmkkijgnlohieaa", sum := "a02da1b1b8e07f117779886a2babd02ab02a7a5b5b4c8f1f03ba968a7c68d638", func := "chargenet/chargenetlaw31.OutboxAcks", spec := "outboxAcks", unfollowed := true, recurses := true, apart := false, narrowed := true }
def OutboxAcksUptoSaid : Prop := outboxAcksUptoRow.holds Try.pinned (OpenSpec.upto outboxAcksSpec)

/-- 'chargenetlaw31.OutboxSaves', WHERE WHAT IT READS IS OF BULK AT MOST 1048576: true; the input reads as it did. -/
def outboxSavesUptoRow : OpenClaim := { program := "ytmkkijgnlohieaa", sum := "a02da1b1b8e07f117779886a2babd02ab02a7a5b5b4c8f1f03ba968a7c68d638", func := "chargenet/chargenetlaw31.OutboxSaves", spec := "outboxSaves", unfollowed := true, recurses := true, apart := false, narrowed := true }
def OutboxSavesUptoSaid : Prop := outboxSavesUptoRow.holds Try.pinned (OpenSpec.upto outboxSavesSpec)

/-- 'chargenetlaw31.OutboxLoads', WHERE WHAT IT READS IS OF BULK AT MOST 1048576: true; the input reads as it did. -/
def outboxLoadsUptoRow : OpenClaim := { program := "ytmkkijgnlohieaa", sum := "a02da1b1b8e07f117779886a2babd02ab02a7a5b5b4c8f1f03ba968a7c68d638", func := "chargenet/chargenetlaw31.OutboxLoads", spec := "outboxLoads", unfollowed := true, recurses := true, apart := false, narrowed := true }
def OutboxLoadsUptoSaid : Prop := outboxLoadsUptoRow.holds Try.pinned (OpenSpec.upto outboxLoadsSpec)

/-- 'chargenetlaw31.OutboxKeeps', WHERE WHAT IT READS IS OF BULK AT MOST 1048576: true; the input reads as it did. -/
def outboxKeepsUptoRow : OpenClaim := { program := "ytmkkijgnlohieaa", sum := "a02da1b1b8e07f117779886a2babd02ab02a7a5b5b4c8f1f03ba968a7c68d638", func := "chargenet/chargenetlaw31.OutboxKeeps", spec := "outboxKeeps", unfollowed := true, recurses := true, apart := false, narrowed := true }
def OutboxKeepsUptoSaid : Prop := outboxKeepsUptoRow.holds Try.pinned (OpenSpec.upto outboxKeepsSpec)

end Rows
end Go.Proofs.Ytmkkijgnlohieaa
