/-
  No cell of these rows narrows 'for every input' (looked for: loops, veiled, ifaces, maps, wideKeys, modest, calm, conditions, laid).
  DERIVED. THE GIVEN ROWS OF THIS SEAT. 8 by the template 'for every input the law returns true; each argument reads behind the call as it read before'; 0 by the template 'total and deterministic' (their statements: YtmplgfkhknhacaaTotals.lean).
  GIVEN WITH THE SEED: the statements are not yours to turn. If you find one false, say at which input.
  Laid BY PROGRAM, IN A SANDBOX (cutbox-rows.mjs): the forced cells as the released guide's own fill.sh prints them over the translation 8f44495b2ad85944… (all of the seat's roots in one cut). By AI agents, Wed Nov 11 2026. No macro, syntax, notation, axiom, sorry.
-/
import Derived.Test.YtmplgfkhknhacaaChecked
import GoSem.Claim
import GoSem.ClaimJoined
import GoSem.ClaimMapViews
import Derived.JoinedTies
import Derived.KernelRfl
namespace Go.Proofs.Ytmplgfkhknhacaa
/- THE CELL 'sum', in the pinned program and in every row, IS THE sha256 OF THE DUMP (.gsa) THAT YtmplgfkhknhacaaProg.lean LOADS. Nothing in Lean hashes anything: it is a label: what it is worth is what the hold of that sum in a sandbox is worth. -/
noncomputable def Try.pinned : Pinned := { name := "ytmplgfkhknhacaa", sum := "8f44495b2ad8594422c08f581b3cf4cc534c18c8fd566c0e4ce6db52dbace419", checked := Try.checked }
namespace Rows
def none {H : Type} : Left H := { results := [], args := [] }

/-- 'chargenetlaw27.CallValids': WHATEVER THE INPUT: true; the input reads as it did. -/
def callValidsSpec : ChangeSpec := { name := "callValids", fn := fun _ => fun
  | [d] => { results := [.lit (.bool true)], args := [d] }
  | _ => none }
def callValidsRow : OpenClaim := { program := "ytmplgfkhknhacaa", sum := "8f44495b2ad8594422c08f581b3cf4cc534c18c8fd566c0e4ce6db52dbace419", func := "chargenet/chargenetlaw27.CallValids", spec := "callValids", unfollowed := true, recurses := true, apart := false }
def CallValidsSaid : Prop := callValidsRow.holds Try.pinned (OpenSpec.ofChange callValidsSpec)

/-- ITS FALSE NEIGHBOUR: 'it returns false'. Refute it at one input. -/
def callValidsWrong : ChangeSpec := { name := "callValids", fn := fun _ => fun
  | [d] => { results := [.lit (.bool false)], args := [d] }
  | _ => none }
def CallValidsWrongFalsely : Prop := callValidsRow.holds Try.pinned (OpenSpec.ofChange callValidsWrong)

/-- 'chargenetlaw27.CallNews': WHATEVER THE INPUT: true; the input reads as it did. -/
def callNewsSpec : ChangeSpec := { name := "callNews", fn := fun _ => fun
  | [d1, d2, d3] => { results := [.lit (.bool true)], args := [d1, d2, d3] }
  | _ => none }
def callNewsRow : OpenClaim := { program := "ytmplgfkhknhacaa", sum := "8f44495b2ad8594422c08f581b3cf4cc534c18c8fd566c0e4ce6db52dbace419", func := "chargenet/chargenetlaw27.CallNews", spec := "callNews", unfollowed := true, recurses := true, apart := false }
def CallNewsSaid : Prop := callNewsRow.holds Try.pinned (OpenSpec.ofChange callNewsSpec)

/-- ITS FALSE NEIGHBOUR: 'it returns false'. Refute it at one input. -/
def callNewsWrong : ChangeSpec := { name := "callNews", fn := fun _ => fun
  | [d1, d2, d3] => { results := [.lit (.bool false)], args := [d1, d2, d3] }
  | _ => none }
def CallNewsWrongFalsely : Prop := callNewsRow.holds Try.pinned (OpenSpec.ofChange callNewsWrong)

/-- 'chargenetlaw27.CallQueues': WHATEVER THE INPUT: true; the input reads as it did. -/
def callQueuesSpec : ChangeSpec := { name := "callQueues", fn := fun _ => fun
  | [d1, d2] => { results := [.lit (.bool true)], args := [d1, d2] }
  | _ => none }
def callQueuesRow : OpenClaim := { program := "ytmplgfkhknhacaa", sum := "8f44495b2ad8594422c08f581b3cf4cc534c18c8fd566c0e4ce6db52dbace419", func := "chargenet/chargenetlaw27.CallQueues", spec := "callQueues", unfollowed := true, recurses := true, apart := false }
def CallQueuesSaid : Prop := callQueuesRow.holds Try.pinned (OpenSpec.ofChange callQueuesSpec)

/-- ITS FALSE NEIGHBOUR: 'it returns false'. Refute it at one input. -/
def callQueuesWrong : ChangeSpec := { name := "callQueues", fn := fun _ => fun
  | [d1, d2] => { results := [.lit (.bool false)], args := [d1, d2] }
  | _ => none }
def CallQueuesWrongFalsely : Prop := callQueuesRow.holds Try.pinned (OpenSpec.ofChange callQueuesWrong)

/-- 'chargenetlaw27.CallSends': WHATEVER THE INPUT: true; the input reads as it did. -/
def callSendsSpec : ChangeSpec := { name := "callSends", fn := fun _ => fun
  | [d1, d2] => { results := [.lit (.bool true)], args := [d1, d2] }
  | _ => none }
def callSendsRow : OpenClaim := { program := "ytmplgfkhknhacaa", sum := "8f44495b2ad8594422c08f581b3cf4cc534c18c8fd566c0e4ce6db52dbace419", func := "chargenet/chargenetlaw27.CallSends", spec := "callSends", unfollowed := true, recurses := true, apart := false }
def CallSendsSaid : Prop := callSendsRow.holds Try.pinned (OpenSpec.ofChange callSendsSpec)

/-- ITS FALSE NEIGHBOUR: 'it returns false'. Refute it at one input. -/
def callSendsWrong : ChangeSpec := { name := "callSends", fn := fun _ => fun
  | [d1, d2] => { results := [.lit (.bool false)], args := [d1, d2] }
  | _ => none }
def CallSendsWrongFalsely : Prop := callSendsRow.holds Try.pinned (OpenSpec.ofChange callSendsWrong)

/-- 'chargenetlaw27.CallReceives': WHATEVER THE INPUT: true; the input reads as it did. -/
def callReceivesSpec : ChangeSpec := { name := "callReceives", fn := fun _ => fun
  | [d1, d2] => { results := [.lit (.bool true)], args := [d1, d2] }
  | _ => none }
def callReceivesRow : OpenClaim := { program := "ytmplgfkhknhacaa", sum := "8f44495b2ad8594422c08f581b3cf4cc534c18c8fd566c0e4ce6db52dbace419", func := "chargenet/chargenetlaw27.CallReceives", spec := "callReceives", unfollowed := true, recurses := true, apart := false }
def CallReceivesSaid : Prop := callReceivesRow.holds Try.pinned (OpenSpec.ofChange callReceivesSpec)

/-- ITS FALSE NEIGHBOUR: 'it returns false'. Refute it at one input. -/
def callReceivesWrong : ChangeSpec := { name := "callReceives", fn := fun _ => fun
  | [d1, d2] => { results := [.lit (.bool false)], args := [d1, d2] }
  | _ => none }
def CallReceivesWrongFalsely : Prop := callReceivesRow.holds Try.pinned (OpenSpec.ofChange callReceivesWrong)

/-- 'chargenetlaw27.CallAnswers': WHATEVER THE INPUT: true; the input reads as it did. -/
def callAnswersSpec : ChangeSpec := { name := "callAnswers", fn := fun _ => fun
  | [d1, d2] => { results := [.lit (.bool true)], args := [d1, d2] }
  | _ => none }
def callAnswersRow : OpenClaim := { program := "ytmplgfkhknhacaa", sum := "8f44495b2ad8594422c08f581b3cf4cc534c18c8fd566c0e4ce6db52dbace419", func := "chargenet/chargenetlaw27.CallAnswers", spec := "callAnswers", unfollowed := true, recurses := true, apart := false }
def CallAnswersSaid : Prop := callAnswersRow.holds Try.pinned (OpenSpec.ofChange callAnswersSpec)

/-- ITS FALSE NEIGHBOUR: 'it returns false'. Refute it at one input. -/
def callAnswersWrong : ChangeSpec := { name := "callAnswers", fn := fun _ => fun
  | [d1, d2] => { results := [.lit (.bool false)], args := [d1, d2] }
  | _ => none }
def CallAnswersWrongFalsely : Prop := callAnswersRow.holds Try.pinned (OpenSpec.ofChange callAnswersWrong)

/-- 'chargenetlaw27.CallOnce': WHATEVER THE INPUT: true; the input reads as it did. -/
def callOnceSpec : ChangeSpec := { name := "callOnce", fn := fun _ => fun
  | [d] => { results := [.lit (.bool true)], args := [d] }
  | _ => none }
def callOnceRow : OpenClaim := { program := "ytmplgfkhknhacaa", sum := "8f44495b2ad8594422c08f581b3cf4cc534c18c8fd566c0e4ce6db52dbace419", func := "chargenet/chargenetlaw27.CallOnce", spec := "callOnce", unfollowed := true, recurses := true, apart := false }
def CallOnceSaid : Prop := callOnceRow.holds Try.pinned (OpenSpec.ofChange callOnceSpec)

/-- ITS FALSE NEIGHBOUR: 'it returns false'. Refute it at one input. -/
def callOnceWrong : ChangeSpec := { name := "callOnce", fn := fun _ => fun
  | [d] => { results := [.lit (.bool false)], args := [d] }
  | _ => none }
def CallOnceWrongFalsely : Prop := callOnceRow.holds Try.pinned (OpenSpec.ofChange callOnceWrong)

/-- 'chargenettop.CallsOnce': WHATEVER THE INPUT: true; the input reads as it did. -/
def callsOnceSpec : ChangeSpec := { name := "callsOnce", fn := fun _ => fun
  | [d1, d2, d3, d4] => { results := [.lit (.bool true)], args := [d1, d2, d3, d4] }
  | _ => none }
def callsOnceRow : OpenClaim := { program := "ytmplgfkhknhacaa", sum := "8f44495b2ad8594422c08f581b3cf4cc534c18c8fd566c0e4ce6db52dbace419", func := "chargenet/chargenettop.CallsOnce", spec := "callsOnce", inPlace := ["internal/bytealg.IndexByte"], unfollowed := true, recurses := true, apart := false }
def CallsOnceSaid : Prop := callsOnceRow.holds Try.pinned (OpenSpec.ofChange callsOnceSpec)

/-- ITS FALSE NEIGHBOUR: 'it returns false'. Refute it at one input. -/
def callsOnceWrong : ChangeSpec := { name := "callsOnce", fn := fun _ => fun
  | [d1, d2, d3, d4] => { results := [.lit (.bool false)], args := [d1, d2, d3, d4] }
  | _ => none }
def CallsOnceWrongFalsely : Prop := callsOnceRow.holds Try.pinned (OpenSpec.ofChange callsOnceWrong)

/- THE SECOND FORM. 'bulk': how many values and letters a reading holds, each counted each time it is reached (what is shared counts as often as it is met; a slice's spare places count too). A statement '..UptoSaid' is the law's where the arguments, and the package variables that the reading takes, are together of bulk at most 1048576: NARROWER than '..Said'. Prove '..Said' where nothing that the law and all that it calls make is longer than what came in: it says more and counts as full. Else prove '..UptoSaid'. A law counts once. -/
mutual
def uptoBulk {H : Type} : DataW H → Nat
  | .lit (.string bytes) => bytes.length + 1
  | .lit _ => 1
  | .nil => 1
  | .ptr d => uptoBulk d + 1
  | .slice elems spare => uptoBulkAll elems + uptoBulkAll spare + 1
  | .agg parts => uptoBulkAll parts + 1
  | .iface _ d => uptoBulk d + 1
  | .map entries => uptoBulkEntries entries + 1
  | .held _ => 1
def uptoBulkAll {H : Type} : List (DataW H) → Nat
  | [] => 0
  | d :: r => uptoBulk d + uptoBulkAll r
def uptoBulkEntries {H : Type} : List (Lit × DataW H) → Nat
  | [] => 0
  | x :: r => uptoBulkEntry x + uptoBulkEntries r
def uptoBulkEntry {H : Type} : Lit × DataW H → Nat
  | (.string bytes, d) => bytes.length + uptoBulk d + 1
  | (_, d) => uptoBulk d + 1
 end
def uptoSmall : (H : Type) → List (DataW H) → Bool := fun _ ds => decide (uptoBulkAll ds ≤ 1048576)
def OpenSpec.upto (s : _root_.Go.ChangeSpec) : _root_.Go.OpenSpec := { _root_.Go.OpenSpec.ofChange s with cond := some uptoSmall }

/-- 'chargenetlaw27.CallValids', WHERE WHAT IT READS IS OF BULK AT MOST 1048576: true; the input reads as it did. -/
def callValidsUptoRow : OpenClaim := { program := "ytmplgfkhknhacaa", sum := "8f44495b2ad8594422c08f581b3cf4cc534c18c8fd566c0e4ce6db52dbace419", func := "chargenet/chargenetlaw27.CallValids", spec := "callValids", unfollowed := true, recurses := true, apart := false, narrowed := true }
def CallValidsUptoSaid : Prop := callValidsUptoRow.holds Try.pinned (OpenSpec.upto callValidsSpec)

/-- 'chargenetlaw27.CallNews', WHERE WHAT IT READS IS OF BULK AT MOST 1048576: true; the input reads as it did. -/
def callNewsUptoRow : OpenClaim := { program := "ytmplgfkhknhacaa", sum := "8f44495b2ad8594422c08f581b3cf4cc534c18c8fd566c0e4ce6db52dbace419", func := "chargenet/chargenetlaw27.CallNews", spec := "callNews", unfollowed := true, recurses := true, apart := false, narrowed := true }
def CallNewsUptoSaid : Prop := callNewsUptoRow.holds Try.pinned (OpenSpec.upto callNewsSpec)

/-- 'chargenetlaw27.CallQueues', WHERE WHAT IT READS IS OF BULK AT MOST 1048576: true; the input reads as it did. -/
def callQueuesUptoRow : OpenClaim := { program := "ytmplgfkhknhacaa", sum := "8f44495b2ad8594422c08f581b3cf4cc534c18c8fd566c0e4ce6db52dbace419", func := "chargenet/chargenetlaw27.CallQueues", spec := "callQueues", unfollowed := true, recurses := true, apart := false, narrowed := true }
def CallQueuesUptoSaid : Prop := callQueuesUptoRow.holds Try.pinned (OpenSpec.upto callQueuesSpec)

/-- 'chargenetlaw27.CallSends', WHERE WHAT IT READS IS OF BULK AT MOST 1048576: true; the input reads as it did. -/
def callSendsUptoRow : OpenClaim := { program := "ytmplgfkhknhacaa", sum := "8f44495b2ad8594422c08f581b3cf4cc534c18c8fd566c0e4ce6db52dbace419", func := "chargenet/chargenetlaw27.CallSends", spec := "callSends", unfollowed := true, recurses := true, apart := false, narrowed := true }
def CallSendsUptoSaid : Prop := callSendsUptoRow.holds Try.pinned (OpenSpec.upto callSendsSpec)

/-- 'chargenetlaw27.CallReceives', WHERE WHAT IT READS IS OF BULK AT MOST 1048576: true; the input reads as it did. -/
def callReceivesUptoRow : OpenClaim := { program := "ytmplgfkhknhacaa", sum := "8f44495b2ad8594422c08f581b3cf4cc534c18c8fd566c0e4ce6db52dbace419", func := "chargenet/chargenetlaw27.CallReceives", spec := "callReceives", unfollowed := true, recurses := true, apart := false, narrowed := true }
def CallReceivesUptoSaid : Prop := callReceivesUptoRow.holds Try.pinned (OpenSpec.upto callReceivesSpec)

/-- 'chargenetlaw27.CallAnswers', WHERE WHAT IT READS IS OF BULK AT MOST 1048576: true; the input reads as it did. -/
def callAnswersUptoRow : OpenClaim := { program := "ytmplgfkhknhacaa", sum := "8f44495b2ad8594422c08f581b3cf4cc534c18c8fd566c0e4ce6db52dbace419", func := "chargenet/chargenetlaw27.CallAnswers", spec := "callAnswers", unfollowed := true, recurses := true, apart := false, narrowed := true }
def CallAnswersUptoSaid : Prop := callAnswersUptoRow.holds Try.pinned (OpenSpec.upto callAnswersSpec)

/-- 'chargenetlaw27.CallOnce', WHERE WHAT IT READS IS OF BULK AT MOST 1048576: true; the input reads as it did. -/
def callOnceUptoRow : OpenClaim := { program := "ytmplgfkhknhacaa", sum := "8f44495b2ad8594422c08f581b3cf4cc534c18c8fd566c0e4ce6db52dbace419", func := "chargenet/chargenetlaw27.CallOnce", spec := "callOnce", unfollowed := true, recurses := true, apart := false, narrowed := true }
def CallOnceUptoSaid : Prop := callOnceUptoRow.holds Try.pinned (OpenSpec.upto callOnceSpec)

/-- 'chargenettop.CallsOnce', WHERE WHAT IT READS IS OF BULK AT MOST 1048576: true; the input reads as it did. -/
def callsOnceUptoRow : OpenClaim := { program := "ytmplgfkhknhacaa", sum := "8f44495b2ad8594422c08f581b3cf4cc534c18c8fd566c0e4ce6db52dbace419", func := "chargenet/chargenettop.CallsOnce", spec := "callsOnce", inPlace := ["internal/bytealg.IndexByte"], unfollowed := true, recurses := true, apart := false, narrowed := true }
def CallsOnceUptoSaid : Prop := callsOnceUptoRow.holds Try.pinned (OpenSpec.upto callsOnceSpec)

end Rows
end Go.Proofs.Ytmplgfkhknhacaa
