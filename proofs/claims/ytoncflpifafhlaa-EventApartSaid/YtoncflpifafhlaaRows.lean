/-
  No cell of these rows narrows 'for every input' (looked for: loops, veiled, ifaces, maps, wideKeys, modest, calm, conditions, laid).
  DERIVED. THE GIVEN ROWS OF THIS SEAT. 6 by the template 'for every input the law returns true; each argument reads behind the call as it read before'; 0 by the template 'total and deterministic' (their statements: YtoncflpifafhlaaTotals.lean).
  GIVEN WITH THE SEED: the statements are not yours to turn. If you find one false, say at which input.
  Laid BY PROGRAM, IN A SANDBOX (cutbox-rows.mjs): the forced cells as the released guide's own fill.sh prints them over the translation 4fe2faf67fd00aa1… (all of the seat's roots in one cut). By AI agents, Wed Nov 11 2026. No macro, syntax, notation, axiom, sorry.
-/
import Derived.Test.YtoncflpifafhlaaChecked
import GoSem.Claim
import GoSem.ClaimJoined
import GoSem.ClaimMapViews
import Derived.JoinedTies
import Derived.KernelRfl
namespace Go.Proofs.Ytoncflpifafhlaa
/- THE CELL 'sum', in the pinned program and in every row, IS THE sha256 OF THE DUMP (.gsa) THAT YtoncflpifafhlaaProg.lean LOADS. Nothing in Lean hashes anything: it is a label: what it is worth is what the hold of that sum in a sandbox is worth. -/
noncomputable def Try.pinned : Pinned := { name := "ytoncflpifafhlaa", sum := "4fe2faf67fd00aa189fbce9d25e2ac7ea10fad5f62aceda0ab50bf63924d9fde", checked := Try.checked }
namespace Rows
def none {H : Type} : Left H := { results := [], args := [] }

/-- 'chargenetlaw30.EventValid': WHATEVER THE INPUT: true; the input reads as it did. -/
def eventValidSpec : ChangeSpec := { name := "eventValid", fn := fun _ => fun
  | [d] => { results := [.lit (.bool true)], args := [d] }
  | _ => none }
def eventValidRow : OpenClaim := { program := "ytoncflpifafhlaa", sum := "4fe2faf67fd00aa189fbce9d25e2ac7ea10fad5f62aceda0ab50bf63924d9fde", func := "chargenet/chargenetlaw30.EventValid", spec := "eventValid", unfollowed := true, recurses := true, apart := false }
def EventValidSaid : Prop := eventValidRow.holds Try.pinned (OpenSpec.ofChange eventValidSpec)

/-- ITS FALSE NEIGHBOUR: 'it returns false'. Refute it at one input. -/
def eventValidWrong : ChangeSpec := { name := "eventValid", fn := fun _ => fun
  | [d] => { results := [.lit (.bool false)], args := [d] }
  | _ => none }
def EventValidWrongFalsely : Prop := eventValidRow.holds Try.pinned (OpenSpec.ofChange eventValidWrong)

/-- 'chargenetlaw30.EventEncodes': WHATEVER THE INPUT: true; the input reads as it did. -/
def eventEncodesSpec : ChangeSpec := { name := "eventEncodes", fn := fun _ => fun
  | [d] => { results := [.lit (.bool true)], args := [d] }
  | _ => none }
def eventEncodesRow : OpenClaim := { program := "ytoncflpifafhlaa", sum := "4fe2faf67fd00aa189fbce9d25e2ac7ea10fad5f62aceda0ab50bf63924d9fde", func := "chargenet/chargenetlaw30.EventEncodes", spec := "eventEncodes", unfollowed := true, recurses := true, apart := false }
def EventEncodesSaid : Prop := eventEncodesRow.holds Try.pinned (OpenSpec.ofChange eventEncodesSpec)

/-- ITS FALSE NEIGHBOUR: 'it returns false'. Refute it at one input. -/
def eventEncodesWrong : ChangeSpec := { name := "eventEncodes", fn := fun _ => fun
  | [d] => { results := [.lit (.bool false)], args := [d] }
  | _ => none }
def EventEncodesWrongFalsely : Prop := eventEncodesRow.holds Try.pinned (OpenSpec.ofChange eventEncodesWrong)

/-- 'chargenetlaw30.EventMessages': WHATEVER THE INPUT: true; the input reads as it did. -/
def eventMessagesSpec : ChangeSpec := { name := "eventMessages", fn := fun _ => fun
  | [d] => { results := [.lit (.bool true)], args := [d] }
  | _ => none }
def eventMessagesRow : OpenClaim := { program := "ytoncflpifafhlaa", sum := "4fe2faf67fd00aa189fbce9d25e2ac7ea10fad5f62aceda0ab50bf63924d9fde", func := "chargenet/chargenetlaw30.EventMessages", spec := "eventMessages", unfollowed := true, recurses := true, apart := false }
def EventMessagesSaid : Prop := eventMessagesRow.holds Try.pinned (OpenSpec.ofChange eventMessagesSpec)

/-- ITS FALSE NEIGHBOUR: 'it returns false'. Refute it at one input. -/
def eventMessagesWrong : ChangeSpec := { name := "eventMessages", fn := fun _ => fun
  | [d] => { results := [.lit (.bool false)], args := [d] }
  | _ => none }
def EventMessagesWrongFalsely : Prop := eventMessagesRow.holds Try.pinned (OpenSpec.ofChange eventMessagesWrong)

/-- 'chargenetlaw30.EventFrom': WHATEVER THE INPUT: true; the input reads as it did. -/
def eventFromSpec : ChangeSpec := { name := "eventFrom", fn := fun _ => fun
  | [d1, d2] => { results := [.lit (.bool true)], args := [d1, d2] }
  | _ => none }
def eventFromRow : OpenClaim := { program := "ytoncflpifafhlaa", sum := "4fe2faf67fd00aa189fbce9d25e2ac7ea10fad5f62aceda0ab50bf63924d9fde", func := "chargenet/chargenetlaw30.EventFrom", spec := "eventFrom", unfollowed := true, recurses := true, apart := false }
def EventFromSaid : Prop := eventFromRow.holds Try.pinned (OpenSpec.ofChange eventFromSpec)

/-- ITS FALSE NEIGHBOUR: 'it returns false'. Refute it at one input. -/
def eventFromWrong : ChangeSpec := { name := "eventFrom", fn := fun _ => fun
  | [d1, d2] => { results := [.lit (.bool false)], args := [d1, d2] }
  | _ => none }
def EventFromWrongFalsely : Prop := eventFromRow.holds Try.pinned (OpenSpec.ofChange eventFromWrong)

/-- 'chargenetlaw30.EventSame': WHATEVER THE INPUT: true; the input reads as it did. -/
def eventSameSpec : ChangeSpec := { name := "eventSame", fn := fun _ => fun
  | [d1, d2] => { results := [.lit (.bool true)], args := [d1, d2] }
  | _ => none }
def eventSameRow : OpenClaim := { program := "ytoncflpifafhlaa", sum := "4fe2faf67fd00aa189fbce9d25e2ac7ea10fad5f62aceda0ab50bf63924d9fde", func := "chargenet/chargenetlaw30.EventSame", spec := "eventSame", unfollowed := true, recurses := true, apart := false }
def EventSameSaid : Prop := eventSameRow.holds Try.pinned (OpenSpec.ofChange eventSameSpec)

/-- ITS FALSE NEIGHBOUR: 'it returns false'. Refute it at one input. -/
def eventSameWrong : ChangeSpec := { name := "eventSame", fn := fun _ => fun
  | [d1, d2] => { results := [.lit (.bool false)], args := [d1, d2] }
  | _ => none }
def EventSameWrongFalsely : Prop := eventSameRow.holds Try.pinned (OpenSpec.ofChange eventSameWrong)

/-- 'chargenetlaw30.EventApart': WHATEVER THE INPUT: true; the input reads as it did. -/
def eventApartSpec : ChangeSpec := { name := "eventApart", fn := fun _ => fun
  | [d1, d2] => { results := [.lit (.bool true)], args := [d1, d2] }
  | _ => none }
def eventApartRow : OpenClaim := { program := "ytoncflpifafhlaa", sum := "4fe2faf67fd00aa189fbce9d25e2ac7ea10fad5f62aceda0ab50bf63924d9fde", func := "chargenet/chargenetlaw30.EventApart", spec := "eventApart", unfollowed := true, recurses := true, apart := false }
def EventApartSaid : Prop := eventApartRow.holds Try.pinned (OpenSpec.ofChange eventApartSpec)

/-- ITS FALSE NEIGHBOUR: 'it returns false'. Refute it at one input. -/
def eventApartWrong : ChangeSpec := { name := "eventApart", fn := fun _ => fun
  | [d1, d2] => { results := [.lit (.bool false)], args := [d1, d2] }
  | _ => none }
def EventApartWrongFalsely : Prop := eventApartRow.holds Try.pinned (OpenSpec.ofChange eventApartWrong)

/- THE SECOND FORM. 'bulk': how many values and letters a reading holds, each counted each time it is reached (what is shared counts as often as it is met; a slice's spare places count too). A statement '..UptoSaid' is the law's where the arguments, and the package variables that the reading takes, are together of bulk at most 1048576: NARROWER than '..Said'. Prove '..Said' where nothing that the law and all that it calls make is longer than what came in: it says more and counts as full. Else prove '..UptoSaid'. A law counts once. -/
mutual
def uptoBulk {H : Type} : DataW H → Nat
  | .lit (.string bytes) => bytes.length + 1
  | .lit _ => 1
  | .nil => 1
  | .ptr d => uptoBulk d + 1
  | .slice elems spare => uptoBulkAll elems + uptoBulkAll spare + 1
  | .agg parts => uptoBulkAll parts + 1
  | .iface _ d => uptoBulk d + 1
  | .map entries => uptoBulkEntries entries + 1
  | .held _ => 1
def uptoBulkAll {H : Type} : List (DataW H) → Nat
  | [] => 0
  | d :: r => uptoBulk d + uptoBulkAll r
def uptoBulkEntries {H : Type} : List (Lit × DataW H) → Nat
  | [] => 0
  | x :: r => uptoBulkEntry x + uptoBulkEntries r
def uptoBulkEntry {H : Type} : Lit × DataW H → Nat
  | (.string bytes, d) => bytes.length + uptoBulk d + 1
  | (_, d) => uptoBulk d + 1
 end
def uptoSmall : (H : Type) → List (DataW H) → Bool := fun _ ds => decide (uptoBulkAll ds ≤ 1048576)
def OpenSpec.upto (s : _root_.Go.ChangeSpec) : _root_.Go.OpenSpec := { _root_.Go.OpenSpec.ofChange s with cond := some uptoSmall }

/-- 'chargenetlaw30.EventValid', WHERE WHAT IT READS IS OF BULK AT MOST 1048576: true; the input reads as it did. -/
def eventValidUptoRow : OpenClaim := { program := "ytoncflpifafhlaa", sum := "4fe2faf67fd00aa189fbce9d25e2ac7ea10fad5f62aceda0ab50bf63924d9fde", func := "chargenet/chargenetlaw30.EventValid", spec := "eventValid", unfollowed := true, recurses := true, apart := false, narrowed := true }
def EventValidUptoSaid : Prop := eventValidUptoRow.holds Try.pinned (OpenSpec.upto eventValidSpec)

/-- 'chargenetlaw30.EventEncodes', WHERE WHAT IT READS IS OF BULK AT MOST 1048576: true; the input reads as it did. -/
def eventEncodesUptoRow : OpenClaim := { program := "ytoncflpifafhlaa", sum := "4fe2faf67fd00aa189fbce9d25e2ac7ea10fad5f62aceda0ab50bf63924d9fde", func := "chargenet/chargenetlaw30.EventEncodes", spec := "eventEncodes", unfollowed := true, recurses := true, apart := false, narrowed := true }
def EventEncodesUptoSaid : Prop := eventEncodesUptoRow.holds Try.pinned (OpenSpec.upto eventEncodesSpec)

/-- 'chargenetlaw30.EventMessages', WHERE WHAT IT READS IS OF BULK AT MOST 1048576: true; the input reads as it did. -/
def eventMessagesUptoRow : OpenClaim := { program := "ytoncflpifafhlaa", sum := "4fe2faf67fd00aa189fbce9d25e2ac7ea10fad5f62aceda0ab50bf63924d9fde", func := "chargenet/chargenetlaw30.EventMessages", spec := "eventMessages", unfollowed := true, recurses := true, apart := false, narrowed := true }
def EventMessagesUptoSaid : Prop := eventMessagesUptoRow.holds Try.pinned (OpenSpec.upto eventMessagesSpec)

/-- 'chargenetlaw30.EventFrom', WHERE WHAT IT READS IS OF BULK AT MOST 1048576: true; the input reads as it did. -/
def eventFromUptoRow : OpenClaim := { program := "ytoncflpifafhlaa", sum := "4fe2faf67fd00aa189fbce9d25e2ac7ea10fad5f62aceda0ab50bf63924d9fde", func := "chargenet/chargenetlaw30.EventFrom", spec := "eventFrom", unfollowed := true, recurses := true, apart := false, narrowed := true }
def EventFromUptoSaid : Prop := eventFromUptoRow.holds Try.pinned (OpenSpec.upto eventFromSpec)

/-- 'chargenetlaw30.EventSame', WHERE WHAT IT READS IS OF BULK AT MOST 1048576: true; the input reads as it did. -/
def eventSameUptoRow : OpenClaim := { program := "ytoncflpifafhlaa", sum := "4fe2faf67fd00aa189fbce9d25e2ac7ea10fad5f62aceda0ab50bf63924d9fde", func := "chargenet/chargenetlaw30.EventSame", spec := "eventSame", unfollowed := true, recurses := true, apart := false, narrowed := true }
def EventSameUptoSaid : Prop := eventSameUptoRow.holds Try.pinned (OpenSpec.upto eventSameSpec)

/-- 'chargenetlaw30.EventApart', WHERE WHAT IT READS IS OF BULK AT MOST 1048576: true; the input reads as it did. -/
def eventApartUptoRow : OpenClaim := { program := "ytoncflpifafhlaa", sum := "4fe2faf67fd00aa189fbce9d25e2ac7ea10fad5f62aceda0ab50bf63924d9fde", func := "chargenet/chargenetlaw30.EventApart", spec := "eventApart", unfollowed := true, recurses := true, apart := false, narrowed := true }
def EventApartUptoSaid : Prop := eventApartUptoRow.holds Try.pinned (OpenSpec.upto eventApartSpec)

end Rows
end Go.Proofs.Ytoncflpifafhlaa
