/-
  No cell of these rows narrows 'for every input' (looked for: loops, veiled, ifaces, maps, wideKeys, modest, calm, conditions, laid).
  DERIVED. THE GIVEN ROWS OF THIS SEAT. 9 by the template 'for every input the law returns true; each argument reads behind the call as it read before'; 0 by the template 'total and deterministic' (their statements: YtmdjbmpongggnaaTotals.lean).
  GIVEN WITH THE SEED: the statements are not yours to turn. If you find one false, say at which input.
  Laid BY PROGRAM, IN A SANDBOX (cutbox-rows.mjs): the forced cells as the released guide's own fill.sh prints them over the translation 03dc126bc5928228… (all of the seat's roots in one cut). By AI agents, Wed Nov 11 2026. No macro, syntax, notation, axiom, sorry.
-/
import Derived.Test.YtmdjbmpongggnaaChecked
import GoSem.Claim
import GoSem.ClaimJoined
import GoSem.ClaimMapViews
import Derived.JoinedTies
import Derived.KernelRfl
namespace Go.Proofs.Ytmdjbmpongggnaa
/- THE CELL 'sum', in the pinned program and in every row, IS THE sha256 OF THE DUMP (.gsa) THAT YtmdjbmpongggnaaProg.lean LOADS. Nothing in Lean hashes anything: it is a label: what it is worth is what the hold of that sum in a sandbox is worth. -/
noncomputable def Try.pinned : Pinned := { name := "ytmdjbmpongggnaa", sum := "03dc126bc5928228300fc340a656f18197606f88bd5bc2e41bb73fb446a89e8f", checked := Try.checked }
namespace Rows
def none {H : Type} : Left H := { results := [], args := [] }

/-- 'chargenetlaw07.FieldsInt': WHATEVER THE INPUT: true; the input reads as it did. -/
def fieldsIntSpec : ChangeSpec := { name := "fieldsInt", fn := fun _ => fun
  | [d] => { results := [.lit (.bool true)], args := [d] }
  | _ => none }
def fieldsIntRow : OpenClaim := { program := "ytmdjbmpongggnaa", sum := "03dc126bc5928228300fc340a656f18197606f88bd5bc2e41bb73fb446a89e8f", func := "chargenet/chargenetlaw07.FieldsInt", spec := "fieldsInt", unfollowed := true, recurses := true, apart := false }
def FieldsIntSaid : Prop := fieldsIntRow.holds Try.pinned (OpenSpec.ofChange fieldsIntSpec)

/-- ITS FALSE NEIGHBOUR: 'it returns false'. Refute it at one input. -/
def fieldsIntWrong : ChangeSpec := { name := "fieldsInt", fn := fun _ => fun
  | [d] => { results := [.lit (.bool false)], args := [d] }
  | _ => none }
def FieldsIntWrongFalsely : Prop := fieldsIntRow.holds Try.pinned (OpenSpec.ofChange fieldsIntWrong)

/-- 'chargenetlaw07.FieldsTakeInt': WHATEVER THE INPUT: true; the input reads as it did. -/
def fieldsTakeIntSpec : ChangeSpec := { name := "fieldsTakeInt", fn := fun _ => fun
  | [d] => { results := [.lit (.bool true)], args := [d] }
  | _ => none }
def fieldsTakeIntRow : OpenClaim := { program := "ytmdjbmpongggnaa", sum := "03dc126bc5928228300fc340a656f18197606f88bd5bc2e41bb73fb446a89e8f", func := "chargenet/chargenetlaw07.FieldsTakeInt", spec := "fieldsTakeInt", unfollowed := true, recurses := true, apart := false }
def FieldsTakeIntSaid : Prop := fieldsTakeIntRow.holds Try.pinned (OpenSpec.ofChange fieldsTakeIntSpec)

/-- ITS FALSE NEIGHBOUR: 'it returns false'. Refute it at one input. -/
def fieldsTakeIntWrong : ChangeSpec := { name := "fieldsTakeInt", fn := fun _ => fun
  | [d] => { results := [.lit (.bool false)], args := [d] }
  | _ => none }
def FieldsTakeIntWrongFalsely : Prop := fieldsTakeIntRow.holds Try.pinned (OpenSpec.ofChange fieldsTakeIntWrong)

/-- 'chargenetlaw07.FieldsPut': WHATEVER THE INPUT: true; the input reads as it did. -/
def fieldsPutSpec : ChangeSpec := { name := "fieldsPut", fn := fun _ => fun
  | [d] => { results := [.lit (.bool true)], args := [d] }
  | _ => none }
def fieldsPutRow : OpenClaim := { program := "ytmdjbmpongggnaa", sum := "03dc126bc5928228300fc340a656f18197606f88bd5bc2e41bb73fb446a89e8f", func := "chargenet/chargenetlaw07.FieldsPut", spec := "fieldsPut", unfollowed := true, recurses := true, apart := false }
def FieldsPutSaid : Prop := fieldsPutRow.holds Try.pinned (OpenSpec.ofChange fieldsPutSpec)

/-- ITS FALSE NEIGHBOUR: 'it returns false'. Refute it at one input. -/
def fieldsPutWrong : ChangeSpec := { name := "fieldsPut", fn := fun _ => fun
  | [d] => { results := [.lit (.bool false)], args := [d] }
  | _ => none }
def FieldsPutWrongFalsely : Prop := fieldsPutRow.holds Try.pinned (OpenSpec.ofChange fieldsPutWrong)

/-- 'chargenetlaw07.FieldsTake': WHATEVER THE INPUT: true; the input reads as it did. -/
def fieldsTakeSpec : ChangeSpec := { name := "fieldsTake", fn := fun _ => fun
  | [d] => { results := [.lit (.bool true)], args := [d] }
  | _ => none }
def fieldsTakeRow : OpenClaim := { program := "ytmdjbmpongggnaa", sum := "03dc126bc5928228300fc340a656f18197606f88bd5bc2e41bb73fb446a89e8f", func := "chargenet/chargenetlaw07.FieldsTake", spec := "fieldsTake", unfollowed := true, recurses := true, apart := false }
def FieldsTakeSaid : Prop := fieldsTakeRow.holds Try.pinned (OpenSpec.ofChange fieldsTakeSpec)

/-- ITS FALSE NEIGHBOUR: 'it returns false'. Refute it at one input. -/
def fieldsTakeWrong : ChangeSpec := { name := "fieldsTake", fn := fun _ => fun
  | [d] => { results := [.lit (.bool false)], args := [d] }
  | _ => none }
def FieldsTakeWrongFalsely : Prop := fieldsTakeRow.holds Try.pinned (OpenSpec.ofChange fieldsTakeWrong)

/-- 'chargenetlaw07.FieldsGet': WHATEVER THE INPUT: true; the input reads as it did. -/
def fieldsGetSpec : ChangeSpec := { name := "fieldsGet", fn := fun _ => fun
  | [d1, d2] => { results := [.lit (.bool true)], args := [d1, d2] }
  | _ => none }
def fieldsGetRow : OpenClaim := { program := "ytmdjbmpongggnaa", sum := "03dc126bc5928228300fc340a656f18197606f88bd5bc2e41bb73fb446a89e8f", func := "chargenet/chargenetlaw07.FieldsGet", spec := "fieldsGet", unfollowed := true, recurses := true, apart := false }
def FieldsGetSaid : Prop := fieldsGetRow.holds Try.pinned (OpenSpec.ofChange fieldsGetSpec)

/-- ITS FALSE NEIGHBOUR: 'it returns false'. Refute it at one input. -/
def fieldsGetWrong : ChangeSpec := { name := "fieldsGet", fn := fun _ => fun
  | [d1, d2] => { results := [.lit (.bool false)], args := [d1, d2] }
  | _ => none }
def FieldsGetWrongFalsely : Prop := fieldsGetRow.holds Try.pinned (OpenSpec.ofChange fieldsGetWrong)

/-- 'chargenetlaw07.FieldsList': WHATEVER THE INPUT: true; the input reads as it did. -/
def fieldsListSpec : ChangeSpec := { name := "fieldsList", fn := fun _ => fun
  | [d] => { results := [.lit (.bool true)], args := [d] }
  | _ => none }
def fieldsListRow : OpenClaim := { program := "ytmdjbmpongggnaa", sum := "03dc126bc5928228300fc340a656f18197606f88bd5bc2e41bb73fb446a89e8f", func := "chargenet/chargenetlaw07.FieldsList", spec := "fieldsList", unfollowed := true, recurses := true, apart := false }
def FieldsListSaid : Prop := fieldsListRow.holds Try.pinned (OpenSpec.ofChange fieldsListSpec)

/-- ITS FALSE NEIGHBOUR: 'it returns false'. Refute it at one input. -/
def fieldsListWrong : ChangeSpec := { name := "fieldsList", fn := fun _ => fun
  | [d] => { results := [.lit (.bool false)], args := [d] }
  | _ => none }
def FieldsListWrongFalsely : Prop := fieldsListRow.holds Try.pinned (OpenSpec.ofChange fieldsListWrong)

/-- 'chargenetlaw07.FieldsTakeList': WHATEVER THE INPUT: true; the input reads as it did. -/
def fieldsTakeListSpec : ChangeSpec := { name := "fieldsTakeList", fn := fun _ => fun
  | [d] => { results := [.lit (.bool true)], args := [d] }
  | _ => none }
def fieldsTakeListRow : OpenClaim := { program := "ytmdjbmpongggnaa", sum := "03dc126bc5928228300fc340a656f18197606f88bd5bc2e41bb73fb446a89e8f", func := "chargenet/chargenetlaw07.FieldsTakeList", spec := "fieldsTakeList", unfollowed := true, recurses := true, apart := false }
def FieldsTakeListSaid : Prop := fieldsTakeListRow.holds Try.pinned (OpenSpec.ofChange fieldsTakeListSpec)

/-- ITS FALSE NEIGHBOUR: 'it returns false'. Refute it at one input. -/
def fieldsTakeListWrong : ChangeSpec := { name := "fieldsTakeList", fn := fun _ => fun
  | [d] => { results := [.lit (.bool false)], args := [d] }
  | _ => none }
def FieldsTakeListWrongFalsely : Prop := fieldsTakeListRow.holds Try.pinned (OpenSpec.ofChange fieldsTakeListWrong)

/-- 'chargenetlaw07.FieldsBack': WHATEVER THE INPUT: true; the input reads as it did. -/
def fieldsBackSpec : ChangeSpec := { name := "fieldsBack", fn := fun _ => fun
  | [d1, d2] => { results := [.lit (.bool true)], args := [d1, d2] }
  | _ => none }
def fieldsBackRow : OpenClaim := { program := "ytmdjbmpongggnaa", sum := "03dc126bc5928228300fc340a656f18197606f88bd5bc2e41bb73fb446a89e8f", func := "chargenet/chargenetlaw07.FieldsBack", spec := "fieldsBack", unfollowed := true, recurses := true, apart := false }
def FieldsBackSaid : Prop := fieldsBackRow.holds Try.pinned (OpenSpec.ofChange fieldsBackSpec)

/-- ITS FALSE NEIGHBOUR: 'it returns false'. Refute it at one input. -/
def fieldsBackWrong : ChangeSpec := { name := "fieldsBack", fn := fun _ => fun
  | [d1, d2] => { results := [.lit (.bool false)], args := [d1, d2] }
  | _ => none }
def FieldsBackWrongFalsely : Prop := fieldsBackRow.holds Try.pinned (OpenSpec.ofChange fieldsBackWrong)

/-- 'chargenetlaw07.FieldsOnce': WHATEVER THE INPUT: true; the input reads as it did. -/
def fieldsOnceSpec : ChangeSpec := { name := "fieldsOnce", fn := fun _ => fun
  | [d] => { results := [.lit (.bool true)], args := [d] }
  | _ => none }
def fieldsOnceRow : OpenClaim := { program := "ytmdjbmpongggnaa", sum := "03dc126bc5928228300fc340a656f18197606f88bd5bc2e41bb73fb446a89e8f", func := "chargenet/chargenetlaw07.FieldsOnce", spec := "fieldsOnce", unfollowed := true, recurses := true, apart := false }
def FieldsOnceSaid : Prop := fieldsOnceRow.holds Try.pinned (OpenSpec.ofChange fieldsOnceSpec)

/-- ITS FALSE NEIGHBOUR: 'it returns false'. Refute it at one input. -/
def fieldsOnceWrong : ChangeSpec := { name := "fieldsOnce", fn := fun _ => fun
  | [d] => { results := [.lit (.bool false)], args := [d] }
  | _ => none }
def FieldsOnceWrongFalsely : Prop := fieldsOnceRow.holds Try.pinned (OpenSpec.ofChange fieldsOnceWrong)

/- THE SECOND FORM. 'bulk': how many values and letters a reading holds, each counted each time it is reached (what is shared counts as often as it is met; a slice's spare places count too). A statement '..UptoSaid' is the law's where the arguments, and the package variables that the reading takes, are together of bulk at most 1048576: NARROWER than '..Said'. Prove '..Said' where nothing that the law and all that it calls make is longer than what came in: it says more and counts as full. Else prove '..UptoSaid'. A law counts once. -/
mutual
def uptoBulk {H : Type} : DataW H → Nat
  | .lit (.string bytes) => bytes.length + 1
  | .lit _ => 1
  | .nil => 1
  | .ptr d => uptoBulk d + 1
  | .slice elems spare => uptoBulkAll elems + uptoBulkAll spare + 1
  | .agg parts => uptoBulkAll parts + 1
  | .iface _ d => uptoBulk d + 1
  | .map entries => uptoBulkEntries entries + 1
  | .held _ => 1
def uptoBulkAll {H : Type} : List (DataW H) → Nat
  | [] => 0
  | d :: r => uptoBulk d + uptoBulkAll r
def uptoBulkEntries {H : Type} : List (Lit × DataW H) → Nat
  | [] => 0
  | x :: r => uptoBulkEntry x + uptoBulkEntries r
def uptoBulkEntry {H : Type} : Lit × DataW H → Nat
  | (.string bytes, d) => bytes.length + uptoBulk d + 1
  | (_, d) => uptoBulk d + 1
 end
def uptoSmall : (H : Type) → List (DataW H) → Bool := fun _ ds => decide (uptoBulkAll ds ≤ 1048576)
def OpenSpec.upto (s : _root_.Go.ChangeSpec) : _root_.Go.OpenSpec := { _root_.Go.OpenSpec.ofChange s with cond := some uptoSmall }

/-- 'chargenetlaw07.FieldsInt', WHERE WHAT IT READS IS OF BULK AT MOST 1048576: true; the input reads as it did. -/
def fieldsIntUptoRow : OpenClaim := { program := "ytmdjbmpongggnaa", sum := "03dc126bc5928228300fc340a656f18197606f88bd5bc2e41bb73fb446a89e8f", func := "chargenet/chargenetlaw07.FieldsInt", spec := "fieldsInt", unfollowed := true, recurses := true, apart := false, narrowed := true }
def FieldsIntUptoSaid : Prop := fieldsIntUptoRow.holds Try.pinned (OpenSpec.upto fieldsIntSpec)

/-- 'chargenetlaw07.FieldsTakeInt', WHERE WHAT IT READS IS OF BULK AT MOST 1048576: true; the input reads as it did. -/
def fieldsTakeIntUptoRow : OpenClaim := { program := "ytmdjbmpongggnaa", sum := "03dc126bc5928228300fc340a656f18197606f88bd5bc2e41bb73fb446a89e8f", func := "chargenet/chargenetlaw07.FieldsTakeInt", spec := "fieldsTakeInt", unfollowed := true, recurses := true, apart := false, narrowed := true }
def FieldsTakeIntUptoSaid : Prop := fieldsTakeIntUptoRow.holds Try.pinned (OpenSpec.upto fieldsTakeIntSpec)

/-- 'chargenetlaw07.FieldsPut', WHERE WHAT IT READS IS OF BULK AT MOST 1048576: true; the input reads as it did. -/
def fieldsPutUptoRow : OpenClaim := { program := "ytmdjbmpongggnaa", sum := "03dc126bc5928228300fc340a656f18197606f88bd5bc2e41bb73fb446a89e8f", func := "chargenet/chargenetlaw07.FieldsPut", spec := "fieldsPut", unfollowed := true, recurses := true, apart := false, narrowed := true }
def FieldsPutUptoSaid : Prop := fieldsPutUptoRow.holds Try.pinned (OpenSpec.upto fieldsPutSpec)

/-- 'chargenetlaw07.FieldsTake', WHERE WHAT IT READS IS OF BULK AT MOST 1048576: true; the input reads as it did. -/
def fieldsTakeUptoRow : OpenClaim := { program := "ytmdjbmpongggnaa", sum := "03dc126bc5928228300fc340a656f18197606f88bd5bc2e41bb73fb446a89e8f", func := "chargenet/chargenetlaw07.FieldsTake", spec := "fieldsTake", unfollowed := true, recurses := true, apart := false, narrowed := true }
def FieldsTakeUptoSaid : Prop := fieldsTakeUptoRow.holds Try.pinned (OpenSpec.upto fieldsTakeSpec)

/-- 'chargenetlaw07.FieldsGet', WHERE WHAT IT READS IS OF BULK AT MOST 1048576: true; the input reads as it did. -/
def fieldsGetUptoRow : OpenClaim := { program := "ytmdjbmpongggnaa", sum := "03dc126bc5928228300fc340a656f18197606f88bd5bc2e41bb73fb446a89e8f", func := "chargenet/chargenetlaw07.FieldsGet", spec := "fieldsGet", unfollowed := true, recurses := true, apart := false, narrowed := true }
def FieldsGetUptoSaid : Prop := fieldsGetUptoRow.holds Try.pinned (OpenSpec.upto fieldsGetSpec)

/-- 'chargenetlaw07.FieldsList', WHERE WHAT IT READS IS OF BULK AT MOST 1048576: true; the input reads as it did. -/
def fieldsListUptoRow : OpenClaim := { program := "ytmdjbmpongggnaa", sum := "03dc126bc5928228300fc340a656f18197606f88bd5bc2e41bb73fb446a89e8f", func := "chargenet/chargenetlaw07.FieldsList", spec := "fieldsList", unfollowed := true, recurses := true, apart := false, narrowed := true }
def FieldsListUptoSaid : Prop := fieldsListUptoRow.holds Try.pinned (OpenSpec.upto fieldsListSpec)

/-- 'chargenetlaw07.FieldsTakeList', WHERE WHAT IT READS IS OF BULK AT MOST 1048576: true; the input reads as it did. -/
def fieldsTakeListUptoRow : OpenClaim := { program := "ytmdjbmpongggnaa", sum := "03dc126bc5928228300fc340a656f18197606f88bd5bc2e41bb73fb446a89e8f", func := "chargenet/chargenetlaw07.FieldsTakeList", spec := "fieldsTakeList", unfollowed := true, recurses := true, apart := false, narrowed := true }
def FieldsTakeListUptoSaid : Prop := fieldsTakeListUptoRow.holds Try.pinned (OpenSpec.upto fieldsTakeListSpec)

/-- 'chargenetlaw07.FieldsBack', WHERE WHAT IT READS IS OF BULK AT MOST 1048576: true; the input reads as it did. -/
def fieldsBackUptoRow : OpenClaim := { program := "ytmdjbmpongggnaa", sum := "03dc126bc5928228300fc340a656f18197606f88bd5bc2e41bb73fb446a89e8f", func := "chargenet/chargenetlaw07.FieldsBack", spec := "fieldsBack", unfollowed := true, recurses := true, apart := false, narrowed := true }
def FieldsBackUptoSaid : Prop := fieldsBackUptoRow.holds Try.pinned (OpenSpec.upto fieldsBackSpec)

/-- 'chargenetlaw07.FieldsOnce', WHERE WHAT IT READS IS OF BULK AT MOST 1048576: true; the input reads as it did. -/
def fieldsOnceUptoRow : OpenClaim := { program := "ytmdjbmpongggnaa", sum := "03dc126bc5928228300fc340a656f18197606f88bd5bc2e41bb73fb446a89e8f", func := "chargenet/chargenetlaw07.FieldsOnce", spec := "fieldsOnce", unfollowed := true, recurses := true, apart := false, narrowed := true }
def FieldsOnceUptoSaid : Prop := fieldsOnceUptoRow.holds Try.pinned (OpenSpec.upto fieldsOnceSpec)

end Rows
end Go.Proofs.Ytmdjbmpongggnaa
