/-
  No cell of these rows narrows 'for every input' (looked for: loops, veiled, ifaces, maps, wideKeys, modest, calm, conditions, laid).
  DERIVED. THE GIVEN ROWS OF THIS SEAT. 5 by the template 'for every input the law returns true; each argument reads behind the call as it read before'; 0 by the template 'total and deterministic' (their statements: YtokjokbbegcceaaTotals.lean).
  GIVEN WITH THE SEED: the statements are not yours to turn. If you find one false, say at which input.
  Laid BY PROGRAM, IN A SANDBOX (cutbox-rows.mjs): the forced cells as the released guide's own fill.sh prints them over the translation ddf56f1f852ba324… (all of the seat's roots in one cut). By AI agents, Wed Nov 11 2026. No macro, syntax, notation, axiom, sorry.
-/
import Derived.Test.YtokjokbbegcceaaChecked
import GoSem.Claim
import GoSem.ClaimJoined
import GoSem.ClaimMapViews
import Derived.JoinedTies
import Derived.KernelRfl
namespace Go.Proofs.Ytokjokbbegcceaa
/- THE CELL 'sum', in the pinned program and in every row, IS THE sha256 OF THE DUMP (.gsa) THAT YtokjokbbegcceaaProg.lean LOADS. Nothing in Lean hashes anything: it is a label: what it is worth is what the hold of that sum in a sandbox is worth. -/
noncomputable def Try.pinned : Pinned := { name := "ytokjokbbegcceaa", sum := "ddf56f1f852ba324fe6d635cc0f523c4f3669d2eb0b07d9d051c4c48b06ad9e7", checked := Try.checked }
namespace Rows
def none {H : Type} : Left H := { results := [], args := [] }

/-- 'chargenetlaw32.FirmwareValid': WHATEVER THE INPUT: true; the input reads as it did. -/
def firmwareValidSpec : ChangeSpec := { name := "firmwareValid", fn := fun _ => fun
  | [d] => { results := [.lit (.bool true)], args := [d] }
  | _ => none }
def firmwareValidRow : OpenClaim := { program := "ytokjokbbegcceaa", sum := "ddf56f1f852ba324fe6d635cc0f523c4f3669d2eb0b07d9d051c4c48b06ad9e7", func := "chargenet/chargenetlaw32.FirmwareValid", spec := "firmwareValid", apart := false }
def FirmwareValidSaid : Prop := firmwareValidRow.holds Try.pinned (OpenSpec.ofChange firmwareValidSpec)

/-- ITS FALSE NEIGHBOUR: 'it returns false'. Refute it at one input. -/
def firmwareValidWrong : ChangeSpec := { name := "firmwareValid", fn := fun _ => fun
  | [d] => { results := [.lit (.bool false)], args := [d] }
  | _ => none }
def FirmwareValidWrongFalsely : Prop := firmwareValidRow.holds Try.pinned (OpenSpec.ofChange firmwareValidWrong)

/-- 'chargenetlaw32.FirmwareCall': WHATEVER THE INPUT: true; the input reads as it did. -/
def firmwareCallSpec : ChangeSpec := { name := "firmwareCall", fn := fun _ => fun
  | [d1, d2] => { results := [.lit (.bool true)], args := [d1, d2] }
  | _ => none }
def firmwareCallRow : OpenClaim := { program := "ytokjokbbegcceaa", sum := "ddf56f1f852ba324fe6d635cc0f523c4f3669d2eb0b07d9d051c4c48b06ad9e7", func := "chargenet/chargenetlaw32.FirmwareCall", spec := "firmwareCall", apart := false }
def FirmwareCallSaid : Prop := firmwareCallRow.holds Try.pinned (OpenSpec.ofChange firmwareCallSpec)

/-- ITS FALSE NEIGHBOUR: 'it returns false'. Refute it at one input. -/
def firmwareCallWrong : ChangeSpec := { name := "firmwareCall", fn := fun _ => fun
  | [d1, d2] => { results := [.lit (.bool false)], args := [d1, d2] }
  | _ => none }
def FirmwareCallWrongFalsely : Prop := firmwareCallRow.holds Try.pinned (OpenSpec.ofChange firmwareCallWrong)

/-- 'chargenetlaw32.FirmwareStays': WHATEVER THE INPUT: true; the input reads as it did. -/
def firmwareStaysSpec : ChangeSpec := { name := "firmwareStays", fn := fun _ => fun
  | [d1, d2] => { results := [.lit (.bool true)], args := [d1, d2] }
  | _ => none }
def firmwareStaysRow : OpenClaim := { program := "ytokjokbbegcceaa", sum := "ddf56f1f852ba324fe6d635cc0f523c4f3669d2eb0b07d9d051c4c48b06ad9e7", func := "chargenet/chargenetlaw32.FirmwareStays", spec := "firmwareStays", apart := false }
def FirmwareStaysSaid : Prop := firmwareStaysRow.holds Try.pinned (OpenSpec.ofChange firmwareStaysSpec)

/-- ITS FALSE NEIGHBOUR: 'it returns false'. Refute it at one input. -/
def firmwareStaysWrong : ChangeSpec := { name := "firmwareStays", fn := fun _ => fun
  | [d1, d2] => { results := [.lit (.bool false)], args := [d1, d2] }
  | _ => none }
def FirmwareStaysWrongFalsely : Prop := firmwareStaysRow.holds Try.pinned (OpenSpec.ofChange firmwareStaysWrong)

/-- 'chargenetlaw32.FirmwareProgress': WHATEVER THE INPUT: true; the input reads as it did. -/
def firmwareProgressSpec : ChangeSpec := { name := "firmwareProgress", fn := fun _ => fun
  | [d1, d2, d3, d4, d5] => { results := [.lit (.bool true)], args := [d1, d2, d3, d4, d5] }
  | _ => none }
def firmwareProgressRow : OpenClaim := { program := "ytokjokbbegcceaa", sum := "ddf56f1f852ba324fe6d635cc0f523c4f3669d2eb0b07d9d051c4c48b06ad9e7", func := "chargenet/chargenetlaw32.FirmwareProgress", spec := "firmwareProgress", apart := false }
def FirmwareProgressSaid : Prop := firmwareProgressRow.holds Try.pinned (OpenSpec.ofChange firmwareProgressSpec)

/-- ITS FALSE NEIGHBOUR: 'it returns false'. Refute it at one input. -/
def firmwareProgressWrong : ChangeSpec := { name := "firmwareProgress", fn := fun _ => fun
  | [d1, d2, d3, d4, d5] => { results := [.lit (.bool false)], args := [d1, d2, d3, d4, d5] }
  | _ => none }
def FirmwareProgressWrongFalsely : Prop := firmwareProgressRow.holds Try.pinned (OpenSpec.ofChange firmwareProgressWrong)

/-- 'chargenetlaw32.FirmwareWaits': WHATEVER THE INPUT: true; the input reads as it did. -/
def firmwareWaitsSpec : ChangeSpec := { name := "firmwareWaits", fn := fun _ => fun
  | [d1, d2, d3] => { results := [.lit (.bool true)], args := [d1, d2, d3] }
  | _ => none }
def firmwareWaitsRow : OpenClaim := { program := "ytokjokbbegcceaa", sum := "ddf56f1f852ba324fe6d635cc0f523c4f3669d2eb0b07d9d051c4c48b06ad9e7", func := "chargenet/chargenetlaw32.FirmwareWaits", spec := "firmwareWaits", apart := false }
def FirmwareWaitsSaid : Prop := firmwareWaitsRow.holds Try.pinned (OpenSpec.ofChange firmwareWaitsSpec)

/-- ITS FALSE NEIGHBOUR: 'it returns false'. Refute it at one input. -/
def firmwareWaitsWrong : ChangeSpec := { name := "firmwareWaits", fn := fun _ => fun
  | [d1, d2, d3] => { results := [.lit (.bool false)], args := [d1, d2, d3] }
  | _ => none }
def FirmwareWaitsWrongFalsely : Prop := firmwareWaitsRow.holds Try.pinned (OpenSpec.ofChange firmwareWaitsWrong)

/- THE SECOND FORM. 'bulk': how many values and letters a reading holds, each counted each time it is reached (what is shared counts as often as it is met; a slice's spare places count too). A statement '..UptoSaid' is the law's where the arguments, and the package variables that the reading takes, are together of bulk at most 1048576: NARROWER than '..Said'. Prove '..Said' where nothing that the law and all that it calls make is longer than what came in: it says more and counts as full. Else prove '..UptoSaid'. A law counts once. -/
mutual
def uptoBulk {H : Type} : DataW H → Nat
  | .lit (.string bytes) => bytes.length + 1
  | .lit _ => 1
  | .nil => 1
  | .ptr d => uptoBulk d + 1
  | .slice elems spare => uptoBulkAll elems + uptoBulkAll spare + 1
  | .agg parts => uptoBulkAll parts + 1
  | .iface _ d => uptoBulk d + 1
  | .map entries => uptoBulkEntries entries + 1
  | .held _ => 1
def uptoBulkAll {H : Type} : List (DataW H) → Nat
  | [] => 0
  | d :: r => uptoBulk d + uptoBulkAll r
def uptoBulkEntries {H : Type} : List (Lit × DataW H) → Nat
  | [] => 0
  | x :: r => uptoBulkEntry x + uptoBulkEntries r
def uptoBulkEntry {H : Type} : Lit × DataW H → Nat
  | (.string bytes, d) => bytes.length + uptoBulk d + 1
  | (_, d) => uptoBulk d + 1
 end
def uptoSmall : (H : Type) → List (DataW H) → Bool := fun _ ds => decide (uptoBulkAll ds ≤ 1048576)
def OpenSpec.upto (s : _root_.Go.ChangeSpec) : _root_.Go.OpenSpec := { _root_.Go.OpenSpec.ofChange s with cond := some uptoSmall }

/-- 'chargenetlaw32.FirmwareValid', WHERE WHAT IT READS IS OF BULK AT MOST 1048576: true; the input reads as it did. -/
def firmwareValidUptoRow : OpenClaim := { program := "ytokjokbbegcceaa", sum := "ddf56f1f852ba324fe6d635cc0f523c4f3669d2eb0b07d9d051c4c48b06ad9e7", func := "chargenet/chargenetlaw32.FirmwareValid", spec := "firmwareValid", apart := false, narrowed := true }
def FirmwareValidUptoSaid : Prop := firmwareValidUptoRow.holds Try.pinned (OpenSpec.upto firmwareValidSpec)

/-- 'chargenetlaw32.FirmwareCall', WHERE WHAT IT READS IS OF BULK AT MOST 1048576: true; the input reads as it did. -/
def firmwareCallUptoRow : OpenClaim := { program := "ytokjokbbegcceaa", sum := "ddf56f1f852ba324fe6d635cc0f523c4f3669d2eb0b07d9d051c4c48b06ad9e7", func := "chargenet/chargenetlaw32.FirmwareCall", spec := "firmwareCall", apart := false, narrowed := true }
def FirmwareCallUptoSaid : Prop := firmwareCallUptoRow.holds Try.pinned (OpenSpec.upto firmwareCallSpec)

/-- 'chargenetlaw32.FirmwareStays', WHERE WHAT IT READS IS OF BULK AT MOST 1048576: true; the input reads as it did. -/
def firmwareStaysUptoRow : OpenClaim := { program := "ytokjokbbegcceaa", sum := "ddf56f1f852ba324fe6d635cc0f523c4f3669d2eb0b07d9d051c4c48b06ad9e7", func := "chargenet/chargenetlaw32.FirmwareStays", spec := "firmwareStays", apart := false, narrowed := true }
def FirmwareStaysUptoSaid : Prop := firmwareStaysUptoRow.holds Try.pinned (OpenSpec.upto firmwareStaysSpec)

/-- 'chargenetlaw32.FirmwareProgress', WHERE WHAT IT READS IS OF BULK AT MOST 1048576: true; the input reads as it did. -/
def firmwareProgressUptoRow : OpenClaim := { program := "ytokjokbbegcceaa", sum := "ddf56f1f852ba324fe6d635cc0f523c4f3669d2eb0b07d9d051c4c48b06ad9e7", func := "chargenet/chargenetlaw32.FirmwareProgress", spec := "firmwareProgress", apart := false, narrowed := true }
def FirmwareProgressUptoSaid : Prop := firmwareProgressUptoRow.holds Try.pinned (OpenSpec.upto firmwareProgressSpec)

/-- 'chargenetlaw32.FirmwareWaits', WHERE WHAT IT READS IS OF BULK AT MOST 1048576: true; the input reads as it did. -/
def firmwareWaitsUptoRow : OpenClaim := { program := "ytokjokbbegcceaa", sum := "ddf56f1f852ba324fe6d635cc0f523c4f3669d2eb0b07d9d051c4c48b06ad9e7", func := "chargenet/chargenetlaw32.FirmwareWaits", spec := "firmwareWaits", apart := false, narrowed := true }
def FirmwareWaitsUptoSaid : Prop := firmwareWaitsUptoRow.holds Try.pinned (OpenSpec.upto firmwareWaitsSpec)

end Rows
end Go.Proofs.Ytokjokbbegcceaa
